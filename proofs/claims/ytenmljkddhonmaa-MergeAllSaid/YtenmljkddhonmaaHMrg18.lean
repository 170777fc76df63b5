import Derived.Test.YtenmljkddhonmaaHMrg17
import Derived.Laws.EntriesVeiled
namespace Go.Proofs.Ytenmljkddhonmaa.MMrg
open Go.RowKit Go.Proofs.Ytenmljkddhonmaa.QMrg Go.Proofs.YtenmljkddhonmaaW.PrintWords Go.Proofs.YtenmljkddhonmaaW.PrintLast Go.Proofs.YtenmljkddhonmaaW.PrintMore
set_option linter.unusedVariables false
set_option linter.unusedSimpArgs false
def lett (i : Nat) : ByteArray := strOfNums [97 + (i : Int)]
theorem lett_conv {W : World} {i g : Nat} (h : W.heap[g]? = some (.cells #[Value.int IntKind.u8 (97 + (i : Int))] 5 (0, 0))) : (convert 43 9 (.slice (some ⟨g, 0, none⟩) 1 1)).run Try.prog W = .ok (.string (lett i)) W := by
  refine run_convert_bytes_arg _ 43 5 Try.underlying43 Try.underlying5 g 0 1 1 [97 + (i : Int)] rfl (fun j hj => ?_) 9 Try.underlying9
  have h0 : j = 0 := by have hj : j < 1 := hj; omega
  subst h0
  show W.cell? ⟨g, 0, none⟩ = _
  rw [blk_cell h 0]; rfl
def eqE (j : Nat) : S28 := ⟨⟨#[107]⟩, 5, 1, ⟨#[]⟩, lett j⟩
def LLe (n : Nat) : List (List S28) := (List.range n).map (fun j => [eqE j])
def Ze (n : Nat) : List (S28 × Nat) := (List.range n).map (fun j => (eqE j, j))
theorem LLe_len (n : Nat) : (LLe n).length = n := by unfold LLe; rw [List.length_map, List.length_range]
theorem LLe_succ (n : Nat) : LLe (n + 1) = LLe n ++ [[eqE n]] := by unfold LLe; rw [List.range_succ, List.map_append]; rfl
theorem Ze_pair (n : Nat) : (Ze n).Pairwise (fun x y => x.2 ≠ y.2 → lessH x.1 x.2 y.1 y.2 = true) := by
  unfold Ze
  rw [List.pairwise_map]
  refine List.pairwise_lt_range.imp (fun {a b} hab _ => ?_)
  unfold lessH
  have : same3 (eqE a) (eqE b) = true := by unfold same3 eqE; simp
  rw [this, if_pos rfl, decide_eq_true hab]
theorem Ze_list (n j : Nat) (hj : j < n) : ((Ze n).filter (fun x => decide (x.2 = j))).map Prod.fst = (LLe n).getD j [] := by
  have h1 : (LLe n).getD j [] = [eqE j] := by
    unfold LLe
    rw [List.getD_eq_getElem?_getD, List.getElem?_map, List.getElem?_range hj]; rfl
  rw [h1]
  unfold Ze
  rw [List.filter_map, List.map_map]
  have h2 : ∀ n, j < n → (List.range n).filter (fun i => decide (i = j)) = [j] := by
    intro n
    induction n with
    | zero => intro h; exact absurd h (Nat.not_lt_zero _)
    | succ n ih =>
      intro h
      rw [List.range_succ, List.filter_append]
      by_cases hn : j = n
      · subst hn
        have h3 : (List.range j).filter (fun i => decide (i = j)) = [] := by
          rw [List.filter_eq_nil_iff]
          intro a ha
          have := List.mem_range.1 ha
          simp; omega
        rw [h3]; simp
      · rw [ih (by omega)]
        simp [Ne.symm hn]
  have h4 : ((fun x : S28 × Nat => decide (x.2 = j)) ∘ fun i => (eqE i, i)) = fun i => decide (i = j) := rfl
  rw [h4, h2 n hj]; rfl
theorem info24 : (Try.prog.info? 24).map (fun i => (i.zero, i.size, i.bytes)) = some (some (.slice none 0 0), 1, 24) := by kernel_rfl
/-- A row of entries that was laid by a literal, one's own. -/
theorem lit_R28 {W : World} {g base : Nat} {ok : Nat → Prop} {cs : Array Value} {xs : List S28} (h : W.heap[g]? = some (.cells cs 28 (0, 0))) (he : cs = (xs.map c5).flatten.toArray) (hb : base ≤ g) (hok : ok g) (hm : xs.length ≤ 1000000) : k28.R 28 W base ok (.slice (some ⟨g, 0, none⟩) xs.length xs.length) xs := by
  subst he
  have hl : ∀ xs : List S28, (xs.map c5).flatten.length = xs.length * 5 := by
    intro xs
    induction xs with
    | nil => rfl
    | cons x xs ih => rw [List.map_cons, List.flatten_cons, List.length_append, ih, List.length_cons]; show 5 + _ = _; omega
  refine ⟨fun k hk => by injection hk with hk; rw [← hk]; exact hok, (xs.map c5).flatten, ⟨hl xs, .inr ⟨g, xs.length, _, rfl, hb, h, Nat.le_refl _, by unfold maxLen; omega, ?_, ?_⟩⟩, hl xs, fun j p hj => ?_⟩
  · rw [List.size_toArray, hl xs]; rfl
  · rw [show xs.length * k28.sz = (xs.map c5).flatten.length by rw [hl xs]; rfl, List.take_length]
  · have hjl := (List.getElem?_eq_some_iff.1 hj).1
    have hc : (xs.map c5)[j]? = some (c5 p) := by rw [List.getElem?_map, hj]; rfl
    have e : (((xs.map c5).flatten.drop (j * 5)).take 5) = c5 p := by
      apply List.ext_getElem?
      intro i
      by_cases hi : i < 5
      · rw [List.getElem?_take_of_lt hi, List.getElem?_drop]
        exact flatten_get 5 _ j i _ (fun c hc => by obtain ⟨x, _, rfl⟩ := List.mem_map.1 hc; rfl) hc hi
      · rw [List.getElem?_eq_none (by rw [List.length_take]; omega), List.getElem?_eq_none (by show (c5 p).length ≤ i; show 5 ≤ i; omega)]
    show k28.M W base _ p (((xs.map c5).flatten.drop (j * 5)).take 5)
    rw [e]
    exact k28_mkM _ _ _ _
set_option maxHeartbeats 8000000 in
set_option maxRecDepth 100000 in
theorem incipitlaw18_MergeEqual.calls (n0 : Int) (w : World) : Calls Try.prog 5 #[.int .i64 n0] w fun e w' => e = .returned (.bool true) ∧ Below w.heap.size w w' := by
  by_cases hn : n0 < 0 ∨ n0 > 20
  · go_enter Try.func5, Try.ntmps5
    go_wp2_with (fail)
    refine (incipitlaw18_begun.calls w).mono ?_
    rintro e w1 ⟨rfl, hb⟩
    by_cases h0 : n0 < 0
    · have h0b : (n0 < 0) = True := eq_true h0
      go_wp2_with (fail)
      go_ret
      exact ⟨rfl, hb⟩
    · have h0b : (n0 < 0) = False := eq_false h0
      have h1b : (20 < n0) = True := eq_true (by omega)
      go_wp2_with (fail)
      go_ret
      exact ⟨rfl, hb⟩
  · obtain ⟨n, rfl⟩ : ∃ n : Nat, n0 = (n : Int) := ⟨n0.toNat, by omega⟩
    have hn20 : n ≤ 20 := by omega
    have h0b : ((n : Int) < 0) = False := eq_false (by omega)
    have h1b : ((20 : Int) < (n : Int)) = False := eq_false (by omega)
    have h1c : (20 < n) = False := eq_false (by omega)
    clear hn
    go_enter Try.func5, Try.ntmps5
    go_wp2_with (fail)
    refine (incipitlaw18_begun.calls w).mono ?_
    rintro e w1 ⟨rfl, hb⟩
    have HB := Aside0.mk hb
    clear hb
    go_wp2_with (fail)
    go_loopg [4, 5] n (fun kq s4 s5 wr => ∃ (i : Nat) (A : Option Addr) (c : Nat), s4 = .slice A i c ∧ s5 = .int .i64 i ∧ i + kq = n ∧ Aside0 ((Kd.slice 28 k28).R 24 wr w.heap.size (fun _ => True) (.slice A i c) (LLe i)) ∧ Aside0 (Below w.heap.size w wr))
    case atStart => exact ⟨0, none, 0, rfl, rfl, by omega, ⟨Kd.R_nil _ _ _ _ _⟩, HB⟩
    case round =>
      clear HB
      obtain ⟨i, A, c, rfl, rfl, hi, HR, HB⟩ := hrel
      cases gk with
      | succ kk =>
        have hia : ((i : Int) < (n : Int)) = True := eq_true (by omega)
        have hib : (i < n) = True := eq_true (by omega)
        have hw5 : IntKind.i64.wrap (97 + (i : Int)) = 97 + (i : Int) := by rw [IntKind.wrap_i64]; omega
        have hw6 : IntKind.u8.wrap (97 + (i : Int)) = 97 + (i : Int) := by rw [IntKind.wrap_u8]; omega
        have hw7 : IntKind.i64.wrap ((i : Int) + 1) = ((i + 1 : Nat) : Int) := by rw [IntKind.wrap_i64]; omega
        have hconv := lett_conv (i := i) (blk_new wr (Obj.cells #[Value.int IntKind.u8 (97 + (i : Int))] 5))
        have hsz2 : ((wr.alloc (Obj.cells #[Value.int IntKind.u8 (97 + (i : Int))] 5)).alloc (Obj.cells #[.string ⟨#[107]⟩, .int .i64 5, .int .i64 1, .string ⟨#[]⟩, .string (lett i)] 28)).heap.size = wr.heap.size + 1 + 1 := by rw [Go.Deep.nblk_alloc, Go.Deep.nblk_alloc]
        have HSZ2 := Aside0.mk hsz2
        have hrow : k28.R 28 ((wr.alloc (Obj.cells #[Value.int IntKind.u8 (97 + (i : Int))] 5)).alloc (Obj.cells #[.string ⟨#[107]⟩, .int .i64 5, .int .i64 1, .string ⟨#[]⟩, .string (lett i)] 28)) w.heap.size (fun k => k = wr.heap.size + 1) (.slice (some ⟨wr.heap.size + 1, 0, none⟩) ([eqE i] : List S28).length ([eqE i] : List S28).length) [eqE i] := lit_R28 (blk_new1 _ _ _) rfl (by have := below_size HB.out; omega) rfl (by show 1 ≤ 1000000; decide)
        have HROW := Aside0.mk hrow
        have HR2 := Aside0.mk (Kd.R_alloc (Kd.R_alloc HR.out (Obj.cells #[Value.int IntKind.u8 (97 + (i : Int))] 5)) (Obj.cells #[.string ⟨#[107]⟩, .int .i64 5, .int .i64 1, .string ⟨#[]⟩, .string (lett i)] 28))
        have HB2 := Aside0.mk (below_alloc (below_alloc HB.out (Obj.cells #[Value.int IntKind.u8 (97 + (i : Int))] 5)) (Obj.cells #[.string ⟨#[107]⟩, .int .i64 5, .int .i64 1, .string ⟨#[]⟩, .string (lett i)] 28))
        have HLN : Aside0 ((LLe i).length = i) := ⟨LLe_len i⟩
        clear hsz2 hrow
        go_wp2_with (first | ((with_reducible refine gate_builtin (b := .append) (xs := #[.tmp 22, .tmp 30]) rfl ?_); at_builtin; refine Kd.R_append (Kd.slice 28 k28) (w0 := w) (W := ((wr.alloc (Obj.cells #[Value.int IntKind.u8 (97 + (i : Int))] 5)).alloc (Obj.cells #[.string ⟨#[107]⟩, .int .i64 5, .int .i64 1, .string ⟨#[]⟩, .string (lett i)] 28))) w.heap.size rfl (.tmp 22) (.tmp 30) 22 24 (.slice none 0 0) 24 rfl Try.underlying22 info24 rfl (by decide) (by omega) (.slice A i c) (LLe i) [eqE i] [.slice (some ⟨wr.heap.size + 1, 0, none⟩) 1 1] (fun _ => True) (fun k => k = wr.heap.size + 1) rfl (by rw [HSZ2.out]; rfl) ?aP ?aK ?aF ?aO ?aB ?aS ?aL ?_; (case aP => exact Kd.M_row HROW.out); (case aK => exact (fun k hk => ⟨trivial, fun he => by have := Kd.R_lt HR.out k he.symm; omega⟩)); (case aF => exact (fun _ _ => trivial)); (case aO => exact HR2.out); (case aB => exact HB2.out); (case aS => exact below_size HB2.out); (case aL => (rw [HLN.out]; omega)); intro v5 w5 ho hb5 hg5 hat5; obtain ⟨A5, c5_, e5⟩ := Kd.R_slice ho; have hl5 : (LLe i ++ [[eqE i]]).length = i + 1 := (by rw [List.length_append, HLN.out]; rfl); rw [hl5] at e5; subst e5; have HR5 := Aside0.mk ho; have HB5 := Aside0.mk hb5; clear ho hb5 hg5 hat5 hl5))
        go_roundg kk
        case measure => omega
        case rel => exact ⟨i + 1, A5, c5_, rfl, rfl, by omega, ⟨by rw [LLe_succ]; exact HR5.out⟩, HB5⟩
      | zero =>
        have hin : i = n := by omega
        subst hin
        have hia : ((i : Int) < (i : Int)) = False := eq_false (by omega)
        have hln := LLe_len i
        have hcl := merge_All.calls wr A c (LLe i) (Ze i) (by rw [hln]; exact (Kd.R_reads' HR.out).2.2 |> fun h => by rwa [hln] at h) (by rw [hln]; omega) (fun x hx => by
          rw [hln]
          obtain ⟨j, hj, rfl⟩ := List.mem_map.1 hx
          exact List.mem_range.1 hj) (Ze_pair i) (fun j hj => Ze_list i j (by rw [hln] at hj; exact hj)) (by unfold Ze; rw [List.length_map, List.length_range]; omega)
        rw [hln] at hcl
        have HCL := Aside0.mk hcl
        clear hln hcl
        go_wp2_with (fail)
        refine HCL.out.mono ?_
        rintro e w2 ⟨v, rfl, hR, hb⟩
        obtain ⟨A2, c2, e2⟩ := Kd.R_slice hR
        have hzl : ((Ze i).map Prod.fst).length = i := by unfold Ze; rw [List.length_map, List.length_map, List.length_range]
        have hzn : ∀ j, j < i → rd_T28 ((Ze i).map Prod.fst) (j : Int) = eqE j := by
          intro j hj
          unfold rd_T28 Ze
          rw [List.map_map, show ((j : Int)).toNat = j by omega, List.getD_eq_getElem?_getD, List.getElem?_map, List.getElem?_range hj]; rfl
        rw [hzl] at e2
        subst e2
        have HC := Aside0.mk ((Kd.R_reads' hR).2.2)
        have HZL := Aside0.mk hzl
        have HZN := Aside0.mk hzn
        have HB2 := Aside0.mk (below_step HB.out hb)
        clear hzl hzn hR hb HB HR HCL
        go_wp2_with (fail)
        go_loopg [7] i (fun kq s7 wr => ∃ j : Nat, s7 = .int .i64 j ∧ j + kq = i ∧ Aside0 (Below w2.heap.size w2 wr))
        case atStart => exact ⟨0, rfl, by omega, ⟨Below.refl _ _⟩⟩
        case round =>
          obtain ⟨j, rfl, hj, HBj⟩ := hrel
          cases gk with
          | zero =>
            have hji : j = i := by omega
            subst hji
            go_wp2_with (fail)
            go_ret
            exact ⟨by simp, below_step HB2.out HBj.out⟩
          | succ kk =>
            have hjl : j < i := by omega
            have hjb : ((j : Int) < (i : Int)) = True := eq_true (by omega)
            have hjc : (j < i) = True := eq_true hjl
            have hj0 : ((0 : Int) ≤ (j : Int)) = True := eq_true (by omega)
            obtain ⟨ad, rfl, _, _, _, _, x4⟩ := at_T28 (Kd.C_below HC.out HBj.out) (j : Int) (by omega) (by have := HZL.out; omega)
            rw [HZN.out j hjl, show ((j : Int)).toNat = j by omega] at x4
            have hblk : (ad.add (j * 5)).block < wr.heap.size := World.block_lt_of_cell? _ ⟨(ad.add (j * 5)).block, (ad.add (j * 5)).off + 4, none⟩ x4
            have x4' : wr.cell? ⟨(ad.add (j * 5)).block, (ad.add (j * 5)).off + 4, none⟩ = some (.string (lett j)) := x4
            clear x4
            have hw5 : IntKind.i64.wrap (97 + (j : Int)) = 97 + (j : Int) := by rw [IntKind.wrap_i64]; omega
            have hw6 : IntKind.u8.wrap (97 + (j : Int)) = 97 + (j : Int) := by rw [IntKind.wrap_u8]; omega
            have hw7 : IntKind.i64.wrap ((j : Int) + 1) = ((j + 1 : Nat) : Int) := by rw [IntKind.wrap_i64]; omega
            obtain ⟨wo, hwo⟩ : ∃ wo, wo = wr := ⟨_, rfl⟩
            subst hwo
            have hconv := lett_conv (i := j) (blk_drew (blk_new wo (Obj.cells #[Value.int IntKind.u8 (97 + (j : Int))] 5)))
            have hconv2 := lett_conv (i := j) (blk_new wo.drew (Obj.cells #[Value.int IntKind.u8 (97 + (j : Int))] 5))
            go_wp2_with (fail)
            go_region
            all_goals
              have HB5 := Aside0.mk (below_drew (below_alloc HBj.out (Obj.cells #[Value.int IntKind.u8 (97 + (j : Int))] 5)))
              generalize (wo.alloc (Obj.cells #[Value.int IntKind.u8 (97 + (j : Int))] 5)).drew = w5 at *
              clear hconv hconv2 x4' hblk
              go_wp2_with (fail)
              go_roundg kk
              case measure => omega
              case rel => exact ⟨j + 1, rfl, by omega, HB5⟩
end Go.Proofs.Ytenmljkddhonmaa.MMrg
