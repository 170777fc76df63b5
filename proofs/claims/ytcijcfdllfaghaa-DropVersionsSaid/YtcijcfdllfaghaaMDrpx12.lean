/- incipitlaw23.DropVersions: its walk, by hand. -/
import Derived.Deep.LoopGhost
import Derived.Maps.OwnOps
import Derived.Maps.OwnSet
import Derived.Test.YtcijcfdllfaghaaMDrpx0
import Derived.Test.YtcijcfdllfaghaaMDrpx3
import Derived.Test.YtcijcfdllfaghaaMDrpx5
import Derived.Outline
namespace Go.Proofs.Ytcijcfdllfaghaa.MDrp
open Go.RowKit Go.Proofs.YtcijcfdllfaghaaW.PrintWords Go.Proofs.YtcijcfdllfaghaaW.PrintLast Go.Proofs.YtcijcfdllfaghaaW.PrintMore
attribute [local go_sem] max2_int min2_int max_two min_two max_three min_three max_four min_four   -- for this text's walks alone
set_option linter.unusedVariables false
set_option linter.unusedSimpArgs false
open Go.Maps (int_keyed keyOf_int_mk)
/-! ### words: a map[int64]bool of the call's own that holds 'true' alone: it is a set of numbers -/
/-- block b: the map holds true at just the numbers of L (each once). -/
def SetI (P : Program) (w : World) (b n : Nat) (L : List Int) : Prop :=
  ∃ D : DataW Unit, w.ownsMap P 2 (plainElem P 4) b n D ∧ Maps.size D = L.length ∧ (∀ x, Maps.has D (.int .i64 x) = decide (x ∈ L)) ∧ ∀ x, x ∈ L → D.atKey (.int .i64 x) (.lit (.bool false)) = .lit (.bool true)
def putI (L : List Int) (x : Int) : List Int := if x ∈ L then L else L ++ [x]
theorem SetI.made (P : Program) (w : World) : SetI P (w.alloc (.map #[] 0)) w.heap.size 0 [] :=
  ⟨.map [], World.ownsMap_made _ _ _ _, rfl, fun x => by simp [Maps.has_eq], fun x h => by cases h⟩
theorem SetI.kept {P : Program} {w w' : World} {b n : Nat} {L : List Int} {row : Option Nat} (h : SetI P w b n L) (hg : w.grownBy w' row) (hne : some b ≠ row) : SetI P w' b n L := by
  obtain ⟨D, h1, h2⟩ := h
  exact ⟨D, h1.kept hg hne, h2⟩
theorem SetI.put {P : Program} {w : World} {t b n : Nat} {L : List Int} (h : SetI P w b n L) (ht : P.underlying t = some (.map 2 4)) (hk : P.underlying 2 = some (.int .i64)) (he : P.underlying 4 = some .bool) (hn : n < maxLen) {x : Int} (wf : (Lit.int .i64 x).wf = true) :
    ∃ w', (Instr.mapUpdate t (.map (some b)) (.int .i64 x) (.bool true)).run P w = .ok () w' ∧ SetI P w' b (n + 1) (putI L x) ∧ w.grownBy w' (some b) := by
  obtain ⟨D, h1, h2, h3, h4⟩ := h
  obtain ⟨w', hr, hw, hg⟩ := h1.update (int_keyed hk) ht hn (keyOf_int_mk hk wf) (plainElem_bool he true)
  refine ⟨w', hr, ⟨_, hw, ?_, ?_, ?_⟩, hg⟩
  · rw [Maps.size_put (h1.tidy (int_keyed hk)), h3, h2]
    unfold putI
    by_cases c : x ∈ L <;> simp [c]
  · intro y
    by_cases c : y = x
    · subst c
      rw [Maps.has_put_same h1.isMap (by trivial)]
      unfold putI
      by_cases c : y ∈ L <;> simp [c]
    · rw [Maps.has_put_other (by simpa using c), h3]
      unfold putI
      by_cases d : x ∈ L <;> simp [c, d]
  · intro y hy
    by_cases c : y = x
    · subst c
      rw [Maps.atKey_put_same h1.isMap (by trivial)]
    · rw [Maps.atKey_put_other (by simpa using c)]
      refine h4 y ?_
      unfold putI at hy
      by_cases d : x ∈ L <;> simpa [c, d] using hy
theorem SetI.look {P : Program} {w : World} {t b n : Nat} {L : List Int} (h : SetI P w b n L) (ht : P.underlying t = some (.map 2 4)) (hk : P.underlying 2 = some (.int .i64)) (he : P.underlying 4 = some .bool) (hz : (zeroValue 4).run P w = .ok (.bool false) w) {x : Int} (wf : (Lit.int .i64 x).wf = true) :
    (Instr.lookup t (.map (some b)) (.int .i64 x) false).run P w = .ok (.bool (decide (x ∈ L))) w := by
  obtain ⟨D, h1, h2, h3, h4⟩ := h
  obtain ⟨v, ps, hr, hv⟩ := h1.lookup (int_keyed hk) ht hz (plainElem_bool he false) (keyOf_int_mk hk wf)
  rw [hr]
  have hv' : plainElem P 4 v = some (DataW.lit (H := Unit) (.bool (decide (x ∈ L))), ps) := by
    rw [hv]
    by_cases c : x ∈ L
    · rw [h4 x c]; simp [c]
    · rw [Maps.atKey_of_not_has (by rw [h3]; simp [c])]; simp [c]
  unfold plainElem at hv'
  rw [he] at hv'
  cases v <;> simp at hv'
  rw [hv'.1]
theorem SetI.len {P : Program} {w : World} {t b n : Nat} {L : List Int} (h : SetI P w b n L) (ht : P.underlying t = some (.map 2 4)) (ty : TypeId) : (Builtin.len_ #[t] ty #[.map (some b)]).run P w = .ok (.int .i64 L.length) w := by
  obtain ⟨D, h1, h2, h3, h4⟩ := h
  rw [h1.len ht, h2]
section
variable {P : Program} {w : World} {ops : Array Oper} {rest : List Oper} {o : Oper} {a : Act} {Q : Exit → Act → World → Prop}
theorem wpList_put_set (hg : o.guard = none) (m x v : Operand) (t : TypeId) (hop : o.op = Op.mapUpdate t m x v ∨ o.op = Op.insert t m x v) (b n : Nat) (L : List Int) (ht : P.underlying t = some (.map 2 4)) (hk : P.underlying 2 = some (.int .i64)) (he : P.underlying 4 = some .bool)
    (hm : a.eval m = .map (some b)) (hown : SetI P w b n L) (hn : n < maxLen) (y : Int) (hx : a.eval x = .int .i64 y) (hv : a.eval v = .bool true) (wf : (Lit.int .i64 y).wf = true)
    (hK : ∀ w', SetI P w' b (n + 1) (putI L y) → w.grownBy w' (some b) → wpList P ops Q rest (a.put o.dst undef) w') : wpList P ops Q (o :: rest) a w := by
  refine wpList_plain hg fun K' hK' => ?_
  obtain ⟨w', hrun, r1, r2⟩ := hown.put ht hk he hn wf
  unfold Oper.wp
  rcases hop with hop | hop <;> simp [execOp, hop, hm, hx, hv, hrun, Result.andThen] <;> exact hK' _ _ (hK w' r1 r2)
theorem wpList_look_set (hg : o.guard = none) (m x : Operand) (t : TypeId) (hop : o.op = Op.lookup t m x false) (b n : Nat) (L : List Int) (ht : P.underlying t = some (.map 2 4)) (hk : P.underlying 2 = some (.int .i64)) (he : P.underlying 4 = some .bool)
    (hz : (zeroValue 4).run P w = .ok (.bool false) w) (hm : a.eval m = .map (some b)) (hown : SetI P w b n L) (y : Int) (hx : a.eval x = .int .i64 y) (wf : (Lit.int .i64 y).wf = true)
    (hK : wpList P ops Q rest (a.put o.dst (.bool (decide (y ∈ L)))) w) : wpList P ops Q (o :: rest) a w := by
  refine wpList_plain hg fun K' hK' => ?_
  unfold Oper.wp
  simp [execOp, hop, hm, hx, hown.look ht hk he hz wf, Result.andThen]
  exact hK' _ _ hK
theorem wpList_len_set (hg : o.guard = none) (m : Operand) (t : TypeId) (hop : o.op = Op.call { callee := Callee.builtin Builtin.len, args := #[m], argTypes := #[t] }) (b n : Nat) (L : List Int) (ht : P.underlying t = some (.map 2 4))
    (hm : a.eval m = .map (some b)) (hown : SetI P w b n L) (hK : wpList P ops Q rest (a.put o.dst (.int .i64 L.length)) w) : wpList P ops Q (o :: rest) a w := by
  refine wpList_plain hg fun K' hK' => ?_
  unfold Oper.wp
  simp [execOp, hop, resolve, invoke, builtin, hm, hown.len ht o.type, Result.andThen]
  exact hK' _ _ hK
end

def kE (i : Int) : S23 := ⟨⟨#[107]⟩, i, 1, ⟨#[]⟩, ⟨#[]⟩⟩
def mkE : Nat → List S23
  | 0 => []
  | j + 1 => kE ((j : Int) + 1) :: mkE j
theorem drop_rd (s : List Int) (i : Nat) (h : i < s.length) : s.drop i = rd s (i : Int) :: s.drop (i + 1) := by
  unfold rd
  rw [Int.toNat_natCast, List.drop_eq_getElem_cons h]
  simp [List.getD, List.getElem?_eq_getElem h]
theorem mem_rd23 (d : List S23) (i : Nat) (h : i < d.length) : rd_T23 d (i : Int) ∈ d := by
  unfold rd_T23
  rw [Int.toNat_natCast]
  simp [List.getD, List.getElem?_eq_getElem h]
theorem mkE_len : ∀ n, (mkE n).length = n
  | 0 => rfl
  | n + 1 => by rw [mkE, List.length_cons, mkE_len n]
def wantL (a0 : Int) : List Int → List Int → List Int
  | L, [] => L
  | L, x :: t => wantL a0 (if 1 ≤ x then putI L (if a0 < x then a0 else x) else L) t
def okE (W : List Int) (e : S23) : Bool := decide (1 ≤ e.f1 ∧ e.f1 ≤ 40 ∧ e.f1 ∈ W)
def incipitlaw23_DropVersions.f (k : Nat) (a0 : Int) (l1 : List Int) : Option Bool :=
  (incipitlaw23_begun.f k).bind fun t => if t = true then (if a0 < 1 then some true else if 40 < a0 then some true else
    (incipitlaw23_cut.f l1).bind fun s => (drop_Entries.f k (mkE a0.toNat) s true).bind fun d => some (d.all (okE (wantL a0 [a0] s)) && decide (d.length = (wantL a0 [a0] s).length))) else some false
theorem incipitlaw23_DropVersions.mono (a0 : Int) (l1 : List Int) : ∀ k, LeO (incipitlaw23_DropVersions.f k a0 l1) (incipitlaw23_DropVersions.f (k + 1) a0 l1) := by
  intro k
  unfold incipitlaw23_DropVersions.f
  refine LeO.bind (incipitlaw23_begun.mono _) fun _ => LeO.ite (LeO.ite (LeO.refl _) (LeO.ite (LeO.refl _) (LeO.bind (LeO.refl _) fun _ => LeO.bind (drop_Entries.mono _ _ _ _) fun _ => LeO.refl _))) (LeO.refl _)
set_option maxHeartbeats 8000000 in
set_option maxRecDepth 100000 in
theorem incipitlaw23_DropVersions.calls (k : Nat) (a0 : Int) (A1 : Option Addr) (c1 : Nat) (l1 : List Int) (r : Bool) (w : World) (hr1 : Kd.C (Kd.int .i64) w A1 l1.length l1) (hc1 : l1.length ≤ c1) (hrt : r = true) (h : incipitlaw23_DropVersions.f k a0 l1 = some r) :
    Calls Try.prog 9 #[.int .i64 a0, .slice A1 l1.length c1] w fun e w' => e = .returned (.bool r) ∧ Below w.heap.size w w' := by
  subst hrt
  have HR1 := Aside0.mk hr1
  have HC1 := Aside0.mk hc1
  clear hr1 hc1
  have hu23 := Try.underlying23
  have hmm := @run_makeMap Try.prog
  unfold incipitlaw23_DropVersions.f at h
  obtain ⟨t, ht, h⟩ := Option.bind_eq_some_iff.mp h
  have HT := Aside0.mk ht
  clear ht
  by_cases ct : t = true
  · subst ct
    rw [if_pos rfl] at h
    by_cases d1 : a0 < 1
    · have d1' := eq_true d1
      clear d1 h
      go_enter Try.func9, Try.ntmps9
      go_wp2_with (fail)
      refine (incipitlaw23_begun.calls k true _ rfl HT.out).mono ?_
      rintro e w1 ⟨rfl, hb⟩
      have HB := Aside0.mk hb
      clear hb
      go_wp2
      go_ret
      exact ⟨rfl, HB.out⟩
    · rw [if_neg d1] at h
      have d1' := eq_false d1
      by_cases d2 : 40 < a0
      · have d2' := eq_true d2
        clear d1 d2 h
        go_enter Try.func9, Try.ntmps9
        go_wp2_with (fail)
        refine (incipitlaw23_begun.calls k true _ rfl HT.out).mono ?_
        rintro e w1 ⟨rfl, hb⟩
        have HB := Aside0.mk hb
        clear hb
        go_wp2
        go_ret
        exact ⟨rfl, HB.out⟩
      · rw [if_neg d2] at h
        have d2' := eq_false d2
        obtain ⟨s, hs, h⟩ := Option.bind_eq_some_iff.mp h
        obtain ⟨d, hd, h⟩ := Option.bind_eq_some_iff.mp h
        have hs12 : s.length ≤ 12 := by
          unfold incipitlaw23_cut.f at hs
          split at hs
          · split at hs
            · obtain rfl := Option.some.inj hs
              rw [List.length_take]; omega
            · cases hs
          · obtain rfl := Option.some.inj hs
            omega
        have h' := Option.some.inj h
        rw [Bool.and_eq_true] at h'
        have HALL := Aside0.mk h'.1
        have HLEN := Aside0.mk (of_decide_eq_true h'.2)
        have HS := Aside0.mk hs
        have HD := Aside0.mk hd
        have HS12 := Aside0.mk hs12
        obtain ⟨n, hn⟩ : ∃ n : Nat, a0 = n := ⟨a0.toNat, by omega⟩
        subst hn
        have Hn := Aside0.mk (show 1 ≤ n ∧ n ≤ 40 by omega)
        clear h h' hs hd hs12 d1 d2
        rw [Int.toNat_natCast] at HD
        go_enter Try.func9, Try.ntmps9
        go_wp2_with (fail)
        refine (incipitlaw23_begun.calls k true _ rfl HT.out).mono ?_
        rintro e w1 ⟨rfl, hb⟩
        have HB := Aside0.mk hb
        clear hb
        go_wp2_with (fail)
        refine (incipitlaw23_cut.calls (fun k_ => k_ < w.heap.size) _ _ l1 s _ (Kd.V_mk HC1.out (Kd.F_below (Kd.C_F (Kd.heap_int .i64) HR1.out) HB.out)) HS.out).mono ?_
        rintro e w2 ⟨vs, rfl, hv, hb⟩
        have HB2 := Aside0.mk (below_step HB.out hb)
        have HV := Aside0.mk hv
        clear hb hv
        obtain ⟨As, cs, rfl⟩ := Kd.V_slice HV.out
        have HCS := Aside0.mk (Kd.V_reads' HV.out).2.2
        have HCc := Aside0.mk (Kd.V_reads' HV.out).2.1
        clear HV HB HR1
        go_wp2
        go_loopg [6, 7] n (fun kx s6 s7 wr => ∃ (out : List S23), s7 = .int .i64 kx ∧ Aside0 (kx ≤ n) ∧ Aside0 (Below w2.heap.size w2 wr) ∧ Aside0 (Kd.R k23 23 wr w2.heap.size (fun _ => True) s6 out) ∧ Aside0 (out ++ mkE kx = mkE n))
        case atStart => exact ⟨[], rfl, ⟨Nat.le_refl _⟩, ⟨Below.refl _ _⟩, ⟨Kd.R_nil _ _ _ _ _⟩, ⟨rfl⟩⟩
        case round =>
          obtain ⟨out, rfl, HK, HBr, HO, HP⟩ := hrel
          have HLo := Aside0.mk (by have := congrArg List.length HP.out; rw [List.length_append, mkE_len, mkE_len] at this; exact this : out.length + gk = n)
          cases gk with
          | succ j =>
            obtain ⟨ii, hii⟩ : ∃ ii : Int, Aside0 (ii = ((j + 1 : Nat) : Int)) := ⟨_, ⟨rfl⟩⟩
            rw [← hii.out]
            have hge : (1 ≤ ii) = True := eq_true (by have := hii.out; omega)
            have hwj : IntKind.i64.wrap (ii - 1) = (j : Int) := by
              refine (i64_w _).trans ?_
              have := hii.out; have := HK.out; have := Hn.out
              unfold wrap64; omega
            go_wp2_with (first | ((with_reducible refine gate_builtin (b := .append) (xs := #[.tmp 28, .tmp 31]) rfl ?_); at_builtin; refine Kd.R_append k23 (w0 := w2) w2.heap.size rfl (.tmp 28) (.tmp 31) 27 23 (.agg #[(.string ⟨#[]⟩), (.int .i64 0), (.int .i64 0), (.string ⟨#[]⟩), (.string ⟨#[]⟩)]) 64 rfl Try.underlying27 info23 rfl (by decide) (by omega) u6 out (kE ii) [.string ⟨#[107]⟩, .int .i64 ii, .int .i64 1, .string (⟨#[]⟩ : ByteArray), .string (⟨#[]⟩ : ByteArray)] (fun _ => True) (fun _ => False) rfl (by first | (go_simp; done) | (go_simp; rfl)) ?aP (fun _ hk => hk.elim) ?aF ?aO ?aB ?aS ?aL ?_; (case aP => exact k23_mkM _ _ _ (kE ii)); (case aB => exact HBr.out); (case aF => exact (fun _ _ => trivial)); (case aO => exact HO.out); (case aS => exact HBr.out.size); (case aL => have := HLo.out; have := Hn.out; omega); intro va_ wa_ ho hb hg hat; have HO1 := Aside0.mk ho; have HB1 := Aside0.mk hb; clear ho hb hg hat))
            go_roundg j
            case measure => omega
            case rel => exact ⟨out ++ [kE ii], rfl, ⟨by have := HK.out; omega⟩, HB1, HO1, ⟨by rw [List.append_assoc, ← HP.out, mkE, hii.out]; rfl⟩⟩
          | zero =>
            obtain rfl : out = mkE n := by have := HP.out; rwa [mkE, List.append_nil] at this
            obtain ⟨Al, cl, rfl⟩ := Kd.R_slice HO.out
            have HLC := Aside0.mk (Kd.R_reads' HO.out).2.2
            have HLc := Aside0.mk (Kd.R_reads' HO.out).2.1
            clear HO HP HLo HK
            go_wp2_with (fail)
            refine (drop_Entries.calls k Al cl (mkE n) As cs s true d _ HLC.out HLc.out (Kd.C_below HCS.out HBr.out) HCc.out HD.out).mono ?_
            rintro e w3 ⟨vd, rfl, hv, hb⟩
            obtain ⟨Ad, cd, rfl⟩ := Kd.R_slice hv
            have HDC := Aside0.mk (Kd.R_reads' hv).2.2
            have HCS3 := Aside0.mk (Kd.C_below HCS.out (below_step HBr.out hb))
            have HB3 := Aside0.mk (below_step (below_step HB2.out HBr.out) hb)
            clear hv hb HLC HLc HCS HBr HB2 HT HS HD
            have hwn : (Lit.int .i64 (n : Int)).wf = true := WalkArith.wf_i64 (by have := Hn.out; omega)
            have hnm : (0 : Nat) < maxLen := by unfold maxLen; omega
            go_wp2_with (first | (refine wpList_put_set rfl (.tmp 36) (.tmp 37) (.const (.bool true)) 45 (.inr rfl) w3.heap.size 0 [] Try.underlying45 Try.underlying2 Try.underlying4 rfl (SetI.made _ _) hnm (n : Int) rfl rfl hwn ?_; intro w4 hs4 hg4; have HM4 := Aside0.mk hs4; have HB4 := Aside0.mk (Below.grown (below_alloc (Below.refl w3.heap.size w3) (.map #[] 0)) hg4 (below_alloc (Below.refl w3.heap.size w3) (.map #[] 0)).size (fun j hj => by cases hj; exact Nat.le_refl _)); clear hs4 hg4))
            go_loopg [10] s.length (fun kx s10 wr => ∃ (i : Nat) (L : List Int), s10 = .int .i64 i ∧ i + kx = s.length ∧ Aside0 (SetI Try.prog wr w3.heap.size (i + 1) L) ∧ Aside0 (Below w3.heap.size w3 wr) ∧ Aside0 (wantL n L (s.drop i) = wantL n [(n : Int)] s))
            case atStart => exact ⟨0, [(n : Int)], rfl, by omega, HM4, HB4, ⟨by rw [List.drop_zero]⟩⟩
            case round =>
              obtain ⟨i, L, rfl, hk, HM, HBr, HW⟩ := hrel
              cases gk with
              | succ kx =>
                have hlt : ((i : Int) < (s.length : Int)) = True := eq_true (by omega)
                have hlt2 : (i < s.length) = True := eq_true (by omega)
                have hi0 : ((0 : Int) ≤ (i : Int)) = True := eq_true (by omega)
                obtain ⟨ad, rfl, hx⟩ := Kd.at_int (Kd.C_below HCS3.out HBr.out) (i : Int) (by omega) (by omega)
                rw [Int.toNat_natCast] at hx
                have HSd : Aside0 (s.drop i = rd s (i : Int) :: s.drop (i + 1)) := ⟨drop_rd s i (by omega)⟩
                generalize rd s (i : Int) = y at hx HSd
                have hwi : IntKind.i64.wrap ((i : Int) + 1) = ((i + 1 : Nat) : Int) := by
                  refine (i64_w _).trans ?_
                  have := HS12.out
                  unfold wrap64; omega
                by_cases cy : 1 ≤ y
                · have cy' := eq_true cy
                  have hnm' : i + 1 < maxLen := by unfold maxLen; have := HS12.out; omega
                  by_cases cn : (n : Int) < y
                  · have cn' := eq_true cn
                    clear cy cn
                    go_wp2_with (first | (refine wpList_put_set rfl (.tmp 50) (.tmp 56) (.const (.bool true)) 45 (.inl rfl) w3.heap.size (i + 1) L Try.underlying45 Try.underlying2 Try.underlying4 rfl HM.out hnm' (n : Int) rfl rfl hwn ?_; intro w5 hs5 hg5; have HM5 := Aside0.mk hs5; have HB5 := Aside0.mk (Below.grown HBr.out hg5 HBr.out.size (fun j hj => by cases hj; exact Nat.le_refl _)); clear hs5 hg5))
                    go_roundg kx
                    case measure => omega
                    case rel => exact ⟨i + 1, putI L (n : Int), rfl, by omega, HM5, HB5, ⟨by rw [← HW.out, HSd.out, wantL, if_pos (of_eq_true cy'), if_pos (of_eq_true cn')]⟩⟩
                  · have cn' := eq_false cn
                    have hwm : (Lit.int .i64 y).wf = true := WalkArith.wf_i64 (by have := Hn.out; omega)
                    clear cy cn
                    go_wp2_with (first | (refine wpList_put_set rfl (.tmp 50) (.tmp 56) (.const (.bool true)) 45 (.inl rfl) w3.heap.size (i + 1) L Try.underlying45 Try.underlying2 Try.underlying4 rfl HM.out hnm' y rfl rfl hwm ?_; intro w5 hs5 hg5; have HM5 := Aside0.mk hs5; have HB5 := Aside0.mk (Below.grown HBr.out hg5 HBr.out.size (fun j hj => by cases hj; exact Nat.le_refl _)); clear hs5 hg5))
                    go_roundg kx
                    case measure => omega
                    case rel => exact ⟨i + 1, putI L y, rfl, by omega, HM5, HB5, ⟨by rw [← HW.out, HSd.out, wantL, if_pos (of_eq_true cy'), if_neg (of_eq_false cn')]⟩⟩
                · have cy' := eq_false cy
                  clear cy
                  go_wp2
                  go_roundg kx
                  case measure => omega
                  case rel => exact ⟨i + 1, L, rfl, by omega, ⟨by
                    obtain ⟨D, h1, h2⟩ := HM.out
                    exact ⟨D, h1.mono (by omega), h2⟩⟩, HBr, ⟨by rw [← HW.out, HSd.out, wantL, if_neg (of_eq_false cy')]⟩⟩
              | zero =>
                obtain rfl : i = s.length := by omega
                obtain rfl : L = wantL n [(n : Int)] s := by have := HW.out; rwa [List.drop_length, wantL] at this
                generalize wantL n [(n : Int)] s = L at HM HALL HLEN
                obtain ⟨wo, rfl⟩ : ∃ wo : World, wo = wr := ⟨_, rfl⟩
                have hltf : ((s.length : Int) < (s.length : Int)) = False := eq_false (by omega)
                have HDC3 := Aside0.mk (Kd.C_below HDC.out HBr.out)
                have HBE := Aside0.mk (below_step HB3.out HBr.out)
                clear HW HDC HM4 HB4 HBr
                go_wp2
                go_loopg [11] d.length (fun kx s11 wr => ∃ (i : Nat), s11 = .int .i64 i ∧ i + kx = d.length ∧ wr = wo)
                case atStart => exact ⟨0, rfl, by omega, rfl⟩
                case round =>
                  obtain ⟨i, rfl, hk2, rfl⟩ := hrel
                  cases gk with
                  | succ kx =>
                    have hlt : ((i : Int) < (d.length : Int)) = True := eq_true (by omega)
                    have hlt2 : (i < d.length) = True := eq_true (by omega)
                    have hi0 : ((0 : Int) ≤ (i : Int)) = True := eq_true (by omega)
                    obtain ⟨ad, rfl, _, f1, _, _, _⟩ := at_T23 HDC3.out (i : Int) (by omega) (by omega)
                    rw [Int.toNat_natCast] at f1
                    have hm := Kd.C_max HDC3.out
                    have hok : okE L (rd_T23 d (i : Int)) = true := List.all_eq_true.1 HALL.out _ (mem_rd23 d i (by omega))
                    generalize rd_T23 d (i : Int) = e at f1 hok
                    have hok' := of_decide_eq_true hok
                    have hin : (e.f1 ∈ L) = True := eq_true hok'.2.2
                    have hwe : (Lit.int .i64 e.f1).wf = true := WalkArith.wf_i64 (by omega)
                    have hwi : IntKind.i64.wrap ((i : Int) + 1) = ((i + 1 : Nat) : Int) := by
                      refine (i64_w _).trans ?_
                      unfold wrap64; omega
                    clear hok hok' hm
                    go_wp2_with (first | (refine wpList_look_set rfl (.tmp 63) (.tmp 68) 45 rfl w3.heap.size (s.length + 1) L Try.underlying45 Try.underlying2 Try.underlying4 (by kernel_rfl) rfl HM.out e.f1 rfl hwe ?_))
                    go_roundg kx
                    case measure => omega
                    case rel => exact ⟨i + 1, rfl, by omega, rfl⟩
                  | zero =>
                    obtain rfl : i = d.length := by omega
                    have hltf2 : ((d.length : Int) < (d.length : Int)) = False := eq_false (by omega)
                    go_wp2_with (first | (refine wpList_len_set rfl (.tmp 73) 45 rfl w3.heap.size (s.length + 1) L Try.underlying45 rfl HM.out ?_; rw [← HLEN.out]))
                    go_ret
                    exact ⟨rfl, HBE.out⟩
  · rw [if_neg ct] at h
    cases h
/-- THE ONE PURE STATEMENT of incipitlaw23_DropVersions: yours. -/
def incipitlaw23_DropVersions.Pure : Prop := ∀ (a0 : Int) (l1 : List Int), ∃ k, incipitlaw23_DropVersions.f k a0 l1 = some true
end Go.Proofs.Ytcijcfdllfaghaa.MDrp
