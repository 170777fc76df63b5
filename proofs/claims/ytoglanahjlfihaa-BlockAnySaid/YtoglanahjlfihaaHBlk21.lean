import Derived.Test.YtoglanahjlfihaaHBlk20
import Derived.Test.YtoglanahjlfihaaQBlkRGet
namespace Go.Proofs.Ytoglanahjlfihaa.MBlk
open Go.RowKit Go.Proofs.Ytoglanahjlfihaa.QBlk Go.Proofs.YtoglanahjlfihaaW.PrintWords Go.Proofs.YtoglanahjlfihaaW.PrintLast Go.Proofs.YtoglanahjlfihaaW.PrintMore
set_option linter.unusedVariables false
set_option linter.unusedSimpArgs false
theorem info70b : (Try.prog.info? 70).map (fun i => (i.zero, i.size, i.bytes)) = some (some (.agg #[.string ⟨#[]⟩, .string ⟨#[]⟩]), 2, 32) := by kernel_rfl
def RowsPost (w w' : World) (e : Ending) (res : Option (List S70)) : Prop := ∃ v ok, e = .returned (.tuple #[v, .bool ok]) ∧ Below w.heap.size w w' ∧ (match res with | none => v = .slice none 0 0 ∧ ok = false | some l => ok = true ∧ Kd.R k70 70 w' w.heap.size (fun _ => True) v l)
set_option maxHeartbeats 8000000 in
set_option maxRecDepth 100000 in
theorem incipitref12_Rows.calls (A0 : Option Addr) (c0 : Nat) (l : List Int) (w : World) (hr0 : Kd.C (Kd.int .u8) w A0 l.length l) (hc0 : l.length ≤ c0) (hby : Bytes l) (hl : l.length ≤ 30000) (res : Option (List S70)) (h : refS l = res) :
    Calls Try.prog 48 #[.slice A0 l.length c0] w fun e w' => RowsPost w w' e res := by
  have HR := Aside0.mk hr0
  have HBY := Aside0.mk hby
  by_cases h4 : l.length < 4
  · have h4b : ((l.length : Int) < 4) = True := eq_true (by omega)
    have h4c : (l.length < 4) = True := eq_true h4
    rw [refS, if_pos h4] at h
    subst h
    clear h4
    go_enter Try.func48, Try.ntmps48
    go_wp2_with (fail)
    go_ret2
    exact ⟨_, _, rfl, Below.refl _ _, rfl, rfl⟩
  · have h4b : ((l.length : Int) < 4) = False := eq_false (by omega)
    have h4c : (l.length < 4) = False := eq_false h4
    rw [refS, if_neg h4] at h
    have HH := Aside0.mk h
    have hn4 := cnt_lt l hby
    have hw4 : IntKind.i64.wrap ((l.length : Int) - 4) = ((l.length - 4 : Nat) : Int) := (i64id (by omega)).trans (by omega)
    clear hr0 hby h
    obtain ⟨q4, hq4⟩ : ∃ q, Aside0 (l.drop (l.length - 4) = q) := ⟨_, ⟨rfl⟩⟩
    have hcnt : Aside0 (cnt l = val256 q4) := ⟨by unfold cnt; rw [hq4.out, List.take_of_length_le (by rw [← hq4.out, List.length_drop]; omega)]⟩
    have hql : Aside0 (q4.length = 4) := ⟨by rw [← hq4.out, List.length_drop]; omega⟩
    go_enter Try.func48, Try.ntmps48
    go_wp2_with (fail)
    go_loopg [4, 5] 4 (fun kx s4 s5 wr => ∃ n : Nat, s4 = .int .i64 n ∧ s5 = .int .i64 ((kx : Int) - 1) ∧ kx ≤ 4 ∧ Aside0 (n = val256 (q4.drop kx)) ∧ Aside0 (w = wr))
    case atStart => exact ⟨0, rfl, rfl, Nat.le_refl _, ⟨by rw [List.drop_of_length_le (by rw [hql.out]; exact Nat.le_refl _)]; rfl⟩, ⟨rfl⟩⟩
    case round =>
      obtain ⟨n, rfl, rfl, hkx, HN, HW⟩ := hrel
      have hwe := HW.out
      subst hwe
      cases gk with
      | zero =>
        have hn : Aside0 (n = cnt l) := ⟨by rw [HN.out, hcnt.out]; rfl⟩
        have hn4' : n < 4294967296 := by rw [hn.out]; exact hn4
        clear hn4 HN hcnt
        by_cases he : l.length < 4 * (n + 1)
        · have heb : (((l.length - 4 : Nat) : Int) / 4 < (n : Int)) = True := eq_true (by omega)
          have hres : res = none := by have h_ := HH.out; rw [← hn.out, if_pos he] at h_; exact h_.symm
          subst hres
          clear HH
          go_wp2_with (fail)
          go_ret2
          exact ⟨_, _, rfl, Below.refl _ _, rfl, rfl⟩
        · have heb : (((l.length - 4 : Nat) : Int) / 4 < (n : Int)) = False := eq_false (by omega)
          obtain ⟨m, hm⟩ : ∃ m, Aside0 (m = l.length - 4 * (n + 1)) := ⟨_, ⟨rfl⟩⟩
          have hml : m ≤ l.length := by rw [hm.out]; omega
          have hw6 : IntKind.i64.wrap (4 * (n : Int)) = 4 * (n : Int) := i64id (by omega)
          have hw7 : IntKind.i64.wrap (((l.length - 4 : Nat) : Int) - 4 * (n : Int)) = (m : Int) := (i64id (by omega)).trans (by rw [hm.out]; omega)
          have HH2 : Aside0 (((rfR m (l.take m) ⟨#[]⟩ []).bind fun r => if eqB (addTs St0 (r.map cv)).out l = true then some r else none) = res) := ⟨by have h_ := HH.out; rw [← hn.out, if_neg he, ← hm.out] at h_; exact h_⟩
          obtain ⟨hsl2, hC2⟩ := C_takeI HR.out hml hc0
          have hC2l : (l.take m).length = m := by rw [List.length_take]; omega
          have HC2 := Aside0.mk hC2
          clear HH hC2 hn4' he
          go_wp2_with (fail)
          obtain ⟨rr, hrr⟩ : ∃ rr, Aside0 (rfR m (l.take m) ⟨#[]⟩ [] = rr) := ⟨_, ⟨rfl⟩⟩
          rw [hrr.out] at HH2
          have hrr1 : ∀ {a}, rr = some a → Aside0 (rfR m (l.take m) St0.last [] = some a) := fun {a} e => ⟨hrr.out.trans e⟩
          have hnone : rr = none → res = none := fun e => by have h_ := HH2.out; rw [e, Option.bind_none] at h_; exact h_.symm
          go_loopg [6, 7, 8] m (fun kx s0 s4 s5 wr => ∃ (b : List Int) (A : Option Addr) (c : Nat) (last : ByteArray) (acc : List S70) (A4 : Option Addr) (c4 : Nat), s0 = .slice A b.length c ∧ s4 = .slice A4 acc.length c4 ∧ s5 = .string last ∧ b.length ≤ kx ∧ b.length + last.size ≤ 30000 ∧ acc.length + b.length ≤ 30000 ∧ b.length ≤ c ∧ Aside0 (Bytes b) ∧ Aside0 (Kd.C (Kd.int .u8) w A b.length b) ∧ Aside0 (rfR kx b last acc = rr) ∧ Aside0 (Kd.R k70 70 wr w.heap.size (fun _ => True) (.slice A4 acc.length c4) acc) ∧ Aside0 (Below w.heap.size w wr))
          case atStart => exact ⟨l.take m, A0, c0, ⟨#[]⟩, [], none, 0, by rw [hC2l], rfl, rfl, by omega, (by show (l.take m).length + 0 ≤ 30000; omega), (by show 0 + (l.take m).length ≤ 30000; omega), by omega, ⟨HBY.out.take m⟩, ⟨by rw [hC2l]; exact HC2.out⟩, hrr, ⟨Kd.R_nil _ _ _ _ _⟩, ⟨Below.refl _ _⟩⟩
          case round =>
            (try clear hrr)
            (try clear HC2)
            (try clear HBY)
            obtain ⟨b, A, c, last, acc, A4, c4, rfl, rfl, rfl, hk, hbl, hal, hbc, HBY, HC, HX, HO, HB⟩ := hrel
            by_cases hb : b = []
            · subst hb
              have hb0 : (0 < ([] : List Int).length) = False := eq_false (by simp)
              have hres : rr = some acc := by
                have h_ := HX.out
                cases gk with
                | zero => exact h_.symm
                | succ kk => rw [rfR, if_pos rfl] at h_; exact h_.symm
              clear HX
              subst hres
              have hrr0 := hrr1 rfl
              go_wp2_with (fail)
              have hfin : acc.length ≤ 30000 ∧ ∀ x ∈ acc, x.f0.size + x.f1.size ≤ 60000 := by
                obtain ⟨t, ht, e2, _⟩ := rf_rd m (l.take m) St0 [] acc (by rw [hC2l]; show m + 0 ≤ 30000; omega) rfl hrr0.out
                obtain ⟨h1, h2⟩ := rdR_fit _ _ _ _ _ (by rw [hC2l]; exact Nat.le_refl _) (by rw [hC2l]; show m + 0 ≤ 30000; omega) (by rw [hC2l]; show 0 + m ≤ 30000; omega) (fun r hr => absurd hr (by simp)) e2
                rw [List.length_map] at h1
                refine ⟨h1, fun x hx => ?_⟩
                have := h2 (cv x) (List.mem_map_of_mem hx)
                unfold Fit cv at this
                simp only at this
                omega
              have HFIN := Aside0.mk hfin
              rw [Option.bind_some] at HH2
              obtain ⟨o, ho⟩ : ∃ o, Aside0 ((addTs St0 (acc.map cv)).out = o) := ⟨_, ⟨rfl⟩⟩
              rw [ho.out] at HH2
              obtain ⟨X1, hX1⟩ : ∃ X, Aside0 (X = strOfNums o) := ⟨_, ⟨rfl⟩⟩
              obtain ⟨X2, hX2⟩ : ∃ X, Aside0 (X = strOfNums l) := ⟨_, ⟨rfl⟩⟩
              obtain ⟨eb, heb2⟩ : ∃ eb, Aside0 (eqB o l = eb) := ⟨_, ⟨rfl⟩⟩
              rw [heb2.out] at HH2
              have hne : binOp .neq 9 (.string X1) (.string X2) = pure (.bool (!eb)) := by
                rw [← heb2.out, hX1.out, hX2.out]; rfl
              have hcvl : (convert 28 9 (.slice A0 l.length c0)).run Try.prog wr.drew = .ok (.string X2) wr.drew := by rw [hX2.out]; exact Kd.C_string Try.underlying28 Try.underlying5 Try.underlying9 (Kd.C_below HR.out (below_drew1 HB.out))
              have hacle := (Kd.R_reads' HO.out).2.1
              clear hfin
              go_region_law (first
                | (go_simp; go_at_call 44; (with_reducible refine (incipitref12_Block.calls A4 c4 acc _ (Kd.R_reads' (Kd.R_drew HO.out)).2.2 hacle 60000 (by decide) HFIN.out.2 HFIN.out.1).mono ?_); rintro e w8 ⟨v8, rfl, hv8, hb8⟩; rw [ho.out] at hv8; obtain ⟨A9, c9, e9⟩ := Kd.R_slice hv8; subst e9; have HB8 := Aside0.mk (below_step (below_drew1 HB.out) hb8); have HO8 := Aside0.mk (Kd.R_below (Kd.R_drew HO.out) hb8); have hcv8 : (convert 28 9 (.slice A9 o.length c9)).run Try.prog w8 = .ok (.string X1) w8 := (by rw [hX1.out]; exact Kd.C_string Try.underlying28 Try.underlying5 Try.underlying9 (Kd.R_reads' hv8).2.2); have hcv9 : (convert 28 9 (.slice A0 l.length c0)).run Try.prog w8 = .ok (.string X2) w8 := (by rw [hX2.out]; exact Kd.C_string Try.underlying28 Try.underlying5 Try.underlying9 (Kd.C_below HR.out HB8.out)); clear hv8 hb8))
              all_goals
                cases eb with
                | true =>
                  have hres : res = some acc := by have h_ := HH2.out; rw [if_pos rfl] at h_; exact h_.symm
                  subst hres
                  go_wp2_with (fail)
                  go_ret2
                  exact ⟨_, _, rfl, HB8.out, rfl, HO8.out⟩
                | false =>
                  have hres : res = none := by have h_ := HH2.out; rw [if_neg (by decide)] at h_; exact h_.symm
                  subst hres
                  go_wp2_with (fail)
                  go_ret2
                  exact ⟨_, _, rfl, HB8.out, rfl, rfl⟩
            · cases gk with
              | zero => exact absurd (List.eq_nil_of_length_eq_zero (by omega)) hb
              | succ kk =>
                have hb0 : (0 < b.length) = True := eq_true (by cases b with | nil => exact absurd rfl hb | cons _ _ => simp)
                rw [rfR, if_neg hb] at HX
                go_wp2_with (fail)
                obtain ⟨gN, hgN⟩ : ∃ gN, Aside0 (gN = wr.heap.size) := ⟨_, ⟨rfl⟩⟩
                have HN : Aside0 ((wr.alloc (.cells #[.int .u64 0, .int .u64 0, .int .u64 0] 121)).heap[gN]? = some (.cells ((([] : List Int) ++ List.replicate 3 0).map (Value.int .u64)).toArray 121 (0, 0))) := ⟨alloc_new_ _ _ _ hgN.out⟩
                have HO1 : Aside0 (Kd.R k70 70 (wr.alloc (.cells #[.int .u64 0, .int .u64 0, .int .u64 0] 121)) w.heap.size (fun _ => True) (.slice A4 acc.length c4) acc) := ⟨Kd.R_alloc HO.out _⟩
                have HB1 : Aside0 (Below w.heap.size w (wr.alloc (.cells #[.int .u64 0, .int .u64 0, .int .u64 0] 121))) := ⟨below_alloc HB.out _⟩
                have hgw : w.heap.size ≤ gN := by rw [hgN.out]; exact HB.out.size
                rw [← hgN.out]
                clear hb0 hgN HO HB
                go_loopg [6, 10] 3 (fun kx s0 s13 wq => ∃ (j : Nat) (xs bj : List Int) (Aj : Option Addr) (cj : Nat), s0 = .slice Aj bj.length cj ∧ s13 = .int .i64 j ∧ j + kx = 3 ∧ xs.length = j ∧ bj.length ≤ cj ∧ bj.length ≤ b.length ∧ (j = 0 ∨ bj.length < b.length) ∧ (∀ x ∈ xs, 0 ≤ x) ∧ Aside0 (rgN kx bj xs = rgN 3 b []) ∧ Aside0 (Bytes bj) ∧ Aside0 (Kd.C (Kd.int .u8) w Aj bj.length bj) ∧ Aside0 (wq.heap[gN]? = some (.cells ((xs ++ List.replicate kx 0).map (Value.int .u64)).toArray 121 (0, 0))) ∧ Aside0 (Kd.R k70 70 wq w.heap.size (fun _ => True) (.slice A4 acc.length c4) acc) ∧ Aside0 (Below w.heap.size w wq))
                case atStart => exact ⟨0, [], b, A, c, rfl, rfl, rfl, rfl, hbc, Nat.le_refl _, .inl rfl, (fun x hx => absurd hx (by simp)), ⟨rfl⟩, HBY, HC, HN, HO1, HB1⟩
                case round =>
                  clear HBY HC HN HO1 HB1
                  obtain ⟨j, xs, bj, Aj, cj, rfl, rfl, hjk, hxl, hbcj, hbjl, hj0, hxs, HRN, HBY, HC, HN, HO, HB⟩ := hrel
                  cases gk with
                  | zero =>
                    have hjt : ((j : Int) < 3) = False := eq_false (by omega)
                    have hjt2 : (j < 3) = False := eq_false (by omega)
                    obtain ⟨x0, x1, x2, rfl⟩ : ∃ x0 x1 x2, xs = [x0, x1, x2] := by
                      match xs, hxl with
                      | [a, b, c], _ => exact ⟨a, b, c, rfl⟩
                      | [], h => simp at h; omega
                      | [_], h => simp at h; omega
                      | [_, _], h => simp at h; omega
                      | _ :: _ :: _ :: _ :: _, h => simp at h; omega
                    have hR := HRN.out
                    rw [rgN] at hR
                    have hX := HX.out
                    rw [← hR] at hX
                    simp only [Option.bind_some, List.getD_cons_zero, List.getD_cons_succ] at hX
                    have HX := Aside0.mk hX
                    clear hR hX HRN
                    have hx0 := hxs x0 (by simp)
                    have hx1 := hxs x1 (by simp)
                    have hx2 := hxs x2 (by simp)
                    obtain ⟨n0, rfl⟩ := Int.eq_ofNat_of_zero_le hx0
                    obtain ⟨n1, rfl⟩ := Int.eq_ofNat_of_zero_le hx1
                    obtain ⟨n2, rfl⟩ := Int.eq_ofNat_of_zero_le hx2
                    have hn0 : wr.cell? ⟨gN, 0, none⟩ = some (.int .u64 (n0 : Int)) := (blk_cell HN.out 0).trans rfl
                    have hn1 : wr.cell? ⟨gN, 1, none⟩ = some (.int .u64 (n1 : Int)) := (blk_cell HN.out 1).trans rfl
                    have hn2 : wr.cell? ⟨gN, 2, none⟩ = some (.int .u64 (n2 : Int)) := (blk_cell HN.out 2).trans rfl
                    have hwl : IntKind.u64.wrap (last.size : Int) = last.size := u64_id (by omega) (by omega)
                    have hwb : IntKind.u64.wrap (bj.length : Int) = bj.length := u64_id (by omega) (by omega)
                    clear hxs hxl hx0 hx1 hx2
                    by_cases c0 : (n0 : Int) > last.size
                    · have c0b : ((last.size : Int) < (n0 : Int)) = True := eq_true c0
                      have c0c : (last.size < n0) = True := eq_true (by omega)
                      have hres : rr = none := by have h_ := HX.out; rw [if_pos c0] at h_; exact h_.symm
                      have hrn := hnone hres
                      clear HX
                      go_wp2_with (fail)
                      go_ret2
                      exact ⟨_, _, rfl, HB.out, by first | exact ⟨rfl, rfl⟩ | (rw [hrn]; exact ⟨rfl, rfl⟩)⟩
                    · have c0b : ((last.size : Int) < (n0 : Int)) = False := eq_false c0
                      have c0c : (last.size < n0) = False := eq_false (by omega)
                      by_cases c1 : (n1 : Int) > bj.length
                      · have c1b : ((bj.length : Int) < (n1 : Int)) = True := eq_true c1
                        have c1c : (bj.length < n1) = True := eq_true (by omega)
                        have hres : rr = none := by have h_ := HX.out; rw [if_neg c0, if_pos c1] at h_; exact h_.symm
                        have hrn := hnone hres
                        clear HX
                        go_wp2_with (fail)
                        go_ret2
                        exact ⟨_, _, rfl, HB.out, by first | exact ⟨rfl, rfl⟩ | (rw [hrn]; exact ⟨rfl, rfl⟩)⟩
                      · have c1b : ((bj.length : Int) < (n1 : Int)) = False := eq_false c1
                        have c1c : (bj.length < n1) = False := eq_false (by omega)
                        have hws : IntKind.u64.wrap ((bj.length : Int) - (n1 : Int)) = (bj.length : Int) - (n1 : Int) := u64_id (by omega) (by omega)
                        by_cases c2 : (n2 : Int) > (bj.length : Int) - (n1 : Int)
                        · have c2b : ((bj.length : Int) - (n1 : Int) < (n2 : Int)) = True := eq_true c2
                          have hres : rr = none := by have h_ := HX.out; rw [if_neg c0, if_neg c1, if_pos c2] at h_; exact h_.symm
                          have hrn := hnone hres
                          clear HX
                          go_wp2_with (fail)
                          go_ret2
                          exact ⟨_, _, rfl, HB.out, by first | exact ⟨rfl, rfl⟩ | (rw [hrn]; exact ⟨rfl, rfl⟩)⟩
                        · have c2b : ((bj.length : Int) - (n1 : Int) < (n2 : Int)) = False := eq_false c2
                          have HX2 : Aside0 _ := ⟨by have h_ := HX.out; rw [if_neg c0, if_neg c1, if_neg c2] at h_; simp only [Int.toNat_natCast] at h_; exact h_⟩
                          clear HX
                          have hCr := Kd.C_below HC.out HB.out
                          have hm12 : n1 + n2 ≤ bj.length := by omega
                          obtain ⟨hsl1, hC1⟩ := C_takeA hCr (show n1 ≤ bj.length by omega) hbcj
                          obtain ⟨A2, hsl2, hC2⟩ := C_midA hCr hm12 hbcj
                          obtain ⟨A3, hsl3, hC3, hle3⟩ := C_dropB HC.out hm12 hbcj
                          obtain ⟨k0, hk0⟩ : ∃ k0, Aside0 (k0 = last.extract 0 n0) := ⟨_, ⟨rfl⟩⟩
                          obtain ⟨k1, hk1⟩ : ∃ k1, Aside0 (k1 = strOfNums (bj.take n1)) := ⟨_, ⟨rfl⟩⟩
                          obtain ⟨v1, hv1⟩ : ∃ v1, Aside0 (v1 = strOfNums ((bj.take (n1 + n2)).drop n1)) := ⟨_, ⟨rfl⟩⟩
                          have hcv0 : ∀ W, (Instr.slice 9 (.string last) none (some (.int .u64 (n0 : Int))) none).run Try.prog W = .ok (.string k0) W := fun W => by rw [hk0.out]; simpa using run_slice_string_h W 9 last Try.underlying9 .u64 (n0 : Int) (by omega) (by omega)
                          have hcv1 : (convert 28 9 (.slice Aj n1 cj)).run Try.prog wr.drew = .ok (.string k1) wr.drew := by rw [hk1.out]; exact Kd.C_string Try.underlying28 Try.underlying5 Try.underlying9 (Kd.C_drew hC1)
                          have hcv2 : (convert 28 9 (.slice A2 n2 (cj - n1))).run Try.prog wr.drew = .ok (.string v1) wr.drew := by rw [hv1.out]; exact Kd.C_string Try.underlying28 Try.underlying5 Try.underlying9 (Kd.C_drew hC2)
                          have hw12 : IntKind.u64.wrap ((n1 : Int) + n2) = (n1 : Int) + n2 := u64_id (by omega) (by omega)
                          have hks : k0.size + k1.size ≤ 60000 := by rw [hk0.out, hk1.out, ByteArray.size_extract, strOfNums_size, List.length_take]; omega
                          have hks2 : Aside0 (k0.size = n0 ∧ k1.size = n1) := ⟨by rw [hk0.out, hk1.out, ByteArray.size_extract, strOfNums_size, List.length_take]; omega⟩
                          have hsum : (9223372036854775807 < k0.size + k1.size) = False := eq_false (by omega)
                          rw [← hk0.out, ← hk1.out, ← hv1.out] at HX2
                          clear hks
                          have HC3 := Aside0.mk hC3
                          clear hCr hC1 hC2 hC3
                          go_wp2_with (fail)
                          go_region
                          obtain ⟨na, hna⟩ : ∃ na, Aside0 (na = acc.length + 1) := ⟨_, ⟨rfl⟩⟩
                          by_cases ha : 0 < acc.length ∧ Op.bytesLess last.toList (k0 ++ k1).toList = false
                          · have hres : rr = none := by have h_ := HX2.out; rw [if_pos ha] at h_; exact h_.symm
                            have hrn := hnone hres
                            have ha1 : ((1 : Int) < (na : Int)) = True := eq_true (by have := hna.out; omega)
                            have ha2 : (1 < na) = True := eq_true (by have := hna.out; omega)
                            have hle : binOp .leq 9 (.string (k0 ++ k1)) (.string last) = pure (.bool true) := by rw [binOp_string_leq_, ha.2]; rfl
                            clear HX2 ha
                            go_wp2_with (first | ((with_reducible refine gate_builtin (b := .append) (xs := #[.tmp 102, .tmp 115]) rfl ?_); at_builtin; refine Kd.R_append k70 (w0 := w) (W := wr.drew) w.heap.size rfl (.tmp 102) (.tmp 115) 65 70 (.agg #[.string ⟨#[]⟩, .string ⟨#[]⟩]) 32 rfl Try.underlying65 info70b rfl (by decide) (by omega) (.slice A4 acc.length c4) acc ⟨k0 ++ k1, v1⟩ [.string (k0 ++ k1), .string v1] (fun _ => True) (fun _ => False) rfl rfl ?aP (fun k hk => hk.elim) ?aF ?aO ?aB ?aS ?aL ?_; (case aP => exact k70_mkM _ _ _ _); (case aF => exact (fun _ _ => trivial)); (case aO => exact Kd.R_drew HO.out); (case aB => exact below_drew1 HB.out); (case aS => exact below_size (below_drew1 HB.out)); (case aL => omega); intro v3 w3 ho hb3 hg3 hat3; obtain ⟨A5, c5, e5⟩ := Kd.R_slice ho; rw [List.length_append, List.length_singleton, ← hna.out] at e5; subst e5; have HO3 := Aside0.mk ho; have HB3 := Aside0.mk hb3; have HN3 := Aside0.mk ((hg3.block gN (blk_lt HN.out) (Kd.R_ne (Kd.R_drew HO.out) (blk_drew HN.out) (by decide))).trans (blk_drew HN.out)); have hn13 : w3.cell? ⟨gN, 1, none⟩ = some (.int .u64 n1) := (blk_cell HN3.out 1).trans rfl; have hn23 : w3.cell? ⟨gN, 2, none⟩ = some (.int .u64 n2) := (blk_cell HN3.out 2).trans rfl; clear ho hb3 hg3 hat3))
                            go_ret2
                            exact ⟨_, _, rfl, HB3.out, by first | exact ⟨rfl, rfl⟩ | (rw [hrn]; exact ⟨rfl, rfl⟩)⟩
                          · have HX3 : Aside0 _ := ⟨by have h_ := HX2.out; rw [if_neg ha] at h_; exact h_⟩
                            clear HX2
                            by_cases ha0 : acc.length = 0
                            · have ha1 : ((1 : Int) < (na : Int)) = False := eq_false (by have := hna.out; omega)
                              have ha2 : (1 < na) = False := eq_false (by have := hna.out; omega)
                              clear ha ha0
                              go_wp2_with (first | ((with_reducible refine gate_builtin (b := .append) (xs := #[.tmp 102, .tmp 115]) rfl ?_); at_builtin; refine Kd.R_append k70 (w0 := w) (W := wr.drew) w.heap.size rfl (.tmp 102) (.tmp 115) 65 70 (.agg #[.string ⟨#[]⟩, .string ⟨#[]⟩]) 32 rfl Try.underlying65 info70b rfl (by decide) (by omega) (.slice A4 acc.length c4) acc ⟨k0 ++ k1, v1⟩ [.string (k0 ++ k1), .string v1] (fun _ => True) (fun _ => False) rfl rfl ?aP (fun k hk => hk.elim) ?aF ?aO ?aB ?aS ?aL ?_; (case aP => exact k70_mkM _ _ _ _); (case aF => exact (fun _ _ => trivial)); (case aO => exact Kd.R_drew HO.out); (case aB => exact below_drew1 HB.out); (case aS => exact below_size (below_drew1 HB.out)); (case aL => omega); intro v3 w3 ho hb3 hg3 hat3; obtain ⟨A5, c5, e5⟩ := Kd.R_slice ho; rw [List.length_append, List.length_singleton, ← hna.out] at e5; subst e5; have HO3 := Aside0.mk ho; have HB3 := Aside0.mk hb3; have HN3 := Aside0.mk ((hg3.block gN (blk_lt HN.out) (Kd.R_ne (Kd.R_drew HO.out) (blk_drew HN.out) (by decide))).trans (blk_drew HN.out)); have hn13 : w3.cell? ⟨gN, 1, none⟩ = some (.int .u64 n1) := (blk_cell HN3.out 1).trans rfl; have hn23 : w3.cell? ⟨gN, 2, none⟩ = some (.int .u64 n2) := (blk_cell HN3.out 2).trans rfl; clear ho hb3 hg3 hat3))
                              go_roundg kk
                              case measure => omega
                              case rel => exact ⟨bj.drop (n1 + n2), A3, cj - (n1 + n2), k0 ++ k1, acc ++ [⟨k0 ++ k1, v1⟩], A5, c5, by rw [List.length_drop], by rw [List.length_append, List.length_singleton, hna.out], rfl, by rw [List.length_drop]; omega, by rw [List.length_drop, ByteArray.size_append]; have := hks2.out; omega, by rw [List.length_drop, List.length_append, List.length_singleton]; omega, hle3, ⟨HBY.out.drop _⟩, HC3, HX3, ⟨by have h_ := HO3.out; rw [hna.out] at h_; rw [List.length_append, List.length_singleton]; exact h_⟩, HB3⟩
                            · have ha1 : ((1 : Int) < (na : Int)) = True := eq_true (by have := hna.out; omega)
                              have ha2 : (1 < na) = True := eq_true (by have := hna.out; omega)
                              have hlb : Op.bytesLess last.toList (k0 ++ k1).toList = true := by
                                cases hq : Op.bytesLess last.toList (k0 ++ k1).toList with
                                | true => rfl
                                | false => exact absurd ⟨by omega, hq⟩ ha
                              have hle : binOp .leq 9 (.string (k0 ++ k1)) (.string last) = pure (.bool false) := by rw [binOp_string_leq_, hlb]; rfl
                              clear ha ha0 hlb
                              go_wp2_with (first | ((with_reducible refine gate_builtin (b := .append) (xs := #[.tmp 102, .tmp 115]) rfl ?_); at_builtin; refine Kd.R_append k70 (w0 := w) (W := wr.drew) w.heap.size rfl (.tmp 102) (.tmp 115) 65 70 (.agg #[.string ⟨#[]⟩, .string ⟨#[]⟩]) 32 rfl Try.underlying65 info70b rfl (by decide) (by omega) (.slice A4 acc.length c4) acc ⟨k0 ++ k1, v1⟩ [.string (k0 ++ k1), .string v1] (fun _ => True) (fun _ => False) rfl rfl ?aP (fun k hk => hk.elim) ?aF ?aO ?aB ?aS ?aL ?_; (case aP => exact k70_mkM _ _ _ _); (case aF => exact (fun _ _ => trivial)); (case aO => exact Kd.R_drew HO.out); (case aB => exact below_drew1 HB.out); (case aS => exact below_size (below_drew1 HB.out)); (case aL => omega); intro v3 w3 ho hb3 hg3 hat3; obtain ⟨A5, c5, e5⟩ := Kd.R_slice ho; rw [List.length_append, List.length_singleton, ← hna.out] at e5; subst e5; have HO3 := Aside0.mk ho; have HB3 := Aside0.mk hb3; have HN3 := Aside0.mk ((hg3.block gN (blk_lt HN.out) (Kd.R_ne (Kd.R_drew HO.out) (blk_drew HN.out) (by decide))).trans (blk_drew HN.out)); have hn13 : w3.cell? ⟨gN, 1, none⟩ = some (.int .u64 n1) := (blk_cell HN3.out 1).trans rfl; have hn23 : w3.cell? ⟨gN, 2, none⟩ = some (.int .u64 n2) := (blk_cell HN3.out 2).trans rfl; clear ho hb3 hg3 hat3))
                              go_roundg kk
                              case measure => omega
                              case rel => exact ⟨bj.drop (n1 + n2), A3, cj - (n1 + n2), k0 ++ k1, acc ++ [⟨k0 ++ k1, v1⟩], A5, c5, by rw [List.length_drop], by rw [List.length_append, List.length_singleton, hna.out], rfl, by rw [List.length_drop]; omega, by rw [List.length_drop, ByteArray.size_append]; have := hks2.out; omega, by rw [List.length_drop, List.length_append, List.length_singleton]; omega, hle3, ⟨HBY.out.drop _⟩, HC3, HX3, ⟨by have h_ := HO3.out; rw [hna.out] at h_; rw [List.length_append, List.length_singleton]; exact h_⟩, HB3⟩
                  | succ k1 =>
                    have hjt : ((j : Int) < 3) = True := eq_true (by omega)
                    have hjt2 : (j < 3) = True := eq_true (by omega)
                    obtain ⟨K, hK⟩ := rGet_ev HBY.out (by omega)
                    obtain ⟨x, n, hg⟩ : ∃ x n, QBlk.get bj = (x, n) := ⟨_, _, rfl⟩
                    have hgf := get_facts bj
                    rw [hg] at hgf
                    obtain ⟨hx0, hn0, hn1⟩ := hgf
                    simp only at hx0 hn0 hn1
                    have HK := Aside0.mk (hK K (Nat.le_refl _))
                    rw [hg] at HK
                    have Hg := Aside0.mk hg
                    clear hK hg
                    go_wp2_with (fail)
                    refine (incipitref1_Get.calls K Aj cj bj x n _ (Kd.C_below HC.out HB.out) hbcj HK.out).mono ?_
                    rintro e w2 ⟨rfl, hd2⟩
                    have hb2 : Below wr.heap.size wr w2 := by obtain ⟨m1, e1⟩ := hd2.out; rw [e1]; exact pw_below_drewN (Below.refl _ _) m1
                    have HB2 := Aside0.mk (below_step HB.out hb2)
                    have HO2 := Aside0.mk (Kd.R_below HO.out hb2)
                    have HN2 := Aside0.mk ((hb2.block gN (blk_lt HN.out)).trans HN.out)
                    clear hb2 hd2 HB HO HN HK
                    by_cases c0 : n = 0
                    · subst c0
                      have hres : rr = none := by
                        have h_ := HX.out
                        rw [← HRN.out, rgN] at h_
                        simp only [rg1, Hg.out, if_pos, Option.bind_none] at h_
                        exact h_.symm
                      have hrn := hnone hres
                      clear HX HRN
                      go_wp2_with (fail)
                      go_ret2
                      exact ⟨_, _, rfl, HB2.out, by first | exact ⟨rfl, rfl⟩ | (rw [hrn]; exact ⟨rfl, rfl⟩)⟩
                    · have c0b : (n == 0) = false := beq_eq_false_iff_ne.mpr c0
                      obtain ⟨mm, rfl⟩ := Int.eq_ofNat_of_zero_le hn0
                      have hm : mm ≤ bj.length := by omega
                      have hm0 : 0 < mm := by omega
                      have HRN2 : Aside0 (rgN k1 (bj.drop mm) (xs ++ [x]) = rgN 3 b []) := ⟨by
                        have h_ := HRN.out
                        rw [rgN] at h_
                        simp only [rg1, Hg.out, if_neg c0, Option.bind_some, Int.toNat_natCast] at h_
                        exact h_⟩
                      obtain ⟨A', hsl, hC', hle'⟩ := C_dropA HC.out hm hbcj
                      have HC' := Aside0.mk hC'
                      have hj0 : ((0 : Int) ≤ (j : Int)) = True := eq_true (by omega)
                      have hj1 : (j < 3) = True := eq_true (by omega)
                      obtain ⟨ov, hov⟩ : ∃ ov, w2.cell? ⟨gN, j, none⟩ = some ov := by
                        have h_ := blk_cell HN2.out j
                        rw [List.getElem?_toArray, List.getElem?_map, List.getElem?_append_right (by omega), hxl, Nat.sub_self] at h_
                        exact ⟨_, h_⟩
                      have hfz := blk_frozen HN2.out j
                      have hwj : IntKind.i64.wrap ((j : Int) + 1) = ((j + 1 : Nat) : Int) := i64id (by omega)
                      clear hC' HC HRN
                      have HB3 := Aside0.mk (below_set (j := j) (v := Value.int .u64 x) HB2.out hgw)
                      have HN3 := Aside0.mk (blk_set HN2.out j (Value.int .u64 x))
                      have HO3 := Aside0.mk (Kd.R_set HO2.out HN2.out (by decide) j (Value.int .u64 x))
                      clear HX
                      go_wp2_with (fail)
                      go_roundg k1
                      case measure => omega
                      case rel => exact ⟨j + 1, xs ++ [x], bj.drop mm, A', cj - mm, by rw [List.length_drop], congrArg (Value.int .i64) (by omega), by omega, by simp [hxl], hle', by rw [List.length_drop]; omega, .inr (by rw [List.length_drop]; omega), (fun y hy => by rcases List.mem_append.1 hy with hy | hy; exact hxs y hy; rw [List.mem_singleton.1 hy]; omega), HRN2, ⟨HBY.out.drop mm⟩, HC', ⟨by have h_ := HN3.out; rw [set_arr hxl] at h_; exact h_⟩, HO3, HB3⟩
      | succ k1 =>
        have hk1 : (0 ≤ ((k1 + 1 : Nat) : Int) - 1) = True := eq_true (by omega)
        obtain ⟨ad, hA, hcell⟩ := Kd.at_int HR.out ((l.length - 4 + k1 : Nat) : Int) (by omega) (by omega)
        subst hA
        have hcd : rd l ((l.length - 4 + k1 : Nat) : Int) = q4.getD k1 0 := by
          rw [rd, Int.toNat_natCast, ← hq4.out, List.getD_eq_getElem?_getD, List.getD_eq_getElem?_getD, List.getElem?_drop]
        rw [hcd, Int.toNat_natCast] at hcell
        have hcb : 0 ≤ q4.getD k1 0 ∧ q4.getD k1 0 < 256 := by rw [← hq4.out]; exact (HBY.out.drop _).getD k1
        have hdr : q4.drop k1 = q4.getD k1 0 :: q4.drop (k1 + 1) := dropD q4 k1 (by rw [hql.out]; omega)
        have hnb : n < 16777216 := by
          rw [HN.out]
          have := val256_lt (q4.drop (k1 + 1)) (by rw [← hq4.out]; exact (HBY.out.drop _).drop _)
          rw [List.length_drop, hql.out] at this
          exact Nat.lt_of_lt_of_le this (Nat.le_trans (Nat.pow_le_pow_right (by decide) (show 4 - (k1 + 1) ≤ 3 by omega)) (by decide))
        obtain ⟨c, hc⟩ : ∃ c : Nat, q4.getD k1 0 = (c : Int) := Int.eq_ofNat_of_zero_le hcb.1
        rw [hc] at hcell hdr hcb
        have hn2 : Aside0 (n * 256 + c = val256 (q4.drop k1)) := ⟨by rw [hdr]; show _ = (c : Int).toNat + 256 * val256 (q4.drop (k1 + 1)); rw [← HN.out, Int.toNat_natCast]; omega⟩
        have hv1 : wrap64 ((n : Int) * 256) = ((n * 256 : Nat) : Int) := by unfold wrap64; omega
        have hv2 : IntKind.i64.wrap (c : Int) = (c : Int) := i64id (by omega)
        have hv3 : IntKind.i64.wrap (((n * 256 : Nat) : Int) + (c : Int)) = ((n * 256 + c : Nat) : Int) := (i64id (by omega)).trans (by omega)
        have hv4 : IntKind.i64.wrap (((l.length - 4 : Nat) : Int) + (k1 : Int)) = ((l.length - 4 + k1 : Nat) : Int) := (i64id (by omega)).trans (by omega)
        have hv5 : IntKind.i64.wrap ((k1 : Int) - 1) = (k1 : Int) - 1 := i64id (by omega)
        have hb1 : ((0 : Int) ≤ ((l.length - 4 + k1 : Nat) : Int)) = True := eq_true (by omega)
        have hb2 : (((l.length - 4 + k1 : Nat) : Int) < (l.length : Int)) = True := eq_true (by omega)
        have hb3 : (l.length - 4 + k1 < l.length) = True := eq_true (by omega)
        have hc256 : c < 256 := by omega
        clear hcd hcb hdr hc HN
        go_wp2_with (fail)
        go_roundg k1
        case measure => omega
        case rel => exact ⟨n * 256 + c, congrArg (Value.int .i64) (by first | omega | (unfold wrap64; omega)), rfl, by omega, hn2, ⟨rfl⟩⟩
end Go.Proofs.Ytoglanahjlfihaa.MBlk
