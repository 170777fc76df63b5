-- Written by a program of this session for this claim (out of the translation's print); Lean checks it.
import Derived.Test.YtcijcfdllfaghaaMDrpx0
namespace Go.Proofs.Ytcijcfdllfaghaa.MDrp
open Go.RowKit Go.Proofs.YtcijcfdllfaghaaW.PrintWords Go.Proofs.YtcijcfdllfaghaaW.PrintLast Go.Proofs.YtcijcfdllfaghaaW.PrintMore
attribute [local go_sem] max2_int min2_int max_two min_two max_three min_three max_four min_four   -- for this text's walks alone
set_option linter.unusedVariables false
set_option linter.unusedSimpArgs false

/-! ### drop_keys: function 48 -/
mutual
def drop_keys.l0 : Nat → List (S23) → List (List (S23)) → Option ((List (List (S23))))
  | 0, _, _ => none
  | k + 1, x0, x3 => if (x0.length : Int) > 0 then (drop_keys.l1 k x0 x3 1) else (some x3)
def drop_keys.l1 : Nat → List (S23) → List (List (S23)) → Int → Option ((List (List (S23))))
  | 0, _, _, _ => none
  | k + 1, x0, x3, x4 => if x4 < (x0.length : Int) then (if 0 ≤ x4 then (if 0 < (x0.length : Int) then (if ((rd_T23 x0 x4).f0).toList = ((rd_T23 x0 0).f0).toList then (drop_keys.l1 k x0 x3 (wrap64 (x4 + 1))) else (if x4 ≤ (x0.length : Int) then (if x3.length < 5864062014805 then (drop_keys.l0 k (x0.drop (x4 : Int).toNat) (x3 ++ [(x0.take (x4 : Int).toNat)])) else (none)) else (none))) else (none)) else (none)) else (if 0 ≤ x4 then (if x4 ≤ (x0.length : Int) then (if x3.length < 5864062014805 then (drop_keys.l0 k (x0.drop (x4 : Int).toNat) (x3 ++ [(x0.take (x4 : Int).toNat)])) else (none)) else (none)) else (none))
end
def drop_keys.f (k : Nat) (l0 : List (S23)) : Option ((List (List (S23)))) := drop_keys.l0 k l0 ([] : List (List (S23)))
theorem drop_keys.mono_l : ∀ k, (∀ y0 y1, LeO (drop_keys.l0 k y0 y1) (drop_keys.l0 (k + 1) y0 y1)) ∧ (∀ y0 y1 y2, LeO (drop_keys.l1 k y0 y1 y2) (drop_keys.l1 (k + 1) y0 y1 y2))
  | 0 => ⟨fun _ _ r h => by simp [drop_keys.l0] at h, fun _ _ _ r h => by simp [drop_keys.l1] at h⟩
  | k + 1 => by
    obtain ⟨ih0, ih1⟩ := drop_keys.mono_l k
    refine ⟨?_, ?_⟩
    · intro y0 y1
      unfold drop_keys.l0
      repeat' first
      | (with_reducible exact ih0 _ _)
      | (with_reducible exact ih1 _ _ _)
      | (with_reducible exact LeO.refl _)
      | (with_reducible exact LeO.none _)
      | (with_reducible refine LeO.ite ?_ ?_)
      | (with_reducible refine LeO.bind ?_ (fun _ => ?_))
      | exact ih0 _ _
      | exact ih1 _ _ _
      | exact LeO.none _
      | refine LeO.ite ?_ ?_
      | refine LeO.bind ?_ (fun _ => ?_)
    · intro y0 y1 y2
      unfold drop_keys.l1
      repeat' first
      | (with_reducible exact ih0 _ _)
      | (with_reducible exact ih1 _ _ _)
      | (with_reducible exact LeO.refl _)
      | (with_reducible exact LeO.none _)
      | (with_reducible refine LeO.ite ?_ ?_)
      | (with_reducible refine LeO.bind ?_ (fun _ => ?_))
      | exact ih0 _ _
      | exact ih1 _ _ _
      | exact LeO.none _
      | refine LeO.ite ?_ ?_
      | refine LeO.bind ?_ (fun _ => ?_)
theorem drop_keys.mono : ∀ a0 k, LeO (drop_keys.f k a0) (drop_keys.f (k + 1) a0) := by
  intro a0 k
  obtain ⟨ih0, ih1⟩ := drop_keys.mono_l k
  unfold drop_keys.f
  repeat' first
      | (with_reducible exact ih0 _ _)
      | (with_reducible exact ih1 _ _ _)
      | (with_reducible exact LeO.refl _)
      | (with_reducible exact LeO.none _)
      | (with_reducible refine LeO.ite ?_ ?_)
      | (with_reducible refine LeO.bind ?_ (fun _ => ?_))
      | exact ih0 _ _
      | exact ih1 _ _ _
      | exact LeO.none _
      | refine LeO.ite ?_ ?_
      | refine LeO.bind ?_ (fun _ => ?_)
set_option maxHeartbeats 80000000 in
set_option maxRecDepth 100000 in
theorem drop_keys.calls (k : Nat) (P0_ : Nat → Prop) (A0 : Option Addr) (c0 : Nat) (l0 : List (S23)) (r : List (List (S23))) (w : World) (hs0 : Kd.V k23 23 w w.heap.size (fun k_ => P0_ k_) (.slice A0 l0.length c0) l0) (h : drop_keys.f k l0 = some r) :
    Calls Try.prog 48 #[.slice A0 l0.length c0] w fun e w' => ∃ v0_ : Value, e = .returned (v0_) ∧ Kd.N (Kd.slice 23 k23) 27 w' w.heap.size (fun k_ => (P0_ k_ ∨ w.heap.size ≤ k_)) v0_ r ∧ Below w.heap.size w w' := by
  have HO0 := Aside0.mk (show Kd.V k23 23 w w.heap.size (fun k_ => (P0_ k_ ∨ w.heap.size ≤ k_)) (.slice A0 l0.length c0) l0 from Kd.V_mono hs0 (fun k_ hk => .inl hk))
  have HB := Aside0.mk (Below.refl w.heap.size w)
  have H : (drop_keys.l0 k l0 ([] : List (List (S23)))) = some r := h
  clear h
  have H' := Aside0.mk H
  clear H
  go_enter Try.func48, Try.ntmps48
  go_wp2
  repeat (go_quiet (fail); try go_wp2)
  go_loopg [0, 3] k (fun kq v0 v3 w' => ∃ (x0_1 : List (S23)) (x3_1 : List (List (S23))), Aside0 (drop_keys.l0 kq x0_1 x3_1 = some r) ∧ Aside0 (kq ≤ k) ∧ Aside0 (Kd.V k23 23 w' w.heap.size (fun k_ => (P0_ k_ ∨ w.heap.size ≤ k_) ∧ some k_ ≠ (v3 : Value).ownBlock) v0 x0_1) ∧ Aside0 (Kd.N (Kd.slice 23 k23) 27 w' w.heap.size (fun k_ => (P0_ k_ ∨ w.heap.size ≤ k_)) v3 x3_1) ∧ Aside0 (Below w.heap.size w w'))
  case atStart => exact ⟨(l0), (([] : List (List (S23)))), H', ⟨Nat.le_refl _⟩, ⟨by (with_reducible repeat (first | apply Kd.V_alloc | apply Kd.V_drewN | apply Kd.V_drew)); exact Kd.V_mono HO0.out (fun _ hk => ⟨hk, (by simp [Value.ownBlock])⟩)⟩, ⟨by first | exact Kd.S_nil _ _ _ _ _ | exact Kd.N_nil _ _ _ _ _ | exact Kd.V_nil _ _ _ _ _ | exact Kd.Q_nil _ _ _ _ _ | exact Kd.R_nil _ _ _ _ _⟩, ⟨by repeat (first | (with_reducible first | exact HB.out | apply below_alloc | apply pw_below_drewN | apply below_drew1) | exact HB.out)⟩⟩
  case round =>
    clear H'
    obtain ⟨x0_1, x3_1, HA, HK1, HO_0, HO_3, HB⟩ := hrel
    cases gk with
    | zero => exact absurd HA.out (by simp [drop_keys.l0])
    | succ k1 =>
      have H := HA.out
      clear HA
      simp only [drop_keys.l0] at H
      by_cases c2 : (x0_1.length : Int) > 0
      · rw [if_pos c2] at H
        have c2b0 : decide (0 < (x0_1.length : Int)) = true := decide_eq_true c2
        have c2b1 : decide (0 < x0_1.length) = true := decide_eq_true (by omega)
        clear c2
        have H' := Aside0.mk H
        clear H
        obtain ⟨Ao3, co3, eo3⟩ := Kd.V_slice HO_0.out
        subst eo3
        go_wp2
        repeat (go_quiet (fail); try go_wp2)
        go_loopg [4] k1 (fun kq v4 w' => ∃ (x4_2 : Int), v4 = .int .i64 x4_2 ∧ Aside0 (drop_keys.l1 kq x0_1 x3_1 x4_2 = some r) ∧ Aside0 (kq ≤ k1) ∧ Aside0 (Kd.V k23 23 w' w.heap.size (fun k_ => (P0_ k_ ∨ w.heap.size ≤ k_) ∧ some k_ ≠ (u3 : Value).ownBlock) (.slice Ao3 x0_1.length co3) x0_1) ∧ Aside0 (Kd.N (Kd.slice 23 k23) 27 w' w.heap.size (fun k_ => (P0_ k_ ∨ w.heap.size ≤ k_)) u3 x3_1) ∧ Aside0 (Below w.heap.size w w'))
        case atStart => exact ⟨(1), (by first | rfl | (simp; done) | (simp [*]; done)), H', ⟨Nat.le_refl _⟩, ⟨by (with_reducible repeat (first | apply Kd.V_alloc | apply Kd.V_drewN | apply Kd.V_drew)); exact HO_0.out⟩, ⟨by (with_reducible repeat (first | apply Kd.N_alloc | apply Kd.N_drewN | apply Kd.N_drew)); exact HO_3.out⟩, ⟨by repeat (first | (with_reducible first | exact HB.out | apply below_alloc | apply pw_below_drewN | apply below_drew1) | exact HB.out)⟩⟩
        case round =>
          clear H'
          try clear c2
          try clear c2b0
          try clear c2b1
          try clear p2
          obtain ⟨x4_2, rfl, HA, HK2, HO_0, HO_3, HB⟩ := hrel
          cases gk with
          | zero => exact absurd HA.out (by simp [drop_keys.l1])
          | succ k2 =>
            have H := HA.out
            clear HA
            simp only [drop_keys.l1] at H
            by_cases c4 : x4_2 < (x0_1.length : Int)
            · rw [if_pos c4] at H
              have c4b0 : decide (x4_2 < (x0_1.length : Int)) = true := decide_eq_true c4
              clear c4
              by_cases c5 : 0 ≤ x4_2
              · rw [if_pos c5] at H
                have c5b0 : decide (0 ≤ x4_2) = true := decide_eq_true c5
                clear c5
                by_cases c6 : 0 < (x0_1.length : Int)
                · rw [if_pos c6] at H
                  have c6b0 : decide (0 < (x0_1.length : Int)) = true := decide_eq_true c6
                  have c6b1 : decide (0 < x0_1.length) = true := decide_eq_true (by omega)
                  clear c6
                  by_cases c7 : ((rd_T23 x0_1 x4_2).f0).toList = ((rd_T23 x0_1 0).f0).toList
                  · rw [if_pos c7] at H
                    have c7b0 : (((rd_T23 x0_1 x4_2).f0).toList == ((rd_T23 x0_1 0).f0).toList) = true := beq_iff_eq.mpr c7
                    have c7b1 : (((rd_T23 x0_1 x4_2).f0).toList != ((rd_T23 x0_1 0).f0).toList) = false := bne_eq_false_iff_eq.mpr c7
                    clear c7
                    have H' := Aside0.mk H
                    clear H
                    have p157 : 0 ≤ (x4_2 : Int) := of_decide_eq_true (by first | (with_reducible assumption) | assumption)
                    have q157 : x4_2 < (x0_1.length : Int) := of_decide_eq_true (by first | (with_reducible assumption) | assumption)
                    obtain ⟨ad157, e157, hx157_0, hx157_1, hx157_2, hx157_3, hx157_4⟩ := at_T23 (Kd.V_reads' HO_0.out).2.2 x4_2 p157 q157
                    cases e157
                    replace p157 := eq_true p157
                    replace q157 := eq_true q157
                    have p158 : 0 ≤ (0 : Int) := (by omega)
                    have q158 : 0 < (x0_1.length : Int) := of_decide_eq_true (by first | (with_reducible assumption) | assumption)
                    obtain ⟨ad158, e158, hx158_0, hx158_1, hx158_2, hx158_3, hx158_4⟩ := at_T23 (Kd.V_reads' HO_0.out).2.2 0 p158 q158
                    obtain rfl : ad157 = ad158 := (by injection e158)
                    have qi158 : (0 < x0_1.length) = True := eq_true (by omega)
                    (try rw [show ((0 : Int)).toNat = 0 from rfl] at hx158_0)
                    (try rw [show 0 * 5 = 0 from rfl] at hx158_0)
                    (try rw [Addr.add_zero'] at hx158_0)
                    (try rw [show ((0 : Int)).toNat = 0 from rfl] at hx158_1)
                    (try rw [show 0 * 5 = 0 from rfl] at hx158_1)
                    (try rw [Addr.add_zero'] at hx158_1)
                    (try rw [show ((0 : Int)).toNat = 0 from rfl] at hx158_2)
                    (try rw [show 0 * 5 = 0 from rfl] at hx158_2)
                    (try rw [Addr.add_zero'] at hx158_2)
                    (try rw [show ((0 : Int)).toNat = 0 from rfl] at hx158_3)
                    (try rw [show 0 * 5 = 0 from rfl] at hx158_3)
                    (try rw [Addr.add_zero'] at hx158_3)
                    (try rw [show ((0 : Int)).toNat = 0 from rfl] at hx158_4)
                    (try rw [show 0 * 5 = 0 from rfl] at hx158_4)
                    (try rw [Addr.add_zero'] at hx158_4)
                    replace p158 := eq_true p158
                    replace q158 := eq_true q158
                    go_wp2
                    repeat (go_quiet (fail); try go_wp2)
                    go_roundg k2
                    case measure => have := HK1.out; have := HK2.out; omega
                    case rel => exact ⟨(wrap64 (x4_2 + 1)), (by first | rfl | (simp; done) | (simp [*]; done)), H', ⟨by have := HK1.out; have := HK2.out; omega⟩, ⟨by (with_reducible repeat (first | apply Kd.V_alloc | apply Kd.V_drewN | apply Kd.V_drew)); exact HO_0.out⟩, ⟨by (with_reducible repeat (first | apply Kd.N_alloc | apply Kd.N_drewN | apply Kd.N_drew)); exact HO_3.out⟩, ⟨by repeat (first | (with_reducible first | exact HB.out | apply below_alloc | apply pw_below_drewN | apply below_drew1) | exact HB.out)⟩⟩
                  · rw [if_neg c7] at H
                    have c7b0 : (((rd_T23 x0_1 x4_2).f0).toList == ((rd_T23 x0_1 0).f0).toList) = false := beq_eq_false_iff_ne.mpr c7
                    have c7b1 : (((rd_T23 x0_1 x4_2).f0).toList != ((rd_T23 x0_1 0).f0).toList) = true := bne_iff_ne.mpr c7
                    have c8b0 := eq_true (of_decide_eq_true (by first | (with_reducible assumption) | assumption) : 0 ≤ x4_2)
                    by_cases c9 : x4_2 ≤ (x0_1.length : Int)
                    · rw [if_pos c9] at H
                      have c9b0 := eq_true c9
                      have c9b1 : decide (x4_2 ≤ (x0_1.length : Int)) = true := decide_eq_true c9
                      clear c9
                      obtain ⟨y159, hy159⟩ : ∃ y_ : List (S23), y_ = (x0_1.take (x4_2 : Int).toNat) := ⟨_, rfl⟩
                      replace H : (if x3_1.length < 5864062014805 then (drop_keys.l0 k2 (x0_1.drop (x4_2 : Int).toNat) (x3_1 ++ [y159])) else (none)) = some r := by first | (rw [hy159]; with_reducible exact H) | (have H2_ := (Option.bind_some _ _).symm.trans H; rw [hy159]; with_reducible exact H2_) | (have H2_ := (Option.bind_some _ _).symm.trans H; with_reducible exact H2_) | with_reducible exact H | (rw [hy159]; exact H) | exact H
                      have Ny159 := Aside0.mk hy159
                      clear hy159
                      by_cases c10 : x3_1.length < 5864062014805
                      · rw [if_pos c10] at H
                        have LMc10 := Aside0.mk c10
                        clear c10
                        obtain ⟨y164, hy164⟩ : ∃ y_ : List (List (S23)), y_ = (x3_1 ++ [y159]) := ⟨_, rfl⟩
                        replace H : (drop_keys.l0 k2 (x0_1.drop (x4_2 : Int).toNat) y164) = some r := by first | (rw [hy164]; with_reducible exact H) | (have H2_ := (Option.bind_some _ _).symm.trans H; rw [hy164]; with_reducible exact H2_) | (have H2_ := (Option.bind_some _ _).symm.trans H; with_reducible exact H2_) | with_reducible exact H | (rw [hy164]; exact H) | exact H
                        have Ny164 := Aside0.mk hy164
                        clear hy164
                        have c11b0 := eq_true (of_decide_eq_true (by first | (with_reducible assumption) | assumption) : 0 ≤ x4_2)
                        have c12b0 := eq_true (of_decide_eq_true (by first | (with_reducible assumption) | assumption) : x4_2 ≤ (x0_1.length : Int))
                        obtain ⟨y167, hy167⟩ : ∃ y_ : List (S23), y_ = (x0_1.drop (x4_2 : Int).toNat) := ⟨_, rfl⟩
                        replace H : (drop_keys.l0 k2 y167 y164) = some r := by first | (rw [hy167]; with_reducible exact H) | (have H2_ := (Option.bind_some _ _).symm.trans H; rw [hy167]; with_reducible exact H2_) | (have H2_ := (Option.bind_some _ _).symm.trans H; with_reducible exact H2_) | with_reducible exact H | (rw [hy167]; exact H) | exact H
                        have Ny167 := Aside0.mk hy167
                        clear hy167
                        have H' := Aside0.mk H
                        clear H
                        have p157 : 0 ≤ (x4_2 : Int) := of_decide_eq_true (by first | (with_reducible assumption) | assumption)
                        have q157 : x4_2 < (x0_1.length : Int) := of_decide_eq_true (by first | (with_reducible assumption) | assumption)
                        obtain ⟨ad157, e157, hx157_0, hx157_1, hx157_2, hx157_3, hx157_4⟩ := at_T23 (Kd.V_reads' HO_0.out).2.2 x4_2 p157 q157
                        cases e157
                        replace p157 := eq_true p157
                        replace q157 := eq_true q157
                        have p158 : 0 ≤ (0 : Int) := (by omega)
                        have q158 : 0 < (x0_1.length : Int) := of_decide_eq_true (by first | (with_reducible assumption) | assumption)
                        obtain ⟨ad158, e158, hx158_0, hx158_1, hx158_2, hx158_3, hx158_4⟩ := at_T23 (Kd.V_reads' HO_0.out).2.2 0 p158 q158
                        obtain rfl : ad157 = ad158 := (by injection e158)
                        have qi158 : (0 < x0_1.length) = True := eq_true (by omega)
                        (try rw [show ((0 : Int)).toNat = 0 from rfl] at hx158_0)
                        (try rw [show 0 * 5 = 0 from rfl] at hx158_0)
                        (try rw [Addr.add_zero'] at hx158_0)
                        (try rw [show ((0 : Int)).toNat = 0 from rfl] at hx158_1)
                        (try rw [show 0 * 5 = 0 from rfl] at hx158_1)
                        (try rw [Addr.add_zero'] at hx158_1)
                        (try rw [show ((0 : Int)).toNat = 0 from rfl] at hx158_2)
                        (try rw [show 0 * 5 = 0 from rfl] at hx158_2)
                        (try rw [Addr.add_zero'] at hx158_2)
                        (try rw [show ((0 : Int)).toNat = 0 from rfl] at hx158_3)
                        (try rw [show 0 * 5 = 0 from rfl] at hx158_3)
                        (try rw [Addr.add_zero'] at hx158_3)
                        (try rw [show ((0 : Int)).toNat = 0 from rfl] at hx158_4)
                        (try rw [show 0 * 5 = 0 from rfl] at hx158_4)
                        (try rw [Addr.add_zero'] at hx158_4)
                        replace p158 := eq_true p158
                        replace q158 := eq_true q158
                        have q13 : (x4_2 : Int) ≤ ((x0_1.length : Int) : Int) := of_decide_eq_true (by first | (with_reducible assumption) | assumption)
                        obtain ⟨i013, hi013, _, hsz13, _⟩ := info_parts info23
                        have hroom13 : x0_1.length ≤ co3 := (Kd.V_reads' HO_0.out).2.1
                        have hC13 : Kd.F k23 _ _ (some ad157) x0_1.length x0_1 := (Kd.V_at (base := w.heap.size) HO_0.out).2.2
                        have hcut13 := cut_to (P := Try.prog) 27 23 .i64 Try.underlying27 hi013 (some ad157) x0_1.length co3 x4_2 (of_decide_eq_true (by first | (with_reducible assumption) | assumption)) q13 hroom13
                        have hr13 := Kd.F_take (m := (x4_2 : Int).toNat) hC13 (by omega)
                        have hy13 : y159.length = (x4_2 : Int).toNat := (by rw [Ny159.out, List.length_take]; omega)
                        rw [← Ny159.out] at hr13
                        rw [← hy13] at hcut13
                        have HO163 := Aside0.mk (show Kd.V k23 23 _ w.heap.size _ (.slice (some ad157) y159.length co3) y159 from Kd.V_mk (by omega) hr13)
                        have HC163 := Aside0.mk (show y159.length ≤ co3 from by omega)
                        clear hr13 hC13 hroom13 hi013 hsz13
                        have KY13 := Aside0.mk hy13
                        clear hy13
                        replace q13 := eq_true q13
                        go_wp2_with (first | ((with_reducible refine gate_builtin (b := .append) (xs := #[.tmp 26, .tmp 30]) rfl ?_); at_builtin; refine Kd.N_append (Kd.slice 23 k23) (w0 := w) w.heap.size rfl (.tmp 26) (.tmp 30) 42 27 (.slice none 0 0) 24 rfl Try.underlying42 info27 rfl (by decide) (by omega) u3 x3_1 y159 [.slice (some ad157) y159.length co3] (fun k_ => (P0_ k_ ∨ w.heap.size ≤ k_)) (fun k_ => ((fun k_ => (P0_ k_ ∨ w.heap.size ≤ k_))) k_ ∧ some k_ ≠ (u3 : Value).ownBlock) rfl rfl ?aP (fun _ hk => hk) ?aF ?aO ?aB ?aS ?aL ?_; (case aP => exact (Kd.FK_slice_mk (Kd.V_reads' (Kd.V_mono (ok' := (fun k_ => ((fun k_ => (P0_ k_ ∨ w.heap.size ≤ k_))) k_ ∧ some k_ ≠ (u3 : Value).ownBlock)) (HO163.out) (fun k_ hk => ⟨hk.1, hk.2⟩))).2.1 (Kd.V_F (by first | exact (Kd.V_mono (ok' := (fun k_ => ((fun k_ => (P0_ k_ ∨ w.heap.size ≤ k_))) k_ ∧ some k_ ≠ (u3 : Value).ownBlock)) (HO163.out) (fun k_ hk => ⟨hk.1, hk.2⟩)) | exact (Kd.V_mono (ok' := (fun k_ => ((fun k_ => (P0_ k_ ∨ w.heap.size ≤ k_))) k_ ∧ some k_ ≠ (u3 : Value).ownBlock)) (Kd.V_drewN HO163.out _) (fun k_ hk => ⟨hk.1, hk.2⟩)))))); (case aB => exact (by repeat (first | (with_reducible first | exact HB.out | apply below_alloc | apply pw_below_drewN | apply below_drew1) | exact HB.out))); (case aF => exact (fun k_ hk => (.inr (Nat.le_trans (below_size (by repeat (first | (with_reducible first | exact HB.out | apply below_alloc | apply pw_below_drewN | apply below_drew1) | exact HB.out))) hk)))); (case aO => exact (by (with_reducible repeat (first | apply Kd.N_alloc | apply Kd.N_drewN | apply Kd.N_drew)); exact HO_3.out)); (case aS => exact (below_size (by repeat (first | (with_reducible first | exact HB.out | apply below_alloc | apply pw_below_drewN | apply below_drew1) | exact HB.out)))); (case aL => have := LMc10.out; omega); intro v165 w14 ho hb hg hat; rw [← Ny164.out] at ho; have n0_ := Aside0.mk (Kd.V_afterv (ok := (fun k_ => (P0_ k_ ∨ w.heap.size ≤ k_))) (by (with_reducible repeat (first | apply Kd.V_alloc | apply Kd.V_drewN | apply Kd.V_drew)); exact HO_0.out) hg hat); have n1_ := Aside0.mk (Kd.V_afterv (ok := (fun k_ => (P0_ k_ ∨ w.heap.size ≤ k_))) (by (with_reducible repeat (first | apply Kd.V_alloc | apply Kd.V_drewN | apply Kd.V_drew)); exact HO163.out) hg hat); have n2_ := Aside0.mk (hb); have n3_ := Aside0.mk (ho); clear HO_0; clear HO163; clear HB; clear HO_3; have HO_0 := n0_; have HO163 := n1_; have HB := n2_; have HO166 := n3_; clear n0_ n1_ n2_ n3_; clear ho hb hg hat; have q15 : (x4_2 : Int) ≤ ((x0_1.length : Int) : Int) := of_decide_eq_true (by first | (with_reducible assumption) | assumption); obtain ⟨i015, hi015, _, hsz15, _⟩ := info_parts info23; have hroom15 : x0_1.length ≤ co3 := (Kd.V_reads' HO_0.out).2.1; have hC15 : Kd.F k23 _ _ (some ad157) x0_1.length x0_1 := (Kd.V_at (base := w.heap.size) HO_0.out).2.2; have q015 : (0 : Int) ≤ (x4_2 : Int) := of_decide_eq_true (by first | (with_reducible assumption) | assumption); have hcut15 := cut_from (P := Try.prog) 27 23 .i64 Try.underlying27 hi015 5 hsz15 (some ad157) x0_1.length co3 x4_2 q015 q15; have hr15 := Kd.F_cut (m := (x4_2 : Int).toNat) (c := co3) hC15 (by omega) hroom15; obtain ⟨A15, hA15⟩ : ∃ A1, A1 = (if co3 = (x4_2 : Int).toNat then (some ad157) else ((some ad157) : Option Addr).map (·.add ((x4_2 : Int).toNat * 5))) := ⟨_, rfl⟩; obtain ⟨c15, hc15⟩ : ∃ c1, c1 = co3 - (x4_2 : Int).toNat := ⟨_, rfl⟩; have hy15 : y167.length = x0_1.length - (x4_2 : Int).toNat := (by rw [Ny167.out, List.length_drop] <;> omega); rw [show (x0_1).drop (x4_2 : Int).toNat = y167 from Ny167.out.symm] at hr15; replace hr15 : Kd.F k23 _ _ A15 y167.length y167 := (by rw [hA15]; exact hr15); rw [← hy15, ← hA15, ← hc15] at hcut15; have HO171 := Aside0.mk (show Kd.V k23 23 _ w.heap.size _ (.slice A15 y167.length c15) y167 from Kd.V_mk (by rw [hy15, hc15]; exact Nat.sub_le_sub_right hroom15 _) hr15); have HC171 := Aside0.mk (show y167.length ≤ c15 from by rw [hy15, hc15]; exact Nat.sub_le_sub_right hroom15 _); clear hr15 hC15 hroom15 hi015 hsz15 hc15; have KY15 := Aside0.mk hy15; have KA15 := Aside0.mk hA15; clear hy15 hA15; replace q15 := eq_true q15))
                        repeat (go_quiet (first | ((with_reducible refine gate_builtin (b := .append) (xs := #[.tmp 26, .tmp 30]) rfl ?_); at_builtin; refine Kd.N_append (Kd.slice 23 k23) (w0 := w) w.heap.size rfl (.tmp 26) (.tmp 30) 42 27 (.slice none 0 0) 24 rfl Try.underlying42 info27 rfl (by decide) (by omega) u3 x3_1 y159 [.slice (some ad157) y159.length co3] (fun k_ => (P0_ k_ ∨ w.heap.size ≤ k_)) (fun k_ => ((fun k_ => (P0_ k_ ∨ w.heap.size ≤ k_))) k_ ∧ some k_ ≠ (u3 : Value).ownBlock) rfl rfl ?aP (fun _ hk => hk) ?aF ?aO ?aB ?aS ?aL ?_; (case aP => exact (Kd.FK_slice_mk (Kd.V_reads' (Kd.V_mono (ok' := (fun k_ => ((fun k_ => (P0_ k_ ∨ w.heap.size ≤ k_))) k_ ∧ some k_ ≠ (u3 : Value).ownBlock)) (HO163.out) (fun k_ hk => ⟨hk.1, hk.2⟩))).2.1 (Kd.V_F (by first | exact (Kd.V_mono (ok' := (fun k_ => ((fun k_ => (P0_ k_ ∨ w.heap.size ≤ k_))) k_ ∧ some k_ ≠ (u3 : Value).ownBlock)) (HO163.out) (fun k_ hk => ⟨hk.1, hk.2⟩)) | exact (Kd.V_mono (ok' := (fun k_ => ((fun k_ => (P0_ k_ ∨ w.heap.size ≤ k_))) k_ ∧ some k_ ≠ (u3 : Value).ownBlock)) (Kd.V_drewN HO163.out _) (fun k_ hk => ⟨hk.1, hk.2⟩)))))); (case aB => exact (by repeat (first | (with_reducible first | exact HB.out | apply below_alloc | apply pw_below_drewN | apply below_drew1) | exact HB.out))); (case aF => exact (fun k_ hk => (.inr (Nat.le_trans (below_size (by repeat (first | (with_reducible first | exact HB.out | apply below_alloc | apply pw_below_drewN | apply below_drew1) | exact HB.out))) hk)))); (case aO => exact (by (with_reducible repeat (first | apply Kd.N_alloc | apply Kd.N_drewN | apply Kd.N_drew)); exact HO_3.out)); (case aS => exact (below_size (by repeat (first | (with_reducible first | exact HB.out | apply below_alloc | apply pw_below_drewN | apply below_drew1) | exact HB.out)))); (case aL => have := LMc10.out; omega); intro v165 w14 ho hb hg hat; rw [← Ny164.out] at ho; have n0_ := Aside0.mk (Kd.V_afterv (ok := (fun k_ => (P0_ k_ ∨ w.heap.size ≤ k_))) (by (with_reducible repeat (first | apply Kd.V_alloc | apply Kd.V_drewN | apply Kd.V_drew)); exact HO_0.out) hg hat); have n1_ := Aside0.mk (Kd.V_afterv (ok := (fun k_ => (P0_ k_ ∨ w.heap.size ≤ k_))) (by (with_reducible repeat (first | apply Kd.V_alloc | apply Kd.V_drewN | apply Kd.V_drew)); exact HO163.out) hg hat); have n2_ := Aside0.mk (hb); have n3_ := Aside0.mk (ho); clear HO_0; clear HO163; clear HB; clear HO_3; have HO_0 := n0_; have HO163 := n1_; have HB := n2_; have HO166 := n3_; clear n0_ n1_ n2_ n3_; clear ho hb hg hat; have q15 : (x4_2 : Int) ≤ ((x0_1.length : Int) : Int) := of_decide_eq_true (by first | (with_reducible assumption) | assumption); obtain ⟨i015, hi015, _, hsz15, _⟩ := info_parts info23; have hroom15 : x0_1.length ≤ co3 := (Kd.V_reads' HO_0.out).2.1; have hC15 : Kd.F k23 _ _ (some ad157) x0_1.length x0_1 := (Kd.V_at (base := w.heap.size) HO_0.out).2.2; have q015 : (0 : Int) ≤ (x4_2 : Int) := of_decide_eq_true (by first | (with_reducible assumption) | assumption); have hcut15 := cut_from (P := Try.prog) 27 23 .i64 Try.underlying27 hi015 5 hsz15 (some ad157) x0_1.length co3 x4_2 q015 q15; have hr15 := Kd.F_cut (m := (x4_2 : Int).toNat) (c := co3) hC15 (by omega) hroom15; obtain ⟨A15, hA15⟩ : ∃ A1, A1 = (if co3 = (x4_2 : Int).toNat then (some ad157) else ((some ad157) : Option Addr).map (·.add ((x4_2 : Int).toNat * 5))) := ⟨_, rfl⟩; obtain ⟨c15, hc15⟩ : ∃ c1, c1 = co3 - (x4_2 : Int).toNat := ⟨_, rfl⟩; have hy15 : y167.length = x0_1.length - (x4_2 : Int).toNat := (by rw [Ny167.out, List.length_drop] <;> omega); rw [show (x0_1).drop (x4_2 : Int).toNat = y167 from Ny167.out.symm] at hr15; replace hr15 : Kd.F k23 _ _ A15 y167.length y167 := (by rw [hA15]; exact hr15); rw [← hy15, ← hA15, ← hc15] at hcut15; have HO171 := Aside0.mk (show Kd.V k23 23 _ w.heap.size _ (.slice A15 y167.length c15) y167 from Kd.V_mk (by rw [hy15, hc15]; exact Nat.sub_le_sub_right hroom15 _) hr15); have HC171 := Aside0.mk (show y167.length ≤ c15 from by rw [hy15, hc15]; exact Nat.sub_le_sub_right hroom15 _); clear hr15 hC15 hroom15 hi015 hsz15 hc15; have KY15 := Aside0.mk hy15; have KA15 := Aside0.mk hA15; clear hy15 hA15; replace q15 := eq_true q15)); try go_wp2_with (first | ((with_reducible refine gate_builtin (b := .append) (xs := #[.tmp 26, .tmp 30]) rfl ?_); at_builtin; refine Kd.N_append (Kd.slice 23 k23) (w0 := w) w.heap.size rfl (.tmp 26) (.tmp 30) 42 27 (.slice none 0 0) 24 rfl Try.underlying42 info27 rfl (by decide) (by omega) u3 x3_1 y159 [.slice (some ad157) y159.length co3] (fun k_ => (P0_ k_ ∨ w.heap.size ≤ k_)) (fun k_ => ((fun k_ => (P0_ k_ ∨ w.heap.size ≤ k_))) k_ ∧ some k_ ≠ (u3 : Value).ownBlock) rfl rfl ?aP (fun _ hk => hk) ?aF ?aO ?aB ?aS ?aL ?_; (case aP => exact (Kd.FK_slice_mk (Kd.V_reads' (Kd.V_mono (ok' := (fun k_ => ((fun k_ => (P0_ k_ ∨ w.heap.size ≤ k_))) k_ ∧ some k_ ≠ (u3 : Value).ownBlock)) (HO163.out) (fun k_ hk => ⟨hk.1, hk.2⟩))).2.1 (Kd.V_F (by first | exact (Kd.V_mono (ok' := (fun k_ => ((fun k_ => (P0_ k_ ∨ w.heap.size ≤ k_))) k_ ∧ some k_ ≠ (u3 : Value).ownBlock)) (HO163.out) (fun k_ hk => ⟨hk.1, hk.2⟩)) | exact (Kd.V_mono (ok' := (fun k_ => ((fun k_ => (P0_ k_ ∨ w.heap.size ≤ k_))) k_ ∧ some k_ ≠ (u3 : Value).ownBlock)) (Kd.V_drewN HO163.out _) (fun k_ hk => ⟨hk.1, hk.2⟩)))))); (case aB => exact (by repeat (first | (with_reducible first | exact HB.out | apply below_alloc | apply pw_below_drewN | apply below_drew1) | exact HB.out))); (case aF => exact (fun k_ hk => (.inr (Nat.le_trans (below_size (by repeat (first | (with_reducible first | exact HB.out | apply below_alloc | apply pw_below_drewN | apply below_drew1) | exact HB.out))) hk)))); (case aO => exact (by (with_reducible repeat (first | apply Kd.N_alloc | apply Kd.N_drewN | apply Kd.N_drew)); exact HO_3.out)); (case aS => exact (below_size (by repeat (first | (with_reducible first | exact HB.out | apply below_alloc | apply pw_below_drewN | apply below_drew1) | exact HB.out)))); (case aL => have := LMc10.out; omega); intro v165 w14 ho hb hg hat; rw [← Ny164.out] at ho; have n0_ := Aside0.mk (Kd.V_afterv (ok := (fun k_ => (P0_ k_ ∨ w.heap.size ≤ k_))) (by (with_reducible repeat (first | apply Kd.V_alloc | apply Kd.V_drewN | apply Kd.V_drew)); exact HO_0.out) hg hat); have n1_ := Aside0.mk (Kd.V_afterv (ok := (fun k_ => (P0_ k_ ∨ w.heap.size ≤ k_))) (by (with_reducible repeat (first | apply Kd.V_alloc | apply Kd.V_drewN | apply Kd.V_drew)); exact HO163.out) hg hat); have n2_ := Aside0.mk (hb); have n3_ := Aside0.mk (ho); clear HO_0; clear HO163; clear HB; clear HO_3; have HO_0 := n0_; have HO163 := n1_; have HB := n2_; have HO166 := n3_; clear n0_ n1_ n2_ n3_; clear ho hb hg hat; have q15 : (x4_2 : Int) ≤ ((x0_1.length : Int) : Int) := of_decide_eq_true (by first | (with_reducible assumption) | assumption); obtain ⟨i015, hi015, _, hsz15, _⟩ := info_parts info23; have hroom15 : x0_1.length ≤ co3 := (Kd.V_reads' HO_0.out).2.1; have hC15 : Kd.F k23 _ _ (some ad157) x0_1.length x0_1 := (Kd.V_at (base := w.heap.size) HO_0.out).2.2; have q015 : (0 : Int) ≤ (x4_2 : Int) := of_decide_eq_true (by first | (with_reducible assumption) | assumption); have hcut15 := cut_from (P := Try.prog) 27 23 .i64 Try.underlying27 hi015 5 hsz15 (some ad157) x0_1.length co3 x4_2 q015 q15; have hr15 := Kd.F_cut (m := (x4_2 : Int).toNat) (c := co3) hC15 (by omega) hroom15; obtain ⟨A15, hA15⟩ : ∃ A1, A1 = (if co3 = (x4_2 : Int).toNat then (some ad157) else ((some ad157) : Option Addr).map (·.add ((x4_2 : Int).toNat * 5))) := ⟨_, rfl⟩; obtain ⟨c15, hc15⟩ : ∃ c1, c1 = co3 - (x4_2 : Int).toNat := ⟨_, rfl⟩; have hy15 : y167.length = x0_1.length - (x4_2 : Int).toNat := (by rw [Ny167.out, List.length_drop] <;> omega); rw [show (x0_1).drop (x4_2 : Int).toNat = y167 from Ny167.out.symm] at hr15; replace hr15 : Kd.F k23 _ _ A15 y167.length y167 := (by rw [hA15]; exact hr15); rw [← hy15, ← hA15, ← hc15] at hcut15; have HO171 := Aside0.mk (show Kd.V k23 23 _ w.heap.size _ (.slice A15 y167.length c15) y167 from Kd.V_mk (by rw [hy15, hc15]; exact Nat.sub_le_sub_right hroom15 _) hr15); have HC171 := Aside0.mk (show y167.length ≤ c15 from by rw [hy15, hc15]; exact Nat.sub_le_sub_right hroom15 _); clear hr15 hC15 hroom15 hi015 hsz15 hc15; have KY15 := Aside0.mk hy15; have KA15 := Aside0.mk hA15; clear hy15 hA15; replace q15 := eq_true q15)))
                        go_roundg k2
                        case measure => have := HK1.out; have := HK2.out; omega
                        case rel => exact ⟨(y167), (y164), H', ⟨by have := HK1.out; have := HK2.out; omega⟩, ⟨by (with_reducible repeat (first | apply Kd.V_alloc | apply Kd.V_drewN | apply Kd.V_drew)); exact HO171.out⟩, ⟨by (with_reducible repeat (first | apply Kd.N_alloc | apply Kd.N_drewN | apply Kd.N_drew)); exact HO166.out⟩, ⟨by repeat (first | (with_reducible first | exact HB.out | apply below_alloc | apply pw_below_drewN | apply below_drew1) | exact HB.out)⟩⟩
                      · rw [if_neg c10] at H
                        exact absurd H (by simp)
                    · rw [if_neg c9] at H
                      exact absurd H (by simp)
                · rw [if_neg c6] at H
                  exact absurd H (by simp)
              · rw [if_neg c5] at H
                exact absurd H (by simp)
            · rw [if_neg c4] at H
              have c4b0 : decide (x4_2 < (x0_1.length : Int)) = false := decide_eq_false c4
              clear c4
              by_cases c16 : 0 ≤ x4_2
              · rw [if_pos c16] at H
                have c16b0 := eq_true c16
                have c16b1 : decide (0 ≤ x4_2) = true := decide_eq_true c16
                clear c16
                by_cases c17 : x4_2 ≤ (x0_1.length : Int)
                · rw [if_pos c17] at H
                  have c17b0 := eq_true c17
                  have c17b1 : decide (x4_2 ≤ (x0_1.length : Int)) = true := decide_eq_true c17
                  clear c17
                  obtain ⟨y172, hy172⟩ : ∃ y_ : List (S23), y_ = (x0_1.take (x4_2 : Int).toNat) := ⟨_, rfl⟩
                  replace H : (if x3_1.length < 5864062014805 then (drop_keys.l0 k2 (x0_1.drop (x4_2 : Int).toNat) (x3_1 ++ [y172])) else (none)) = some r := by first | (rw [hy172]; with_reducible exact H) | (have H2_ := (Option.bind_some _ _).symm.trans H; rw [hy172]; with_reducible exact H2_) | (have H2_ := (Option.bind_some _ _).symm.trans H; with_reducible exact H2_) | with_reducible exact H | (rw [hy172]; exact H) | exact H
                  have Ny172 := Aside0.mk hy172
                  clear hy172
                  by_cases c18 : x3_1.length < 5864062014805
                  · rw [if_pos c18] at H
                    have LMc18 := Aside0.mk c18
                    clear c18
                    obtain ⟨y177, hy177⟩ : ∃ y_ : List (List (S23)), y_ = (x3_1 ++ [y172]) := ⟨_, rfl⟩
                    replace H : (drop_keys.l0 k2 (x0_1.drop (x4_2 : Int).toNat) y177) = some r := by first | (rw [hy177]; with_reducible exact H) | (have H2_ := (Option.bind_some _ _).symm.trans H; rw [hy177]; with_reducible exact H2_) | (have H2_ := (Option.bind_some _ _).symm.trans H; with_reducible exact H2_) | with_reducible exact H | (rw [hy177]; exact H) | exact H
                    have Ny177 := Aside0.mk hy177
                    clear hy177
                    have c19b0 := eq_true (of_decide_eq_true (by first | (with_reducible assumption) | assumption) : 0 ≤ x4_2)
                    have c20b0 := eq_true (of_decide_eq_true (by first | (with_reducible assumption) | assumption) : x4_2 ≤ (x0_1.length : Int))
                    obtain ⟨y180, hy180⟩ : ∃ y_ : List (S23), y_ = (x0_1.drop (x4_2 : Int).toNat) := ⟨_, rfl⟩
                    replace H : (drop_keys.l0 k2 y180 y177) = some r := by first | (rw [hy180]; with_reducible exact H) | (have H2_ := (Option.bind_some _ _).symm.trans H; rw [hy180]; with_reducible exact H2_) | (have H2_ := (Option.bind_some _ _).symm.trans H; with_reducible exact H2_) | with_reducible exact H | (rw [hy180]; exact H) | exact H
                    have Ny180 := Aside0.mk hy180
                    clear hy180
                    have H' := Aside0.mk H
                    clear H
                    have q21 : (x4_2 : Int) ≤ ((x0_1.length : Int) : Int) := of_decide_eq_true (by first | (with_reducible assumption) | assumption)
                    obtain ⟨i021, hi021, _, hsz21, _⟩ := info_parts info23
                    have hroom21 : x0_1.length ≤ co3 := (Kd.V_reads' HO_0.out).2.1
                    have hC21 : Kd.F k23 _ _ Ao3 x0_1.length x0_1 := (Kd.V_at (base := w.heap.size) HO_0.out).2.2
                    have hcut21 := cut_to (P := Try.prog) 27 23 .i64 Try.underlying27 hi021 Ao3 x0_1.length co3 x4_2 (of_decide_eq_true (by first | (with_reducible assumption) | assumption)) q21 hroom21
                    have hr21 := Kd.F_take (m := (x4_2 : Int).toNat) hC21 (by omega)
                    have hy21 : y172.length = (x4_2 : Int).toNat := (by rw [Ny172.out, List.length_take]; omega)
                    rw [← Ny172.out] at hr21
                    rw [← hy21] at hcut21
                    have HO176 := Aside0.mk (show Kd.V k23 23 _ w.heap.size _ (.slice Ao3 y172.length co3) y172 from Kd.V_mk (by omega) hr21)
                    have HC176 := Aside0.mk (show y172.length ≤ co3 from by omega)
                    clear hr21 hC21 hroom21 hi021 hsz21
                    have KY21 := Aside0.mk hy21
                    clear hy21
                    replace q21 := eq_true q21
                    go_wp2_with (first | ((with_reducible refine gate_builtin (b := .append) (xs := #[.tmp 26, .tmp 30]) rfl ?_); at_builtin; refine Kd.N_append (Kd.slice 23 k23) (w0 := w) w.heap.size rfl (.tmp 26) (.tmp 30) 42 27 (.slice none 0 0) 24 rfl Try.underlying42 info27 rfl (by decide) (by omega) u3 x3_1 y172 [.slice Ao3 y172.length co3] (fun k_ => (P0_ k_ ∨ w.heap.size ≤ k_)) (fun k_ => ((fun k_ => (P0_ k_ ∨ w.heap.size ≤ k_))) k_ ∧ some k_ ≠ (u3 : Value).ownBlock) rfl rfl ?aP (fun _ hk => hk) ?aF ?aO ?aB ?aS ?aL ?_; (case aP => exact (Kd.FK_slice_mk (Kd.V_reads' (Kd.V_mono (ok' := (fun k_ => ((fun k_ => (P0_ k_ ∨ w.heap.size ≤ k_))) k_ ∧ some k_ ≠ (u3 : Value).ownBlock)) (HO176.out) (fun k_ hk => ⟨hk.1, hk.2⟩))).2.1 (Kd.V_F (by first | exact (Kd.V_mono (ok' := (fun k_ => ((fun k_ => (P0_ k_ ∨ w.heap.size ≤ k_))) k_ ∧ some k_ ≠ (u3 : Value).ownBlock)) (HO176.out) (fun k_ hk => ⟨hk.1, hk.2⟩)) | exact (Kd.V_mono (ok' := (fun k_ => ((fun k_ => (P0_ k_ ∨ w.heap.size ≤ k_))) k_ ∧ some k_ ≠ (u3 : Value).ownBlock)) (Kd.V_drewN HO176.out _) (fun k_ hk => ⟨hk.1, hk.2⟩)))))); (case aB => exact (by repeat (first | (with_reducible first | exact HB.out | apply below_alloc | apply pw_below_drewN | apply below_drew1) | exact HB.out))); (case aF => exact (fun k_ hk => (.inr (Nat.le_trans (below_size (by repeat (first | (with_reducible first | exact HB.out | apply below_alloc | apply pw_below_drewN | apply below_drew1) | exact HB.out))) hk)))); (case aO => exact (by (with_reducible repeat (first | apply Kd.N_alloc | apply Kd.N_drewN | apply Kd.N_drew)); exact HO_3.out)); (case aS => exact (below_size (by repeat (first | (with_reducible first | exact HB.out | apply below_alloc | apply pw_below_drewN | apply below_drew1) | exact HB.out)))); (case aL => have := LMc18.out; omega); intro v178 w22 ho hb hg hat; rw [← Ny177.out] at ho; have n0_ := Aside0.mk (Kd.V_afterv (ok := (fun k_ => (P0_ k_ ∨ w.heap.size ≤ k_))) (by (with_reducible repeat (first | apply Kd.V_alloc | apply Kd.V_drewN | apply Kd.V_drew)); exact HO_0.out) hg hat); have n1_ := Aside0.mk (Kd.V_afterv (ok := (fun k_ => (P0_ k_ ∨ w.heap.size ≤ k_))) (by (with_reducible repeat (first | apply Kd.V_alloc | apply Kd.V_drewN | apply Kd.V_drew)); exact HO176.out) hg hat); have n2_ := Aside0.mk (hb); have n3_ := Aside0.mk (ho); clear HO_0; clear HO176; clear HB; clear HO_3; have HO_0 := n0_; have HO176 := n1_; have HB := n2_; have HO179 := n3_; clear n0_ n1_ n2_ n3_; clear ho hb hg hat; have q23 : (x4_2 : Int) ≤ ((x0_1.length : Int) : Int) := of_decide_eq_true (by first | (with_reducible assumption) | assumption); obtain ⟨i023, hi023, _, hsz23, _⟩ := info_parts info23; have hroom23 : x0_1.length ≤ co3 := (Kd.V_reads' HO_0.out).2.1; have hC23 : Kd.F k23 _ _ Ao3 x0_1.length x0_1 := (Kd.V_at (base := w.heap.size) HO_0.out).2.2; have q023 : (0 : Int) ≤ (x4_2 : Int) := of_decide_eq_true (by first | (with_reducible assumption) | assumption); have hcut23 := cut_from (P := Try.prog) 27 23 .i64 Try.underlying27 hi023 5 hsz23 Ao3 x0_1.length co3 x4_2 q023 q23; have hr23 := Kd.F_cut (m := (x4_2 : Int).toNat) (c := co3) hC23 (by omega) hroom23; obtain ⟨A23, hA23⟩ : ∃ A1, A1 = (if co3 = (x4_2 : Int).toNat then Ao3 else (Ao3 : Option Addr).map (·.add ((x4_2 : Int).toNat * 5))) := ⟨_, rfl⟩; obtain ⟨c23, hc23⟩ : ∃ c1, c1 = co3 - (x4_2 : Int).toNat := ⟨_, rfl⟩; have hy23 : y180.length = x0_1.length - (x4_2 : Int).toNat := (by rw [Ny180.out, List.length_drop] <;> omega); rw [show (x0_1).drop (x4_2 : Int).toNat = y180 from Ny180.out.symm] at hr23; replace hr23 : Kd.F k23 _ _ A23 y180.length y180 := (by rw [hA23]; exact hr23); rw [← hy23, ← hA23, ← hc23] at hcut23; have HO184 := Aside0.mk (show Kd.V k23 23 _ w.heap.size _ (.slice A23 y180.length c23) y180 from Kd.V_mk (by rw [hy23, hc23]; exact Nat.sub_le_sub_right hroom23 _) hr23); have HC184 := Aside0.mk (show y180.length ≤ c23 from by rw [hy23, hc23]; exact Nat.sub_le_sub_right hroom23 _); clear hr23 hC23 hroom23 hi023 hsz23 hc23; have KY23 := Aside0.mk hy23; have KA23 := Aside0.mk hA23; clear hy23 hA23; replace q23 := eq_true q23))
                    repeat (go_quiet (first | ((with_reducible refine gate_builtin (b := .append) (xs := #[.tmp 26, .tmp 30]) rfl ?_); at_builtin; refine Kd.N_append (Kd.slice 23 k23) (w0 := w) w.heap.size rfl (.tmp 26) (.tmp 30) 42 27 (.slice none 0 0) 24 rfl Try.underlying42 info27 rfl (by decide) (by omega) u3 x3_1 y172 [.slice Ao3 y172.length co3] (fun k_ => (P0_ k_ ∨ w.heap.size ≤ k_)) (fun k_ => ((fun k_ => (P0_ k_ ∨ w.heap.size ≤ k_))) k_ ∧ some k_ ≠ (u3 : Value).ownBlock) rfl rfl ?aP (fun _ hk => hk) ?aF ?aO ?aB ?aS ?aL ?_; (case aP => exact (Kd.FK_slice_mk (Kd.V_reads' (Kd.V_mono (ok' := (fun k_ => ((fun k_ => (P0_ k_ ∨ w.heap.size ≤ k_))) k_ ∧ some k_ ≠ (u3 : Value).ownBlock)) (HO176.out) (fun k_ hk => ⟨hk.1, hk.2⟩))).2.1 (Kd.V_F (by first | exact (Kd.V_mono (ok' := (fun k_ => ((fun k_ => (P0_ k_ ∨ w.heap.size ≤ k_))) k_ ∧ some k_ ≠ (u3 : Value).ownBlock)) (HO176.out) (fun k_ hk => ⟨hk.1, hk.2⟩)) | exact (Kd.V_mono (ok' := (fun k_ => ((fun k_ => (P0_ k_ ∨ w.heap.size ≤ k_))) k_ ∧ some k_ ≠ (u3 : Value).ownBlock)) (Kd.V_drewN HO176.out _) (fun k_ hk => ⟨hk.1, hk.2⟩)))))); (case aB => exact (by repeat (first | (with_reducible first | exact HB.out | apply below_alloc | apply pw_below_drewN | apply below_drew1) | exact HB.out))); (case aF => exact (fun k_ hk => (.inr (Nat.le_trans (below_size (by repeat (first | (with_reducible first | exact HB.out | apply below_alloc | apply pw_below_drewN | apply below_drew1) | exact HB.out))) hk)))); (case aO => exact (by (with_reducible repeat (first | apply Kd.N_alloc | apply Kd.N_drewN | apply Kd.N_drew)); exact HO_3.out)); (case aS => exact (below_size (by repeat (first | (with_reducible first | exact HB.out | apply below_alloc | apply pw_below_drewN | apply below_drew1) | exact HB.out)))); (case aL => have := LMc18.out; omega); intro v178 w22 ho hb hg hat; rw [← Ny177.out] at ho; have n0_ := Aside0.mk (Kd.V_afterv (ok := (fun k_ => (P0_ k_ ∨ w.heap.size ≤ k_))) (by (with_reducible repeat (first | apply Kd.V_alloc | apply Kd.V_drewN | apply Kd.V_drew)); exact HO_0.out) hg hat); have n1_ := Aside0.mk (Kd.V_afterv (ok := (fun k_ => (P0_ k_ ∨ w.heap.size ≤ k_))) (by (with_reducible repeat (first | apply Kd.V_alloc | apply Kd.V_drewN | apply Kd.V_drew)); exact HO176.out) hg hat); have n2_ := Aside0.mk (hb); have n3_ := Aside0.mk (ho); clear HO_0; clear HO176; clear HB; clear HO_3; have HO_0 := n0_; have HO176 := n1_; have HB := n2_; have HO179 := n3_; clear n0_ n1_ n2_ n3_; clear ho hb hg hat; have q23 : (x4_2 : Int) ≤ ((x0_1.length : Int) : Int) := of_decide_eq_true (by first | (with_reducible assumption) | assumption); obtain ⟨i023, hi023, _, hsz23, _⟩ := info_parts info23; have hroom23 : x0_1.length ≤ co3 := (Kd.V_reads' HO_0.out).2.1; have hC23 : Kd.F k23 _ _ Ao3 x0_1.length x0_1 := (Kd.V_at (base := w.heap.size) HO_0.out).2.2; have q023 : (0 : Int) ≤ (x4_2 : Int) := of_decide_eq_true (by first | (with_reducible assumption) | assumption); have hcut23 := cut_from (P := Try.prog) 27 23 .i64 Try.underlying27 hi023 5 hsz23 Ao3 x0_1.length co3 x4_2 q023 q23; have hr23 := Kd.F_cut (m := (x4_2 : Int).toNat) (c := co3) hC23 (by omega) hroom23; obtain ⟨A23, hA23⟩ : ∃ A1, A1 = (if co3 = (x4_2 : Int).toNat then Ao3 else (Ao3 : Option Addr).map (·.add ((x4_2 : Int).toNat * 5))) := ⟨_, rfl⟩; obtain ⟨c23, hc23⟩ : ∃ c1, c1 = co3 - (x4_2 : Int).toNat := ⟨_, rfl⟩; have hy23 : y180.length = x0_1.length - (x4_2 : Int).toNat := (by rw [Ny180.out, List.length_drop] <;> omega); rw [show (x0_1).drop (x4_2 : Int).toNat = y180 from Ny180.out.symm] at hr23; replace hr23 : Kd.F k23 _ _ A23 y180.length y180 := (by rw [hA23]; exact hr23); rw [← hy23, ← hA23, ← hc23] at hcut23; have HO184 := Aside0.mk (show Kd.V k23 23 _ w.heap.size _ (.slice A23 y180.length c23) y180 from Kd.V_mk (by rw [hy23, hc23]; exact Nat.sub_le_sub_right hroom23 _) hr23); have HC184 := Aside0.mk (show y180.length ≤ c23 from by rw [hy23, hc23]; exact Nat.sub_le_sub_right hroom23 _); clear hr23 hC23 hroom23 hi023 hsz23 hc23; have KY23 := Aside0.mk hy23; have KA23 := Aside0.mk hA23; clear hy23 hA23; replace q23 := eq_true q23)); try go_wp2_with (first | ((with_reducible refine gate_builtin (b := .append) (xs := #[.tmp 26, .tmp 30]) rfl ?_); at_builtin; refine Kd.N_append (Kd.slice 23 k23) (w0 := w) w.heap.size rfl (.tmp 26) (.tmp 30) 42 27 (.slice none 0 0) 24 rfl Try.underlying42 info27 rfl (by decide) (by omega) u3 x3_1 y172 [.slice Ao3 y172.length co3] (fun k_ => (P0_ k_ ∨ w.heap.size ≤ k_)) (fun k_ => ((fun k_ => (P0_ k_ ∨ w.heap.size ≤ k_))) k_ ∧ some k_ ≠ (u3 : Value).ownBlock) rfl rfl ?aP (fun _ hk => hk) ?aF ?aO ?aB ?aS ?aL ?_; (case aP => exact (Kd.FK_slice_mk (Kd.V_reads' (Kd.V_mono (ok' := (fun k_ => ((fun k_ => (P0_ k_ ∨ w.heap.size ≤ k_))) k_ ∧ some k_ ≠ (u3 : Value).ownBlock)) (HO176.out) (fun k_ hk => ⟨hk.1, hk.2⟩))).2.1 (Kd.V_F (by first | exact (Kd.V_mono (ok' := (fun k_ => ((fun k_ => (P0_ k_ ∨ w.heap.size ≤ k_))) k_ ∧ some k_ ≠ (u3 : Value).ownBlock)) (HO176.out) (fun k_ hk => ⟨hk.1, hk.2⟩)) | exact (Kd.V_mono (ok' := (fun k_ => ((fun k_ => (P0_ k_ ∨ w.heap.size ≤ k_))) k_ ∧ some k_ ≠ (u3 : Value).ownBlock)) (Kd.V_drewN HO176.out _) (fun k_ hk => ⟨hk.1, hk.2⟩)))))); (case aB => exact (by repeat (first | (with_reducible first | exact HB.out | apply below_alloc | apply pw_below_drewN | apply below_drew1) | exact HB.out))); (case aF => exact (fun k_ hk => (.inr (Nat.le_trans (below_size (by repeat (first | (with_reducible first | exact HB.out | apply below_alloc | apply pw_below_drewN | apply below_drew1) | exact HB.out))) hk)))); (case aO => exact (by (with_reducible repeat (first | apply Kd.N_alloc | apply Kd.N_drewN | apply Kd.N_drew)); exact HO_3.out)); (case aS => exact (below_size (by repeat (first | (with_reducible first | exact HB.out | apply below_alloc | apply pw_below_drewN | apply below_drew1) | exact HB.out)))); (case aL => have := LMc18.out; omega); intro v178 w22 ho hb hg hat; rw [← Ny177.out] at ho; have n0_ := Aside0.mk (Kd.V_afterv (ok := (fun k_ => (P0_ k_ ∨ w.heap.size ≤ k_))) (by (with_reducible repeat (first | apply Kd.V_alloc | apply Kd.V_drewN | apply Kd.V_drew)); exact HO_0.out) hg hat); have n1_ := Aside0.mk (Kd.V_afterv (ok := (fun k_ => (P0_ k_ ∨ w.heap.size ≤ k_))) (by (with_reducible repeat (first | apply Kd.V_alloc | apply Kd.V_drewN | apply Kd.V_drew)); exact HO176.out) hg hat); have n2_ := Aside0.mk (hb); have n3_ := Aside0.mk (ho); clear HO_0; clear HO176; clear HB; clear HO_3; have HO_0 := n0_; have HO176 := n1_; have HB := n2_; have HO179 := n3_; clear n0_ n1_ n2_ n3_; clear ho hb hg hat; have q23 : (x4_2 : Int) ≤ ((x0_1.length : Int) : Int) := of_decide_eq_true (by first | (with_reducible assumption) | assumption); obtain ⟨i023, hi023, _, hsz23, _⟩ := info_parts info23; have hroom23 : x0_1.length ≤ co3 := (Kd.V_reads' HO_0.out).2.1; have hC23 : Kd.F k23 _ _ Ao3 x0_1.length x0_1 := (Kd.V_at (base := w.heap.size) HO_0.out).2.2; have q023 : (0 : Int) ≤ (x4_2 : Int) := of_decide_eq_true (by first | (with_reducible assumption) | assumption); have hcut23 := cut_from (P := Try.prog) 27 23 .i64 Try.underlying27 hi023 5 hsz23 Ao3 x0_1.length co3 x4_2 q023 q23; have hr23 := Kd.F_cut (m := (x4_2 : Int).toNat) (c := co3) hC23 (by omega) hroom23; obtain ⟨A23, hA23⟩ : ∃ A1, A1 = (if co3 = (x4_2 : Int).toNat then Ao3 else (Ao3 : Option Addr).map (·.add ((x4_2 : Int).toNat * 5))) := ⟨_, rfl⟩; obtain ⟨c23, hc23⟩ : ∃ c1, c1 = co3 - (x4_2 : Int).toNat := ⟨_, rfl⟩; have hy23 : y180.length = x0_1.length - (x4_2 : Int).toNat := (by rw [Ny180.out, List.length_drop] <;> omega); rw [show (x0_1).drop (x4_2 : Int).toNat = y180 from Ny180.out.symm] at hr23; replace hr23 : Kd.F k23 _ _ A23 y180.length y180 := (by rw [hA23]; exact hr23); rw [← hy23, ← hA23, ← hc23] at hcut23; have HO184 := Aside0.mk (show Kd.V k23 23 _ w.heap.size _ (.slice A23 y180.length c23) y180 from Kd.V_mk (by rw [hy23, hc23]; exact Nat.sub_le_sub_right hroom23 _) hr23); have HC184 := Aside0.mk (show y180.length ≤ c23 from by rw [hy23, hc23]; exact Nat.sub_le_sub_right hroom23 _); clear hr23 hC23 hroom23 hi023 hsz23 hc23; have KY23 := Aside0.mk hy23; have KA23 := Aside0.mk hA23; clear hy23 hA23; replace q23 := eq_true q23)))
                    go_roundg k2
                    case measure => have := HK1.out; have := HK2.out; omega
                    case rel => exact ⟨(y180), (y177), H', ⟨by have := HK1.out; have := HK2.out; omega⟩, ⟨by (with_reducible repeat (first | apply Kd.V_alloc | apply Kd.V_drewN | apply Kd.V_drew)); exact HO184.out⟩, ⟨by (with_reducible repeat (first | apply Kd.N_alloc | apply Kd.N_drewN | apply Kd.N_drew)); exact HO179.out⟩, ⟨by repeat (first | (with_reducible first | exact HB.out | apply below_alloc | apply pw_below_drewN | apply below_drew1) | exact HB.out)⟩⟩
                  · rw [if_neg c18] at H
                    exact absurd H (by simp)
                · rw [if_neg c17] at H
                  exact absurd H (by simp)
              · rw [if_neg c16] at H
                exact absurd H (by simp)
      · rw [if_neg c2] at H
        have c2b0 : decide (0 < (x0_1.length : Int)) = false := decide_eq_false c2
        have c2b1 : decide (0 < x0_1.length) = false := decide_eq_false (by omega)
        clear c2
        obtain rfl := Option.some.inj H
        simp only [Option.some.injEq, Prod.mk.injEq] at H
        obtain ⟨rfl⟩ := H
        obtain ⟨Ao24, co24, eo24⟩ := Kd.V_slice HO_0.out
        subst eo24
        go_wp2
        repeat (go_quiet (fail); try go_wp2)
        go_ret
        exact ⟨_, by first | rfl | (simp [errW_none, errW_some] <;> rfl) | (simp [*, errW_none, errW_some] <;> rfl), by (with_reducible repeat (first | apply Kd.N_alloc | apply Kd.N_drewN | apply Kd.N_drew)); exact HO_3.out, by repeat (first | (with_reducible first | exact HB.out | apply below_alloc | apply pw_below_drewN | apply below_drew1) | exact HB.out)⟩

-- NOT PRINTED: function 52 (api_Entry_52)

-- NOT PRINTED: function 65 (api_Entry_65)

-- NOT PRINTED: function 77 (slices_IndexFunc_int64_int64)

-- NOT PRINTED: function 68 (slices_ContainsFunc_int64_int64)

/-! ### drop_versions: function 49, by hand, with slices.IndexFunc, slices.ContainsFunc, drop.seen and the closures (types 2, 3, 23, 27, 35 are seat b's) -/
/-- The first of which it holds. -/
def idxB {α : Type} (p : α → Bool) : List α → Int → Int
  | [], _ => -1
  | x :: t, i => if p x then i else idxB p t (i + 1)
theorem idxB_hit {α : Type} (p : α → Bool) (z : α) : ∀ (xs : List α) (j : Nat) (i : Int), j < xs.length → (∀ m, m < j → p (xs.getD m z) = false) → p (xs.getD j z) = true → idxB p xs i = i + j
  | [], j, i, h, _, _ => by simp at h
  | x :: t, 0, i, h, _, h2 => by
    have h2' : p x = true := by simpa using h2
    simp [idxB, h2']
  | x :: t, j + 1, i, h, h1, h2 => by
    have h0 : p x = false := by simpa using h1 0 (by omega)
    have := idxB_hit p z t j (i + 1) (by simpa using h) (fun m hm => by simpa using h1 (m + 1) (by omega)) (by simpa using h2)
    simp only [idxB, h0, Bool.false_eq_true, if_false, this]
    omega
theorem idxB_miss {α : Type} (p : α → Bool) (z : α) : ∀ (xs : List α) (i : Int), (∀ m, m < xs.length → p (xs.getD m z) = false) → idxB p xs i = -1
  | [], i, _ => rfl
  | x :: t, i, h => by
    have h0 : p x = false := by simpa using h 0 (by simp)
    simp only [idxB, h0, Bool.false_eq_true, if_false]
    exact idxB_miss p z t (i + 1) (fun m hm => by simpa using h (m + 1) (by simpa using hm))
theorem idxB_any {α : Type} (p : α → Bool) : ∀ (xs : List α) (i : Int), 0 ≤ i → decide (idxB p xs i ≥ 0) = xs.any p
  | [], i, _ => by simp [idxB]
  | x :: t, i, h => by
    cases hp : p x with
    | true => simp [idxB, hp]; exact h
    | false => simp only [idxB, hp, Bool.false_eq_true, if_false, List.any_cons, Bool.false_or]; exact idxB_any p t (i + 1) (by omega)
/-- What a function value tells of an entry, in every later world. -/
def PredE (g : Nat) (lb : Array Value) (w : World) (p : S23 → Bool) : Prop := ∀ (W : World) (x : S23), Below w.heap.size w W → Calls Try.prog g (#[.agg #[.string x.f0, .int .i64 x.f1, .int .i64 x.f2, .string x.f3, .string x.f4]] ++ lb) W fun e w' => e = .returned (.bool (p x)) ∧ Below W.heap.size W w'
/-- What a function value tells of a number. -/
def PredI (g : Nat) (lb : Array Value) (w : World) (p : Int → Bool) : Prop := ∀ (W : World) (x : Int), Below w.heap.size w W → Calls Try.prog g (#[.int .i64 x] ++ lb) W fun e w' => e = .returned (.bool (p x)) ∧ Below W.heap.size W w'
set_option maxHeartbeats 4000000 in
theorem IndexFuncE.calls (g : Nat) (lb : Array Value) (eg : ∀ args w, (callFunc g args).run Try.prog w = .ok (.enter g args) w) (p : S23 → Bool) (A : Option Addr) (c : Nat) (l : List S23) (w : World) (hr : Kd.C k23 w A l.length l) (hp : PredE g lb w p) :
    Calls Try.prog 52 #[.slice A l.length c, .func (.func g) #[] lb] w fun e w' => e = .returned (.int .i64 (idxB p l 0)) ∧ Below w.heap.size w w' := by
  have hu23 := Try.underlying23
  have HR := Aside0.mk hr
  have HP := Aside0.mk hp
  have hmax := Kd.C_max hr
  clear hr hp
  go_enter Try.func52, Try.ntmps52
  go_wp2
  go_loopg [5, 8] l.length (fun gg _ s8 wr => ∃ j : Nat, s8 = .int .i64 j ∧ j + gg = l.length ∧ Aside0 (Below w.heap.size w wr) ∧ Aside0 (∀ m, m < j → p (l.getD m z23) = false))
  case atStart => exact ⟨0, rfl, by omega, ⟨Below.refl _ w⟩, ⟨fun m hm => absurd hm (Nat.not_lt_zero _)⟩⟩
  case round =>
    obtain ⟨j, rfl, hk, HB, HA⟩ := hrel
    cases gk with
    | zero =>
      have hlt : ((j : Int) < (l.length : Int)) = False := eq_false (by omega)
      go_wp2
      go_ret
      exact ⟨by rw [idxB_miss p z23 l 0 (fun m hm => HA.out m (by omega))]; rfl, HB.out⟩
    | succ gk =>
      have hlt : ((j : Int) < (l.length : Int)) = True := eq_true (by omega)
      have hlt1 : (j < l.length) = True := eq_true (by omega)
      have hj0 : ((0 : Int) ≤ (j : Int)) = True := eq_true (by omega)
      obtain ⟨ad, rfl, g0, g1, g2, g3, g4⟩ := at_T23 (Kd.C_below HR.out HB.out) (j : Int) (by omega) (by omega)
      rw [Int.toNat_natCast] at g0
      simp only [Int.toNat_natCast] at g1 g2 g3 g4
      have hcall := HP.out wr (rd_T23 l (j : Int)) HB.out
      have hw64 : Aside0 (wrap64 ((j : Int) + 1) = ((j + 1 : Nat) : Int)) := ⟨by unfold wrap64; omega⟩
      obtain ⟨y, hy⟩ : ∃ y, Aside0 (y = rd_T23 l (j : Int)) := ⟨_, ⟨rfl⟩⟩
      rw [← hy.out] at hcall g0 g1 g2 g3 g4
      cases hq : p y with
      | true =>
        rw [hq] at hcall
        have HC := Aside0.mk hcall
        have HQ := Aside0.mk hq
        clear hcall hq
        go_wp2_with (fail)
        refine HC.out.mono ?_
        rintro e w' ⟨rfl, hb'⟩
        have HB' := Aside0.mk (below_step HB.out hb')
        clear hb'
        go_wp2
        go_ret
        refine ⟨?_, HB'.out⟩
        rw [idxB_hit p z23 l j 0 (by omega) HA.out (by have h_ := HQ.out; rw [hy.out] at h_; simpa [rd_T23] using h_)]
        simp
      | false =>
        rw [hq] at hcall
        have HC := Aside0.mk hcall
        have HQ := Aside0.mk hq
        clear hcall hq
        go_wp2_with (fail)
        refine HC.out.mono ?_
        rintro e w' ⟨rfl, hb'⟩
        have HB' := Aside0.mk (below_step HB.out hb')
        clear hb'
        go_wp2
        go_roundg gk
        case measure => omega
        case rel =>
          refine ⟨j + 1, by first | rw [hw64.out] | rfl, by omega, HB', ⟨fun m hm => ?_⟩⟩
          by_cases e : m = j
          · subst e; have h_ := HQ.out; rw [hy.out] at h_; simpa [rd_T23] using h_
          · exact HA.out m (by omega)
set_option maxHeartbeats 4000000 in
theorem ContainsFuncE.calls (g : Nat) (lb : Array Value) (eg : ∀ args w, (callFunc g args).run Try.prog w = .ok (.enter g args) w) (p : S23 → Bool) (A : Option Addr) (c : Nat) (l : List S23) (w : World) (hr : Kd.C k23 w A l.length l) (hp : PredE g lb w p) :
    Calls Try.prog 65 #[.slice A l.length c, .func (.func g) #[] lb] w fun e w' => e = .returned (.bool (l.any p)) ∧ Below w.heap.size w w' := by
  have HR := Aside0.mk hr
  have HP := Aside0.mk hp
  have HI := Aside0.mk (idxB_any p l 0 (Int.le_refl _))
  clear hr hp
  go_enter Try.func65, Try.ntmps65
  go_wp2_with (fail)
  refine (IndexFuncE.calls g lb eg p A c l _ HR.out HP.out).mono ?_
  rintro e w' ⟨rfl, hb'⟩
  have HB' := Aside0.mk hb'
  clear hb'
  go_wp2
  go_ret
  exact ⟨by first | (rw [← HI.out]; done) | (rw [← HI.out]; simp), HB'.out⟩
set_option maxHeartbeats 4000000 in
theorem IndexFuncI.calls (g : Nat) (lb : Array Value) (eg : ∀ args w, (callFunc g args).run Try.prog w = .ok (.enter g args) w) (p : Int → Bool) (A : Option Addr) (c : Nat) (l : List Int) (w : World) (hr : Kd.C (Kd.int .i64) w A l.length l) (hp : PredI g lb w p) :
    Calls Try.prog 77 #[.slice A l.length c, .func (.func g) #[] lb] w fun e w' => e = .returned (.int .i64 (idxB p l 0)) ∧ Below w.heap.size w w' := by
  have HR := Aside0.mk hr
  have HP := Aside0.mk hp
  have hmax := Kd.C_max hr
  clear hr hp
  go_enter Try.func77, Try.ntmps77
  go_wp2
  go_loopg [5, 8] l.length (fun gg _ s8 wr => ∃ j : Nat, s8 = .int .i64 j ∧ j + gg = l.length ∧ Aside0 (Below w.heap.size w wr) ∧ Aside0 (∀ m, m < j → p (l.getD m 0) = false))
  case atStart => exact ⟨0, rfl, by omega, ⟨Below.refl _ w⟩, ⟨fun m hm => absurd hm (Nat.not_lt_zero _)⟩⟩
  case round =>
    obtain ⟨j, rfl, hk, HB, HA⟩ := hrel
    cases gk with
    | zero =>
      have hlt : ((j : Int) < (l.length : Int)) = False := eq_false (by omega)
      go_wp2
      go_ret
      exact ⟨by rw [idxB_miss p 0 l 0 (fun m hm => HA.out m (by omega))]; rfl, HB.out⟩
    | succ gk =>
      have hlt : ((j : Int) < (l.length : Int)) = True := eq_true (by omega)
      have hlt1 : (j < l.length) = True := eq_true (by omega)
      have hj0 : ((0 : Int) ≤ (j : Int)) = True := eq_true (by omega)
      obtain ⟨ad, rfl, g0⟩ := Kd.at_int (Kd.C_below HR.out HB.out) (j : Int) (by omega) (by omega)
      rw [Int.toNat_natCast] at g0
      have hcall := HP.out wr (rd l (j : Int)) HB.out
      have hw64 : Aside0 (wrap64 ((j : Int) + 1) = ((j + 1 : Nat) : Int)) := ⟨by unfold wrap64; omega⟩
      obtain ⟨y, hy⟩ : ∃ y, Aside0 (y = rd l (j : Int)) := ⟨_, ⟨rfl⟩⟩
      rw [← hy.out] at hcall g0
      cases hq : p y with
      | true =>
        rw [hq] at hcall
        have HC := Aside0.mk hcall
        have HQ := Aside0.mk hq
        clear hcall hq
        go_wp2_with (fail)
        refine HC.out.mono ?_
        rintro e w' ⟨rfl, hb'⟩
        have HB' := Aside0.mk (below_step HB.out hb')
        clear hb'
        go_wp2
        go_ret
        refine ⟨?_, HB'.out⟩
        rw [idxB_hit p 0 l j 0 (by omega) HA.out (by have h_ := HQ.out; rw [hy.out] at h_; simpa [rd] using h_)]
        simp
      | false =>
        rw [hq] at hcall
        have HC := Aside0.mk hcall
        have HQ := Aside0.mk hq
        clear hcall hq
        go_wp2_with (fail)
        refine HC.out.mono ?_
        rintro e w' ⟨rfl, hb'⟩
        have HB' := Aside0.mk (below_step HB.out hb')
        clear hb'
        go_wp2
        go_roundg gk
        case measure => omega
        case rel =>
          refine ⟨j + 1, by first | rw [hw64.out] | rfl, by omega, HB', ⟨fun m hm => ?_⟩⟩
          by_cases e : m = j
          · subst e; have h_ := HQ.out; rw [hy.out] at h_; simpa [rd] using h_
          · exact HA.out m (by omega)
set_option maxHeartbeats 4000000 in
theorem ContainsFuncI.calls (g : Nat) (lb : Array Value) (eg : ∀ args w, (callFunc g args).run Try.prog w = .ok (.enter g args) w) (p : Int → Bool) (A : Option Addr) (c : Nat) (l : List Int) (w : World) (hr : Kd.C (Kd.int .i64) w A l.length l) (hp : PredI g lb w p) :
    Calls Try.prog 68 #[.slice A l.length c, .func (.func g) #[] lb] w fun e w' => e = .returned (.bool (l.any p)) ∧ Below w.heap.size w w' := by
  have HR := Aside0.mk hr
  have HP := Aside0.mk hp
  have HI := Aside0.mk (idxB_any p l 0 (Int.le_refl _))
  clear hr hp
  go_enter Try.func68, Try.ntmps68
  go_wp2_with (fail)
  refine (IndexFuncI.calls g lb eg p A c l _ HR.out HP.out).mono ?_
  rintro e w' ⟨rfl, hb'⟩
  have HB' := Aside0.mk hb'
  clear hb'
  go_wp2
  go_ret
  exact ⟨by first | (rw [← HI.out]; done) | (rw [← HI.out]; simp), HB'.out⟩
set_option maxHeartbeats 4000000 in
/-- The closure of 'seen': from one number on, below another. -/
theorem seen1.calls (a b : Nat) (x y : Int) (w : World) (ha : w.heap[a]? = some (.cells #[.int .i64 x] 2 (0, 0))) (hb : w.heap[b]? = some (.cells #[.int .i64 y] 2 (0, 0))) : PredI 76 #[.pointer (some ⟨a, 0, none⟩), .pointer (some ⟨b, 0, none⟩)] w (fun n => decide (x ≤ n) && decide (n < y)) := by
  intro W n hW
  have hA : W.cell? ⟨a, 0, none⟩ = some (.int .i64 x) := (blk_cell ((hW.block a (blk_lt ha)).trans ha) 0).trans rfl
  have hB : W.cell? ⟨b, 0, none⟩ = some (.int .i64 y) := (blk_cell ((hW.block b (blk_lt hb)).trans hb) 0).trans rfl
  clear ha hb hW
  by_cases h1 : x ≤ n
  · have h1d : decide (x ≤ n) = true := decide_eq_true h1
    go_enter Try.func76, Try.ntmps76
    go_wp2
    go_ret
    exact ⟨by simp [h1d], Below.refl _ _⟩
  · have h1d : decide (x ≤ n) = false := decide_eq_false h1
    go_enter Try.func76, Try.ntmps76
    go_wp2
    go_ret
    exact ⟨by simp [h1d], Below.refl _ _⟩
/-- drop.seen. -/
def dseen (snaps : List Int) (x y : Int) : Bool := snaps.any (fun n => decide (x ≤ n) && decide (n < y))
theorem alloc_at0 (W : World) (o : Obj) (g : Nat) (h : g = W.heap.size) : (W.alloc o).heap[g]? = some o := by subst h; exact Array.getElem?_push_size
set_option maxHeartbeats 4000000 in
theorem dseen_calls (A : Option Addr) (c : Nat) (l : List Int) (x y : Int) (w : World) (hr : Kd.C (Kd.int .i64) w A l.length l) :
    Calls Try.prog 67 #[.slice A l.length c, .int .i64 x, .int .i64 y] w fun e w' => e = .returned (.bool (dseen l x y)) ∧ Below w.heap.size w w' := by
  have HR := Aside0.mk hr
  clear hr
  have HE := Aside0.mk (enters_of Try.func76 (by kernel_rfl) rfl)
  go_enter Try.func67, Try.ntmps67
  go_wp2_with (fail)
  refine (ContainsFuncI.calls 76 _ HE.out _ A c l _ (Kd.C_below HR.out (below_alloc (below_alloc (Below.refl _ _) _) _)) (seen1.calls w.heap.size (w.heap.size + 1) x y _ ?_ ?_)).mono ?_
  · exact (Below.heap_alloc _ _ _ (by simp)).trans (alloc_at0 w _ _ rfl)
  · exact alloc_at0 _ _ _ (by simp)
  rintro e w' ⟨rfl, hb'⟩
  have HB' := Aside0.mk (below_step (below_alloc (below_alloc (Below.refl _ _) _) _) hb')
  clear hb'
  go_wp2
  go_ret
  exact ⟨rfl, HB'.out⟩
set_option maxHeartbeats 4000000 in
theorem versions1.calls (ge gs : Nat) (e : S23) (As : Option Addr) (cs : Nat) (l : List Int) (w : World) (he : w.heap[ge]? = some (.cells #[.string e.f0, .int .i64 e.f1, .int .i64 e.f2, .string e.f3, .string e.f4] 23 (0, 0))) (hs : w.heap[gs]? = some (.cells #[.slice As l.length cs] 35 (0, 0))) (hr : Kd.C (Kd.int .i64) w As l.length l) :
    PredE 66 #[.pointer (some ⟨ge, 0, none⟩), .pointer (some ⟨gs, 0, none⟩)] w (fun x => decide (e.f1 < x.f1) && !(dseen l e.f1 x.f1)) := by
  intro W x hW
  have HE := Aside0.mk ((hW.block ge (blk_lt he)).trans he)
  have HS := Aside0.mk ((hW.block gs (blk_lt hs)).trans hs)
  have HR := Aside0.mk (Kd.C_below hr hW)
  clear he hs hr hW
  obtain ⟨x0, x1, x2, x3, x4⟩ := x
  obtain ⟨e0, e1, e2, e3, e4⟩ := e
  simp only at *
  obtain ⟨W1, hW1⟩ : ∃ W1, Aside0 (W1 = W.alloc (.cells #[.string x0, .int .i64 x1, .int .i64 x2, .string x3, .string x4] 23)) := ⟨_, ⟨rfl⟩⟩
  have hs0 : (W.alloc (.cells #[.string x0, .int .i64 x1, .int .i64 x2, .string x3, .string x4] 23)).cell? ⟨gs, 0, none⟩ = some (.slice As l.length cs) := (blk_cell ((Below.heap_alloc W _ gs (blk_lt HS.out)).trans HS.out) 0).trans rfl
  have he1 : (W.alloc (.cells #[.string x0, .int .i64 x1, .int .i64 x2, .string x3, .string x4] 23)).cell? ⟨ge, 1, none⟩ = some (.int .i64 e1) := (blk_cell ((Below.heap_alloc W _ ge (blk_lt HE.out)).trans HE.out) 1).trans rfl
  have HB := Aside0.mk (below_alloc (Below.refl W.heap.size W) (.cells #[.string x0, .int .i64 x1, .int .i64 x2, .string x3, .string x4] 23))
  have HR1 := Aside0.mk (Kd.C_below HR.out HB.out)
  clear HE HS HR hW1
  by_cases h1 : e1 < x1
  · have h1d : decide (e1 < x1) = true := decide_eq_true h1
    go_enter Try.func66, Try.ntmps66
    go_wp2_with (fail)
    refine (dseen_calls As cs l e1 x1 _ HR1.out).mono ?_
    rintro e w' ⟨rfl, hb'⟩
    have HB' := Aside0.mk (below_step HB.out hb')
    clear hb'
    go_wp2
    go_ret
    exact ⟨by simp [h1d], HB'.out⟩
  · have h1d : decide (e1 < x1) = false := decide_eq_false h1
    go_enter Try.func66, Try.ntmps66
    go_wp2_with (fail)
    go_ret
    exact ⟨by simp [h1d], HB.out⟩
set_option maxHeartbeats 4000000 in
theorem versions2.calls (go gn : Nat) (A : Option Addr) (c : Nat) (xs : List S23) (n : Nat) (w : World) (hn : n < xs.length) (ho : w.heap[go]? = some (.cells #[.slice A xs.length c] 27 (0, 0))) (hg : w.heap[gn]? = some (.cells #[.int .i64 (n : Int)] 3 (0, 0))) (hr : Kd.C k23 w A xs.length xs) :
    PredI 69 #[.pointer (some ⟨go, 0, none⟩), .pointer (some ⟨gn, 0, none⟩)] w (fun s => decide (s < (xs.getD n z23).f1)) := by
  intro W s hW
  have HO := Aside0.mk ((hW.block go (blk_lt ho)).trans ho)
  have HG := Aside0.mk ((hW.block gn (blk_lt hg)).trans hg)
  have HR := Aside0.mk (Kd.C_below hr hW)
  clear ho hg hr hW
  obtain ⟨ad, rfl, g0, g1, g2, g3, g4⟩ := at_T23 HR.out (n : Int) (by omega) (by omega)
  have ho0 : W.cell? ⟨go, 0, none⟩ = some (.slice (some ad) xs.length c) := (blk_cell HO.out 0).trans rfl
  have hn0 : W.cell? ⟨gn, 0, none⟩ = some (.int .i64 (n : Int)) := (blk_cell HG.out 0).trans rfl
  simp only [Int.toNat_natCast] at g1
  clear g0 g2 g3 g4
  have hlt1 : (n < xs.length) = True := eq_true (by omega)
  have hlt : ((n : Int) < (xs.length : Int)) = True := eq_true (by omega)
  have hj0 : ((0 : Int) ≤ (n : Int)) = True := eq_true (by omega)
  rw [show (rd_T23 xs (n : Int)).f1 = (xs.getD n z23).f1 by simp [rd_T23]] at g1
  generalize (xs.getD n z23).f1 = y at g1 ⊢
  go_enter Try.func69, Try.ntmps69
  go_wp2
  go_ret
  exact ⟨rfl, Below.refl _ _⟩
set_option maxHeartbeats 4000000 in
theorem Seen1.calls (gs : Nat) (seq : Int) (w : World) (hs : w.heap[gs]? = some (.cells #[.int .i64 seq] 2 (0, 0))) : PredE 53 #[.pointer (some ⟨gs, 0, none⟩)] w (fun x => decide (x.f1 ≤ seq)) := by
  intro W x hW
  have HS := Aside0.mk ((hW.block gs (blk_lt hs)).trans hs)
  have hs0 : (W.alloc (.cells #[.string x.f0, .int .i64 x.f1, .int .i64 x.f2, .string x.f3, .string x.f4] 23)).cell? ⟨gs, 0, none⟩ = some (.int .i64 seq) := (blk_cell ((Below.heap_alloc W _ gs (blk_lt HS.out)).trans HS.out) 0).trans rfl
  clear hs hW
  go_enter Try.func53, Try.ntmps53
  go_wp2
  go_ret
  exact ⟨rfl, below_alloc (Below.refl _ _) _⟩
def versR (snaps : List Int) : List S23 → List S23 → List S23
  | _, [] => []
  | pre, e :: t => (if pre.any (fun x => decide (e.f1 < x.f1) && !(dseen snaps e.f1 x.f1)) = true then [] else [e]) ++ versR snaps (pre ++ [e]) t
def versEnd (snaps : List Int) (bottom : Bool) (out : List S23) : List S23 :=
  if bottom = true then (if 0 < out.length then (if (out.getD (out.length - 1) z23).f2 = 0 then (if snaps.any (fun s => decide (s < (out.getD (out.length - 1) z23).f1)) = true then out else out.take (out.length - 1)) else out) else out) else out
def drop_versions.f (l0 : List S23) (l1 : List Int) (a2 : Bool) : Option (List S23) := if l0.length < 2000000000000 then some (versEnd l1 a2 (versR l1 [] l0)) else none
set_option maxHeartbeats 8000000 in
theorem drop_versions.calls (A0 : Option Addr) (c0 : Nat) (l0 : List S23) (A1 : Option Addr) (c1 : Nat) (l1 : List Int) (a2 : Bool) (r : List S23) (w : World) (hr0 : Kd.C k23 w A0 l0.length l0) (hc0 : l0.length ≤ c0) (hr1 : Kd.C (Kd.int .i64) w A1 l1.length l1) (hc1 : l1.length ≤ c1) (h : drop_versions.f l0 l1 a2 = some r) :
    Calls Try.prog 49 #[.slice A0 l0.length c0, .slice A1 l1.length c1, .bool a2] w fun e w' => ∃ v0_ : Value, e = .returned (v0_) ∧ Kd.R k23 23 w' w.heap.size (fun _ => True) v0_ r ∧ Below w.heap.size w w' := by
  have hu23 := Try.underlying23
  unfold drop_versions.f at h
  by_cases hkl : l0.length < 2000000000000
  · rw [if_pos hkl] at h
    have HF := Aside0.mk (Option.some.inj h)
    have HR0 := Aside0.mk hr0
    have HR1 := Aside0.mk hr1
    clear h hr0 hr1
    have HE66 := Aside0.mk (enters_of Try.func66 (by kernel_rfl) rfl)
    have HE69 := Aside0.mk (enters_of Try.func69 (by kernel_rfl) rfl)
    obtain ⟨gs, hgs⟩ : ∃ g, Aside0 (g = w.heap.size) := ⟨_, ⟨rfl⟩⟩
    obtain ⟨gO, hgO⟩ : ∃ g, Aside0 (g = gs + 1) := ⟨_, ⟨rfl⟩⟩
    go_enter Try.func49, Try.ntmps49
    go_wp2_with (fail)
    rw [← hgs.out]
    rw [← hgO.out]
    have hsO : gs < gO := by have := hgO.out; omega
    go_loopg [14] l0.length (fun kx s14 wr => ∃ (j : Nat) (out : List S23) (v : Value), s14 = .int .i64 j ∧ j + kx = l0.length ∧ Aside0 (Below w.heap.size w wr) ∧ Aside0 (wr.heap[gs]? = some (.cells #[.slice A1 l1.length c1] 35 (0, 0))) ∧ Aside0 (wr.heap[gO]? = some (.cells #[v] 27 (0, 0))) ∧ Aside0 (Kd.R k23 23 wr w.heap.size (fun k => k ≠ gO ∧ k ≠ gs) v out) ∧ Aside0 (out ++ versR l1 (l0.take j) (l0.drop j) = versR l1 [] l0) ∧ Aside0 (out.length ≤ j))
    case atStart =>
      refine ⟨0, [], .slice none 0 0, rfl, by omega, ⟨below_alloc (below_alloc (Below.refl _ _) _) _⟩, ⟨?_⟩, ⟨?_⟩, ⟨Kd.R_nil _ _ _ _ _⟩, ⟨by simp⟩, ⟨by simp⟩⟩
      · rw [hgs.out]; exact (Below.heap_alloc _ _ _ (by simp)).trans (alloc_at0 w _ _ rfl)
      · exact alloc_at0 _ _ _ (by rw [hgO.out, hgs.out]; simp)
    case round =>
      obtain ⟨j, out, v, rfl, hk, HB, HS, HO, HV, HP, HL⟩ := hrel
      cases gk with
      | zero =>
        have hlt : ((j : Int) < (l0.length : Int)) = False := eq_false (by omega)
        have hre := HP.out
        rw [List.drop_eq_nil_of_le (by omega), versR, List.append_nil] at hre
        have hF := HF.out
        rw [← hre] at hF
        have HF2 := Aside0.mk hF
        clear hF hre HP HF
        obtain ⟨A, c, rfl, hlc, hC⟩ := Kd.R_reads HV.out
        have HC := Aside0.mk hC
        have ho0 : wr.cell? ⟨gO, 0, none⟩ = some (.slice A out.length c) := (blk_cell HO.out 0).trans rfl
        have hs0 : wr.cell? ⟨gs, 0, none⟩ = some (.slice A1 l1.length c1) := (blk_cell HS.out 0).trans rfl
        have hof := blk_frozen HO.out 0
        have hgOw : w.heap.size ≤ gO := by have := hgO.out; have := hgs.out; omega
        have hgOlt := blk_lt HO.out
        have hgslt := blk_lt HS.out
        clear hC
        have hn1 : Aside0 (wrap64 ((out.length : Int) - 1) = (out.length : Int) - 1) := ⟨by have := HL.out; unfold wrap64; omega⟩
        cases a2 with
        | false =>
          have hre : out = r := by have h_ := HF2.out; rwa [versEnd, if_neg (by simp)] at h_
          subst hre
          go_wp2_with (fail)
          go_ret
          exact ⟨_, rfl, Kd.R_mono (Kd.R_alloc HV.out _) (fun _ _ => trivial), below_alloc HB.out _⟩
        | true =>
          by_cases hol : 0 < out.length
          · obtain ⟨m, hm⟩ : ∃ m, Aside0 (out.length = m + 1) := ⟨out.length - 1, ⟨by omega⟩⟩
            have hml : m < out.length := by have := hm.out; omega
            have hw1 : wrap64 ((out.length : Int) - 1) = (m : Int) := by rw [hn1.out]; have := hm.out; omega
            have hF := HF2.out
            rw [versEnd, if_pos rfl, if_pos hol, show out.length - 1 = m by have := hm.out; omega] at hF
            clear HF2
            obtain ⟨W1, hW1⟩ : ∃ W1, Aside0 (W1 = wr.alloc (.cells #[.int .i64 (m : Int)] 3)) := ⟨_, ⟨rfl⟩⟩
            have hb1 : Below wr.heap.size wr (wr.alloc (.cells #[.int .i64 (m : Int)] 3)) := below_alloc (Below.refl _ _) _
            have HC1 := Aside0.mk (Kd.C_below HC.out hb1)
            have HO1 := Aside0.mk ((hb1.block gO hgOlt).trans HO.out)
            have HN1 : Aside0 ((wr.alloc (.cells #[.int .i64 (m : Int)] 3)).heap[wr.heap.size]? = some (.cells #[.int .i64 (m : Int)] 3 (0, 0))) := ⟨alloc_at0 wr _ _ rfl⟩
            have HP2 := Aside0.mk (versions2.calls gO wr.heap.size A c out m _ hml HO1.out HN1.out HC1.out)
            obtain ⟨ad, rfl, g0, g1, g2, g3, g4⟩ := at_T23 HC1.out (m : Int) (by omega) (by omega)
            rw [Int.toNat_natCast] at g0
            simp only [Int.toNat_natCast] at g1 g2 g3 g4
            have hyy : rd_T23 out (m : Int) = out.getD m z23 := by simp [rd_T23]
            rw [hyy] at g0 g1 g2 g3 g4
            generalize out.getD m z23 = y at hF HP2 g0 g1 g2 g3 g4
            have hm0 : ((0 : Int) ≤ (m : Int)) = True := eq_true (by omega)
            have hm1 : (m < out.length) = True := eq_true hml
            have HB1 := Aside0.mk (below_step HB.out hb1)
            have HR11 := Aside0.mk (Kd.C_below (Kd.C_below HR1.out HB.out) hb1)
            have HV1 := Aside0.mk (Kd.R_below HV.out hb1)
            have HS1 := Aside0.mk ((hb1.block gs hgslt).trans HS.out)
            have hs1 : (wr.alloc (.cells #[.int .i64 (m : Int)] 3)).cell? ⟨gs, 0, none⟩ = some (.slice A1 l1.length c1) := (blk_cell HS1.out 0).trans rfl
            have ho1 : (wr.alloc (.cells #[.int .i64 (m : Int)] 3)).cell? ⟨gO, 0, none⟩ = some (.slice (some ad) out.length c) := (blk_cell HO1.out 0).trans rfl
            clear hyy hol hb1 hW1 hml
            by_cases hy : y.f2 = 0
            · rw [if_pos hy] at hF
              have hyb : (y.f2 == 0) = true := by simp [hy]
              have HY := Aside0.mk hy
              clear hy
              go_wp2_with (fail)
              refine (ContainsFuncI.calls 69 _ HE69.out _ A1 c1 l1 _ HR11.out HP2.out).mono ?_
              rintro e w2 ⟨rfl, hb2⟩
              have HB2 := Aside0.mk (below_step HB1.out hb2)
              have HV2 := Aside0.mk (Kd.R_below HV1.out hb2)
              have HO2 := Aside0.mk ((hb2.block gO (blk_lt HO1.out)).trans HO1.out)
              have HN2 := Aside0.mk ((hb2.block wr.heap.size (by simp)).trans HN1.out)
              have ho2 : w2.cell? ⟨gO, 0, none⟩ = some (.slice (some ad) out.length c) := (blk_cell HO2.out 0).trans rfl
              have hn2 : w2.cell? ⟨wr.heap.size, 0, none⟩ = some (.int .i64 (m : Int)) := (blk_cell HN2.out 0).trans rfl
              have hof2 := blk_frozen HO2.out 0
              have hcut := cut_to (P := Try.prog) 27 23 .i64 Try.underlying27 (info_parts info23).choose_spec.1 (some ad) out.length c (m : Int) (by omega) (by have := hm.out; omega) hlc
              rw [Int.toNat_natCast] at hcut
              clear hb2 ho1 ho0 hs1 hs0 hof g0 g1 g2 g3 g4
              generalize l1.any (fun s => decide (s < y.f1)) = hid at hF ⊢
              cases hid with
              | true =>
                rw [if_pos rfl] at hF
                subst hF
                go_wp2_with (fail)
                go_ret
                exact ⟨_, rfl, Kd.R_mono HV2.out (fun _ _ => trivial), HB2.out⟩
              | false =>
                rw [if_neg (by simp)] at hF
                subst hF
                go_wp2_with (fail)
                go_ret
                exact ⟨_, rfl, Kd.R_mono (Kd.R_take (Kd.R_far (p := ⟨gO, 0, none⟩) HV2.out (fun _ hk => hk.1) _) (by have := hm.out; omega)) (fun _ _ => trivial), below_set HB2.out hgOw⟩
            · rw [if_neg hy] at hF
              subst hF
              have hyb : (y.f2 == 0) = false := by simp [hy]
              clear hy
              go_wp2_with (fail)
              go_ret
              exact ⟨_, rfl, Kd.R_mono HV1.out (fun _ _ => trivial), HB1.out⟩
          · have hre : out = r := by have h_ := HF2.out; rwa [versEnd, if_pos rfl, if_neg hol] at h_
            subst hre
            have ho0l : Aside0 (out.length = 0) := ⟨by omega⟩
            have hw1 : wrap64 ((out.length : Int) - 1) = -1 := by rw [hn1.out, ho0l.out]; rfl
            clear hol
            go_wp2_with (fail)
            go_ret
            exact ⟨_, rfl, Kd.R_mono (Kd.R_alloc HV.out _) (fun _ _ => trivial), below_alloc HB.out _⟩
      | succ gk =>
        have hlt : ((j : Int) < (l0.length : Int)) = True := eq_true (by omega)
        have hlt1 : (j < l0.length) = True := eq_true (by omega)
        have hj0 : ((0 : Int) ≤ (j : Int)) = True := eq_true (by omega)
        have hw64 : Aside0 (wrap64 ((j : Int) + 1) = ((j + 1 : Nat) : Int)) := ⟨by unfold wrap64; omega⟩
        have hdj : l0.drop j = rd_T23 l0 (j : Int) :: l0.drop (j + 1) := by
          unfold rd_T23
          rw [Int.toNat_natCast, List.drop_eq_getElem_cons (by omega), List.getD_eq_getElem?_getD, List.getElem?_eq_getElem (by omega)]; rfl
        have htj : l0.take (j + 1) = l0.take j ++ [rd_T23 l0 (j : Int)] := by
          unfold rd_T23
          rw [Int.toNat_natCast, List.take_succ_eq_append_getElem (by omega), List.getD_eq_getElem?_getD, List.getElem?_eq_getElem (by omega)]; rfl
        obtain ⟨ad, rfl, g0, g1, g2, g3, g4⟩ := at_T23 (Kd.C_below HR0.out HB.out) (j : Int) (by omega) (by omega)
        rw [Int.toNat_natCast] at g0
        simp only [Int.toNat_natCast] at g1 g2 g3 g4
        have hP := HP.out
        rw [hdj, versR, ← htj] at hP
        clear hdj HP htj
        generalize rd_T23 l0 (j : Int) = y at hP g0 g1 g2 g3 g4
        have HP := Aside0.mk hP
        clear hP
        obtain ⟨i0, hi0, _, hsz, _⟩ := info_parts info27
        have hcut := cut_to (P := Try.prog) 27 23 .i64 Try.underlying27 (info_parts info23).choose_spec.1 (some ad) l0.length c0 (j : Int) (by omega) (by omega) hc0
        rw [Int.toNat_natCast] at hcut
        have HT := Aside0.mk (Kd.C_take (m := j) HR0.out (by omega))
        go_wp2_with (fail)
        obtain ⟨W1, hW1⟩ : ∃ W1, W1 = wr.alloc (Obj.cells #[Value.string y.f0, Value.int IntKind.i64 y.f1, Value.int IntKind.i64 y.f2, Value.string y.f3, Value.string y.f4] 23) := ⟨_, rfl⟩
        have hb1 : Below wr.heap.size wr W1 := by rw [hW1]; exact below_alloc (Below.refl _ _) _
        have he1 : W1.heap[wr.heap.size]? = some (.cells #[Value.string y.f0, Value.int IntKind.i64 y.f1, Value.int IntKind.i64 y.f2, Value.string y.f3, Value.string y.f4] 23 (0, 0)) := by rw [hW1]; exact alloc_at0 wr _ _ rfl
        have hs1 : W1.heap[gs]? = some (.cells #[.slice A1 l1.length c1] 35 (0, 0)) := (hb1.block gs (blk_lt HS.out)).trans HS.out
        have hlen : (l0.take j).length = j := by rw [List.length_take]; omega
        have hcall := ContainsFuncE.calls 66 _ HE66.out _ (some ad) c0 (l0.take j) W1 (Kd.C_below (Kd.C_below HT.out HB.out) hb1) (versions1.calls wr.heap.size gs y A1 c1 l1 W1 he1 hs1 (Kd.C_below (Kd.C_below HR1.out HB.out) hb1))
        rw [hlen] at hcall
        rw [← hW1]
        refine hcall.mono ?_
        rintro e w2 ⟨rfl, hb2⟩
        have hb12 := below_step hb1 hb2
        have HB2 := Aside0.mk (below_step HB.out hb12)
        have HS2 := Aside0.mk ((hb2.block gs (blk_lt hs1)).trans hs1)
        have HO2 := Aside0.mk ((hb12.block gO (blk_lt HO.out)).trans HO.out)
        have HV2 := Aside0.mk (Kd.R_below HV.out hb12)
        have HE2 := Aside0.mk ((hb2.block wr.heap.size (blk_lt he1)).trans he1)
        obtain ⟨ge, hge⟩ : ∃ ge, Aside0 (ge = wr.heap.size) := ⟨_, ⟨rfl⟩⟩
        rw [← hge.out] at HE2 ⊢
        have hOe : gO < ge := by have := blk_lt HO.out; have := hge.out; omega
        clear hcall hb1 he1 hs1 hlen hW1 hb2 hb12 hcut HT hi0 hsz HO HS HV HB
        generalize (l0.take j).any (fun x => decide (y.f1 < x.f1) && !(dseen l1 y.f1 x.f1)) = hid at HP ⊢
        cases hid with
        | true =>
          rw [if_pos rfl, List.nil_append] at HP
          go_wp2_with (fail)
          go_roundg gk
          case measure => omega
          case rel => exact ⟨j + 1, out, v, by first | rw [hw64.out] | rfl, by omega, HB2, HS2, HO2, HV2, HP, ⟨by have := HL.out; omega⟩⟩
        | false =>
          rw [if_neg (by simp)] at HP
          have ho0 : w2.cell? ⟨gO, 0, none⟩ = some v := (blk_cell HO2.out 0).trans rfl
          have hof := blk_frozen HO2.out 0
          have hy0 : w2.cell? ⟨ge, 0, none⟩ = some (.string y.f0) := (blk_cell HE2.out 0).trans rfl
          have hy1 : w2.cell? ⟨ge, 1, none⟩ = some (.int .i64 y.f1) := (blk_cell HE2.out 1).trans rfl
          have hy2 : w2.cell? ⟨ge, 2, none⟩ = some (.int .i64 y.f2) := (blk_cell HE2.out 2).trans rfl
          have hy3 : w2.cell? ⟨ge, 3, none⟩ = some (.string y.f3) := (blk_cell HE2.out 3).trans rfl
          have hy4 : w2.cell? ⟨ge, 4, none⟩ = some (.string y.f4) := (blk_cell HE2.out 4).trans rfl
          have hbd : (out.length + 1) * 64 ≤ 140737488355328 := by have := HL.out; omega
          go_wp2_with (first | ((with_reducible refine gate_builtin (b := .append) (xs := #[.tmp 26, .tmp 28]) rfl ?_); at_builtin; refine Kd.R_append k23 (w0 := w) w.heap.size rfl (.tmp 26) (.tmp 28) 27 23 (.agg #[(.string ⟨#[]⟩), (.int .i64 0), (.int .i64 0), (.string ⟨#[]⟩), (.string ⟨#[]⟩)]) 64 rfl Try.underlying27 info23 rfl (by decide) (by omega) v out y [.string y.f0, .int .i64 y.f1, .int .i64 y.f2, .string y.f3, .string y.f4] (fun k => k ≠ gO ∧ k ≠ gs) (fun _ => False) rfl rfl ?aP (fun _ hk => hk.elim) ?aF ?aO ?aB ?aS ?aL ?_; (case aP => exact k23_mkM _ _ _ y); (case aB => exact HB2.out); (case aF => exact (fun k hk_ => by have := blk_lt HO2.out; have := blk_lt HS2.out; omega)); (case aO => exact HV2.out); (case aS => exact HB2.out.size); (case aL => exact hbd); intro v3 w3 ho hb hg hat; obtain ⟨A3, c3, e3⟩ := Kd.R_slice ho; subst e3; have HV3 := Aside0.mk ho; have HB3 := Aside0.mk hb; have HO3 := Aside0.mk ((hg.block gO (blk_lt HO2.out) (fun z => (HV2.out.1 gO z.symm).1 rfl)).trans HO2.out); have HS3 := Aside0.mk ((hg.block gs (blk_lt HS2.out) (fun z => (HV2.out.1 gs z.symm).2 rfl)).trans HS2.out); have ho3 := (blk_cell HO3.out 0).trans rfl; have hof3 := blk_frozen HO3.out 0; clear ho hb hg hat))
          go_roundg gk
          case measure => omega
          case rel =>
            have hP := HP.out
            rw [← List.append_assoc] at hP
            have hgO : w.heap.size ≤ gO := by have := hgO.out; have := hgs.out; omega
            exact ⟨j + 1, _, _, by first | rw [hw64.out] | rfl, by omega, ⟨below_set HB3.out hgO⟩, ⟨(Below.heap_setCell w3 _ _ _ (by show gs ≠ gO; omega)).trans HS3.out⟩, ⟨blk_set HO3.out 0 _⟩, ⟨by have h_ := Kd.R_far (p := ⟨gO, 0, none⟩) HV3.out (fun _ hk => hk.1) (Value.slice A3 (out ++ [y]).length c3); rwa [List.length_append, List.length_singleton] at h_⟩, ⟨hP⟩, ⟨by have := HL.out; simp; omega⟩⟩
  · rw [if_neg hkl] at h; cases h

end Go.Proofs.Ytcijcfdllfaghaa.MDrp
