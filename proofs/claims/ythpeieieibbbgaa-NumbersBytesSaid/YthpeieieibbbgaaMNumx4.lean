-- Written by a program of this session for this claim (out of the translation's print); Lean checks it.
import Derived.Test.YthpeieieibbbgaaMNumx0
import Derived.Test.YthpeieieibbbgaaMNumx1
import Derived.Test.YthpeieieibbbgaaMNumx2
namespace Go.Proofs.Ythpeieieibbbgaa.MNum
open Go.RowKit Go.Proofs.YthpeieieibbbgaaW.PrintWords Go.Proofs.YthpeieieibbbgaaW.PrintLast Go.Proofs.YthpeieieibbbgaaW.PrintMore
attribute [local go_sem] max2_int min2_int max_two min_two max_three min_three max_four min_four   -- for this text's walks alone
set_option linter.unusedVariables false
set_option linter.unusedSimpArgs false

/-! ### incipitlaw1_Short, of what came in: its first n: function 16 -/
theorem short_C {w : World} {A : Option Addr} {l : List Int} {n : Nat} (h : Kd.C (Kd.int .u8) w A l.length l) : Kd.C (Kd.int .u8) w A (l.take n).length (l.take n) := by
  by_cases hn : n ≤ l.length
  · exact Kd.C_take (m := n) h hn
  · rw [List.take_of_length_le (by omega)]; exact h
theorem short_any (A : Option Addr) (c : Nat) (l v : List Int) (n : Int) (m : Nat) (w : World) (hm : n.toNat = m) (h0 : 0 ≤ n) (hc : l.length ≤ c) (hv : v = l.take m) :
    Calls Try.prog 16 #[.slice A l.length c, .int .i64 n] w fun e w' => e = .returned (.slice A v.length c) ∧ w = w' := by
  subst hm
  by_cases hn : n < (l.length : Int)
  · have hy : v.length = n.toNat := by rw [hv, List.length_take]; omega
    clear hv
    obtain ⟨i0, hi0, _, hsz, _⟩ := info_parts info5
    have hcut := cut_to (P := Try.prog) 24 5 .i64 Try.underlying24 hi0 A l.length c n h0 (by omega) hc
    rw [← hy] at hcut
    have HY := Aside0.mk hy
    clear hy hi0 hsz
    have hd : decide (n < (l.length : Int)) = true := decide_eq_true hn
    have hn' := eq_true hn
    clear hn
    go_enter Try.func16, Try.ntmps16
    go_wp2
    go_ret
    exact ⟨rfl, rfl⟩
  · have hy : v.length = l.length := by rw [hv, List.length_take]; omega
    have HY := Aside0.mk hy
    clear hv hy
    have hd : decide (n < (l.length : Int)) = false := decide_eq_false hn
    clear hn
    go_enter Try.func16, Try.ntmps16
    go_wp2
    go_ret
    exact ⟨by rw [HY.out]; rfl, rfl⟩

/-! ### incipitref1_Get: function 35 -/
mutual
def incipitref1_Get.l0 : Nat → List Int → Int → Option (Int × Int)
  | 0, _, _ => none
  | k + 1, x0, x4 => if x4 ≤ 10 then (incipitref1_Get.j1 k x0 x4 (decide (x4 ≤ (x0.length : Int)))) else (incipitref1_Get.j1 k x0 x4 false)
def incipitref1_Get.j1 : Nat → List Int → Int → Bool → Option (Int × Int)
  | 0, _, _, _ => none
  | k + 1, x0, x4, x14 => if x14 = true then (if 0 ≤ (wrap64 (x4 - 1)) then (if (wrap64 (x4 - 1)) < (x0.length : Int) then (if (rd x0 (wrap64 (x4 - 1))) ≥ 128 then (incipitref1_Get.l0 k x0 (wrap64 (x4 + 1))) else (incipitref1_Get.l1 k x0 x4 0 (wrap64 (x4 - 1)))) else (none)) else (none)) else (some (0, 0))
def incipitref1_Get.l1 : Nat → List Int → Int → Int → Int → Option (Int × Int)
  | 0, _, _, _, _ => none
  | k + 1, x0, x4, x5, x6 => if x6 ≥ 0 then (if x5 ≥ 144115188075855872 then (some (0, 0)) else (if 0 ≤ x6 then (if x6 < (x0.length : Int) then (incipitref1_Get.l1 k x0 x4 (IntKind.u64.wrap ((IntKind.u64.wrap (x5 * 128)) + (IntKind.u64.wrap (Int.tmod (rd x0 x6) 128)))) (wrap64 (x6 - 1))) else (none)) else (none))) else (if x4 > 1 then (if 0 ≤ (wrap64 (x4 - 1)) then (if (wrap64 (x4 - 1)) < (x0.length : Int) then (if (rd x0 (wrap64 (x4 - 1))) = 0 then (some (0, 0)) else (some (x5, x4))) else (none)) else (none)) else (some (x5, x4)))
end
def incipitref1_Get.f (k : Nat) (l0 : List Int) : Option (Int × Int) := incipitref1_Get.l0 k l0 1
theorem incipitref1_Get.mono_l : ∀ k, (∀ y0 y1, LeO (incipitref1_Get.l0 k y0 y1) (incipitref1_Get.l0 (k + 1) y0 y1)) ∧ (∀ y0 y1 y2, LeO (incipitref1_Get.j1 k y0 y1 y2) (incipitref1_Get.j1 (k + 1) y0 y1 y2)) ∧ (∀ y0 y1 y2 y3, LeO (incipitref1_Get.l1 k y0 y1 y2 y3) (incipitref1_Get.l1 (k + 1) y0 y1 y2 y3))
  | 0 => ⟨fun _ _ r h => by simp [incipitref1_Get.l0] at h, fun _ _ _ r h => by simp [incipitref1_Get.j1] at h, fun _ _ _ _ r h => by simp [incipitref1_Get.l1] at h⟩
  | k + 1 => by
    obtain ⟨ih0, ih1, ih2⟩ := incipitref1_Get.mono_l k
    refine ⟨?_, ?_, ?_⟩
    · intro y0 y1
      unfold incipitref1_Get.l0
      repeat' first
      | (with_reducible exact ih0 _ _)
      | (with_reducible exact ih1 _ _ _)
      | (with_reducible exact ih2 _ _ _ _)
      | (with_reducible exact LeO.refl _)
      | (with_reducible exact LeO.none _)
      | (with_reducible refine LeO.ite ?_ ?_)
      | (with_reducible refine LeO.bind ?_ (fun _ => ?_))
      | exact ih0 _ _
      | exact ih1 _ _ _
      | exact ih2 _ _ _ _
      | exact LeO.none _
      | refine LeO.ite ?_ ?_
      | refine LeO.bind ?_ (fun _ => ?_)
    · intro y0 y1 y2
      unfold incipitref1_Get.j1
      repeat' first
      | (with_reducible exact ih0 _ _)
      | (with_reducible exact ih1 _ _ _)
      | (with_reducible exact ih2 _ _ _ _)
      | (with_reducible exact LeO.refl _)
      | (with_reducible exact LeO.none _)
      | (with_reducible refine LeO.ite ?_ ?_)
      | (with_reducible refine LeO.bind ?_ (fun _ => ?_))
      | exact ih0 _ _
      | exact ih1 _ _ _
      | exact ih2 _ _ _ _
      | exact LeO.none _
      | refine LeO.ite ?_ ?_
      | refine LeO.bind ?_ (fun _ => ?_)
    · intro y0 y1 y2 y3
      unfold incipitref1_Get.l1
      repeat' first
      | (with_reducible exact ih0 _ _)
      | (with_reducible exact ih1 _ _ _)
      | (with_reducible exact ih2 _ _ _ _)
      | (with_reducible exact LeO.refl _)
      | (with_reducible exact LeO.none _)
      | (with_reducible refine LeO.ite ?_ ?_)
      | (with_reducible refine LeO.bind ?_ (fun _ => ?_))
      | exact ih0 _ _
      | exact ih1 _ _ _
      | exact ih2 _ _ _ _
      | exact LeO.none _
      | refine LeO.ite ?_ ?_
      | refine LeO.bind ?_ (fun _ => ?_)
theorem incipitref1_Get.mono : ∀ a0 k, LeO (incipitref1_Get.f k a0) (incipitref1_Get.f (k + 1) a0) := by
  intro a0 k
  obtain ⟨ih0, ih1, ih2⟩ := incipitref1_Get.mono_l k
  unfold incipitref1_Get.f
  repeat' first
      | (with_reducible exact ih0 _ _)
      | (with_reducible exact ih1 _ _ _)
      | (with_reducible exact ih2 _ _ _ _)
      | (with_reducible exact LeO.refl _)
      | (with_reducible exact LeO.none _)
      | (with_reducible refine LeO.ite ?_ ?_)
      | (with_reducible refine LeO.bind ?_ (fun _ => ?_))
      | exact ih0 _ _
      | exact ih1 _ _ _
      | exact ih2 _ _ _ _
      | exact LeO.none _
      | refine LeO.ite ?_ ?_
      | refine LeO.bind ?_ (fun _ => ?_)
set_option maxHeartbeats 8000000 in
set_option maxRecDepth 100000 in
theorem incipitref1_Get.calls (k : Nat) (A0 : Option Addr) (c0 : Nat) (l0 : List Int) (r1 : Int) (r2 : Int) (w : World) (hr0 : Kd.C (Kd.int .u8) w A0 l0.length l0) (hc0 : l0.length ≤ c0) (h : incipitref1_Get.f k l0 = some (r1, r2)) :
    Calls Try.prog 35 #[.slice A0 l0.length c0] w fun e w' => e = .returned (.tuple #[.int .u64 r1, .int .i64 r2]) ∧ Drawn0 w w' := by
  have HR0 := Aside0.mk hr0
  have HC0 := Aside0.mk hc0
  clear hr0 hc0
  have H : (incipitref1_Get.l0 k l0 1) = some (r1, r2) := h
  clear h
  have H' := Aside0.mk H
  clear H
  go_enter Try.func35, Try.ntmps35
  go_wp2
  go_loopg [4] k (fun kq v4 w' => ∃ (x4_1 : Int), v4 = .int .i64 x4_1 ∧ Aside0 (incipitref1_Get.l0 kq l0 x4_1 = some (r1, r2)) ∧ Aside0 (kq ≤ k) ∧ Drawn0 w w')
  case atStart => exact ⟨(1), (by first | rfl | (simp; done) | (simp [*]; done)), H', ⟨Nat.le_refl _⟩, by repeat (first | exact Drawn0.refl _ | apply Drawn0.step)⟩
  case round =>
    clear H'
    obtain ⟨x4_1, rfl, HA, HK1, ⟨m1, rfl⟩⟩ := hrel
    cases gk with
    | zero => exact absurd HA.out (by simp [incipitref1_Get.l0])
    | succ k1 =>
      have H := HA.out
      clear HA
      simp only [incipitref1_Get.l0] at H
      have HC2 := Aside0.mk H
      clear H
      go_upto_region 2 with (fail)
      go_cut [14] (fun v14 wc => ∃ (kq : Nat) (x14_1 : Bool), v14 = .bool x14_1 ∧ Aside0 (incipitref1_Get.j1 kq l0 x4_1 x14_1 = some (r1, r2)) ∧ Aside0 (kq ≤ k1) ∧ Drawn0 w wc)
      case first =>
        have H := HC2.out
        clear HC2
        by_cases c3 : x4_1 ≤ 10
        · rw [if_pos c3] at H
          have c3b0 : decide (x4_1 ≤ 10) = true := decide_eq_true c3
          clear c3
          (first | rw [c3b0] | (simp only [i64_w, i32_w]; rw [c3b0]) | skip)
          have H' := Aside0.mk H
          clear H
          go_wp2
          go_meet
          case rel => exact ⟨_, (decide (x4_1 ≤ (l0.length : Int))), (by first | rfl | (simp; done) | (simp [*]; done)), H', ⟨by have := HK1.out; first | omega | exact Nat.le_refl _⟩, by repeat (first | exact Drawn0.refl _ | apply Drawn0.step)⟩
        · rw [if_neg c3] at H
          have c3b0 : decide (x4_1 ≤ 10) = false := decide_eq_false c3
          clear c3
          (first | rw [c3b0] | (simp only [i64_w, i32_w]; rw [c3b0]) | skip)
          have H' := Aside0.mk H
          clear H
          go_wp2
          go_meet
          case rel => exact ⟨_, (false), (by first | rfl | (simp; done) | (simp [*]; done)), H', ⟨by have := HK1.out; first | omega | exact Nat.le_refl _⟩, by repeat (first | exact Drawn0.refl _ | apply Drawn0.step)⟩
      case rest =>
        clear HC2
        try clear p2
        try clear c3
        try clear c3b0
        obtain ⟨kq, x14_1, rfl, HA, HJ1, ⟨mc1, rfl⟩⟩ := hcut
        cases kq with
        | zero => exact absurd HA.out (by simp [incipitref1_Get.j1])
        | succ kj1 =>
          have H := HA.out
          clear HA
          simp only [incipitref1_Get.j1] at H
          by_cases c4 : x14_1 = true
          · subst c4
            have H1 : (if 0 ≤ (wrap64 (x4_1 - 1)) then (if (wrap64 (x4_1 - 1)) < (l0.length : Int) then (if (rd l0 (wrap64 (x4_1 - 1))) ≥ 128 then (incipitref1_Get.l0 kj1 l0 (wrap64 (x4_1 + 1))) else (incipitref1_Get.l1 kj1 l0 x4_1 0 (wrap64 (x4_1 - 1)))) else (none)) else (none)) = some (r1, r2) := by rw [if_pos rfl] at H; exact H
            clear H
            have H := H1
            clear H1
            obtain ⟨ji5, hji5⟩ : ∃ j_ : Int, (wrap64 (x4_1 - 1)) = j_ := ⟨_, rfl⟩
            replace H : (if 0 ≤ (ji5) then (if (ji5) < (l0.length : Int) then (if (rd l0 (ji5)) ≥ 128 then (incipitref1_Get.l0 kj1 l0 (wrap64 (x4_1 + 1))) else (incipitref1_Get.l1 kj1 l0 x4_1 0 ji5)) else (none)) else (none)) = some (r1, r2) := by first | (rw [hji5] at H; exact H) | (simp only [hji5] at H ⊢; exact H)
            have hji5w : (IntKind.i64.wrap (x4_1 - 1)) = ji5 := (i64_w _).trans hji5
            by_cases c6 : 0 ≤ (ji5)
            · rw [if_pos c6] at H
              have c6b0 : decide (0 ≤ (ji5)) = true := decide_eq_true c6
              clear c6
              by_cases c7 : (ji5) < (l0.length : Int)
              · rw [if_pos c7] at H
                have c7b0 : decide ((ji5) < (l0.length : Int)) = true := decide_eq_true c7
                clear c7
                by_cases c8 : (rd l0 (ji5)) ≥ 128
                · rw [if_pos c8] at H
                  have c8b0 : decide (128 ≤ (rd l0 (ji5))) = true := decide_eq_true c8
                  clear c8
                  have H' := Aside0.mk H
                  clear H
                  have p209 : 0 ≤ ((ji5) : Int) := of_decide_eq_true (by first | (with_reducible assumption) | assumption)
                  have q209 : (ji5) < (l0.length : Int) := of_decide_eq_true (by first | (with_reducible assumption) | assumption)
                  obtain ⟨ad209, e209, hx209_0⟩ := Kd.at_int HR0.out (ji5) p209 q209
                  cases e209
                  replace p209 := eq_true p209
                  replace q209 := eq_true q209
                  go_wp2
                  go_roundg kj1
                  case measure => have := HK1.out; have := HJ1.out; omega
                  case rel => exact ⟨(wrap64 (x4_1 + 1)), (by first | rfl | (simp; done) | (simp [*]; done)), H', ⟨by have := HK1.out; have := HJ1.out; omega⟩, by repeat (first | exact Drawn0.refl _ | apply Drawn0.step)⟩
                · rw [if_neg c8] at H
                  have c8b0 : decide (128 ≤ (rd l0 (ji5))) = false := decide_eq_false c8
                  clear c8
                  have H' := Aside0.mk H
                  clear H
                  have p209 : 0 ≤ ((ji5) : Int) := of_decide_eq_true (by first | (with_reducible assumption) | assumption)
                  have q209 : (ji5) < (l0.length : Int) := of_decide_eq_true (by first | (with_reducible assumption) | assumption)
                  obtain ⟨ad209, e209, hx209_0⟩ := Kd.at_int HR0.out (ji5) p209 q209
                  cases e209
                  replace p209 := eq_true p209
                  replace q209 := eq_true q209
                  go_wp2
                  go_loopg [5, 6] kj1 (fun kq v5 v6 w' => ∃ (x5_3 : Int) (x6_3 : Int), v5 = .int .u64 x5_3 ∧ v6 = .int .i64 x6_3 ∧ Aside0 (incipitref1_Get.l1 kq l0 x4_1 x5_3 x6_3 = some (r1, r2)) ∧ Aside0 (kq ≤ kj1) ∧ Drawn0 w w')
                  case atStart => exact ⟨(0), (ji5), (by first | rfl | (simp; done) | (simp [*]; done)), (by first | rfl | (simp; done) | (simp only [← hji5] <;> (first | rfl | simp)) | (simp [*]; done)), H', ⟨Nat.le_refl _⟩, by repeat (first | exact Drawn0.refl _ | apply Drawn0.step)⟩
                  case round =>
                    clear H'
                    try clear c1
                    try clear p2
                    try clear q2
                    try clear hx2
                    try clear c3
                    try clear c3b0
                    try clear c4
                    try clear c6
                    try clear c6b0
                    try clear p6
                    try clear c7
                    try clear c7b0
                    try clear c8
                    try clear c8b0
                    try clear hx209_0
                    try clear p2
                    try clear p209
                    try clear q209
                    obtain ⟨x5_3, x6_3, rfl, rfl, HA, HK3, ⟨m3, rfl⟩⟩ := hrel
                    cases gk with
                    | zero => exact absurd HA.out (by simp [incipitref1_Get.l1])
                    | succ k3 =>
                      have H := HA.out
                      clear HA
                      simp only [incipitref1_Get.l1] at H
                      by_cases c9 : x6_3 ≥ 0
                      · rw [if_pos c9] at H
                        have c9b0 : decide (0 ≤ x6_3) = true := decide_eq_true c9
                        clear c9
                        by_cases c10 : x5_3 ≥ 144115188075855872
                        · rw [if_pos c10] at H
                          have c10b0 : decide (144115188075855872 ≤ x5_3) = true := decide_eq_true c10
                          clear c10
                          simp only [Option.some.injEq, Prod.mk.injEq] at H
                          obtain ⟨rfl, rfl⟩ := H
                          go_wp2
                          go_ret2
                          exact ⟨by first | rfl | (simp; done) | (simp only [← hji5] <;> (first | rfl | simp)) | (simp [*]; done), by repeat (first | exact Drawn0.refl _ | apply Drawn0.step)⟩
                        · rw [if_neg c10] at H
                          have c10b0 : decide (144115188075855872 ≤ x5_3) = false := decide_eq_false c10
                          clear c10
                          by_cases c11 : 0 ≤ x6_3
                          · rw [if_pos c11] at H
                            have c11b0 : decide (0 ≤ x6_3) = true := decide_eq_true c11
                            clear c11
                            by_cases c12 : x6_3 < (l0.length : Int)
                            · rw [if_pos c12] at H
                              have c12b0 : decide (x6_3 < (l0.length : Int)) = true := decide_eq_true c12
                              clear c12
                              have H' := Aside0.mk H
                              clear H
                              have p210 : 0 ≤ (x6_3 : Int) := of_decide_eq_true (by first | (with_reducible assumption) | assumption)
                              have q210 : x6_3 < (l0.length : Int) := of_decide_eq_true (by first | (with_reducible assumption) | assumption)
                              obtain ⟨ad210, e210, hx210_0⟩ := Kd.at_int HR0.out x6_3 p210 q210
                              obtain rfl : ad209 = ad210 := (by injection e210)
                              replace p210 := eq_true p210
                              replace q210 := eq_true q210
                              go_wp2
                              go_roundg k3
                              case measure => have := HK1.out; have := HJ1.out; have := HK3.out; omega
                              case rel => exact ⟨(IntKind.u64.wrap ((IntKind.u64.wrap (x5_3 * 128)) + (IntKind.u64.wrap (Int.tmod (rd l0 x6_3) 128)))), (wrap64 (x6_3 - 1)), (by first | rfl | (simp; done) | (simp [*]; done)), (by first | rfl | (simp; done) | (simp [*]; done)), H', ⟨by have := HK1.out; have := HJ1.out; have := HK3.out; omega⟩, by repeat (first | exact Drawn0.refl _ | apply Drawn0.step)⟩
                            · rw [if_neg c12] at H
                              exact absurd H (by simp)
                          · rw [if_neg c11] at H
                            exact absurd H (by simp)
                      · rw [if_neg c9] at H
                        have c9b0 : decide (0 ≤ x6_3) = false := decide_eq_false c9
                        clear c9
                        by_cases c13 : x4_1 > 1
                        · rw [if_pos c13] at H
                          have c13b0 : decide (1 < x4_1) = true := decide_eq_true c13
                          clear c13
                          replace H : (if 0 ≤ (ji5) then (if (ji5) < (l0.length : Int) then (if (rd l0 (ji5)) = 0 then (some (0, 0)) else (some (x5_3, x4_1))) else (none)) else (none)) = some (r1, r2) := by first | (rw [hji5] at H; exact H) | (simp only [hji5] at H ⊢; exact H)
                          have hji5w : (IntKind.i64.wrap (x4_1 - 1)) = ji5 := (i64_w _).trans hji5
                          by_cases c14 : 0 ≤ (ji5)
                          · rw [if_pos c14] at H
                            have c14b0 : decide (0 ≤ (ji5)) = true := decide_eq_true c14
                            clear c14
                            by_cases c15 : (ji5) < (l0.length : Int)
                            · rw [if_pos c15] at H
                              have c15b0 : decide ((ji5) < (l0.length : Int)) = true := decide_eq_true c15
                              clear c15
                              by_cases c16 : (rd l0 (ji5)) = 0
                              · rw [if_pos c16] at H
                                have c16b0 : ((rd l0 (ji5)) == 0) = true := beq_iff_eq.mpr c16
                                have c16b1 : ((rd l0 (ji5)) != 0) = false := bne_eq_false_iff_eq.mpr c16
                                clear c16
                                simp only [Option.some.injEq, Prod.mk.injEq] at H
                                obtain ⟨rfl, rfl⟩ := H
                                have p211 : 0 ≤ ((ji5) : Int) := of_decide_eq_true (by first | (with_reducible assumption) | assumption)
                                have q211 : (ji5) < (l0.length : Int) := of_decide_eq_true (by first | (with_reducible assumption) | assumption)
                                obtain ⟨ad211, e211, hx211_0⟩ := Kd.at_int HR0.out (ji5) p211 q211
                                obtain rfl : ad209 = ad211 := (by injection e211)
                                replace p211 := eq_true p211
                                replace q211 := eq_true q211
                                go_wp2
                                go_ret2
                                exact ⟨by first | rfl | (simp; done) | (simp only [← hji5, ← hji5] <;> (first | rfl | simp)) | (simp [*]; done), by repeat (first | exact Drawn0.refl _ | apply Drawn0.step)⟩
                              · rw [if_neg c16] at H
                                have c16b0 : ((rd l0 (ji5)) == 0) = false := beq_eq_false_iff_ne.mpr c16
                                have c16b1 : ((rd l0 (ji5)) != 0) = true := bne_iff_ne.mpr c16
                                simp only [Option.some.injEq, Prod.mk.injEq] at H
                                obtain ⟨rfl, rfl⟩ := H
                                have p211 : 0 ≤ ((ji5) : Int) := of_decide_eq_true (by first | (with_reducible assumption) | assumption)
                                have q211 : (ji5) < (l0.length : Int) := of_decide_eq_true (by first | (with_reducible assumption) | assumption)
                                obtain ⟨ad211, e211, hx211_0⟩ := Kd.at_int HR0.out (ji5) p211 q211
                                obtain rfl : ad209 = ad211 := (by injection e211)
                                replace p211 := eq_true p211
                                replace q211 := eq_true q211
                                go_wp2
                                go_ret2
                                exact ⟨by first | rfl | (simp; done) | (simp only [← hji5, ← hji5] <;> (first | rfl | simp)) | (simp [*]; done), by repeat (first | exact Drawn0.refl _ | apply Drawn0.step)⟩
                            · rw [if_neg c15] at H
                              exact absurd H (by simp)
                          · rw [if_neg c14] at H
                            exact absurd H (by simp)
                        · rw [if_neg c13] at H
                          have c13b0 : decide (1 < x4_1) = false := decide_eq_false c13
                          clear c13
                          simp only [Option.some.injEq, Prod.mk.injEq] at H
                          obtain ⟨rfl, rfl⟩ := H
                          go_wp2
                          go_ret2
                          exact ⟨by first | rfl | (simp; done) | (simp only [← hji5] <;> (first | rfl | simp)) | (simp [*]; done), by repeat (first | exact Drawn0.refl _ | apply Drawn0.step)⟩
              · rw [if_neg c7] at H
                exact absurd H (by simp)
            · rw [if_neg c6] at H
              exact absurd H (by simp)
          · replace c4 := Bool.eq_false_iff.mpr c4
            subst c4
            have H1 : (some (0, 0)) = some (r1, r2) := by rw [if_neg (show ¬ (false = true) by decide)] at H; exact H
            clear H
            have H := H1
            clear H1
            simp only [Option.some.injEq, Prod.mk.injEq] at H
            obtain ⟨rfl, rfl⟩ := H
            go_wp2
            go_ret2
            exact ⟨by first | rfl | (simp; done) | (simp [*]; done), by repeat (first | exact Drawn0.refl _ | apply Drawn0.step)⟩

/-! ### incipitref1_GetText: function 37 -/
def incipitref1_GetText.f (k : Nat) (l0 : List Int) : Option (ByteArray × Int) := (incipitref1_Get.f k l0).bind fun bt212 => (if bt212.2 = 0 then (some ((⟨#[]⟩ : ByteArray), 0)) else (if bt212.1 > (IntKind.u64.wrap (wrap64 ((l0.length : Int) - bt212.2))) then (some ((⟨#[]⟩ : ByteArray), 0)) else (if 0 ≤ bt212.2 then (if bt212.2 ≤ (wrap64 (bt212.2 + (wrap64 (bt212.1)))) then (if (wrap64 (bt212.2 + (wrap64 (bt212.1)))) ≤ (l0.length : Int) then (some (strOfNums ((l0.take ((wrap64 (bt212.2 + (wrap64 (bt212.1)))) : Int).toNat).drop (bt212.2 : Int).toNat), wrap64 (bt212.2 + (wrap64 (bt212.1))))) else (none)) else (none)) else (none))))
theorem incipitref1_GetText.mono : ∀ a0 k, LeO (incipitref1_GetText.f k a0) (incipitref1_GetText.f (k + 1) a0) := by
  intro a0 k
  unfold incipitref1_GetText.f
  repeat' first
      | (with_reducible exact incipitref1_Get.mono _ _)
      | (with_reducible exact LeO.refl _)
      | (with_reducible exact LeO.none _)
      | (with_reducible refine LeO.ite ?_ ?_)
      | (with_reducible refine LeO.bind ?_ (fun _ => ?_))
      | exact incipitref1_Get.mono _ _
      | exact LeO.none _
      | refine LeO.ite ?_ ?_
      | refine LeO.bind ?_ (fun _ => ?_)
set_option maxHeartbeats 8000000 in
set_option maxRecDepth 100000 in
theorem incipitref1_GetText.calls (k : Nat) (A0 : Option Addr) (c0 : Nat) (l0 : List Int) (r1 : ByteArray) (r2 : Int) (w : World) (hr0 : Kd.C (Kd.int .u8) w A0 l0.length l0) (hc0 : l0.length ≤ c0) (h : incipitref1_GetText.f k l0 = some (r1, r2)) :
    Calls Try.prog 37 #[.slice A0 l0.length c0] w fun e w' => e = .returned (.tuple #[.string r1, .int .i64 r2]) ∧ Drawn0 w w' := by
  have HR0 := Aside0.mk hr0
  have HC0 := Aside0.mk hc0
  clear hr0 hc0
  have H : ((incipitref1_Get.f k l0).bind fun bt212 => (if bt212.2 = 0 then (some ((⟨#[]⟩ : ByteArray), 0)) else (if bt212.1 > (IntKind.u64.wrap (wrap64 ((l0.length : Int) - bt212.2))) then (some ((⟨#[]⟩ : ByteArray), 0)) else (if 0 ≤ bt212.2 then (if bt212.2 ≤ (wrap64 (bt212.2 + (wrap64 (bt212.1)))) then (if (wrap64 (bt212.2 + (wrap64 (bt212.1)))) ≤ (l0.length : Int) then (some (strOfNums ((l0.take ((wrap64 (bt212.2 + (wrap64 (bt212.1)))) : Int).toNat).drop (bt212.2 : Int).toNat), wrap64 (bt212.2 + (wrap64 (bt212.1))))) else (none)) else (none)) else (none))))) = some (r1, r2) := h
  clear h
  replace H := Option.bind_eq_some_iff.mp H
  obtain ⟨⟨t212, t213⟩, A20, H⟩ := H
  replace H : (if t213 = 0 then (some ((⟨#[]⟩ : ByteArray), 0)) else (if t212 > (IntKind.u64.wrap (wrap64 ((l0.length : Int) - t213))) then (some ((⟨#[]⟩ : ByteArray), 0)) else (if 0 ≤ t213 then (if t213 ≤ (wrap64 (t213 + (wrap64 (t212)))) then (if (wrap64 (t213 + (wrap64 (t212)))) ≤ (l0.length : Int) then (some (strOfNums ((l0.take ((wrap64 (t213 + (wrap64 (t212)))) : Int).toNat).drop (t213 : Int).toNat), wrap64 (t213 + (wrap64 (t212))))) else (none)) else (none)) else (none)))) = some (r1, r2) := H
  have A2 := Aside0.mk A20
  clear A20
  by_cases c3 : t213 = 0
  · rw [if_pos c3] at H
    have c3b0 : (t213 == 0) = true := beq_iff_eq.mpr c3
    have c3b1 : (t213 != 0) = false := bne_eq_false_iff_eq.mpr c3
    clear c3
    simp only [Option.some.injEq, Prod.mk.injEq] at H
    obtain ⟨rfl, rfl⟩ := H
    go_enter Try.func37, Try.ntmps37
    go_wp2_with (first | ((with_reducible refine gate_callee (f := 35) rfl ?_); refine goesL_ (some 8) rfl rfl Try.func35 (by kernel_rfl) rfl #[.slice A0 l0.length c0] rfl (by (try simp only [List.map_toArray, List.map_cons, List.map_nil]); first | done | rfl | (simp only [List.length_drop, List.length_take]; rfl)) ?_; (with_reducible refine (incipitref1_Get.calls k _ _ l0 t212 t213 _ ?side1 ?side2 A2.out).mono ?_); (case side1 => repeat (first | exact HR0.out | (with_reducible refine Kd.C_alloc ?_ _) | (with_reducible refine Kd.C_drewN ?_ _) | (with_reducible refine Kd.C_drew ?_))); (case side2 => exact HC0.out); rintro e w' ⟨rfl, ⟨nd, rfl⟩⟩; refine ⟨_, rfl, ?_⟩))
    go_ret2
    exact ⟨by first | rfl | (simp; done) | (simp [*]; done), by repeat (first | exact Drawn0.refl _ | apply Drawn0.step)⟩
  · rw [if_neg c3] at H
    have c3b0 : (t213 == 0) = false := beq_eq_false_iff_ne.mpr c3
    have c3b1 : (t213 != 0) = true := bne_iff_ne.mpr c3
    by_cases c4 : t212 > (IntKind.u64.wrap (wrap64 ((l0.length : Int) - t213)))
    · rw [if_pos c4] at H
      have c4b0 : decide ((IntKind.u64.wrap (wrap64 ((l0.length : Int) - t213))) < t212) = true := decide_eq_true c4
      clear c4
      simp only [Option.some.injEq, Prod.mk.injEq] at H
      obtain ⟨rfl, rfl⟩ := H
      go_enter Try.func37, Try.ntmps37
      go_wp2_with (first | ((with_reducible refine gate_callee (f := 35) rfl ?_); refine goesL_ (some 8) rfl rfl Try.func35 (by kernel_rfl) rfl #[.slice A0 l0.length c0] rfl (by (try simp only [List.map_toArray, List.map_cons, List.map_nil]); first | done | rfl | (simp only [List.length_drop, List.length_take]; rfl)) ?_; (with_reducible refine (incipitref1_Get.calls k _ _ l0 t212 t213 _ ?side1 ?side2 A2.out).mono ?_); (case side1 => repeat (first | exact HR0.out | (with_reducible refine Kd.C_alloc ?_ _) | (with_reducible refine Kd.C_drewN ?_ _) | (with_reducible refine Kd.C_drew ?_))); (case side2 => exact HC0.out); rintro e w' ⟨rfl, ⟨nd, rfl⟩⟩; refine ⟨_, rfl, ?_⟩))
      go_ret2
      exact ⟨by first | rfl | (simp; done) | (simp [*]; done), by repeat (first | exact Drawn0.refl _ | apply Drawn0.step)⟩
    · rw [if_neg c4] at H
      have c4b0 : decide ((IntKind.u64.wrap (wrap64 ((l0.length : Int) - t213))) < t212) = false := decide_eq_false c4
      clear c4
      by_cases c5 : 0 ≤ t213
      · rw [if_pos c5] at H
        have c5b0 := eq_true c5
        have c5b1 : decide (0 ≤ t213) = true := decide_eq_true c5
        clear c5
        by_cases c6 : t213 ≤ (wrap64 (t213 + (wrap64 (t212))))
        · rw [if_pos c6] at H
          have c6b0 := eq_true c6
          have c6b1 : decide (t213 ≤ (wrap64 (t213 + (wrap64 (t212))))) = true := decide_eq_true c6
          by_cases c7 : (wrap64 (t213 + (wrap64 (t212)))) ≤ (l0.length : Int)
          · rw [if_pos c7] at H
            have c7b0 := eq_true c7
            have c7b1 : decide ((wrap64 (t213 + (wrap64 (t212)))) ≤ (l0.length : Int)) = true := decide_eq_true c7
            obtain ⟨y214, hy214⟩ : ∃ y_ : List Int, y_ = ((l0.take ((wrap64 (t213 + (wrap64 (t212)))) : Int).toNat).drop (t213 : Int).toNat) := ⟨_, rfl⟩
            replace H : (some (strOfNums y214, wrap64 (t213 + (wrap64 (t212))))) = some (r1, r2) := by first | (rw [hy214]; with_reducible exact H) | (have H2_ := (Option.bind_some _ _).symm.trans H; rw [hy214]; with_reducible exact H2_) | (have H2_ := (Option.bind_some _ _).symm.trans H; with_reducible exact H2_) | with_reducible exact H | (rw [hy214]; exact H) | exact H
            have Ny214 := Aside0.mk hy214
            clear hy214
            simp only [Option.some.injEq, Prod.mk.injEq] at H
            obtain ⟨rfl, rfl⟩ := H
            go_enter Try.func37, Try.ntmps37
            go_wp2_with (first | ((with_reducible refine gate_callee (f := 35) rfl ?_); refine goesL_ (some 8) rfl rfl Try.func35 (by kernel_rfl) rfl #[.slice A0 l0.length c0] rfl (by (try simp only [List.map_toArray, List.map_cons, List.map_nil]); first | done | rfl | (simp only [List.length_drop, List.length_take]; rfl)) ?_; (with_reducible refine (incipitref1_Get.calls k _ _ l0 t212 t213 _ ?side1 ?side2 A2.out).mono ?_); (case side1 => repeat (first | exact HR0.out | (with_reducible refine Kd.C_alloc ?_ _) | (with_reducible refine Kd.C_drewN ?_ _) | (with_reducible refine Kd.C_drew ?_))); (case side2 => exact HC0.out); rintro e w' ⟨rfl, ⟨nd, rfl⟩⟩; refine ⟨_, rfl, ?_⟩; have q8 : ((wrap64 (t213 + (wrap64 (t212)))) : Int) ≤ ((l0.length : Int) : Int) := of_decide_eq_true (by first | (with_reducible assumption) | assumption); obtain ⟨i08, hi08, _, hsz8, _⟩ := info_parts info5; have hroom8 : l0.length ≤ c0 := HC0.out; have hC8 : Kd.C (Kd.int .u8) _ A0 l0.length l0 := HR0.out; have ql8 : (t213 : Int) ≤ ((wrap64 (t213 + (wrap64 (t212)))) : Int) := of_decide_eq_true (by first | (with_reducible assumption) | assumption); have q08 : (0 : Int) ≤ (t213 : Int) := of_decide_eq_true (by first | (with_reducible assumption) | assumption); have hcut8 := cut_mid (P := Try.prog) 24 5 .i64 .i64 Try.underlying24 hi08 1 hsz8 A0 l0.length c0 t213 (wrap64 (t213 + (wrap64 (t212)))) q08 ql8 q8 hroom8; have hr8 := Kd.C_mid (lo := (t213 : Int).toNat) (hi := ((wrap64 (t213 + (wrap64 (t212)))) : Int).toNat) (c := c0) hC8 (by omega) (by omega) hroom8; obtain ⟨A8, hA8⟩ : ∃ A1, A1 = (if c0 = (t213 : Int).toNat then A0 else (A0 : Option Addr).map (·.add ((t213 : Int).toNat * 1))) := ⟨_, rfl⟩; obtain ⟨c8, hc8⟩ : ∃ c1, c1 = c0 - (t213 : Int).toNat := ⟨_, rfl⟩; have hy8 : y214.length = ((wrap64 (t213 + (wrap64 (t212)))) : Int).toNat - (t213 : Int).toNat := (by rw [Ny214.out, List.length_drop, List.length_take] <;> omega); rw [show ((l0).take ((wrap64 (t213 + (wrap64 (t212)))) : Int).toNat).drop (t213 : Int).toNat = y214 from Ny214.out.symm] at hr8; replace hr8 : Kd.C (Kd.int .u8) _ A8 y214.length y214 := (by rw [hA8]; exact hr8); rw [← hy8, ← hA8, ← hc8] at hcut8; have HR217 := Aside0.mk hr8; have HC217 := Aside0.mk (show y214.length ≤ c8 from by rw [hy8, hc8]; exact Nat.sub_le_sub_right (Nat.le_trans (by omega) hroom8) _); clear hr8 hC8 hroom8 hi08 hsz8 hc8; have KY8 := Aside0.mk hy8; have KA8 := Aside0.mk hA8; clear hy8 hA8; replace q8 := eq_true q8; have hcv9 := fun n_ => Kd.C_string (P := Try.prog) (A := A8) (c := c8) Try.underlying24 Try.underlying5 Try.underlying9 (Kd.C_drewN HR217.out n_); have hcv10 := Kd.C_string (P := Try.prog) (A := A8) (c := c8) Try.underlying24 Try.underlying5 Try.underlying9 HR217.out))
            go_ret2
            exact ⟨by first | rfl | (simp; done) | (simp [*]; done), by repeat (first | exact Drawn0.refl _ | apply Drawn0.step)⟩
          · rw [if_neg c7] at H
            exact absurd H (by simp)
        · rw [if_neg c6] at H
          exact absurd H (by simp)
      · rw [if_neg c5] at H
        exact absurd H (by simp)

/-! ### incipitlaw8_NumbersBytes: function 9 -/
def incipitlaw8_NumbersBytes.f (k : Nat) (l0 : List Int) : Option (Bool) := (incipitlaw8_begun.f k).bind fun t218 => (if t218 = true then ((some (l0.take 60 : List Int)).bind fun y219 => ((varint_Get.f k y219).bind fun bt223 => ((incipitref1_Get.f k y219).bind fun bt225 => ((varint_GetText.f k y219).bind fun bt227 => ((incipitref1_GetText.f k y219).bind fun bt229 => (if bt223.1 = bt225.1 then (if bt223.2 = bt225.2 then (if bt227.1.toList = bt229.1.toList then (some (bt227.2 == bt229.2)) else (some false)) else (some false)) else (some false))))))) else (some false))
theorem incipitlaw8_NumbersBytes.mono : ∀ a0 k, LeO (incipitlaw8_NumbersBytes.f k a0) (incipitlaw8_NumbersBytes.f (k + 1) a0) := by
  intro a0 k
  unfold incipitlaw8_NumbersBytes.f
  repeat' first
      | (with_reducible exact incipitlaw8_begun.mono _)
      | (with_reducible exact incipitref1_Get.mono _ _)
      | (with_reducible exact incipitref1_GetText.mono _ _)
      | (with_reducible exact varint_Get.mono _ _)
      | (with_reducible exact varint_GetText.mono _ _)
      | (with_reducible exact LeO.refl _)
      | (with_reducible exact LeO.none _)
      | (with_reducible refine LeO.ite ?_ ?_)
      | (with_reducible refine LeO.bind ?_ (fun _ => ?_))
      | exact incipitlaw8_begun.mono _
      | exact incipitref1_Get.mono _ _
      | exact incipitref1_GetText.mono _ _
      | exact varint_Get.mono _ _
      | exact varint_GetText.mono _ _
      | exact LeO.none _
      | refine LeO.ite ?_ ?_
      | refine LeO.bind ?_ (fun _ => ?_)
set_option maxHeartbeats 8000000 in
set_option maxRecDepth 100000 in
theorem incipitlaw8_NumbersBytes.calls (k : Nat) (A0 : Option Addr) (c0 : Nat) (l0 : List Int) (r : Bool) (w : World) (hr0 : Kd.C (Kd.int .u8) w A0 l0.length l0) (hc0 : l0.length ≤ c0) (hrt : r = true) (h : incipitlaw8_NumbersBytes.f k l0 = some r) :
    Calls Try.prog 9 #[.slice A0 l0.length c0] w fun e w' => e = .returned (.bool r) ∧ Below w.heap.size w w' := by
  have HRT := Aside0.mk hrt
  clear hrt
  have HR0 := Aside0.mk hr0
  have HC0 := Aside0.mk hc0
  clear hr0 hc0
  have HB := Aside0.mk (Below.refl w.heap.size w)
  have H : ((incipitlaw8_begun.f k).bind fun t218 => (if t218 = true then ((some (l0.take 60 : List Int)).bind fun y219 => ((varint_Get.f k y219).bind fun bt223 => ((incipitref1_Get.f k y219).bind fun bt225 => ((varint_GetText.f k y219).bind fun bt227 => ((incipitref1_GetText.f k y219).bind fun bt229 => (if bt223.1 = bt225.1 then (if bt223.2 = bt225.2 then (if bt227.1.toList = bt229.1.toList then (some (bt227.2 == bt229.2)) else (some false)) else (some false)) else (some false))))))) else (some false))) = some r := h
  clear h
  replace H := Option.bind_eq_some_iff.mp H
  obtain ⟨t218, A20, H⟩ := H
  replace H : (if t218 = true then ((some (l0.take 60 : List Int)).bind fun y219 => ((varint_Get.f k y219).bind fun bt223 => ((incipitref1_Get.f k y219).bind fun bt225 => ((varint_GetText.f k y219).bind fun bt227 => ((incipitref1_GetText.f k y219).bind fun bt229 => (if bt223.1 = bt225.1 then (if bt223.2 = bt225.2 then (if bt227.1.toList = bt229.1.toList then (some (bt227.2 == bt229.2)) else (some false)) else (some false)) else (some false))))))) else (some false)) = some r := H
  have A2 := Aside0.mk A20
  clear A20
  by_cases c3 : t218 = true
  · subst c3
    have H1 : ((some (l0.take 60 : List Int)).bind fun y219 => ((varint_Get.f k y219).bind fun bt223 => ((incipitref1_Get.f k y219).bind fun bt225 => ((varint_GetText.f k y219).bind fun bt227 => ((incipitref1_GetText.f k y219).bind fun bt229 => (if bt223.1 = bt225.1 then (if bt223.2 = bt225.2 then (if bt227.1.toList = bt229.1.toList then (some (bt227.2 == bt229.2)) else (some false)) else (some false)) else (some false))))))) = some r := by rw [if_pos rfl] at H; exact H
    clear H
    have H := H1
    clear H1
    obtain ⟨y219, hy219⟩ : ∃ y_ : List Int, y_ = (l0.take 60) := ⟨_, rfl⟩
    replace H : ((varint_Get.f k y219).bind fun bt223 => ((incipitref1_Get.f k y219).bind fun bt225 => ((varint_GetText.f k y219).bind fun bt227 => ((incipitref1_GetText.f k y219).bind fun bt229 => (if bt223.1 = bt225.1 then (if bt223.2 = bt225.2 then (if bt227.1.toList = bt229.1.toList then (some (bt227.2 == bt229.2)) else (some false)) else (some false)) else (some false)))))) = some r := by first | (rw [hy219]; with_reducible exact H) | (have H2_ := (Option.bind_some _ _).symm.trans H; rw [hy219]; with_reducible exact H2_) | (have H2_ := (Option.bind_some _ _).symm.trans H; with_reducible exact H2_) | with_reducible exact H | (rw [hy219]; exact H) | exact H
    have Ny219 := Aside0.mk hy219
    clear hy219
    replace H := Option.bind_eq_some_iff.mp H
    obtain ⟨⟨t223, t224⟩, A40, H⟩ := H
    replace H : ((incipitref1_Get.f k y219).bind fun bt225 => ((varint_GetText.f k y219).bind fun bt227 => ((incipitref1_GetText.f k y219).bind fun bt229 => (if t223 = bt225.1 then (if t224 = bt225.2 then (if bt227.1.toList = bt229.1.toList then (some (bt227.2 == bt229.2)) else (some false)) else (some false)) else (some false))))) = some r := H
    have A4 := Aside0.mk A40
    clear A40
    replace H := Option.bind_eq_some_iff.mp H
    obtain ⟨⟨t225, t226⟩, A50, H⟩ := H
    replace H : ((varint_GetText.f k y219).bind fun bt227 => ((incipitref1_GetText.f k y219).bind fun bt229 => (if t223 = t225 then (if t224 = t226 then (if bt227.1.toList = bt229.1.toList then (some (bt227.2 == bt229.2)) else (some false)) else (some false)) else (some false)))) = some r := H
    have A5 := Aside0.mk A50
    clear A50
    replace H := Option.bind_eq_some_iff.mp H
    obtain ⟨⟨t227, t228⟩, A60, H⟩ := H
    replace H : ((incipitref1_GetText.f k y219).bind fun bt229 => (if t223 = t225 then (if t224 = t226 then (if t227.toList = bt229.1.toList then (some (t228 == bt229.2)) else (some false)) else (some false)) else (some false))) = some r := H
    have A6 := Aside0.mk A60
    clear A60
    replace H := Option.bind_eq_some_iff.mp H
    obtain ⟨⟨t229, t230⟩, A70, H⟩ := H
    replace H : (if t223 = t225 then (if t224 = t226 then (if t227.toList = t229.toList then (some (t228 == t230)) else (some false)) else (some false)) else (some false)) = some r := H
    have A7 := Aside0.mk A70
    clear A70
    by_cases c8 : t223 = t225
    · rw [if_pos c8] at H
      have c8b0 : (t223 == t225) = true := beq_iff_eq.mpr c8
      have c8b1 : (t223 != t225) = false := bne_eq_false_iff_eq.mpr c8
      clear c8
      by_cases c9 : t224 = t226
      · rw [if_pos c9] at H
        have c9b0 : (t224 == t226) = true := beq_iff_eq.mpr c9
        have c9b1 : (t224 != t226) = false := bne_eq_false_iff_eq.mpr c9
        clear c9
        by_cases c10 : t227.toList = t229.toList
        · rw [if_pos c10] at H
          have c10b0 : (t227.toList == t229.toList) = true := beq_iff_eq.mpr c10
          have c10b1 : (t227.toList != t229.toList) = false := bne_eq_false_iff_eq.mpr c10
          clear c10
          obtain rfl := Option.some.inj H
          simp only [Option.some.injEq, Prod.mk.injEq] at H
          obtain ⟨rfl⟩ := H
          go_enter Try.func9, Try.ntmps9
          go_wp2_with (first | ((with_reducible refine gate_callee (f := 23) rfl ?_); refine goesL_ (some 12) rfl rfl Try.func23 (by kernel_rfl) rfl #[] rfl (by (try simp only [List.map_toArray, List.map_cons, List.map_nil]); first | done | rfl | (simp only [List.length_drop, List.length_take]; rfl)) ?_; (with_reducible refine (incipitlaw8_begun.calls k  true _ A2.out).mono ?_); rintro e w11 ⟨rfl, hb⟩; refine ⟨_, rfl, ?_⟩; have n0_ := Aside0.mk (below_step (by repeat (first | (with_reducible first | exact HB.out | apply below_alloc | apply pw_below_drewN | apply below_drew1) | exact HB.out)) hb); clear HB; have HB := n0_; clear n0_; (try clear hb); (try clear hb2); (try clear hk); (try clear hi)) | ((with_reducible refine gate_callee (f := 16) rfl ?_); refine goesL_ (some 16) rfl rfl Try.func16 (by kernel_rfl) rfl #[.slice A0 l0.length c0, .int .i64 60] rfl (by (try simp only [List.map_toArray, List.map_cons, List.map_nil]); first | done | rfl | (simp only [List.length_drop, List.length_take]; rfl)) ?_; (with_reducible refine (short_any A0 c0 l0 y219 60 60 _ (by omega) (by omega) HC0.out Ny219.out).mono ?_); rintro e w' ⟨rfl, rfl⟩; refine ⟨_, rfl, ?_⟩; have hr12 := short_C (n := 60) HR0.out; rw [← Ny219.out] at hr12; have HR222 := Aside0.mk hr12; have HC222 := Aside0.mk (show y219.length ≤ c0 from by have := HC0.out; rw [Ny219.out, List.length_take]; omega); clear hr12) | ((with_reducible refine gate_callee (f := 26) rfl ?_); refine goesL_ (some 19) rfl rfl Try.func26 (by kernel_rfl) rfl #[.slice A0 y219.length c0] rfl (by (try simp only [List.map_toArray, List.map_cons, List.map_nil]); first | done | rfl | (simp only [List.length_drop, List.length_take]; rfl)) ?_; (with_reducible refine (varint_Get.calls k _ _ y219 t223 t224 _ ?side1 ?side2 A4.out).mono ?_); (case side1 => repeat (first | exact (Kd.C_below HR222.out HB.out) | (with_reducible refine Kd.C_alloc ?_ _) | (with_reducible refine Kd.C_drewN ?_ _) | (with_reducible refine Kd.C_drew ?_))); (case side2 => exact HC222.out); rintro e w13 ⟨rfl, hb⟩; refine ⟨_, rfl, ?_⟩; have n0_ := Aside0.mk (below_step (by repeat (first | (with_reducible first | exact HB.out | apply below_alloc | apply pw_below_drewN | apply below_drew1) | exact HB.out)) hb); clear HB; have HB := n0_; clear n0_; (try clear hb); (try clear hb2); (try clear hk); (try clear hi)) | ((with_reducible refine gate_callee (f := 35) rfl ?_); refine goesL_ (some 24) rfl rfl Try.func35 (by kernel_rfl) rfl #[.slice A0 y219.length c0] rfl (by (try simp only [List.map_toArray, List.map_cons, List.map_nil]); first | done | rfl | (simp only [List.length_drop, List.length_take]; rfl)) ?_; (with_reducible refine (incipitref1_Get.calls k _ _ y219 t225 t226 _ ?side1 ?side2 A5.out).mono ?_); (case side1 => repeat (first | exact (Kd.C_below HR222.out HB.out) | (with_reducible refine Kd.C_alloc ?_ _) | (with_reducible refine Kd.C_drewN ?_ _) | (with_reducible refine Kd.C_drew ?_))); (case side2 => exact HC222.out); rintro e w' ⟨rfl, ⟨nd, rfl⟩⟩; refine ⟨_, rfl, ?_⟩) | ((with_reducible refine gate_callee (f := 36) rfl ?_); refine goesL_ (some 29) rfl rfl Try.func36 (by kernel_rfl) rfl #[.slice A0 y219.length c0] rfl (by (try simp only [List.map_toArray, List.map_cons, List.map_nil]); first | done | rfl | (simp only [List.length_drop, List.length_take]; rfl)) ?_; (with_reducible refine (varint_GetText.calls k _ _ y219 t227 t228 _ ?side1 ?side2 A6.out).mono ?_); (case side1 => repeat (first | exact (Kd.C_below HR222.out (by repeat (first | (with_reducible first | exact HB.out | apply below_alloc | apply pw_below_drewN | apply below_drew1) | exact HB.out))) | (with_reducible refine Kd.C_alloc ?_ _) | (with_reducible refine Kd.C_drewN ?_ _) | (with_reducible refine Kd.C_drew ?_))); (case side2 => exact HC222.out); rintro e w14 ⟨rfl, hb⟩; refine ⟨_, rfl, ?_⟩; have n0_ := Aside0.mk (below_step (by repeat (first | (with_reducible first | exact HB.out | apply below_alloc | apply pw_below_drewN | apply below_drew1) | exact HB.out)) hb); clear HB; have HB := n0_; clear n0_; (try clear hb); (try clear hb2); (try clear hk); (try clear hi)) | ((with_reducible refine gate_callee (f := 37) rfl ?_); refine goesL_ (some 34) rfl rfl Try.func37 (by kernel_rfl) rfl #[.slice A0 y219.length c0] rfl (by (try simp only [List.map_toArray, List.map_cons, List.map_nil]); first | done | rfl | (simp only [List.length_drop, List.length_take]; rfl)) ?_; (with_reducible refine (incipitref1_GetText.calls k _ _ y219 t229 t230 _ ?side1 ?side2 A7.out).mono ?_); (case side1 => repeat (first | exact (Kd.C_below HR222.out HB.out) | (with_reducible refine Kd.C_alloc ?_ _) | (with_reducible refine Kd.C_drewN ?_ _) | (with_reducible refine Kd.C_drew ?_))); (case side2 => exact HC222.out); rintro e w' ⟨rfl, ⟨nd, rfl⟩⟩; refine ⟨_, rfl, ?_⟩))
          go_ret
          exact ⟨by first | rfl | (simp [errW_none, errW_some] <;> rfl) | (simp [*, errW_none, errW_some] <;> rfl), by repeat (first | (with_reducible first | exact HB.out | apply below_alloc | apply pw_below_drewN | apply below_drew1) | exact HB.out)⟩
        · rw [if_neg c10] at H
          have c10b0 : (t227.toList == t229.toList) = false := beq_eq_false_iff_ne.mpr c10
          have c10b1 : (t227.toList != t229.toList) = true := bne_iff_ne.mpr c10
          obtain rfl := Option.some.inj H
          exact absurd HRT.out (by decide)
      · rw [if_neg c9] at H
        have c9b0 : (t224 == t226) = false := beq_eq_false_iff_ne.mpr c9
        have c9b1 : (t224 != t226) = true := bne_iff_ne.mpr c9
        obtain rfl := Option.some.inj H
        exact absurd HRT.out (by decide)
    · rw [if_neg c8] at H
      have c8b0 : (t223 == t225) = false := beq_eq_false_iff_ne.mpr c8
      have c8b1 : (t223 != t225) = true := bne_iff_ne.mpr c8
      obtain rfl := Option.some.inj H
      exact absurd HRT.out (by decide)
  · replace c3 := Bool.eq_false_iff.mpr c3
    subst c3
    have H1 : (some false) = some r := by rw [if_neg (show ¬ (false = true) by decide)] at H; exact H
    clear H
    have H := H1
    clear H1
    obtain rfl := Option.some.inj H
    exact absurd HRT.out (by decide)

/-- THE ONE PURE STATEMENT of incipitlaw8_NumbersBytes: yours. -/
def incipitlaw8_NumbersBytes.Pure : Prop := ∀ (l0 : List Int), l0.length ≤ maxLen → l0.length * 1 ≤ 140737488351232 → (∀ x ∈ l0, (Lit.int .u8 x).wf = true) → ∃ k, incipitlaw8_NumbersBytes.f k l0 = some true
theorem incipitlaw8_NumbersBytes.walk (P : incipitlaw8_NumbersBytes.Pure) (a0 : Option Addr) (len0 cap0 : Nat) (z0 : List Int) (w : World) (w0 : (a0 = none ∧ len0 = 0 ∧ cap0 = 0 ∧ z0 = []) ∨ ∃ x, a0 = some x ∧ len0 ≤ cap0 ∧ cap0 ≤ maxLen ∧ z0.length = cap0 ∧ (∀ i, i < z0.length → w.cell? (x.add i) = some (.int .u8 (z0.getD i 0))) ∧ ∀ n ∈ z0, (Lit.int .u8 n).wf = true) (y0 : len0 * 1 ≤ 140737488351232) :
    Calls Try.prog 9 #[.slice a0 len0 cap0] w fun e w' => e = .returned (.bool true) ∧ Below w.heap.size w w' := by
  obtain ⟨l0, rfl, hr0, hm0, hw0, hc0⟩ := ReadsInt.ofRowC w0
  obtain ⟨k, h⟩ := P l0 hm0 y0 hw0
  refine (incipitlaw8_NumbersBytes.calls k _ _ l0 true w (Kd.C_of_reads (d := (0 : Int)) (h1 := fun _ => rfl) hr0) hc0 rfl h).mono ?_
  rintro e w' ⟨rfl, hd⟩
  exact ⟨rfl, hd⟩

end Go.Proofs.Ythpeieieibbbgaa.MNum
