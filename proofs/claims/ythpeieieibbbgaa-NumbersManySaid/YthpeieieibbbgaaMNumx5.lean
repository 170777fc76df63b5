-- Written by a program of this session for this claim (out of the translation's print); Lean checks it.
import Derived.Test.YthpeieieibbbgaaMNumx0
import Derived.Test.YthpeieieibbbgaaMNumx1
import Derived.Test.YthpeieieibbbgaaMNumx2
namespace Go.Proofs.Ythpeieieibbbgaa.MNum
open Go.RowKit Go.Proofs.YthpeieieibbbgaaW.PrintWords Go.Proofs.YthpeieieibbbgaaW.PrintLast Go.Proofs.YthpeieieibbbgaaW.PrintMore
attribute [local go_sem] max2_int min2_int max_two min_two max_three min_three max_four min_four   -- for this text's walks alone
set_option linter.unusedVariables false
set_option linter.unusedSimpArgs false

/-! ### incipitlaw8_NumbersMany: function 10 -/
mutual
def incipitlaw8_NumbersMany.l0 : Nat → List Int → List ByteArray → List Int → Int → Option (Bool)
  | 0, _, _, _, _ => none
  | k + 1, x0, x1, x6, x7 => if x7 < (x0.length : Int) then (incipitlaw8_NumbersMany.j1 k x0 x1 x6 x7 (decide (x7 < 20))) else (incipitlaw8_NumbersMany.j1 k x0 x1 x6 x7 false)
def incipitlaw8_NumbersMany.j1 : Nat → List Int → List ByteArray → List Int → Int → Bool → Option (Bool)
  | 0, _, _, _, _, _ => none
  | k + 1, x0, x1, x6, x7, x23 => if x23 = true then (if 0 ≤ x7 then (if x7 < (x0.length : Int) then ((varint_Put.f k (IntKind.u64.wrap (rd x0 x7))).bind fun t233 => (if x6.length + t233.length < 140737488355328 then ((some (x6 ++ t233 : List Int)).bind fun y236 => (if x7 < (x1.length : Int) then ((incipitlaw1_Cut.f (rdOf ByteArray.empty x1 x7) 30).bind fun t240 => ((varint_Text.f k t240).bind fun t241 => (if y236.length + t241.length < 140737488355328 then (incipitlaw8_NumbersMany.l0 k x0 x1 (y236 ++ t241) (wrap64 (x7 + 1))) else (none)))) else (incipitlaw8_NumbersMany.l0 k x0 x1 y236 (wrap64 (x7 + 1))))) else (none))) else (none)) else (none)) else (incipitlaw8_NumbersMany.l1 k x0 x1 x6 0)
def incipitlaw8_NumbersMany.l1 : Nat → List Int → List ByteArray → List Int → Int → Option (Bool)
  | 0, _, _, _, _ => none
  | k + 1, x0, x1, x6, x8 => if x8 < (x0.length : Int) then (incipitlaw8_NumbersMany.j3 k x0 x1 x6 x8 (decide (x8 < 20))) else (incipitlaw8_NumbersMany.j3 k x0 x1 x6 x8 false)
def incipitlaw8_NumbersMany.j3 : Nat → List Int → List ByteArray → List Int → Int → Bool → Option (Bool)
  | 0, _, _, _, _, _ => none
  | k + 1, x0, x1, x6, x8, x53 => if x53 = true then ((varint_Get.f k x6).bind fun bt247 => (if bt247.2 = 0 then (incipitlaw8_NumbersMany.j4 k x0 x1 x6 x8 bt247.2 true) else (if 0 ≤ x8 then (if x8 < (x0.length : Int) then (incipitlaw8_NumbersMany.j4 k x0 x1 x6 x8 bt247.2 (bt247.1 != (IntKind.u64.wrap (rd x0 x8)))) else (none)) else (none)))) else (some ((x6.length : Int) == 0))
def incipitlaw8_NumbersMany.j4 : Nat → List Int → List ByteArray → List Int → Int → Int → Bool → Option (Bool)
  | 0, _, _, _, _, _, _ => none
  | k + 1, x0, x1, x6, x8, x10, x71 => if x71 = true then (some false) else (if 0 ≤ x10 then (if x10 ≤ (x6.length : Int) then ((some (x6.drop (x10 : Int).toNat : List Int)).bind fun y250 => (if x8 < (x1.length : Int) then ((varint_GetText.f k y250).bind fun bt253 => (if bt253.2 = 0 then (some false) else (if 0 ≤ x8 then ((incipitlaw1_Cut.f (rdOf ByteArray.empty x1 x8) 30).bind fun t256 => (if bt253.1.toList = t256.toList then (if 0 ≤ bt253.2 then (if bt253.2 ≤ (y250.length : Int) then (incipitlaw8_NumbersMany.l1 k x0 x1 (y250.drop (bt253.2 : Int).toNat) (wrap64 (x8 + 1))) else (none)) else (none)) else (some false))) else (none)))) else (incipitlaw8_NumbersMany.l1 k x0 x1 y250 (wrap64 (x8 + 1))))) else (none)) else (none))
end
def incipitlaw8_NumbersMany.f (k : Nat) (l0 : List Int) (l1 : List ByteArray) : Option (Bool) := (incipitlaw8_begun.f k).bind fun t231 => (if t231 = true then (incipitlaw8_NumbersMany.l0 k l0 l1 ([] : List Int) 0) else (some false))
theorem incipitlaw8_NumbersMany.mono_l : ∀ k, (∀ y0 y1 y2 y3, LeO (incipitlaw8_NumbersMany.l0 k y0 y1 y2 y3) (incipitlaw8_NumbersMany.l0 (k + 1) y0 y1 y2 y3)) ∧ (∀ y0 y1 y2 y3 y4, LeO (incipitlaw8_NumbersMany.j1 k y0 y1 y2 y3 y4) (incipitlaw8_NumbersMany.j1 (k + 1) y0 y1 y2 y3 y4)) ∧ (∀ y0 y1 y2 y3, LeO (incipitlaw8_NumbersMany.l1 k y0 y1 y2 y3) (incipitlaw8_NumbersMany.l1 (k + 1) y0 y1 y2 y3)) ∧ (∀ y0 y1 y2 y3 y4, LeO (incipitlaw8_NumbersMany.j3 k y0 y1 y2 y3 y4) (incipitlaw8_NumbersMany.j3 (k + 1) y0 y1 y2 y3 y4)) ∧ (∀ y0 y1 y2 y3 y4 y5, LeO (incipitlaw8_NumbersMany.j4 k y0 y1 y2 y3 y4 y5) (incipitlaw8_NumbersMany.j4 (k + 1) y0 y1 y2 y3 y4 y5))
  | 0 => ⟨fun _ _ _ _ r h => by simp [incipitlaw8_NumbersMany.l0] at h, fun _ _ _ _ _ r h => by simp [incipitlaw8_NumbersMany.j1] at h, fun _ _ _ _ r h => by simp [incipitlaw8_NumbersMany.l1] at h, fun _ _ _ _ _ r h => by simp [incipitlaw8_NumbersMany.j3] at h, fun _ _ _ _ _ _ r h => by simp [incipitlaw8_NumbersMany.j4] at h⟩
  | k + 1 => by
    obtain ⟨ih0, ih1, ih2, ih3, ih4⟩ := incipitlaw8_NumbersMany.mono_l k
    refine ⟨?_, ?_, ?_, ?_, ?_⟩
    · intro y0 y1 y2 y3
      unfold incipitlaw8_NumbersMany.l0
      repeat' first
      | (with_reducible exact ih0 _ _ _ _)
      | (with_reducible exact ih1 _ _ _ _ _)
      | (with_reducible exact ih2 _ _ _ _)
      | (with_reducible exact ih3 _ _ _ _ _)
      | (with_reducible exact ih4 _ _ _ _ _ _)
      | (with_reducible exact incipitlaw8_begun.mono _)
      | (with_reducible exact varint_Get.mono _ _)
      | (with_reducible exact varint_GetText.mono _ _)
      | (with_reducible exact varint_Put.mono _ _)
      | (with_reducible exact varint_Text.mono _ _)
      | (with_reducible exact LeO.refl _)
      | (with_reducible exact LeO.none _)
      | (with_reducible refine LeO.ite ?_ ?_)
      | (with_reducible refine LeO.bind ?_ (fun _ => ?_))
      | exact ih0 _ _ _ _
      | exact ih1 _ _ _ _ _
      | exact ih2 _ _ _ _
      | exact ih3 _ _ _ _ _
      | exact ih4 _ _ _ _ _ _
      | exact incipitlaw8_begun.mono _
      | exact varint_Get.mono _ _
      | exact varint_GetText.mono _ _
      | exact varint_Put.mono _ _
      | exact varint_Text.mono _ _
      | exact LeO.none _
      | refine LeO.ite ?_ ?_
      | refine LeO.bind ?_ (fun _ => ?_)
    · intro y0 y1 y2 y3 y4
      unfold incipitlaw8_NumbersMany.j1
      repeat' first
      | (with_reducible exact ih0 _ _ _ _)
      | (with_reducible exact ih1 _ _ _ _ _)
      | (with_reducible exact ih2 _ _ _ _)
      | (with_reducible exact ih3 _ _ _ _ _)
      | (with_reducible exact ih4 _ _ _ _ _ _)
      | (with_reducible exact incipitlaw8_begun.mono _)
      | (with_reducible exact varint_Get.mono _ _)
      | (with_reducible exact varint_GetText.mono _ _)
      | (with_reducible exact varint_Put.mono _ _)
      | (with_reducible exact varint_Text.mono _ _)
      | (with_reducible exact LeO.refl _)
      | (with_reducible exact LeO.none _)
      | (with_reducible refine LeO.ite ?_ ?_)
      | (with_reducible refine LeO.bind ?_ (fun _ => ?_))
      | exact ih0 _ _ _ _
      | exact ih1 _ _ _ _ _
      | exact ih2 _ _ _ _
      | exact ih3 _ _ _ _ _
      | exact ih4 _ _ _ _ _ _
      | exact incipitlaw8_begun.mono _
      | exact varint_Get.mono _ _
      | exact varint_GetText.mono _ _
      | exact varint_Put.mono _ _
      | exact varint_Text.mono _ _
      | exact LeO.none _
      | refine LeO.ite ?_ ?_
      | refine LeO.bind ?_ (fun _ => ?_)
    · intro y0 y1 y2 y3
      unfold incipitlaw8_NumbersMany.l1
      repeat' first
      | (with_reducible exact ih0 _ _ _ _)
      | (with_reducible exact ih1 _ _ _ _ _)
      | (with_reducible exact ih2 _ _ _ _)
      | (with_reducible exact ih3 _ _ _ _ _)
      | (with_reducible exact ih4 _ _ _ _ _ _)
      | (with_reducible exact incipitlaw8_begun.mono _)
      | (with_reducible exact varint_Get.mono _ _)
      | (with_reducible exact varint_GetText.mono _ _)
      | (with_reducible exact varint_Put.mono _ _)
      | (with_reducible exact varint_Text.mono _ _)
      | (with_reducible exact LeO.refl _)
      | (with_reducible exact LeO.none _)
      | (with_reducible refine LeO.ite ?_ ?_)
      | (with_reducible refine LeO.bind ?_ (fun _ => ?_))
      | exact ih0 _ _ _ _
      | exact ih1 _ _ _ _ _
      | exact ih2 _ _ _ _
      | exact ih3 _ _ _ _ _
      | exact ih4 _ _ _ _ _ _
      | exact incipitlaw8_begun.mono _
      | exact varint_Get.mono _ _
      | exact varint_GetText.mono _ _
      | exact varint_Put.mono _ _
      | exact varint_Text.mono _ _
      | exact LeO.none _
      | refine LeO.ite ?_ ?_
      | refine LeO.bind ?_ (fun _ => ?_)
    · intro y0 y1 y2 y3 y4
      unfold incipitlaw8_NumbersMany.j3
      repeat' first
      | (with_reducible exact ih0 _ _ _ _)
      | (with_reducible exact ih1 _ _ _ _ _)
      | (with_reducible exact ih2 _ _ _ _)
      | (with_reducible exact ih3 _ _ _ _ _)
      | (with_reducible exact ih4 _ _ _ _ _ _)
      | (with_reducible exact incipitlaw8_begun.mono _)
      | (with_reducible exact varint_Get.mono _ _)
      | (with_reducible exact varint_GetText.mono _ _)
      | (with_reducible exact varint_Put.mono _ _)
      | (with_reducible exact varint_Text.mono _ _)
      | (with_reducible exact LeO.refl _)
      | (with_reducible exact LeO.none _)
      | (with_reducible refine LeO.ite ?_ ?_)
      | (with_reducible refine LeO.bind ?_ (fun _ => ?_))
      | exact ih0 _ _ _ _
      | exact ih1 _ _ _ _ _
      | exact ih2 _ _ _ _
      | exact ih3 _ _ _ _ _
      | exact ih4 _ _ _ _ _ _
      | exact incipitlaw8_begun.mono _
      | exact varint_Get.mono _ _
      | exact varint_GetText.mono _ _
      | exact varint_Put.mono _ _
      | exact varint_Text.mono _ _
      | exact LeO.none _
      | refine LeO.ite ?_ ?_
      | refine LeO.bind ?_ (fun _ => ?_)
    · intro y0 y1 y2 y3 y4 y5
      unfold incipitlaw8_NumbersMany.j4
      repeat' first
      | (with_reducible exact ih0 _ _ _ _)
      | (with_reducible exact ih1 _ _ _ _ _)
      | (with_reducible exact ih2 _ _ _ _)
      | (with_reducible exact ih3 _ _ _ _ _)
      | (with_reducible exact ih4 _ _ _ _ _ _)
      | (with_reducible exact incipitlaw8_begun.mono _)
      | (with_reducible exact varint_Get.mono _ _)
      | (with_reducible exact varint_GetText.mono _ _)
      | (with_reducible exact varint_Put.mono _ _)
      | (with_reducible exact varint_Text.mono _ _)
      | (with_reducible exact LeO.refl _)
      | (with_reducible exact LeO.none _)
      | (with_reducible refine LeO.ite ?_ ?_)
      | (with_reducible refine LeO.bind ?_ (fun _ => ?_))
      | exact ih0 _ _ _ _
      | exact ih1 _ _ _ _ _
      | exact ih2 _ _ _ _
      | exact ih3 _ _ _ _ _
      | exact ih4 _ _ _ _ _ _
      | exact incipitlaw8_begun.mono _
      | exact varint_Get.mono _ _
      | exact varint_GetText.mono _ _
      | exact varint_Put.mono _ _
      | exact varint_Text.mono _ _
      | exact LeO.none _
      | refine LeO.ite ?_ ?_
      | refine LeO.bind ?_ (fun _ => ?_)
theorem incipitlaw8_NumbersMany.mono : ∀ a0 a1 k, LeO (incipitlaw8_NumbersMany.f k a0 a1) (incipitlaw8_NumbersMany.f (k + 1) a0 a1) := by
  intro a0 a1 k
  obtain ⟨ih0, ih1, ih2, ih3, ih4⟩ := incipitlaw8_NumbersMany.mono_l k
  unfold incipitlaw8_NumbersMany.f
  repeat' first
      | (with_reducible exact ih0 _ _ _ _)
      | (with_reducible exact ih1 _ _ _ _ _)
      | (with_reducible exact ih2 _ _ _ _)
      | (with_reducible exact ih3 _ _ _ _ _)
      | (with_reducible exact ih4 _ _ _ _ _ _)
      | (with_reducible exact incipitlaw8_begun.mono _)
      | (with_reducible exact varint_Get.mono _ _)
      | (with_reducible exact varint_GetText.mono _ _)
      | (with_reducible exact varint_Put.mono _ _)
      | (with_reducible exact varint_Text.mono _ _)
      | (with_reducible exact LeO.refl _)
      | (with_reducible exact LeO.none _)
      | (with_reducible refine LeO.ite ?_ ?_)
      | (with_reducible refine LeO.bind ?_ (fun _ => ?_))
      | exact ih0 _ _ _ _
      | exact ih1 _ _ _ _ _
      | exact ih2 _ _ _ _
      | exact ih3 _ _ _ _ _
      | exact ih4 _ _ _ _ _ _
      | exact incipitlaw8_begun.mono _
      | exact varint_Get.mono _ _
      | exact varint_GetText.mono _ _
      | exact varint_Put.mono _ _
      | exact varint_Text.mono _ _
      | exact LeO.none _
      | refine LeO.ite ?_ ?_
      | refine LeO.bind ?_ (fun _ => ?_)
set_option maxHeartbeats 8000000 in
set_option maxRecDepth 100000 in
theorem incipitlaw8_NumbersMany.calls (k : Nat) (A0 : Option Addr) (c0 : Nat) (l0 : List Int) (A1 : Option Addr) (c1 : Nat) (l1 : List ByteArray) (r : Bool) (w : World) (hr0 : Kd.C (Kd.int .i64) w A0 l0.length l0) (hc0 : l0.length ≤ c0) (hr1 : Kd.C Kd.string w A1 l1.length l1) (hc1 : l1.length ≤ c1) (hrt : r = true) (h : incipitlaw8_NumbersMany.f k l0 l1 = some r) :
    Calls Try.prog 10 #[.slice A0 l0.length c0, .slice A1 l1.length c1] w fun e w' => e = .returned (.bool r) ∧ Below w.heap.size w w' := by
  have HRT := Aside0.mk hrt
  clear hrt
  have HR0 := Aside0.mk hr0
  have HC0 := Aside0.mk hc0
  clear hr0 hc0
  have HR1 := Aside0.mk hr1
  have HC1 := Aside0.mk hc1
  clear hr1 hc1
  have HB := Aside0.mk (Below.refl w.heap.size w)
  have H : ((incipitlaw8_begun.f k).bind fun t231 => (if t231 = true then (incipitlaw8_NumbersMany.l0 k l0 l1 ([] : List Int) 0) else (some false))) = some r := h
  clear h
  replace H := Option.bind_eq_some_iff.mp H
  obtain ⟨t231, A30, H⟩ := H
  replace H : (if t231 = true then (incipitlaw8_NumbersMany.l0 k l0 l1 ([] : List Int) 0) else (some false)) = some r := H
  have A3 := Aside0.mk A30
  clear A30
  by_cases c4 : t231 = true
  · subst c4
    have H1 : (incipitlaw8_NumbersMany.l0 k l0 l1 ([] : List Int) 0) = some r := by rw [if_pos rfl] at H; exact H
    clear H
    have H := H1
    clear H1
    have H' := Aside0.mk H
    clear H
    go_enter Try.func10, Try.ntmps10
    go_wp2_with (first | ((with_reducible refine gate_callee (f := 23) rfl ?_); refine goesL_ (some 13) rfl rfl Try.func23 (by kernel_rfl) rfl #[] rfl (by (try simp only [List.map_toArray, List.map_cons, List.map_nil]); first | done | rfl | (simp only [List.length_drop, List.length_take]; rfl)) ?_; (with_reducible refine (incipitlaw8_begun.calls k  true _ A3.out).mono ?_); rintro e w5 ⟨rfl, hb⟩; refine ⟨_, rfl, ?_⟩; have n0_ := Aside0.mk (below_step (by repeat (first | (with_reducible first | exact HB.out | apply below_alloc | apply pw_below_drewN | apply below_drew1) | exact HB.out)) hb); clear HB; have HB := n0_; clear n0_; (try clear hb); (try clear hb2); (try clear hk); (try clear hi)))
    go_loopg [6, 7] k (fun kq v6 v7 w' => ∃ (x6_1 : List Int) (x7_1 : Int), v7 = .int .i64 x7_1 ∧ Aside0 (incipitlaw8_NumbersMany.l0 kq l0 l1 x6_1 x7_1 = some r) ∧ Aside0 (kq ≤ k) ∧ Aside0 (Kd.R (Kd.int .u8) 5 w' w.heap.size (fun _ => True) v6 x6_1) ∧ Aside0 (Below w.heap.size w w'))
    case atStart => exact ⟨(([] : List Int)), (0), (by first | rfl | (simp; done) | (simp [*]; done)), H', ⟨Nat.le_refl _⟩, ⟨by first | exact Kd.R_nil _ _ _ _ _ | exact Kd.N_nil _ _ _ _ _ | exact Kd.V_nil _ _ _ _ _ | exact Kd.Q_nil _ _ _ _ _ | exact Kd.S_nil _ _ _ _ _⟩, ⟨by repeat (first | (with_reducible first | exact HB.out | apply below_alloc | apply pw_below_drewN | apply below_drew1) | exact HB.out)⟩⟩
    case round =>
      clear H'
      try clear c1
      try clear c2
      try clear p2
      try clear c4
      obtain ⟨x6_1, x7_1, rfl, HA, HK1, HO_6, HB⟩ := hrel
      cases gk with
      | zero => exact absurd HA.out (by simp [incipitlaw8_NumbersMany.l0])
      | succ k1 =>
        have H := HA.out
        clear HA
        simp only [incipitlaw8_NumbersMany.l0] at H
        have HC6 := Aside0.mk H
        clear H
        go_upto_region 6 with (fail)
        go_cut [23] (fun v23 wc => ∃ (kq : Nat) (x23_5 : Bool), v23 = .bool x23_5 ∧ Aside0 (incipitlaw8_NumbersMany.j1 kq l0 l1 x6_1 x7_1 x23_5 = some r) ∧ Aside0 (kq ≤ k1) ∧ Aside0 (Kd.R (Kd.int .u8) 5 wc w.heap.size (fun _ => True) u6 x6_1) ∧ Aside0 (Below w.heap.size w wc))
        case first =>
          have H := HC6.out
          clear HC6
          by_cases c7 : x7_1 < (l0.length : Int)
          · rw [if_pos c7] at H
            have c7b0 : decide (x7_1 < (l0.length : Int)) = true := decide_eq_true c7
            clear c7
            (first | rw [c7b0] | (simp only [i64_w, i32_w]; rw [c7b0]) | skip)
            have H' := Aside0.mk H
            clear H
            go_wp2
            go_meet
            case rel => exact ⟨_, (decide (x7_1 < 20)), (by first | rfl | (simp; done) | (simp [*]; done)), H', ⟨by have := HK1.out; first | omega | exact Nat.le_refl _⟩, ⟨by (with_reducible repeat (first | apply Kd.R_alloc | apply Kd.R_drewN | apply Kd.R_drew)); exact HO_6.out⟩, ⟨by repeat (first | (with_reducible first | exact HB.out | apply below_alloc | apply pw_below_drewN | apply below_drew1) | exact HB.out)⟩⟩
          · rw [if_neg c7] at H
            have c7b0 : decide (x7_1 < (l0.length : Int)) = false := decide_eq_false c7
            clear c7
            (first | rw [c7b0] | (simp only [i64_w, i32_w]; rw [c7b0]) | skip)
            have H' := Aside0.mk H
            clear H
            go_wp2
            go_meet
            case rel => exact ⟨_, (false), (by first | rfl | (simp; done) | (simp [*]; done)), H', ⟨by have := HK1.out; first | omega | exact Nat.le_refl _⟩, ⟨by (with_reducible repeat (first | apply Kd.R_alloc | apply Kd.R_drewN | apply Kd.R_drew)); exact HO_6.out⟩, ⟨by repeat (first | (with_reducible first | exact HB.out | apply below_alloc | apply pw_below_drewN | apply below_drew1) | exact HB.out)⟩⟩
        case rest =>
          clear HC6
          try clear c1
          try clear c2
          try clear p2
          try clear c4
          try clear c7
          try clear c7b0
          try clear p2
          obtain ⟨kq, x23_5, rfl, HA, HJ5, HO_6, HB⟩ := hcut
          cases kq with
          | zero => exact absurd HA.out (by simp [incipitlaw8_NumbersMany.j1])
          | succ kj5 =>
            have H := HA.out
            clear HA
            simp only [incipitlaw8_NumbersMany.j1] at H
            by_cases c8 : x23_5 = true
            · subst c8
              have H1 : (if 0 ≤ x7_1 then (if x7_1 < (l0.length : Int) then ((varint_Put.f kj5 (IntKind.u64.wrap (rd l0 x7_1))).bind fun t233 => (if x6_1.length + t233.length < 140737488355328 then ((some (x6_1 ++ t233 : List Int)).bind fun y236 => (if x7_1 < (l1.length : Int) then ((incipitlaw1_Cut.f (rdOf ByteArray.empty l1 x7_1) 30).bind fun t240 => ((varint_Text.f kj5 t240).bind fun t241 => (if y236.length + t241.length < 140737488355328 then (incipitlaw8_NumbersMany.l0 kj5 l0 l1 (y236 ++ t241) (wrap64 (x7_1 + 1))) else (none)))) else (incipitlaw8_NumbersMany.l0 kj5 l0 l1 y236 (wrap64 (x7_1 + 1))))) else (none))) else (none)) else (none)) = some r := by rw [if_pos rfl] at H; exact H
              clear H
              have H := H1
              clear H1
              by_cases c9 : 0 ≤ x7_1
              · rw [if_pos c9] at H
                have c9b0 : decide (0 ≤ x7_1) = true := decide_eq_true c9
                clear c9
                by_cases c10 : x7_1 < (l0.length : Int)
                · rw [if_pos c10] at H
                  have c10b0 : decide (x7_1 < (l0.length : Int)) = true := decide_eq_true c10
                  clear c10
                  replace H := Option.bind_eq_some_iff.mp H
                  obtain ⟨t233, A110, H⟩ := H
                  replace H : (if x6_1.length + t233.length < 140737488355328 then ((some (x6_1 ++ t233 : List Int)).bind fun y236 => (if x7_1 < (l1.length : Int) then ((incipitlaw1_Cut.f (rdOf ByteArray.empty l1 x7_1) 30).bind fun t240 => ((varint_Text.f kj5 t240).bind fun t241 => (if y236.length + t241.length < 140737488355328 then (incipitlaw8_NumbersMany.l0 kj5 l0 l1 (y236 ++ t241) (wrap64 (x7_1 + 1))) else (none)))) else (incipitlaw8_NumbersMany.l0 kj5 l0 l1 y236 (wrap64 (x7_1 + 1))))) else (none)) = some r := H
                  have A11 := Aside0.mk A110
                  clear A110
                  by_cases c12 : x6_1.length + t233.length < 140737488355328
                  · rw [if_pos c12] at H
                    have LMc12 := Aside0.mk c12
                    clear c12
                    obtain ⟨y236, hy236⟩ : ∃ y_ : List Int, y_ = (x6_1 ++ t233) := ⟨_, rfl⟩
                    replace H : (if x7_1 < (l1.length : Int) then ((incipitlaw1_Cut.f (rdOf ByteArray.empty l1 x7_1) 30).bind fun t240 => ((varint_Text.f kj5 t240).bind fun t241 => (if y236.length + t241.length < 140737488355328 then (incipitlaw8_NumbersMany.l0 kj5 l0 l1 (y236 ++ t241) (wrap64 (x7_1 + 1))) else (none)))) else (incipitlaw8_NumbersMany.l0 kj5 l0 l1 y236 (wrap64 (x7_1 + 1)))) = some r := by first | (rw [hy236]; with_reducible exact H) | (have H2_ := (Option.bind_some _ _).symm.trans H; rw [hy236]; with_reducible exact H2_) | (have H2_ := (Option.bind_some _ _).symm.trans H; with_reducible exact H2_) | with_reducible exact H | (rw [hy236]; exact H) | exact H
                    have Ny236 := Aside0.mk hy236
                    clear hy236
                    by_cases c13 : x7_1 < (l1.length : Int)
                    · rw [if_pos c13] at H
                      have c13b0 : decide (x7_1 < (l1.length : Int)) = true := decide_eq_true c13
                      clear c13
                      replace H := Option.bind_eq_some_iff.mp H
                      obtain ⟨t240, A140, H⟩ := H
                      replace H : ((varint_Text.f kj5 t240).bind fun t241 => (if y236.length + t241.length < 140737488355328 then (incipitlaw8_NumbersMany.l0 kj5 l0 l1 (y236 ++ t241) (wrap64 (x7_1 + 1))) else (none))) = some r := H
                      have A14 := Aside0.mk A140
                      clear A140
                      replace H := Option.bind_eq_some_iff.mp H
                      obtain ⟨t241, A150, H⟩ := H
                      replace H : (if y236.length + t241.length < 140737488355328 then (incipitlaw8_NumbersMany.l0 kj5 l0 l1 (y236 ++ t241) (wrap64 (x7_1 + 1))) else (none)) = some r := H
                      have A15 := Aside0.mk A150
                      clear A150
                      by_cases c16 : y236.length + t241.length < 140737488355328
                      · rw [if_pos c16] at H
                        have LMc16 := Aside0.mk c16
                        clear c16
                        obtain ⟨y244, hy244⟩ : ∃ y_ : List Int, y_ = (y236 ++ t241) := ⟨_, rfl⟩
                        replace H : (incipitlaw8_NumbersMany.l0 kj5 l0 l1 y244 (wrap64 (x7_1 + 1))) = some r := by first | (rw [hy244]; with_reducible exact H) | (have H2_ := (Option.bind_some _ _).symm.trans H; rw [hy244]; with_reducible exact H2_) | (have H2_ := (Option.bind_some _ _).symm.trans H; with_reducible exact H2_) | with_reducible exact H | (rw [hy244]; exact H) | exact H
                        have Ny244 := Aside0.mk hy244
                        clear hy244
                        have H' := Aside0.mk H
                        clear H
                        have p232 : 0 ≤ (x7_1 : Int) := of_decide_eq_true (by first | (with_reducible assumption) | assumption)
                        have q232 : x7_1 < (l0.length : Int) := of_decide_eq_true (by first | (with_reducible assumption) | assumption)
                        obtain ⟨ad232, e232, hx232_0⟩ := Kd.at_int HR0.out x7_1 p232 q232
                        cases e232
                        replace hx232_0 := (HB.out.cell (World.block_lt_of_cell? w _ hx232_0)).trans hx232_0
                        replace p232 := eq_true p232
                        replace q232 := eq_true q232
                        go_wp2_with (first | ((with_reducible refine gate_callee (f := 25) rfl ?_); refine goesL_ (some 32) rfl rfl Try.func25 (by kernel_rfl) rfl #[.int .u64 (IntKind.u64.wrap (rd l0 x7_1))] rfl (by (try simp only [List.map_toArray, List.map_cons, List.map_nil]); first | done | rfl | (simp only [List.length_drop, List.length_take]; rfl)) ?_; (with_reducible refine (varint_Put.calls kj5 (IntKind.u64.wrap (rd l0 x7_1)) t233 _ A11.out).mono ?_); rintro e w17 ⟨v234, rfl, ho0, hb⟩; refine ⟨_, rfl, ?_⟩; have n0_ := Aside0.mk (Kd.R_elder' (by (with_reducible repeat (first | apply Kd.R_alloc | apply Kd.R_drewN | apply Kd.R_drew)); exact HO_6.out) (Kd.R_base ho0) hb); have n1_ := Aside0.mk (Kd.R_lower (Kd.R_new' ho0 (Kd.R_lt (by (with_reducible repeat (first | apply Kd.R_alloc | apply Kd.R_drewN | apply Kd.R_drew)); exact HO_6.out))) (below_size (by repeat (first | (with_reducible first | exact HB.out | apply below_alloc | apply pw_below_drewN | apply below_drew1) | exact HB.out)))); have n2_ := Aside0.mk (below_step (by repeat (first | (with_reducible first | exact HB.out | apply below_alloc | apply pw_below_drewN | apply below_drew1) | exact HB.out)) hb); clear HO_6; clear HB; have HO_6 := n0_; have HO235 := n1_; have HB := n2_; clear n0_ n1_ n2_; (try clear hb); (try clear hb2); (try clear hk); (try clear hi); (try clear ho0); obtain ⟨Ao19, co19, eo19⟩ := Kd.R_slice HO235.out; subst eo19) | ((with_reducible refine gate_builtin (b := .append) (xs := #[.tmp 26, .tmp 32]) rfl ?_); at_builtin; refine Kd.R_append_rows (Kd.int .u8) (w0 := w) w.heap.size rfl (.tmp 26) (.tmp 32) 24 5 (.int .u8 0) 1 rfl Try.underlying24 info5 rfl (by decide) (by omega) u6 x6_1 t233 _ _ _ (fun k_ => some k_ ≠ (.slice Ao19 t233.length co19 : Value).ownBlock) (fun _ => False) rfl rfl ?aO ?aR (fun _ _ h => h) (fun _ h => h.elim) ?aF ?aB ?aS ?aL ?_; (case aR => repeat (first | exact (Kd.R_reads' HO235.out).2.2 | (with_reducible refine Kd.C_alloc ?_ _) | (with_reducible refine Kd.C_drewN ?_ _) | (with_reducible refine Kd.C_drew ?_))); (case aB => exact (by repeat (first | (with_reducible first | exact HB.out | apply below_alloc | apply pw_below_drewN | apply below_drew1) | exact HB.out))); (case aF => exact (fun k_ hk => Kd.fresh' (Kd.R_lt (by (with_reducible repeat (first | apply Kd.R_alloc | apply Kd.R_drewN | apply Kd.R_drew)); exact HO235.out)) k_ hk)); (case aO => exact (by (with_reducible repeat (first | apply Kd.R_alloc | apply Kd.R_drewN | apply Kd.R_drew)); exact Kd.R_mono HO_6.out (fun _ hk => hk.2))); (case aS => exact (below_size (by repeat (first | (with_reducible first | exact HB.out | apply below_alloc | apply pw_below_drewN | apply below_drew1) | exact HB.out)))); (case aL => have := LMc12.out; omega); intro v237 w18 ho hb hg hat; rw [← Ny236.out] at ho; have n0_ := Aside0.mk (Kd.R_after (ok := (fun _ => True)) (by (with_reducible repeat (first | apply Kd.R_alloc | apply Kd.R_drewN | apply Kd.R_drew)); exact HO235.out) hg hat); have n1_ := Aside0.mk (hb); have n2_ := Aside0.mk (ho); clear HO235; clear HB; clear HO_6; have HO235 := n0_; have HB := n1_; have HO238 := n2_; clear n0_ n1_ n2_; clear ho hb hg hat; have p239 : 0 ≤ (x7_1 : Int) := of_decide_eq_true (by first | (with_reducible assumption) | assumption); have q239 : x7_1 < (l1.length : Int) := of_decide_eq_true (by first | (with_reducible assumption) | assumption); obtain ⟨ad239, e239, hx239_0⟩ := Kd.at_string HR1.out x7_1 p239 q239; cases e239; replace hx239_0 := (HB.out.cell (World.block_lt_of_cell? w _ hx239_0)).trans hx239_0; replace p239 := eq_true p239; replace q239 := eq_true q239) | ((with_reducible refine gate_callee (f := 24) rfl ?_); refine goesL_ (some 43) rfl rfl Try.func24 (by kernel_rfl) rfl #[.string (rdOf ByteArray.empty l1 x7_1), .int .i64 30] rfl (by (try simp only [List.map_toArray, List.map_cons, List.map_nil]); first | done | rfl | (simp only [List.length_drop, List.length_take]; rfl)) ?_; (with_reducible refine (incipitlaw1_Cut.calls (rdOf ByteArray.empty l1 x7_1) 30 t240 _ A14.out).mono ?_); rintro e w' ⟨rfl, ⟨nd, rfl⟩⟩; refine ⟨_, rfl, ?_⟩) | ((with_reducible refine gate_callee (f := 33) rfl ?_); refine goesL_ (some 44) rfl rfl Try.func33 (by kernel_rfl) rfl #[.string t240] rfl (by (try simp only [List.map_toArray, List.map_cons, List.map_nil]); first | done | rfl | (simp only [List.length_drop, List.length_take]; rfl)) ?_; (with_reducible refine (varint_Text.calls kj5 t240 t241 _ A15.out).mono ?_); rintro e w20 ⟨v242, rfl, ho0, hb⟩; refine ⟨_, rfl, ?_⟩; have n0_ := Aside0.mk (Kd.R_elder' (by (with_reducible repeat (first | apply Kd.R_alloc | apply Kd.R_drewN | apply Kd.R_drew)); exact HO235.out) (Kd.R_base ho0) hb); have n1_ := Aside0.mk (Kd.R_elder' (by (with_reducible repeat (first | apply Kd.R_alloc | apply Kd.R_drewN | apply Kd.R_drew)); exact HO238.out) (Kd.R_base ho0) hb); have n2_ := Aside0.mk (Kd.R_lower (Kd.R_new' (Kd.R_new' ho0 (Kd.R_lt (by (with_reducible repeat (first | apply Kd.R_alloc | apply Kd.R_drewN | apply Kd.R_drew)); exact HO235.out))) (Kd.R_lt (by (with_reducible repeat (first | apply Kd.R_alloc | apply Kd.R_drewN | apply Kd.R_drew)); exact HO238.out))) (below_size (by repeat (first | (with_reducible first | exact HB.out | apply below_alloc | apply pw_below_drewN | apply below_drew1) | exact HB.out)))); have n3_ := Aside0.mk (below_step (by repeat (first | (with_reducible first | exact HB.out | apply below_alloc | apply pw_below_drewN | apply below_drew1) | exact HB.out)) hb); clear HO235; clear HO238; clear HB; have HO235 := n0_; have HO238 := n1_; have HO243 := n2_; have HB := n3_; clear n0_ n1_ n2_ n3_; (try clear hb); (try clear hb2); (try clear hk); (try clear hi); (try clear ho0); obtain ⟨Ao22, co22, eo22⟩ := Kd.R_slice HO243.out; subst eo22) | ((with_reducible refine gate_builtin (b := .append) (xs := #[.tmp 38, .tmp 44]) rfl ?_); at_builtin; refine Kd.R_append_rows (Kd.int .u8) (w0 := w) w.heap.size rfl (.tmp 38) (.tmp 44) 24 5 (.int .u8 0) 1 rfl Try.underlying24 info5 rfl (by decide) (by omega) v237 y236 t241 _ _ _ (fun k_ => some k_ ≠ (.slice Ao19 t233.length co19 : Value).ownBlock ∧ some k_ ≠ (.slice Ao22 t241.length co22 : Value).ownBlock) (fun _ => False) rfl rfl ?aO ?aR (fun _ _ h => h) (fun _ h => h.elim) ?aF ?aB ?aS ?aL ?_; (case aR => repeat (first | exact (Kd.R_reads' HO243.out).2.2 | (with_reducible refine Kd.C_alloc ?_ _) | (with_reducible refine Kd.C_drewN ?_ _) | (with_reducible refine Kd.C_drew ?_))); (case aB => exact (by repeat (first | (with_reducible first | exact HB.out | apply below_alloc | apply pw_below_drewN | apply below_drew1) | exact HB.out))); (case aF => exact (fun k_ hk => ⟨Kd.fresh' (Kd.R_lt (by (with_reducible repeat (first | apply Kd.R_alloc | apply Kd.R_drewN | apply Kd.R_drew)); exact HO235.out)) k_ hk, Kd.fresh' (Kd.R_lt (by (with_reducible repeat (first | apply Kd.R_alloc | apply Kd.R_drewN | apply Kd.R_drew)); exact HO243.out)) k_ hk⟩)); (case aO => exact (by (with_reducible repeat (first | apply Kd.R_alloc | apply Kd.R_drewN | apply Kd.R_drew)); exact HO238.out)); (case aS => exact (below_size (by repeat (first | (with_reducible first | exact HB.out | apply below_alloc | apply pw_below_drewN | apply below_drew1) | exact HB.out)))); (case aL => have := LMc16.out; omega); intro v245 w21 ho hb hg hat; rw [← Ny244.out] at ho; have n0_ := Aside0.mk (Kd.R_after (ok := (fun k_ => some k_ ≠ (.slice Ao22 t241.length co22 : Value).ownBlock)) (by (with_reducible repeat (first | apply Kd.R_alloc | apply Kd.R_drewN | apply Kd.R_drew)); exact Kd.R_mono HO235.out (fun _ hk => ⟨hk.2, hk.1.2⟩)) hg hat); have n1_ := Aside0.mk (Kd.R_after (ok := (fun k_ => some k_ ≠ (.slice Ao19 t233.length co19 : Value).ownBlock)) (by (with_reducible repeat (first | apply Kd.R_alloc | apply Kd.R_drewN | apply Kd.R_drew)); exact Kd.R_mono HO243.out (fun _ hk => ⟨hk.1.2, hk.2⟩)) hg hat); have n2_ := Aside0.mk (hb); have n3_ := Aside0.mk (ho); clear HO235; clear HO243; clear HB; clear HO238; have HO235 := n0_; have HO243 := n1_; have HB := n2_; have HO246 := n3_; clear n0_ n1_ n2_ n3_; clear ho hb hg hat))
                        go_roundg kj5
                        case measure => have := HK1.out; have := HJ5.out; omega
                        case rel => exact ⟨(y244), (wrap64 (x7_1 + 1)), (by first | rfl | (simp; done) | (simp [*]; done)), H', ⟨by have := HK1.out; have := HJ5.out; omega⟩, ⟨by (with_reducible repeat (first | apply Kd.R_alloc | apply Kd.R_drewN | apply Kd.R_drew)); exact Kd.R_mono HO246.out (fun _ hk => trivial)⟩, ⟨by repeat (first | (with_reducible first | exact HB.out | apply below_alloc | apply pw_below_drewN | apply below_drew1) | exact HB.out)⟩⟩
                      · rw [if_neg c16] at H
                        exact absurd H (by simp)
                    · rw [if_neg c13] at H
                      have c13b0 : decide (x7_1 < (l1.length : Int)) = false := decide_eq_false c13
                      clear c13
                      have H' := Aside0.mk H
                      clear H
                      have p232 : 0 ≤ (x7_1 : Int) := of_decide_eq_true (by first | (with_reducible assumption) | assumption)
                      have q232 : x7_1 < (l0.length : Int) := of_decide_eq_true (by first | (with_reducible assumption) | assumption)
                      obtain ⟨ad232, e232, hx232_0⟩ := Kd.at_int HR0.out x7_1 p232 q232
                      cases e232
                      replace hx232_0 := (HB.out.cell (World.block_lt_of_cell? w _ hx232_0)).trans hx232_0
                      replace p232 := eq_true p232
                      replace q232 := eq_true q232
                      go_wp2_with (first | ((with_reducible refine gate_callee (f := 25) rfl ?_); refine goesL_ (some 32) rfl rfl Try.func25 (by kernel_rfl) rfl #[.int .u64 (IntKind.u64.wrap (rd l0 x7_1))] rfl (by (try simp only [List.map_toArray, List.map_cons, List.map_nil]); first | done | rfl | (simp only [List.length_drop, List.length_take]; rfl)) ?_; (with_reducible refine (varint_Put.calls kj5 (IntKind.u64.wrap (rd l0 x7_1)) t233 _ A11.out).mono ?_); rintro e w23 ⟨v234, rfl, ho0, hb⟩; refine ⟨_, rfl, ?_⟩; have n0_ := Aside0.mk (Kd.R_elder' (by (with_reducible repeat (first | apply Kd.R_alloc | apply Kd.R_drewN | apply Kd.R_drew)); exact HO_6.out) (Kd.R_base ho0) hb); have n1_ := Aside0.mk (Kd.R_lower (Kd.R_new' ho0 (Kd.R_lt (by (with_reducible repeat (first | apply Kd.R_alloc | apply Kd.R_drewN | apply Kd.R_drew)); exact HO_6.out))) (below_size (by repeat (first | (with_reducible first | exact HB.out | apply below_alloc | apply pw_below_drewN | apply below_drew1) | exact HB.out)))); have n2_ := Aside0.mk (below_step (by repeat (first | (with_reducible first | exact HB.out | apply below_alloc | apply pw_below_drewN | apply below_drew1) | exact HB.out)) hb); clear HO_6; clear HB; have HO_6 := n0_; have HO235 := n1_; have HB := n2_; clear n0_ n1_ n2_; (try clear hb); (try clear hb2); (try clear hk); (try clear hi); (try clear ho0); obtain ⟨Ao25, co25, eo25⟩ := Kd.R_slice HO235.out; subst eo25) | ((with_reducible refine gate_builtin (b := .append) (xs := #[.tmp 26, .tmp 32]) rfl ?_); at_builtin; refine Kd.R_append_rows (Kd.int .u8) (w0 := w) w.heap.size rfl (.tmp 26) (.tmp 32) 24 5 (.int .u8 0) 1 rfl Try.underlying24 info5 rfl (by decide) (by omega) u6 x6_1 t233 _ _ _ (fun k_ => some k_ ≠ (.slice Ao25 t233.length co25 : Value).ownBlock) (fun _ => False) rfl rfl ?aO ?aR (fun _ _ h => h) (fun _ h => h.elim) ?aF ?aB ?aS ?aL ?_; (case aR => repeat (first | exact (Kd.R_reads' HO235.out).2.2 | (with_reducible refine Kd.C_alloc ?_ _) | (with_reducible refine Kd.C_drewN ?_ _) | (with_reducible refine Kd.C_drew ?_))); (case aB => exact (by repeat (first | (with_reducible first | exact HB.out | apply below_alloc | apply pw_below_drewN | apply below_drew1) | exact HB.out))); (case aF => exact (fun k_ hk => Kd.fresh' (Kd.R_lt (by (with_reducible repeat (first | apply Kd.R_alloc | apply Kd.R_drewN | apply Kd.R_drew)); exact HO235.out)) k_ hk)); (case aO => exact (by (with_reducible repeat (first | apply Kd.R_alloc | apply Kd.R_drewN | apply Kd.R_drew)); exact Kd.R_mono HO_6.out (fun _ hk => hk.2))); (case aS => exact (below_size (by repeat (first | (with_reducible first | exact HB.out | apply below_alloc | apply pw_below_drewN | apply below_drew1) | exact HB.out)))); (case aL => have := LMc12.out; omega); intro v237 w24 ho hb hg hat; rw [← Ny236.out] at ho; have n0_ := Aside0.mk (Kd.R_after (ok := (fun _ => True)) (by (with_reducible repeat (first | apply Kd.R_alloc | apply Kd.R_drewN | apply Kd.R_drew)); exact HO235.out) hg hat); have n1_ := Aside0.mk (hb); have n2_ := Aside0.mk (ho); clear HO235; clear HB; clear HO_6; have HO235 := n0_; have HB := n1_; have HO238 := n2_; clear n0_ n1_ n2_; clear ho hb hg hat))
                      go_roundg kj5
                      case measure => have := HK1.out; have := HJ5.out; omega
                      case rel => exact ⟨(y236), (wrap64 (x7_1 + 1)), (by first | rfl | (simp; done) | (simp [*]; done)), H', ⟨by have := HK1.out; have := HJ5.out; omega⟩, ⟨by (with_reducible repeat (first | apply Kd.R_alloc | apply Kd.R_drewN | apply Kd.R_drew)); exact Kd.R_mono HO238.out (fun _ hk => trivial)⟩, ⟨by repeat (first | (with_reducible first | exact HB.out | apply below_alloc | apply pw_below_drewN | apply below_drew1) | exact HB.out)⟩⟩
                  · rw [if_neg c12] at H
                    exact absurd H (by simp)
                · rw [if_neg c10] at H
                  exact absurd H (by simp)
              · rw [if_neg c9] at H
                exact absurd H (by simp)
            · replace c8 := Bool.eq_false_iff.mpr c8
              subst c8
              have H1 : (incipitlaw8_NumbersMany.l1 kj5 l0 l1 x6_1 0) = some r := by rw [if_neg (show ¬ (false = true) by decide)] at H; exact H
              clear H
              have H := H1
              clear H1
              have H' := Aside0.mk H
              clear H
              go_wp2
              go_loopg [6, 8] kj5 (fun kq v6 v8 w' => ∃ (x6_3 : List Int) (x8_3 : Int), v8 = .int .i64 x8_3 ∧ Aside0 (incipitlaw8_NumbersMany.l1 kq l0 l1 x6_3 x8_3 = some r) ∧ Aside0 (kq ≤ kj5) ∧ Aside0 (Kd.Q (Kd.int .u8) 5 w' w.heap.size (fun _ => True) v6 x6_3) ∧ Aside0 (Below w.heap.size w w'))
              case atStart => exact ⟨(x6_1), (0), (by first | rfl | (simp; done) | (simp [*]; done)), H', ⟨Nat.le_refl _⟩, ⟨Kd.Q_of_R (by (with_reducible repeat (first | apply Kd.R_alloc | apply Kd.R_drewN | apply Kd.R_drew)); exact HO_6.out)⟩, ⟨by repeat (first | (with_reducible first | exact HB.out | apply below_alloc | apply pw_below_drewN | apply below_drew1) | exact HB.out)⟩⟩
              case round =>
                clear H'
                try clear c1
                try clear c2
                try clear p2
                try clear q2
                try clear hx2
                try clear c3
                try clear c4
                try clear p6
                try clear c7
                try clear c7b0
                try clear c8
                try clear c9
                try clear c9b0
                try clear c10
                try clear c10b0
                try clear c12
                try clear c13
                try clear c13b0
                try clear c16
                try clear c23
                try clear p23
                try clear q23
                try clear hx23
                try clear c24
                try clear c25
                try clear hx232_0
                try clear hx239_0
                try clear p2
                try clear p232
                try clear p239
                try clear q232
                try clear q239
                obtain ⟨x6_3, x8_3, rfl, HA, HK3, HO_6, HB⟩ := hrel
                cases gk with
                | zero => exact absurd HA.out (by simp [incipitlaw8_NumbersMany.l1])
                | succ k3 =>
                  have H := HA.out
                  clear HA
                  simp only [incipitlaw8_NumbersMany.l1] at H
                  have HC26 := Aside0.mk H
                  clear H
                  go_upto_region 12 with (fail)
                  go_cut [53] (fun v53 wc => ∃ (kq : Nat) (x53_25 : Bool), v53 = .bool x53_25 ∧ Aside0 (incipitlaw8_NumbersMany.j3 kq l0 l1 x6_3 x8_3 x53_25 = some r) ∧ Aside0 (kq ≤ k3) ∧ Aside0 (Kd.Q (Kd.int .u8) 5 wc w.heap.size (fun _ => True) u6 x6_3) ∧ Aside0 (Below w.heap.size w wc))
                  case first =>
                    have H := HC26.out
                    clear HC26
                    by_cases c27 : x8_3 < (l0.length : Int)
                    · rw [if_pos c27] at H
                      have c27b0 : decide (x8_3 < (l0.length : Int)) = true := decide_eq_true c27
                      clear c27
                      (first | rw [c27b0] | (simp only [i64_w, i32_w]; rw [c27b0]) | skip)
                      have H' := Aside0.mk H
                      clear H
                      go_wp2
                      go_meet
                      case rel => exact ⟨_, (decide (x8_3 < 20)), (by first | rfl | (simp; done) | (simp [*]; done)), H', ⟨by have := HK1.out; have := HJ5.out; have := HK3.out; first | omega | exact Nat.le_refl _⟩, ⟨by (with_reducible repeat (first | apply Kd.Q_alloc | apply Kd.Q_drewN | apply Kd.Q_drew)); exact HO_6.out⟩, ⟨by repeat (first | (with_reducible first | exact HB.out | apply below_alloc | apply pw_below_drewN | apply below_drew1) | exact HB.out)⟩⟩
                    · rw [if_neg c27] at H
                      have c27b0 : decide (x8_3 < (l0.length : Int)) = false := decide_eq_false c27
                      clear c27
                      (first | rw [c27b0] | (simp only [i64_w, i32_w]; rw [c27b0]) | skip)
                      have H' := Aside0.mk H
                      clear H
                      go_wp2
                      go_meet
                      case rel => exact ⟨_, (false), (by first | rfl | (simp; done) | (simp [*]; done)), H', ⟨by have := HK1.out; have := HJ5.out; have := HK3.out; first | omega | exact Nat.le_refl _⟩, ⟨by (with_reducible repeat (first | apply Kd.Q_alloc | apply Kd.Q_drewN | apply Kd.Q_drew)); exact HO_6.out⟩, ⟨by repeat (first | (with_reducible first | exact HB.out | apply below_alloc | apply pw_below_drewN | apply below_drew1) | exact HB.out)⟩⟩
                  case rest =>
                    clear HC26
                    try clear c1
                    try clear c2
                    try clear p2
                    try clear q2
                    try clear hx2
                    try clear c3
                    try clear c4
                    try clear p6
                    try clear c7
                    try clear c7b0
                    try clear c8
                    try clear c9
                    try clear c9b0
                    try clear c10
                    try clear c10b0
                    try clear c12
                    try clear c13
                    try clear c13b0
                    try clear c16
                    try clear c23
                    try clear p23
                    try clear q23
                    try clear hx23
                    try clear c24
                    try clear c25
                    try clear c27
                    try clear c27b0
                    try clear hx232_0
                    try clear hx239_0
                    try clear p2
                    try clear p23
                    try clear p232
                    try clear p239
                    try clear p6
                    try clear q2
                    try clear q23
                    try clear q232
                    try clear q239
                    obtain ⟨kq, x53_25, rfl, HA, HJ25, HO_6, HB⟩ := hcut
                    cases kq with
                    | zero => exact absurd HA.out (by simp [incipitlaw8_NumbersMany.j3])
                    | succ kj25 =>
                      have H := HA.out
                      clear HA
                      simp only [incipitlaw8_NumbersMany.j3] at H
                      by_cases c28 : x53_25 = true
                      · subst c28
                        have H1 : ((varint_Get.f kj25 x6_3).bind fun bt247 => (if bt247.2 = 0 then (incipitlaw8_NumbersMany.j4 kj25 l0 l1 x6_3 x8_3 bt247.2 true) else (if 0 ≤ x8_3 then (if x8_3 < (l0.length : Int) then (incipitlaw8_NumbersMany.j4 kj25 l0 l1 x6_3 x8_3 bt247.2 (bt247.1 != (IntKind.u64.wrap (rd l0 x8_3)))) else (none)) else (none)))) = some r := by rw [if_pos rfl] at H; exact H
                        clear H
                        have H := H1
                        clear H1
                        replace H := Option.bind_eq_some_iff.mp H
                        obtain ⟨⟨t247, t248⟩, A290, H⟩ := H
                        replace H : (if t248 = 0 then (incipitlaw8_NumbersMany.j4 kj25 l0 l1 x6_3 x8_3 t248 true) else (if 0 ≤ x8_3 then (if x8_3 < (l0.length : Int) then (incipitlaw8_NumbersMany.j4 kj25 l0 l1 x6_3 x8_3 t248 (t247 != (IntKind.u64.wrap (rd l0 x8_3)))) else (none)) else (none))) = some r := H
                        have A29 := Aside0.mk A290
                        clear A290
                        have HC30 := Aside0.mk H
                        clear H
                        obtain ⟨Ao31, co31, eo31, _⟩ := Kd.Q_slice HO_6.out
                        subst eo31
                        go_upto_region 15 with (first | ((with_reducible refine gate_callee (f := 26) rfl ?_); refine goesL_ (some 58) rfl rfl Try.func26 (by kernel_rfl) rfl #[.slice Ao31 x6_3.length co31] rfl (by (try simp only [List.map_toArray, List.map_cons, List.map_nil]); first | done | rfl | (simp only [List.length_drop, List.length_take]; rfl)) ?_; (with_reducible refine (varint_Get.calls kj25 _ _ x6_3 t247 t248 _ ?side1 ?side2 A29.out).mono ?_); (case side1 => repeat (first | exact (Kd.Q_reads' HO_6.out).2.2 | (with_reducible refine Kd.C_alloc ?_ _) | (with_reducible refine Kd.C_drewN ?_ _) | (with_reducible refine Kd.C_drew ?_))); (case side2 => exact (Kd.Q_reads' HO_6.out).2.1); rintro e w32 ⟨rfl, hb⟩; refine ⟨_, rfl, ?_⟩; have n0_ := Aside0.mk (Kd.Q_below (by (with_reducible repeat (first | apply Kd.Q_alloc | apply Kd.Q_drewN | apply Kd.Q_drew)); exact HO_6.out) hb); have n1_ := Aside0.mk (below_step (by repeat (first | (with_reducible first | exact HB.out | apply below_alloc | apply pw_below_drewN | apply below_drew1) | exact HB.out)) hb); clear HO_6; clear HB; have HO_6 := n0_; have HB := n1_; clear n0_ n1_; (try clear hb); (try clear hb2); (try clear hk); (try clear hi)))
                        (try simp only [Act.put, List.setIfInBounds_toArray, List.set_cons_zero, List.set_cons_succ])
                        go_cut [71] (fun v71 wc => ∃ (kq : Nat) (x71_29 : Bool), v71 = .bool x71_29 ∧ Aside0 (incipitlaw8_NumbersMany.j4 kq l0 l1 x6_3 x8_3 t248 x71_29 = some r) ∧ Aside0 (kq ≤ kj25) ∧ Aside0 (Kd.Q (Kd.int .u8) 5 wc w.heap.size (fun _ => True) (.slice Ao31 x6_3.length co31) x6_3) ∧ Aside0 (Below w.heap.size w wc))
                        case first =>
                          have H := HC30.out
                          clear HC30
                          by_cases c33 : t248 = 0
                          · rw [if_pos c33] at H
                            have c33b0 : (t248 == 0) = true := beq_iff_eq.mpr c33
                            have c33b1 : (t248 != 0) = false := bne_eq_false_iff_eq.mpr c33
                            clear c33
                            (first | rw [c33b0] | (simp only [i64_w, i32_w]; rw [c33b0]) | skip)
                            have H' := Aside0.mk H
                            clear H
                            go_wp2
                            go_meet
                            case rel => exact ⟨_, (true), (by first | rfl | (simp; done) | (simp [*]; done)), H', ⟨by have := HK1.out; have := HJ5.out; have := HK3.out; have := HJ25.out; first | omega | exact Nat.le_refl _⟩, ⟨by (with_reducible repeat (first | apply Kd.Q_alloc | apply Kd.Q_drewN | apply Kd.Q_drew)); exact HO_6.out⟩, ⟨by repeat (first | (with_reducible first | exact HB.out | apply below_alloc | apply pw_below_drewN | apply below_drew1) | exact HB.out)⟩⟩
                          · rw [if_neg c33] at H
                            have c33b0 : (t248 == 0) = false := beq_eq_false_iff_ne.mpr c33
                            have c33b1 : (t248 != 0) = true := bne_iff_ne.mpr c33
                            (first | rw [c33b0] | (simp only [i64_w, i32_w]; rw [c33b0]) | skip)
                            by_cases c34 : 0 ≤ x8_3
                            · rw [if_pos c34] at H
                              have c34b0 : decide (0 ≤ x8_3) = true := decide_eq_true c34
                              clear c34
                              by_cases c35 : x8_3 < (l0.length : Int)
                              · rw [if_pos c35] at H
                                have c35b0 : decide (x8_3 < (l0.length : Int)) = true := decide_eq_true c35
                                clear c35
                                have H' := Aside0.mk H
                                clear H
                                have p249 : 0 ≤ (x8_3 : Int) := of_decide_eq_true (by first | (with_reducible assumption) | assumption)
                                have q249 : x8_3 < (l0.length : Int) := of_decide_eq_true (by first | (with_reducible assumption) | assumption)
                                obtain ⟨ad249, e249, hx249_0⟩ := Kd.at_int HR0.out x8_3 p249 q249
                                cases e249
                                replace hx249_0 := (HB.out.cell (World.block_lt_of_cell? w _ hx249_0)).trans hx249_0
                                replace p249 := eq_true p249
                                replace q249 := eq_true q249
                                go_wp2
                                go_meet
                                case rel => exact ⟨_, ((t247 != (IntKind.u64.wrap (rd l0 x8_3)))), (by first | rfl | (simp; done) | (simp [*]; done)), H', ⟨by have := HK1.out; have := HJ5.out; have := HK3.out; have := HJ25.out; first | omega | exact Nat.le_refl _⟩, ⟨by (with_reducible repeat (first | apply Kd.Q_alloc | apply Kd.Q_drewN | apply Kd.Q_drew)); exact HO_6.out⟩, ⟨by repeat (first | (with_reducible first | exact HB.out | apply below_alloc | apply pw_below_drewN | apply below_drew1) | exact HB.out)⟩⟩
                              · rw [if_neg c35] at H
                                exact absurd H (by simp)
                            · rw [if_neg c34] at H
                              exact absurd H (by simp)
                        case rest =>
                          clear HC30
                          try clear c1
                          try clear c2
                          try clear p2
                          try clear q2
                          try clear hx2
                          try clear c3
                          try clear c4
                          try clear p6
                          try clear c7
                          try clear c7b0
                          try clear c8
                          try clear c9
                          try clear c9b0
                          try clear c10
                          try clear c10b0
                          try clear c12
                          try clear c13
                          try clear c13b0
                          try clear c16
                          try clear c23
                          try clear p23
                          try clear q23
                          try clear hx23
                          try clear c24
                          try clear p24
                          try clear q24
                          try clear hx24
                          try clear c25
                          try clear c26
                          try clear c27
                          try clear c27b0
                          try clear c28
                          try clear c33
                          try clear c33b0
                          try clear c33b1
                          try clear c34
                          try clear c34b0
                          try clear c35
                          try clear c35b0
                          try clear hx232_0
                          try clear hx239_0
                          try clear hx249_0
                          try clear p2
                          try clear p23
                          try clear p232
                          try clear p239
                          try clear p249
                          try clear p6
                          try clear q2
                          try clear q23
                          try clear q232
                          try clear q239
                          try clear q249
                          obtain ⟨kq, x71_29, rfl, HA, HJ29, HO_6, HB⟩ := hcut
                          cases kq with
                          | zero => exact absurd HA.out (by simp [incipitlaw8_NumbersMany.j4])
                          | succ kj29 =>
                            have H := HA.out
                            clear HA
                            simp only [incipitlaw8_NumbersMany.j4] at H
                            by_cases c36 : x71_29 = true
                            · subst c36
                              have H1 : (some false) = some r := by rw [if_pos rfl] at H; exact H
                              clear H
                              have H := H1
                              clear H1
                              obtain rfl := Option.some.inj H
                              exact absurd HRT.out (by decide)
                            · replace c36 := Bool.eq_false_iff.mpr c36
                              subst c36
                              have H1 : (if 0 ≤ t248 then (if t248 ≤ (x6_3.length : Int) then ((some (x6_3.drop (t248 : Int).toNat : List Int)).bind fun y250 => (if x8_3 < (l1.length : Int) then ((varint_GetText.f kj29 y250).bind fun bt253 => (if bt253.2 = 0 then (some false) else (if 0 ≤ x8_3 then ((incipitlaw1_Cut.f (rdOf ByteArray.empty l1 x8_3) 30).bind fun t256 => (if bt253.1.toList = t256.toList then (if 0 ≤ bt253.2 then (if bt253.2 ≤ (y250.length : Int) then (incipitlaw8_NumbersMany.l1 kj29 l0 l1 (y250.drop (bt253.2 : Int).toNat) (wrap64 (x8_3 + 1))) else (none)) else (none)) else (some false))) else (none)))) else (incipitlaw8_NumbersMany.l1 kj29 l0 l1 y250 (wrap64 (x8_3 + 1))))) else (none)) else (none)) = some r := by rw [if_neg (show ¬ (false = true) by decide)] at H; exact H
                              clear H
                              have H := H1
                              clear H1
                              by_cases c37 : 0 ≤ t248
                              · rw [if_pos c37] at H
                                have c37b0 := eq_true c37
                                have c37b1 : decide (0 ≤ t248) = true := decide_eq_true c37
                                clear c37
                                by_cases c38 : t248 ≤ (x6_3.length : Int)
                                · rw [if_pos c38] at H
                                  have c38b0 := eq_true c38
                                  have c38b1 : decide (t248 ≤ (x6_3.length : Int)) = true := decide_eq_true c38
                                  clear c38
                                  obtain ⟨y250, hy250⟩ : ∃ y_ : List Int, y_ = (x6_3.drop (t248 : Int).toNat) := ⟨_, rfl⟩
                                  replace H : (if x8_3 < (l1.length : Int) then ((varint_GetText.f kj29 y250).bind fun bt253 => (if bt253.2 = 0 then (some false) else (if 0 ≤ x8_3 then ((incipitlaw1_Cut.f (rdOf ByteArray.empty l1 x8_3) 30).bind fun t256 => (if bt253.1.toList = t256.toList then (if 0 ≤ bt253.2 then (if bt253.2 ≤ (y250.length : Int) then (incipitlaw8_NumbersMany.l1 kj29 l0 l1 (y250.drop (bt253.2 : Int).toNat) (wrap64 (x8_3 + 1))) else (none)) else (none)) else (some false))) else (none)))) else (incipitlaw8_NumbersMany.l1 kj29 l0 l1 y250 (wrap64 (x8_3 + 1)))) = some r := by first | (rw [hy250]; with_reducible exact H) | (have H2_ := (Option.bind_some _ _).symm.trans H; rw [hy250]; with_reducible exact H2_) | (have H2_ := (Option.bind_some _ _).symm.trans H; with_reducible exact H2_) | with_reducible exact H | (rw [hy250]; exact H) | exact H
                                  have Ny250 := Aside0.mk hy250
                                  clear hy250
                                  by_cases c39 : x8_3 < (l1.length : Int)
                                  · rw [if_pos c39] at H
                                    have c39b0 : decide (x8_3 < (l1.length : Int)) = true := decide_eq_true c39
                                    clear c39
                                    replace H := Option.bind_eq_some_iff.mp H
                                    obtain ⟨⟨t253, t254⟩, A400, H⟩ := H
                                    replace H : (if t254 = 0 then (some false) else (if 0 ≤ x8_3 then ((incipitlaw1_Cut.f (rdOf ByteArray.empty l1 x8_3) 30).bind fun t256 => (if t253.toList = t256.toList then (if 0 ≤ t254 then (if t254 ≤ (y250.length : Int) then (incipitlaw8_NumbersMany.l1 kj29 l0 l1 (y250.drop (t254 : Int).toNat) (wrap64 (x8_3 + 1))) else (none)) else (none)) else (some false))) else (none))) = some r := H
                                    have A40 := Aside0.mk A400
                                    clear A400
                                    by_cases c41 : t254 = 0
                                    · rw [if_pos c41] at H
                                      have c41b0 : (t254 == 0) = true := beq_iff_eq.mpr c41
                                      have c41b1 : (t254 != 0) = false := bne_eq_false_iff_eq.mpr c41
                                      clear c41
                                      obtain rfl := Option.some.inj H
                                      exact absurd HRT.out (by decide)
                                    · rw [if_neg c41] at H
                                      have c41b0 : (t254 == 0) = false := beq_eq_false_iff_ne.mpr c41
                                      have c41b1 : (t254 != 0) = true := bne_iff_ne.mpr c41
                                      by_cases c42 : 0 ≤ x8_3
                                      · rw [if_pos c42] at H
                                        have c42b0 : decide (0 ≤ x8_3) = true := decide_eq_true c42
                                        clear c42
                                        replace H := Option.bind_eq_some_iff.mp H
                                        obtain ⟨t256, A430, H⟩ := H
                                        replace H : (if t253.toList = t256.toList then (if 0 ≤ t254 then (if t254 ≤ (y250.length : Int) then (incipitlaw8_NumbersMany.l1 kj29 l0 l1 (y250.drop (t254 : Int).toNat) (wrap64 (x8_3 + 1))) else (none)) else (none)) else (some false)) = some r := H
                                        have A43 := Aside0.mk A430
                                        clear A430
                                        by_cases c44 : t253.toList = t256.toList
                                        · rw [if_pos c44] at H
                                          have c44b0 : (t253.toList == t256.toList) = true := beq_iff_eq.mpr c44
                                          have c44b1 : (t253.toList != t256.toList) = false := bne_eq_false_iff_eq.mpr c44
                                          clear c44
                                          by_cases c45 : 0 ≤ t254
                                          · rw [if_pos c45] at H
                                            have c45b0 := eq_true c45
                                            have c45b1 : decide (0 ≤ t254) = true := decide_eq_true c45
                                            clear c45
                                            by_cases c46 : t254 ≤ (y250.length : Int)
                                            · rw [if_pos c46] at H
                                              have c46b0 := eq_true c46
                                              have c46b1 : decide (t254 ≤ (y250.length : Int)) = true := decide_eq_true c46
                                              clear c46
                                              obtain ⟨y257, hy257⟩ : ∃ y_ : List Int, y_ = (y250.drop (t254 : Int).toNat) := ⟨_, rfl⟩
                                              replace H : (incipitlaw8_NumbersMany.l1 kj29 l0 l1 y257 (wrap64 (x8_3 + 1))) = some r := by first | (rw [hy257]; with_reducible exact H) | (have H2_ := (Option.bind_some _ _).symm.trans H; rw [hy257]; with_reducible exact H2_) | (have H2_ := (Option.bind_some _ _).symm.trans H; with_reducible exact H2_) | with_reducible exact H | (rw [hy257]; exact H) | exact H
                                              have Ny257 := Aside0.mk hy257
                                              clear hy257
                                              have H' := Aside0.mk H
                                              clear H
                                              have q47 : (t248 : Int) ≤ ((x6_3.length : Int) : Int) := of_decide_eq_true (by first | (with_reducible assumption) | assumption)
                                              obtain ⟨i047, hi047, _, hsz47, _⟩ := info_parts info5
                                              have hcut47 := cut_from (P := Try.prog) 24 5 .i64 Try.underlying24 hi047 1 hsz47 Ao31 x6_3.length co31 t248 (of_decide_eq_true (by first | (with_reducible assumption) | assumption)) q47
                                              have hr47 := Kd.Q_drop (k := (t248 : Int).toNat) HO_6.out (by omega)
                                              obtain ⟨A47, hA47⟩ : ∃ A1, A1 = (if co31 = (t248 : Int).toNat then Ao31 else (Ao31 : Option Addr).map (·.add ((t248 : Int).toNat * 1))) := ⟨_, rfl⟩
                                              obtain ⟨c47, hc47⟩ : ∃ c1, c1 = co31 - (t248 : Int).toNat := ⟨_, rfl⟩
                                              have hy47 : y250.length = x6_3.length - (t248 : Int).toNat := (by rw [Ny250.out, List.length_drop])
                                              rw [← Ny250.out] at hr47
                                              rw [← hy47, ← hA47, ← hc47] at hcut47
                                              replace hr47 : Kd.Q (Kd.int .u8) 5 wc w.heap.size (fun _ => True) (.slice A47 y250.length c47) y250 := (by rw [hA47, hc47, hy47]; exact hr47)
                                              have HE47 : Aside0 ((Value.slice A47 y250.length c47).ownBlock = (.slice Ao31 x6_3.length co31 : Value).ownBlock) := ⟨by rw [hA47]; split <;> (cases (Ao31 : Option Addr) <;> (first | rfl | (simp [Value.ownBlock, add_block])))⟩
                                              clear hy47 hi047 hsz47 HO_6 hA47 hc47
                                              have HO252 := Aside0.mk hr47
                                              clear hr47
                                              replace q47 := eq_true q47
                                              go_wp2_with (first | ((with_reducible refine gate_callee (f := 36) rfl ?_); refine goesL_ (some 81) rfl rfl Try.func36 (by kernel_rfl) rfl #[.slice A47 y250.length c47] rfl (by (try simp only [List.map_toArray, List.map_cons, List.map_nil]); first | done | rfl | (simp only [List.length_drop, List.length_take]; rfl)) ?_; (with_reducible refine (varint_GetText.calls kj29 _ _ y250 t253 t254 _ ?side1 ?side2 A40.out).mono ?_); (case side1 => repeat (first | exact (Kd.Q_reads' HO252.out).2.2 | (with_reducible refine Kd.C_alloc ?_ _) | (with_reducible refine Kd.C_drewN ?_ _) | (with_reducible refine Kd.C_drew ?_))); (case side2 => exact (Kd.Q_reads' HO252.out).2.1); rintro e w48 ⟨rfl, hb⟩; refine ⟨_, rfl, ?_⟩; have n0_ := Aside0.mk (Kd.Q_below (by (with_reducible repeat (first | apply Kd.Q_alloc | apply Kd.Q_drewN | apply Kd.Q_drew)); exact HO252.out) hb); have n1_ := Aside0.mk (below_step (by repeat (first | (with_reducible first | exact HB.out | apply below_alloc | apply pw_below_drewN | apply below_drew1) | exact HB.out)) hb); clear HO252; clear HB; have HO252 := n0_; have HB := n1_; clear n0_ n1_; (try clear hb); (try clear hb2); (try clear hk); (try clear hi); have p255 : 0 ≤ (x8_3 : Int) := of_decide_eq_true (by first | (with_reducible assumption) | assumption); have q255 : x8_3 < (l1.length : Int) := of_decide_eq_true (by first | (with_reducible assumption) | assumption); obtain ⟨ad255, e255, hx255_0⟩ := Kd.at_string HR1.out x8_3 p255 q255; cases e255; replace hx255_0 := (HB.out.cell (World.block_lt_of_cell? w _ hx255_0)).trans hx255_0; replace p255 := eq_true p255; replace q255 := eq_true q255) | (go_at_call 24; (with_reducible refine (incipitlaw1_Cut.calls (rdOf ByteArray.empty l1 x8_3) 30 t256 _ A43.out).mono ?_); rintro e w' ⟨rfl, ⟨nd, rfl⟩⟩; have q49 : (t254 : Int) ≤ ((y250.length : Int) : Int) := of_decide_eq_true (by first | (with_reducible assumption) | assumption); obtain ⟨i049, hi049, _, hsz49, _⟩ := info_parts info5; have hcut49 := cut_from (P := Try.prog) 24 5 .i64 Try.underlying24 hi049 1 hsz49 A47 y250.length c47 t254 (of_decide_eq_true (by first | (with_reducible assumption) | assumption)) q49; have hr49 := Kd.Q_drop (k := (t254 : Int).toNat) HO252.out (by omega); obtain ⟨A49, hA49⟩ : ∃ A1, A1 = (if c47 = (t254 : Int).toNat then A47 else (A47 : Option Addr).map (·.add ((t254 : Int).toNat * 1))) := ⟨_, rfl⟩; obtain ⟨c49, hc49⟩ : ∃ c1, c1 = c47 - (t254 : Int).toNat := ⟨_, rfl⟩; have hy49 : y257.length = y250.length - (t254 : Int).toNat := (by rw [Ny257.out, List.length_drop]); rw [← Ny257.out] at hr49; rw [← hy49, ← hA49, ← hc49] at hcut49; replace hr49 : Kd.Q (Kd.int .u8) 5 w48 w.heap.size (fun _ => True) (.slice A49 y257.length c49) y257 := (by rw [hA49, hc49, hy49]; exact hr49); have HE49 : Aside0 ((Value.slice A49 y257.length c49).ownBlock = (.slice A47 y250.length c47 : Value).ownBlock) := ⟨by rw [hA49]; split <;> (cases (A47 : Option Addr) <;> (first | rfl | (simp [Value.ownBlock, add_block])))⟩; clear hy49 hi049 hsz49 HO252 hA49 hc49; have HO259 := Aside0.mk hr49; clear hr49; replace q49 := eq_true q49))
                                              go_roundg kj29
                                              case measure => have := HK1.out; have := HJ5.out; have := HK3.out; have := HJ25.out; have := HJ29.out; omega
                                              case rel => exact ⟨(y257), (wrap64 (x8_3 + 1)), (by first | rfl | (simp; done) | (simp [*]; done)), H', ⟨by have := HK1.out; have := HJ5.out; have := HK3.out; have := HJ25.out; have := HJ29.out; omega⟩, ⟨by (with_reducible repeat (first | apply Kd.Q_alloc | apply Kd.Q_drewN | apply Kd.Q_drew)); exact HO259.out⟩, ⟨by repeat (first | (with_reducible first | exact HB.out | apply below_alloc | apply pw_below_drewN | apply below_drew1) | exact HB.out)⟩⟩
                                            · rw [if_neg c46] at H
                                              exact absurd H (by simp)
                                          · rw [if_neg c45] at H
                                            exact absurd H (by simp)
                                        · rw [if_neg c44] at H
                                          have c44b0 : (t253.toList == t256.toList) = false := beq_eq_false_iff_ne.mpr c44
                                          have c44b1 : (t253.toList != t256.toList) = true := bne_iff_ne.mpr c44
                                          obtain rfl := Option.some.inj H
                                          exact absurd HRT.out (by decide)
                                      · rw [if_neg c42] at H
                                        exact absurd H (by simp)
                                  · rw [if_neg c39] at H
                                    have c39b0 : decide (x8_3 < (l1.length : Int)) = false := decide_eq_false c39
                                    clear c39
                                    have H' := Aside0.mk H
                                    clear H
                                    have q50 : (t248 : Int) ≤ ((x6_3.length : Int) : Int) := of_decide_eq_true (by first | (with_reducible assumption) | assumption)
                                    obtain ⟨i050, hi050, _, hsz50, _⟩ := info_parts info5
                                    have hcut50 := cut_from (P := Try.prog) 24 5 .i64 Try.underlying24 hi050 1 hsz50 Ao31 x6_3.length co31 t248 (of_decide_eq_true (by first | (with_reducible assumption) | assumption)) q50
                                    have hr50 := Kd.Q_drop (k := (t248 : Int).toNat) HO_6.out (by omega)
                                    obtain ⟨A50, hA50⟩ : ∃ A1, A1 = (if co31 = (t248 : Int).toNat then Ao31 else (Ao31 : Option Addr).map (·.add ((t248 : Int).toNat * 1))) := ⟨_, rfl⟩
                                    obtain ⟨c50, hc50⟩ : ∃ c1, c1 = co31 - (t248 : Int).toNat := ⟨_, rfl⟩
                                    have hy50 : y250.length = x6_3.length - (t248 : Int).toNat := (by rw [Ny250.out, List.length_drop])
                                    rw [← Ny250.out] at hr50
                                    rw [← hy50, ← hA50, ← hc50] at hcut50
                                    replace hr50 : Kd.Q (Kd.int .u8) 5 wc w.heap.size (fun _ => True) (.slice A50 y250.length c50) y250 := (by rw [hA50, hc50, hy50]; exact hr50)
                                    have HE50 : Aside0 ((Value.slice A50 y250.length c50).ownBlock = (.slice Ao31 x6_3.length co31 : Value).ownBlock) := ⟨by rw [hA50]; split <;> (cases (Ao31 : Option Addr) <;> (first | rfl | (simp [Value.ownBlock, add_block])))⟩
                                    clear hy50 hi050 hsz50 HO_6 hA50 hc50
                                    have HO252 := Aside0.mk hr50
                                    clear hr50
                                    replace q50 := eq_true q50
                                    go_wp2
                                    go_roundg kj29
                                    case measure => have := HK1.out; have := HJ5.out; have := HK3.out; have := HJ25.out; have := HJ29.out; omega
                                    case rel => exact ⟨(y250), (wrap64 (x8_3 + 1)), (by first | rfl | (simp; done) | (simp [*]; done)), H', ⟨by have := HK1.out; have := HJ5.out; have := HK3.out; have := HJ25.out; have := HJ29.out; omega⟩, ⟨by (with_reducible repeat (first | apply Kd.Q_alloc | apply Kd.Q_drewN | apply Kd.Q_drew)); exact HO252.out⟩, ⟨by repeat (first | (with_reducible first | exact HB.out | apply below_alloc | apply pw_below_drewN | apply below_drew1) | exact HB.out)⟩⟩
                                · rw [if_neg c38] at H
                                  exact absurd H (by simp)
                              · rw [if_neg c37] at H
                                exact absurd H (by simp)
                      · replace c28 := Bool.eq_false_iff.mpr c28
                        subst c28
                        have H1 : (some ((x6_3.length : Int) == 0)) = some r := by rw [if_neg (show ¬ (false = true) by decide)] at H; exact H
                        clear H
                        have H := H1
                        clear H1
                        obtain rfl := Option.some.inj H
                        simp only [Option.some.injEq, Prod.mk.injEq] at H
                        obtain ⟨rfl⟩ := H
                        obtain ⟨Ao51, co51, eo51, _⟩ := Kd.Q_slice HO_6.out
                        subst eo51
                        go_wp2
                        go_ret
                        exact ⟨by first | rfl | (simp [errW_none, errW_some] <;> rfl) | (simp [*, errW_none, errW_some] <;> rfl), by repeat (first | (with_reducible first | exact HB.out | apply below_alloc | apply pw_below_drewN | apply below_drew1) | exact HB.out)⟩
  · replace c4 := Bool.eq_false_iff.mpr c4
    subst c4
    have H1 : (some false) = some r := by rw [if_neg (show ¬ (false = true) by decide)] at H; exact H
    clear H
    have H := H1
    clear H1
    obtain rfl := Option.some.inj H
    exact absurd HRT.out (by decide)

end Go.Proofs.Ythpeieieibbbgaa.MNum
