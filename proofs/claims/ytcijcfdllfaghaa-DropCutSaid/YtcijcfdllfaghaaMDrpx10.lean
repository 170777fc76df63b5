-- Written by a program of this session for this claim (out of the translation's print); Lean checks it.
import Derived.Outline
import Derived.Deep.RegionLaw
import Derived.Deep.QuietTactic
import Derived.BigQuiet
import Derived.BigRegion
import Derived.Test.YtcijcfdllfaghaaMDrpx0
import Derived.Test.YtcijcfdllfaghaaMDrpx3
import Derived.Test.YtcijcfdllfaghaaMDrpx5
import Derived.Test.YtcijcfdllfaghaaMDrpx6
import Derived.Test.YtcijcfdllfaghaaMDrpx9
namespace Go.Proofs.Ytcijcfdllfaghaa.MDrp
open Go.RowKit Go.Proofs.YtcijcfdllfaghaaW.PrintWords Go.Proofs.YtcijcfdllfaghaaW.PrintLast Go.Proofs.YtcijcfdllfaghaaW.PrintMore
attribute [local go_sem] max2_int min2_int max_two min_two max_three min_three max_four min_four   -- for this text's walks alone
set_option linter.unusedVariables false
set_option linter.unusedSimpArgs false

/-! ### words: a region that draws its order, in which callees lay blocks of their own: one walk of the text's order serves (all that lay there lies there still) -/
def LaterW (w : World) : Type := {w' : World // Below w.heap.size w w'}
instance {w : World} : Nonempty (LaterW w) := ⟨⟨w, Below.refl _ _⟩⟩
theorem LaterW.cell {w : World} (x : LaterW w) {a : Addr} {v : Value} (g : w.cell? a = some v) : x.1.cell? a = some v := (Below.cell x.2 (World.block_lt_of_cell? w _ g)).trans g
theorem LaterW.call {P : Program} {f : FuncId} {args : Array Value} {w : World} (x : LaterW w) {v : Value} (h : Calls P f args x.1 fun e w' => e = .returned v ∧ Below x.1.heap.size x.1 w') : Calls P f args x.1 fun e w'' => e = .returned v ∧ ∃ y : LaterW w, w'' = y.1 :=
  h.mono fun _ _ ⟨he, hb⟩ => ⟨he, ⟨⟨_, below_step x.2 hb⟩, rfl⟩⟩
theorem wp_region_later {P : Program} {id : Nat} {Q : Exit → Act → World → Prop} {a : Act} {w : World} {l : List Oper} (hm : P.follows .mixedOrders = true) (hB : Region.lexB .any l.toArray = true)
    (h : wpQuiet P l.toArray (fun w' => ∃ y : LaterW w, w' = y.1) (fun a' => ∀ w', (∃ y : LaterW w, w' = y.1) → Q .normal a' w') l a) : (Code.region id l.toArray true).wp P Q a w :=
  wp_region_quiet (C := fun w' => ∃ y : LaterW w, w' = y.1) hm hB ⟨⟨w.drew, below_drew1 (Below.refl _ _)⟩, rfl⟩ (by simpa using h)
/-! ### incipitlaw23_DropCut: function 8 -/
mutual
def incipitlaw23_DropCut.j0 : Nat → List (S23) → Int → Bool → Option (Bool)
  | 0, _, _, _ => none
  | k + 1, x0, x1, x20 => if x20 = true then (incipitlaw23_DropCut.l0 k x0 x1 0) else (incipitlaw23_DropCut.j2 k x0)
def incipitlaw23_DropCut.j2 : Nat → List (S23) → Option (Bool)
  | 0, _ => none
  | k + 1, x0 => (drop_Cut.f k x0).bind fun t345 => ((incipitref12_Cut.f k x0).bind fun t348 => (if (t345.length : Int) = (t348.length : Int) then (incipitlaw23_DropCut.l1 k t345 t348 0) else (some false)))
def incipitlaw23_DropCut.l1 : Nat → List (List (S23)) → List (List (S23)) → Int → Option (Bool)
  | 0, _, _, _ => none
  | k + 1, x7, x8, x9 => if x9 < (x7.length : Int) then (if 0 ≤ x9 then (if x9 < (x8.length : Int) then ((incipitref12_EqAll.f k (rd_L3 x7 x9) (rd_L3 x8 x9)).bind fun t353 => (if t353 = true then (if x9 > 0 then (if 0 < ((rd_L3 x7 x9).length : Int) then (if 0 ≤ (wrap64 (x9 - 1)) then (if (wrap64 (x9 - 1)) < (x7.length : Int) then (if 0 ≤ (wrap64 (((rd_L3 x7 (wrap64 (x9 - 1))).length : Int) - 1)) then (if (wrap64 (((rd_L3 x7 (wrap64 (x9 - 1))).length : Int) - 1)) < ((rd_L3 x7 (wrap64 (x9 - 1))).length : Int) then (if ((rd_T23 (rd_L3 x7 x9) 0).f0).toList = ((rd_T23 (rd_L3 x7 (wrap64 (x9 - 1))) (wrap64 (((rd_L3 x7 (wrap64 (x9 - 1))).length : Int) - 1))).f0).toList then (some false) else (incipitlaw23_DropCut.l1 k x7 x8 (wrap64 (x9 + 1)))) else (none)) else (none)) else (none)) else (none)) else (none)) else (incipitlaw23_DropCut.l1 k x7 x8 (wrap64 (x9 + 1)))) else (some false))) else (none)) else (none)) else (some true)
def incipitlaw23_DropCut.l0 : Nat → List (S23) → Int → Int → Option (Bool)
  | 0, _, _, _ => none
  | k + 1, x0, x1, x6 => if x6 < (x0.length : Int) then (if 0 ≤ x6 then (if ((rd_T23 x0 x6).f2) = 1 then (if 0 ≤ x1 then (if (x1 : Int).toNat ≤ 281474976710656 then (incipitlaw23_DropCut.l0 k (x0.set (x6 : Int).toNat (⟨(rd_T23 x0 x6).f0, (rd_T23 x0 x6).f1, (rd_T23 x0 x6).f2, (rd_T23 x0 x6).f3, strOfNums (List.replicate (x1 : Int).toNat 0)⟩ : S23)) x1 (wrap64 (x6 + 3))) else (none)) else (none)) else (incipitlaw23_DropCut.l0 k x0 x1 (wrap64 (x6 + 3)))) else (none)) else (incipitlaw23_DropCut.j2 k x0)
end
def incipitlaw23_DropCut.f (k : Nat) (l0 : List (S23)) (a1 : Int) : Option (Bool) := (incipitlaw23_begun.f k).bind fun t336 => (if t336 = true then ((incipitlaw7_Sort.f k l0 60).bind fun t337 => (if a1 ≥ 0 then (incipitlaw23_DropCut.j0 k t337 a1 (decide (a1 < 3000))) else (incipitlaw23_DropCut.j0 k t337 a1 false))) else (some false))
theorem incipitlaw23_DropCut.mono_l : ∀ k, (∀ y0 y1 y2, LeO (incipitlaw23_DropCut.j0 k y0 y1 y2) (incipitlaw23_DropCut.j0 (k + 1) y0 y1 y2)) ∧ (∀ y0, LeO (incipitlaw23_DropCut.j2 k y0) (incipitlaw23_DropCut.j2 (k + 1) y0)) ∧ (∀ y0 y1 y2, LeO (incipitlaw23_DropCut.l1 k y0 y1 y2) (incipitlaw23_DropCut.l1 (k + 1) y0 y1 y2)) ∧ (∀ y0 y1 y2, LeO (incipitlaw23_DropCut.l0 k y0 y1 y2) (incipitlaw23_DropCut.l0 (k + 1) y0 y1 y2))
  | 0 => ⟨fun _ _ _ r h => by simp [incipitlaw23_DropCut.j0] at h, fun _ r h => by simp [incipitlaw23_DropCut.j2] at h, fun _ _ _ r h => by simp [incipitlaw23_DropCut.l1] at h, fun _ _ _ r h => by simp [incipitlaw23_DropCut.l0] at h⟩
  | k + 1 => by
    obtain ⟨ih0, ih1, ih2, ih3⟩ := incipitlaw23_DropCut.mono_l k
    refine ⟨?_, ?_, ?_, ?_⟩
    · intro y0 y1 y2
      unfold incipitlaw23_DropCut.j0
      repeat' first
      | (with_reducible exact ih0 _ _ _)
      | (with_reducible exact ih1 _)
      | (with_reducible exact ih2 _ _ _)
      | (with_reducible exact ih3 _ _ _)
      | (with_reducible exact drop_Cut.mono _ _)
      | (with_reducible exact incipitlaw23_begun.mono _)
      | (with_reducible exact incipitlaw7_Sort.mono _ _ _)
      | (with_reducible exact incipitref12_Cut.mono _ _)
      | (with_reducible exact incipitref12_EqAll.mono _ _ _)
      | (with_reducible exact LeO.refl _)
      | (with_reducible exact LeO.none _)
      | (with_reducible refine LeO.ite ?_ ?_)
      | (with_reducible refine LeO.bind ?_ (fun _ => ?_))
      | exact ih0 _ _ _
      | exact ih1 _
      | exact ih2 _ _ _
      | exact ih3 _ _ _
      | exact drop_Cut.mono _ _
      | exact incipitlaw23_begun.mono _
      | exact incipitlaw7_Sort.mono _ _ _
      | exact incipitref12_Cut.mono _ _
      | exact incipitref12_EqAll.mono _ _ _
      | exact LeO.none _
      | refine LeO.ite ?_ ?_
      | refine LeO.bind ?_ (fun _ => ?_)
    · intro y0
      unfold incipitlaw23_DropCut.j2
      repeat' first
      | (with_reducible exact ih0 _ _ _)
      | (with_reducible exact ih1 _)
      | (with_reducible exact ih2 _ _ _)
      | (with_reducible exact ih3 _ _ _)
      | (with_reducible exact drop_Cut.mono _ _)
      | (with_reducible exact incipitlaw23_begun.mono _)
      | (with_reducible exact incipitlaw7_Sort.mono _ _ _)
      | (with_reducible exact incipitref12_Cut.mono _ _)
      | (with_reducible exact incipitref12_EqAll.mono _ _ _)
      | (with_reducible exact LeO.refl _)
      | (with_reducible exact LeO.none _)
      | (with_reducible refine LeO.ite ?_ ?_)
      | (with_reducible refine LeO.bind ?_ (fun _ => ?_))
      | exact ih0 _ _ _
      | exact ih1 _
      | exact ih2 _ _ _
      | exact ih3 _ _ _
      | exact drop_Cut.mono _ _
      | exact incipitlaw23_begun.mono _
      | exact incipitlaw7_Sort.mono _ _ _
      | exact incipitref12_Cut.mono _ _
      | exact incipitref12_EqAll.mono _ _ _
      | exact LeO.none _
      | refine LeO.ite ?_ ?_
      | refine LeO.bind ?_ (fun _ => ?_)
    · intro y0 y1 y2
      unfold incipitlaw23_DropCut.l1
      repeat' first
      | (with_reducible exact ih0 _ _ _)
      | (with_reducible exact ih1 _)
      | (with_reducible exact ih2 _ _ _)
      | (with_reducible exact ih3 _ _ _)
      | (with_reducible exact drop_Cut.mono _ _)
      | (with_reducible exact incipitlaw23_begun.mono _)
      | (with_reducible exact incipitlaw7_Sort.mono _ _ _)
      | (with_reducible exact incipitref12_Cut.mono _ _)
      | (with_reducible exact incipitref12_EqAll.mono _ _ _)
      | (with_reducible exact LeO.refl _)
      | (with_reducible exact LeO.none _)
      | (with_reducible refine LeO.ite ?_ ?_)
      | (with_reducible refine LeO.bind ?_ (fun _ => ?_))
      | exact ih0 _ _ _
      | exact ih1 _
      | exact ih2 _ _ _
      | exact ih3 _ _ _
      | exact drop_Cut.mono _ _
      | exact incipitlaw23_begun.mono _
      | exact incipitlaw7_Sort.mono _ _ _
      | exact incipitref12_Cut.mono _ _
      | exact incipitref12_EqAll.mono _ _ _
      | exact LeO.none _
      | refine LeO.ite ?_ ?_
      | refine LeO.bind ?_ (fun _ => ?_)
    · intro y0 y1 y2
      unfold incipitlaw23_DropCut.l0
      repeat' first
      | (with_reducible exact ih0 _ _ _)
      | (with_reducible exact ih1 _)
      | (with_reducible exact ih2 _ _ _)
      | (with_reducible exact ih3 _ _ _)
      | (with_reducible exact drop_Cut.mono _ _)
      | (with_reducible exact incipitlaw23_begun.mono _)
      | (with_reducible exact incipitlaw7_Sort.mono _ _ _)
      | (with_reducible exact incipitref12_Cut.mono _ _)
      | (with_reducible exact incipitref12_EqAll.mono _ _ _)
      | (with_reducible exact LeO.refl _)
      | (with_reducible exact LeO.none _)
      | (with_reducible refine LeO.ite ?_ ?_)
      | (with_reducible refine LeO.bind ?_ (fun _ => ?_))
      | exact ih0 _ _ _
      | exact ih1 _
      | exact ih2 _ _ _
      | exact ih3 _ _ _
      | exact drop_Cut.mono _ _
      | exact incipitlaw23_begun.mono _
      | exact incipitlaw7_Sort.mono _ _ _
      | exact incipitref12_Cut.mono _ _
      | exact incipitref12_EqAll.mono _ _ _
      | exact LeO.none _
      | refine LeO.ite ?_ ?_
      | refine LeO.bind ?_ (fun _ => ?_)
theorem incipitlaw23_DropCut.mono : ∀ a0 a1 k, LeO (incipitlaw23_DropCut.f k a0 a1) (incipitlaw23_DropCut.f (k + 1) a0 a1) := by
  intro a0 a1 k
  obtain ⟨ih0, ih1, ih2, ih3⟩ := incipitlaw23_DropCut.mono_l k
  unfold incipitlaw23_DropCut.f
  repeat' first
      | (with_reducible exact ih0 _ _ _)
      | (with_reducible exact ih1 _)
      | (with_reducible exact ih2 _ _ _)
      | (with_reducible exact ih3 _ _ _)
      | (with_reducible exact drop_Cut.mono _ _)
      | (with_reducible exact incipitlaw23_begun.mono _)
      | (with_reducible exact incipitlaw7_Sort.mono _ _ _)
      | (with_reducible exact incipitref12_Cut.mono _ _)
      | (with_reducible exact incipitref12_EqAll.mono _ _ _)
      | (with_reducible exact LeO.refl _)
      | (with_reducible exact LeO.none _)
      | (with_reducible refine LeO.ite ?_ ?_)
      | (with_reducible refine LeO.bind ?_ (fun _ => ?_))
      | exact ih0 _ _ _
      | exact ih1 _
      | exact ih2 _ _ _
      | exact ih3 _ _ _
      | exact drop_Cut.mono _ _
      | exact incipitlaw23_begun.mono _
      | exact incipitlaw7_Sort.mono _ _ _
      | exact incipitref12_Cut.mono _ _
      | exact incipitref12_EqAll.mono _ _ _
      | exact LeO.none _
      | refine LeO.ite ?_ ?_
      | refine LeO.bind ?_ (fun _ => ?_)
def incipitlaw23_DropCut.T18 : Bool × List (List Nat × List Nat) := (true, [([], []), ([], []), ([0, 1], [0, 1]), ([2], [2]), ([], []), ([], []), ([4, 5], [4, 5]), ([6], [6]), ([3, 7], [3, 7]), ([8], [8]), ([9, 8], [9]), ([10], [10]), ([11, 10], [10, 11]), ([12, 10, 10], [10, 12]), ([13], [13]), ([13], [13]), ([14, 15, 13], [13, 14, 15]), ([16, 13], [13, 16]), ([17, 13], [13, 17]), ([18, 13], [13, 18]), ([19, 13], [13, 19]), ([13], [13]), ([13], [13]), ([22, 13], [13, 22]), ([21, 23, 13], [13, 21, 23]), ([24, 13], [13, 24]), ([13], [13]), ([13], [13]), ([27, 13], [13, 27]), ([26, 28, 13], [13, 26, 28]), ([29, 13], [13, 29]), ([30, 13], [13, 30]), ([31, 13], [13, 31]), ([25, 32, 13], [13, 25, 32]), ([33, 13], [13, 33]), ([34, 13], [13, 34]), ([20, 35, 13], [13, 20, 35]), ([13, 36, 10], [10, 13, 36]), ([10, 37], [10, 37])])
def incipitlaw23_DropCut.B18 : List Nat := [0, 0, 3, 7, 0, 0, 48, 112, 255, 511, 1023, 2047, 4095, 8191, 16383, 16383, 65535, 131071, 262143, 524287, 1048575, 16383, 16383, 4210687, 14696447, 31473663, 16383, 16383, 134234111, 469778431, 1006649343, 2080391167, 4227874815, 8587853823, 17177788415, 34357657599, 68719476735, 137438953471, 274877906943]
theorem incipitlaw23_DropCut.tab18 : rtab .any (opsOf Try.f8 18) = incipitlaw23_DropCut.T18 := by kernel_rfl
theorem incipitlaw23_DropCut.bits18 : waitsOk incipitlaw23_DropCut.T18.2 incipitlaw23_DropCut.B18 = true := by kernel_rfl
set_option maxHeartbeats 80000000 in
set_option maxRecDepth 100000 in
theorem incipitlaw23_DropCut.calls (k : Nat) (A0 : Option Addr) (c0 : Nat) (l0 : List (S23)) (a1 : Int) (r : Bool) (w : World) (hr0 : Kd.C k23 w A0 l0.length l0) (hc0 : l0.length ≤ c0) (hrt : r = true) (h : incipitlaw23_DropCut.f k l0 a1 = some r) :
    Calls Try.prog 8 #[.slice A0 l0.length c0, .int .i64 a1] w fun e w' => e = .returned (.bool r) ∧ Below w.heap.size w w' := by
  have HRT := Aside0.mk hrt
  clear hrt
  have HR0 := Aside0.mk hr0
  have HC0 := Aside0.mk hc0
  clear hr0 hc0
  have HB := Aside0.mk (Below.refl w.heap.size w)
  have H : ((incipitlaw23_begun.f k).bind fun t336 => (if t336 = true then ((incipitlaw7_Sort.f k l0 60).bind fun t337 => (if a1 ≥ 0 then (incipitlaw23_DropCut.j0 k t337 a1 (decide (a1 < 3000))) else (incipitlaw23_DropCut.j0 k t337 a1 false))) else (some false))) = some r := h
  clear h
  replace H := Option.bind_eq_some_iff.mp H
  obtain ⟨t336, A30, H⟩ := H
  replace H : (if t336 = true then ((incipitlaw7_Sort.f k l0 60).bind fun t337 => (if a1 ≥ 0 then (incipitlaw23_DropCut.j0 k t337 a1 (decide (a1 < 3000))) else (incipitlaw23_DropCut.j0 k t337 a1 false))) else (some false)) = some r := H
  have A3 := Aside0.mk A30
  clear A30
  by_cases c4 : t336 = true
  · subst c4
    have H1 : ((incipitlaw7_Sort.f k l0 60).bind fun t337 => (if a1 ≥ 0 then (incipitlaw23_DropCut.j0 k t337 a1 (decide (a1 < 3000))) else (incipitlaw23_DropCut.j0 k t337 a1 false))) = some r := by rw [if_pos rfl] at H; exact H
    clear H
    have H := H1
    clear H1
    replace H := Option.bind_eq_some_iff.mp H
    obtain ⟨t337, A50, H⟩ := H
    replace H : (if a1 ≥ 0 then (incipitlaw23_DropCut.j0 k t337 a1 (decide (a1 < 3000))) else (incipitlaw23_DropCut.j0 k t337 a1 false)) = some r := H
    have A5 := Aside0.mk A50
    clear A50
    have HC6 := Aside0.mk H
    clear H
    go_enter Try.func8, Try.ntmps8
    go_upto_region 5 with (first | ((with_reducible refine gate_callee (f := 27) rfl ?_); refine goesL_ (some 10) rfl rfl Try.func27 (by kernel_rfl) rfl #[] rfl (by (try simp only [List.map_toArray, List.map_cons, List.map_nil]); first | done | rfl | (simp only [List.length_drop, List.length_take]; rfl)) ?_; (with_reducible refine (incipitlaw23_begun.calls k  true _ rfl A3.out).mono ?_); rintro e w7 ⟨rfl, hb⟩; refine ⟨_, rfl, ?_⟩; have n0_ := Aside0.mk (below_step (by repeat (first | (with_reducible first | exact HB.out | apply below_alloc | apply pw_below_drewN | apply below_drew1) | exact HB.out)) hb); clear HB; have HB := n0_; clear n0_; (try clear hb); (try clear hb2); (try clear hk); (try clear hi)) | ((with_reducible refine gate_callee (f := 22) rfl ?_); refine goesL_ (some 14) rfl rfl Try.func22 (by kernel_rfl) rfl #[.slice A0 l0.length c0, .int .i64 60] rfl (by (try simp only [List.map_toArray, List.map_cons, List.map_nil]); first | done | rfl | (simp only [List.length_drop, List.length_take]; rfl)) ?_; (with_reducible refine (incipitlaw7_Sort.calls k _ _ l0 60 t337 _ ?side1 ?side2 A5.out).mono ?_); (case side1 => repeat (first | exact (Kd.C_below HR0.out HB.out) | (with_reducible refine Kd.C_alloc ?_ _) | (with_reducible refine Kd.C_drewN ?_ _) | (with_reducible refine Kd.C_drew ?_))); (case side2 => exact HC0.out); rintro e w8 ⟨v338, rfl, ho0, hb⟩; refine ⟨_, rfl, ?_⟩; have n0_ := Aside0.mk (Kd.R_lower ho0 (below_size (by repeat (first | (with_reducible first | exact HB.out | apply below_alloc | apply pw_below_drewN | apply below_drew1) | exact HB.out)))); have n1_ := Aside0.mk (below_step (by repeat (first | (with_reducible first | exact HB.out | apply below_alloc | apply pw_below_drewN | apply below_drew1) | exact HB.out)) hb); clear HB; have HO339 := n0_; have HB := n1_; clear n0_ n1_; (try clear hb); (try clear hb2); (try clear hk); (try clear hi); (try clear ho0)))
    (try simp only [Act.put, List.setIfInBounds_toArray, List.set_cons_zero, List.set_cons_succ])
    go_cut [20] (fun v20 wc => ∃ (kq : Nat) (x20_5 : Bool), v20 = .bool x20_5 ∧ Aside0 (incipitlaw23_DropCut.j0 kq t337 a1 x20_5 = some r) ∧ Aside0 (kq ≤ k) ∧ Aside0 (Kd.R k23 23 wc w.heap.size (fun _ => True) v338 t337) ∧ Aside0 (Below w.heap.size w wc))
    case first =>
      have H := HC6.out
      clear HC6
      by_cases c9 : a1 ≥ 0
      · rw [if_pos c9] at H
        have c9b0 : decide (0 ≤ a1) = true := decide_eq_true c9
        clear c9
        (first | rw [c9b0] | (simp only [i64_w, i32_w]; rw [c9b0]) | skip)
        have H' := Aside0.mk H
        clear H
        go_wp2
        go_meet
        case rel => exact ⟨_, (decide (a1 < 3000)), (by first | rfl | (simp; done) | (simp [*]; done)), H', ⟨by first | omega | exact Nat.le_refl _⟩, ⟨by (with_reducible repeat (first | apply Kd.R_alloc | apply Kd.R_drewN | apply Kd.R_drew)); exact HO339.out⟩, ⟨by repeat (first | (with_reducible first | exact HB.out | apply below_alloc | apply pw_below_drewN | apply below_drew1) | exact HB.out)⟩⟩
      · rw [if_neg c9] at H
        have c9b0 : decide (0 ≤ a1) = false := decide_eq_false c9
        clear c9
        (first | rw [c9b0] | (simp only [i64_w, i32_w]; rw [c9b0]) | skip)
        have H' := Aside0.mk H
        clear H
        go_wp2
        go_meet
        case rel => exact ⟨_, (false), (by first | rfl | (simp; done) | (simp [*]; done)), H', ⟨by first | omega | exact Nat.le_refl _⟩, ⟨by (with_reducible repeat (first | apply Kd.R_alloc | apply Kd.R_drewN | apply Kd.R_drew)); exact HO339.out⟩, ⟨by repeat (first | (with_reducible first | exact HB.out | apply below_alloc | apply pw_below_drewN | apply below_drew1) | exact HB.out)⟩⟩
    case rest =>
      clear HC6
      try clear c2
      try clear p2
      try clear c4
      try clear c8
      try clear c9
      try clear c9b0
      obtain ⟨kq, x20_5, rfl, HA, HJ5, HO_0, HB⟩ := hcut
      cases kq with
      | zero => exact absurd HA.out (by simp [incipitlaw23_DropCut.j0])
      | succ kj5 =>
        have H := HA.out
        clear HA
        simp only [incipitlaw23_DropCut.j0] at H
        have HC10 := Aside0.mk H
        clear H
        go_upto_if 20 with (fail)
        go_cut [] (fun wc => ∃ (kq : Nat) (x0_9 : List (S23)), Aside0 (incipitlaw23_DropCut.j2 kq x0_9 = some r) ∧ Aside0 (kq ≤ kj5) ∧ Aside0 (Kd.R k23 23 wc w.heap.size (fun _ => True) v338 x0_9) ∧ Aside0 (Below w.heap.size w wc))
        case first =>
          have H := HC10.out
          clear HC10
          by_cases c11 : x20_5 = true
          · subst c11
            have H1 : (incipitlaw23_DropCut.l0 kj5 t337 a1 0) = some r := by rw [if_pos rfl] at H; exact H
            clear H
            have H := H1
            clear H1
            have H' := Aside0.mk H
            clear H
            go_wp2
            go_loopg [6] kj5 (fun kq v6 w' => ∃ (x0_2 : List (S23)) (x6_2 : Int), v6 = .int .i64 x6_2 ∧ Aside0 (incipitlaw23_DropCut.l0 kq x0_2 a1 x6_2 = some r) ∧ Aside0 (kq ≤ kj5) ∧ Aside0 (Kd.R k23 23 w' w.heap.size (fun _ => True) v338 x0_2) ∧ Aside0 (Below w.heap.size w w'))
            case atStart => exact ⟨(t337), (0), (by first | rfl | (simp; done) | (simp [*]; done)), H', ⟨Nat.le_refl _⟩, ⟨by (with_reducible repeat (first | apply Kd.R_alloc | apply Kd.R_drewN | apply Kd.R_drew)); exact HO_0.out⟩, ⟨by repeat (first | (with_reducible first | exact HB.out | apply below_alloc | apply pw_below_drewN | apply below_drew1) | exact HB.out)⟩⟩
            case round =>
              clear H'
              try clear c1
              try clear c2
              try clear p2
              try clear c4
              try clear c8
              try clear c9
              try clear c9b0
              try clear c11
              try clear p2
              obtain ⟨x0_2, x6_2, rfl, HA, HK2, HO_0, HB⟩ := hrel
              cases gk with
              | zero => exact absurd HA.out (by simp [incipitlaw23_DropCut.l0])
              | succ k2 =>
                have H := HA.out
                clear HA
                simp only [incipitlaw23_DropCut.l0] at H
                by_cases c12 : x6_2 < (x0_2.length : Int)
                · rw [if_pos c12] at H
                  have c12b0 : decide (x6_2 < (x0_2.length : Int)) = true := decide_eq_true c12
                  clear c12
                  (first | rw [c12b0] | (simp only [i64_w, i32_w]; rw [c12b0]) | skip)
                  by_cases c13 : 0 ≤ x6_2
                  · rw [if_pos c13] at H
                    have c13b0 : decide (0 ≤ x6_2) = true := decide_eq_true c13
                    clear c13
                    by_cases c14 : ((rd_T23 x0_2 x6_2).f2) = 1
                    · rw [if_pos c14] at H
                      have c14b0 : (((rd_T23 x0_2 x6_2).f2) == 1) = true := beq_iff_eq.mpr c14
                      have c14b1 : (((rd_T23 x0_2 x6_2).f2) != 1) = false := bne_eq_false_iff_eq.mpr c14
                      clear c14
                      by_cases c15 : 0 ≤ a1
                      · rw [if_pos c15] at H
                        have c15b0 := eq_true c15
                        have c15b1 : decide (0 ≤ a1) = true := decide_eq_true c15
                        clear c15
                        by_cases c16 : (a1 : Int).toNat ≤ 281474976710656
                        · rw [if_pos c16] at H
                          have c16b0 := eq_true c16
                          have c16b1 : decide ((a1 : Int).toNat ≤ 281474976710656) = true := decide_eq_true c16
                          clear c16
                          obtain ⟨y341, hy341⟩ : ∃ y_ : List Int, y_ = (List.replicate (a1 : Int).toNat 0) := ⟨_, rfl⟩
                          replace H : (incipitlaw23_DropCut.l0 k2 (x0_2.set (x6_2 : Int).toNat (⟨(rd_T23 x0_2 x6_2).f0, (rd_T23 x0_2 x6_2).f1, (rd_T23 x0_2 x6_2).f2, (rd_T23 x0_2 x6_2).f3, strOfNums y341⟩ : S23)) a1 (wrap64 (x6_2 + 3))) = some r := by first | (rw [hy341]; with_reducible exact H) | (have H2_ := (Option.bind_some _ _).symm.trans H; rw [hy341]; with_reducible exact H2_) | (have H2_ := (Option.bind_some _ _).symm.trans H; with_reducible exact H2_) | with_reducible exact H | (rw [hy341]; exact H) | exact H
                          have Ny341 := Aside0.mk hy341
                          clear hy341
                          obtain ⟨y344, hy344⟩ : ∃ y_ : List (S23), y_ = (x0_2.set (x6_2 : Int).toNat (⟨(rd_T23 x0_2 x6_2).f0, (rd_T23 x0_2 x6_2).f1, (rd_T23 x0_2 x6_2).f2, (rd_T23 x0_2 x6_2).f3, strOfNums y341⟩ : S23)) := ⟨_, rfl⟩
                          replace H : (incipitlaw23_DropCut.l0 k2 y344 a1 (wrap64 (x6_2 + 3))) = some r := by first | (rw [hy344]; with_reducible exact H) | (have H2_ := (Option.bind_some _ _).symm.trans H; rw [hy344]; with_reducible exact H2_) | (have H2_ := (Option.bind_some _ _).symm.trans H; with_reducible exact H2_) | with_reducible exact H | (rw [hy344]; exact H) | exact H
                          have Ny344 := Aside0.mk hy344
                          clear hy344
                          have H' := Aside0.mk H
                          clear H
                          obtain ⟨Ao18, co18, eo18⟩ := Kd.R_slice HO_0.out
                          subst eo18
                          have p340 : 0 ≤ (x6_2 : Int) := of_decide_eq_true (by first | (with_reducible assumption) | assumption)
                          have q340 : x6_2 < (x0_2.length : Int) := of_decide_eq_true (by first | (with_reducible assumption) | assumption)
                          obtain ⟨ad340, e340, hx340_0, hx340_1, hx340_2, hx340_3, hx340_4⟩ := at_T23 (Kd.R_reads' HO_0.out).2.2 x6_2 p340 q340
                          cases e340
                          replace p340 := eq_true p340
                          replace q340 := eq_true q340
                          go_wp2_with (first | ((with_reducible refine gate_dst (N := 36) rfl ?_); (try (refine gate_guard (by rfl) ?_; dsimp only)); refine Kd.R_make (Kd.int .u8) _ 5 rfl (N := 36) rfl 41 _ _ rfl a1 rfl rfl Try.underlying41 (.int .u8 0) 1 info5 rfl (by decide) (by omega) 0 (ok := fun _ => True) (okp := fun _ => True) rfl (fun _ hk => hk) trivial (of_decide_eq_true (by first | (with_reducible assumption) | assumption)) (Nat.le_trans (Nat.mul_le_mul_right _ (of_decide_eq_true (by first | (with_reducible assumption) | assumption) : a1.toNat ≤ 281474976710656)) (by omega)) (Below.refl _ _) (Nat.le_refl _) ?_; intro v342 w19 ho20 hb hg_ hnew_; clear hg_ hnew_; (first | rw [← Ny341.out] at ho20 | (simp only [Int.reduceToNat] at ho20; rw [← Ny341.out] at ho20)); have n0_ := Aside0.mk (Kd.R_below (by (with_reducible repeat (first | apply Kd.R_alloc | apply Kd.R_drewN | apply Kd.R_drew)); exact HO_0.out) hb); have n1_ := Aside0.mk (Kd.R_lower ho20 (below_size (by repeat (first | (with_reducible first | exact HB.out | apply below_alloc | apply pw_below_drewN | apply below_drew1) | exact HB.out)))); have n2_ := Aside0.mk (below_step (by repeat (first | (with_reducible first | exact HB.out | apply below_alloc | apply pw_below_drewN | apply below_drew1) | exact HB.out)) hb); clear HO_0; clear HB; have HO_0 := n0_; have HO343 := n1_; have HB := n2_; clear n0_ n1_ n2_; clear hb ho20; have hcv21 := own_string (P := Try.prog) Try.underlying41 Try.underlying5 Try.underlying9 (Kd.own_of_R HO343.out); (try have hcv22 := fun n_ => own_string (P := Try.prog) Try.underlying41 Try.underlying5 Try.underlying9 (Kd.own_of_R (Kd.R_drewN HO343.out n_))); have p17 : 0 ≤ (x6_2 : Int) := of_decide_eq_true (by first | (with_reducible assumption) | assumption); have q17 : (x6_2 : Int) < ((x0_2.length : Int) : Int) := of_decide_eq_true (by first | (with_reducible assumption) | assumption); obtain ⟨go17, co17, eo17, gb17, gl17, cl17, HG17⟩ := Kd.R_form HO_0.out (by omega); (first | cases eo17 | (injection eo17 with ea_ en_ ec_; (first | subst ea_ | (injection ea_ with ea_; subst ea_)); subst ec_; clear en_)); have GB17 := Aside0.mk gb17; have GG17 := Aside0.mk HG17; clear gb17 gl17 HG17; (first | simp only [add_plain] at hx340_0 | skip); (first | simp only [add_plain] at hx340_1 | skip); (first | simp only [add_plain] at hx340_2 | skip); (first | simp only [add_plain] at hx340_3 | skip); (first | simp only [add_plain] at hx340_4 | skip); obtain ⟨ce17, hcl17, hM17, hcc17, hfr17⟩ := Kd.R_elem HO_0.out z23 (x6_2 : Int) p17 q17; obtain rfl := k23_openM hM17; have hx17_0 : w19.cell? ⟨go17, (x6_2 : Int).toNat * 5, none⟩ = some (.string ((rd_T23 x0_2 x6_2).f0)) := hcc17 0 _ rfl; have hx17_1 : w19.cell? ⟨go17, (x6_2 : Int).toNat * 5 + 1, none⟩ = some (.int .i64 ((rd_T23 x0_2 x6_2).f1)) := hcc17 1 _ rfl; have hx17_2 : w19.cell? ⟨go17, (x6_2 : Int).toNat * 5 + 2, none⟩ = some (.int .i64 ((rd_T23 x0_2 x6_2).f2)) := hcc17 2 _ rfl; have hx17_3 : w19.cell? ⟨go17, (x6_2 : Int).toNat * 5 + 3, none⟩ = some (.string ((rd_T23 x0_2 x6_2).f3)) := hcc17 3 _ rfl; have hx17_4 : w19.cell? ⟨go17, (x6_2 : Int).toNat * 5 + 4, none⟩ = some (.string ((rd_T23 x0_2 x6_2).f4)) := hcc17 4 _ rfl; have hf17_0 : w19.frozen? ⟨go17, (x6_2 : Int).toNat * 5, none⟩ = false := hfr17 0; have hf17_1 : w19.frozen? ⟨go17, (x6_2 : Int).toNat * 5 + 1, none⟩ = false := hfr17 1; have hf17_2 : w19.frozen? ⟨go17, (x6_2 : Int).toNat * 5 + 2, none⟩ = false := hfr17 2; have hf17_3 : w19.frozen? ⟨go17, (x6_2 : Int).toNat * 5 + 3, none⟩ = false := hfr17 3; have hf17_4 : w19.frozen? ⟨go17, (x6_2 : Int).toNat * 5 + 4, none⟩ = false := hfr17 4; clear hcl17 hcc17 hfr17 hM17; replace p17 := eq_true p17; replace q17 := eq_true q17; have HX23 := Aside0.mk (show Kd.R k23 23 w19 w.heap.size (fun _ => True) (.slice (some ⟨go17, 0, none⟩) x0_2.length co18) x0_2 from (by (with_reducible repeat (first | apply Kd.R_alloc | apply Kd.R_drewN | apply Kd.R_drew)); exact HO_0.out)); obtain ⟨ce23, hcl23, hM23, hcc23, hfr23⟩ := Kd.R_elem HX23.out z23 (x6_2 : Int) (of_decide_eq_true (by first | (with_reducible assumption) | assumption)) (by have h_ : (x6_2 : Int) < ((x0_2.length : Int) : Int) := of_decide_eq_true (by first | (with_reducible assumption) | assumption); first | exact h_ | (have e_ := (Kd.R_reads' HO_0.out).1; omega) | simpa using h_); obtain rfl := k23_openM hM23; have HP23 := Kd.R_seg HX23.out (x6_2 : Int) (of_decide_eq_true (by first | (with_reducible assumption) | assumption)) (by have h_ : (x6_2 : Int) < ((x0_2.length : Int) : Int) := of_decide_eq_true (by first | (with_reducible assumption) | assumption); first | exact h_ | (have e_ := (Kd.R_reads' HO_0.out).1; omega) | simpa using h_) (seg := [.string (strOfNums y341)]) (j := 4) hcl23 hcc23 (show 5 ≤ 5 from by decide) (x' := (⟨(rd_T23 x0_2 x6_2).f0, (rd_T23 x0_2 x6_2).f1, (rd_T23 x0_2 x6_2).f2, (rd_T23 x0_2 x6_2).f3, strOfNums y341⟩ : S23)) (k23_mkM _ _ _ (⟨(rd_T23 x0_2 x6_2).f0, (rd_T23 x0_2 x6_2).f1, (rd_T23 x0_2 x6_2).f2, (rd_T23 x0_2 x6_2).f3, strOfNums y341⟩ : S23) ) (fun _ hk => hk); have hx23_4 := hcc23 4 _ rfl; (try simp only [show (k23).sz = 5 from rfl, Nat.mul_one, Nat.add_zero] at hx23_4); have hf23_4 := hfr23 4; (try simp only [show (k23).sz = 5 from rfl, Nat.mul_one, Nat.add_zero] at hf23_4); clear hcl23 hcc23 hfr23 hM23) | ((with_reducible refine gate_store (t := 9) (p := 39) rfl ?_); refine store_event (t := 9) (p := 39) (v := ?vo_w24) (w1 := (w19.setCell ⟨go17, (x6_2 : Int).toNat * 5 + 4, none⟩ (.string (strOfNums y341)))) ?hg ?ho ?hn ?hr ?_; (case ho => rfl); (case hg => rfl); (case hn => rfl); (case hr => first | (go_simp; done) | (go_simp; rfl)); intro w24 hw; have hg : w19.grownBy w24 (some go17) := (by rw [hw]; exact HP23.2); have hp_ : Kd.R k23 23 w24 w.heap.size (fun _ => True) (.slice (some ⟨go17, 0, none⟩) x0_2.length co18) y344 := (by rw [hw, Ny344.out]; exact HP23.1); clear HP23; have n0_ := Aside0.mk (hp_); have n1_ := Aside0.mk (Kd.R_over' (v := (.slice (some ⟨go17, 0, none⟩) x0_2.length co18)) (by (with_reducible repeat (first | apply Kd.R_alloc | apply Kd.R_drewN | apply Kd.R_drew)); exact HO343.out) (Kd.R_typed HO_0.out) (by decide) hg); have n2_ := Aside0.mk ((by rw [hw]; exact below_set (HB.out) GB17.out : Below w.heap.size w w24)); clear HO_0; clear HO343; clear HB; have HO_0 := n0_; have HO343 := n1_; have HB := n2_; clear n0_ n1_ n2_; clear hg hw hp_))
                          go_roundg k2
                          case measure => have := HJ5.out; have := HK2.out; omega
                          case rel => exact ⟨(y344), (wrap64 (x6_2 + 3)), (by first | rfl | (simp; done) | (simp [*]; done)), H', ⟨by have := HJ5.out; have := HK2.out; omega⟩, ⟨by (with_reducible repeat (first | apply Kd.R_alloc | apply Kd.R_drewN | apply Kd.R_drew)); exact HO_0.out⟩, ⟨by repeat (first | (with_reducible first | exact HB.out | apply below_alloc | apply pw_below_drewN | apply below_drew1) | exact HB.out)⟩⟩
                        · rw [if_neg c16] at H
                          exact absurd H (by simp)
                      · rw [if_neg c15] at H
                        exact absurd H (by simp)
                    · rw [if_neg c14] at H
                      have c14b0 : (((rd_T23 x0_2 x6_2).f2) == 1) = false := beq_eq_false_iff_ne.mpr c14
                      have c14b1 : (((rd_T23 x0_2 x6_2).f2) != 1) = true := bne_iff_ne.mpr c14
                      have H' := Aside0.mk H
                      clear H
                      obtain ⟨Ao25, co25, eo25⟩ := Kd.R_slice HO_0.out
                      subst eo25
                      have p340 : 0 ≤ (x6_2 : Int) := of_decide_eq_true (by first | (with_reducible assumption) | assumption)
                      have q340 : x6_2 < (x0_2.length : Int) := of_decide_eq_true (by first | (with_reducible assumption) | assumption)
                      obtain ⟨ad340, e340, hx340_0, hx340_1, hx340_2, hx340_3, hx340_4⟩ := at_T23 (Kd.R_reads' HO_0.out).2.2 x6_2 p340 q340
                      cases e340
                      replace p340 := eq_true p340
                      replace q340 := eq_true q340
                      go_wp2
                      go_roundg k2
                      case measure => have := HJ5.out; have := HK2.out; omega
                      case rel => exact ⟨(x0_2), (wrap64 (x6_2 + 3)), (by first | rfl | (simp; done) | (simp [*]; done)), H', ⟨by have := HJ5.out; have := HK2.out; omega⟩, ⟨by (with_reducible repeat (first | apply Kd.R_alloc | apply Kd.R_drewN | apply Kd.R_drew)); exact HO_0.out⟩, ⟨by repeat (first | (with_reducible first | exact HB.out | apply below_alloc | apply pw_below_drewN | apply below_drew1) | exact HB.out)⟩⟩
                  · rw [if_neg c13] at H
                    exact absurd H (by simp)
                · rw [if_neg c12] at H
                  have c12b0 : decide (x6_2 < (x0_2.length : Int)) = false := decide_eq_false c12
                  clear c12
                  (first | rw [c12b0] | (simp only [i64_w, i32_w]; rw [c12b0]) | skip)
                  have H' := Aside0.mk H
                  clear H
                  obtain ⟨Ao26, co26, eo26⟩ := Kd.R_slice HO_0.out
                  subst eo26
                  go_wp2
                  go_meet
                  case rel => exact ⟨_, (x0_2), H', ⟨by have := HJ5.out; have := HK2.out; first | omega | exact Nat.le_refl _⟩, ⟨by (with_reducible repeat (first | apply Kd.R_alloc | apply Kd.R_drewN | apply Kd.R_drew)); exact HO_0.out⟩, ⟨by repeat (first | (with_reducible first | exact HB.out | apply below_alloc | apply pw_below_drewN | apply below_drew1) | exact HB.out)⟩⟩
          · replace c11 := Bool.eq_false_iff.mpr c11
            subst c11
            have H1 : (incipitlaw23_DropCut.j2 kj5 t337) = some r := by rw [if_neg (show ¬ (false = true) by decide)] at H; exact H
            clear H
            have H := H1
            clear H1
            have H' := Aside0.mk H
            clear H
            go_wp2
            go_meet
            case rel => exact ⟨_, (t337), H', ⟨by have := HJ5.out; first | omega | exact Nat.le_refl _⟩, ⟨by (with_reducible repeat (first | apply Kd.R_alloc | apply Kd.R_drewN | apply Kd.R_drew)); exact HO_0.out⟩, ⟨by repeat (first | (with_reducible first | exact HB.out | apply below_alloc | apply pw_below_drewN | apply below_drew1) | exact HB.out)⟩⟩
        case rest =>
          clear HC10
          try clear c1
          try clear p1
          try clear q1
          try clear hx1
          try clear c2
          try clear p2
          try clear hx2
          try clear hcv2
          try clear hf2
          try clear p3
          try clear q3
          try clear hx3
          try clear c4
          try clear p6
          try clear c8
          try clear c9
          try clear c9b0
          try clear c11
          try clear c12
          try clear c12b0
          try clear c13
          try clear c13b0
          try clear c14
          try clear c14b0
          try clear c14b1
          try clear c15
          try clear c15b0
          try clear c15b1
          try clear c16
          try clear c16b0
          try clear c16b1
          try clear c17
          try clear p17
          try clear q17
          try clear hx17
          try clear hf17
          try clear hcv21
          try clear c22
          try clear hcv22
          try clear c23
          try clear hx23
          try clear hf23
          try clear hx17_0
          try clear hx17_1
          try clear hx17_2
          try clear hx17_3
          try clear hx17_4
          try clear hx23_4
          try clear hx340_0
          try clear hx340_1
          try clear hx340_2
          try clear hx340_3
          try clear hx340_4
          try clear p17
          try clear p2
          try clear p340
          try clear q17
          try clear q340
          obtain ⟨kq, x0_9, HA, HJ9, HO_0, HB⟩ := hcut
          cases kq with
          | zero => exact absurd HA.out (by simp [incipitlaw23_DropCut.j2])
          | succ kj9 =>
            have H := HA.out
            clear HA
            simp only [incipitlaw23_DropCut.j2] at H
            replace H := Option.bind_eq_some_iff.mp H
            obtain ⟨t345, A270, H⟩ := H
            replace H : ((incipitref12_Cut.f kj9 x0_9).bind fun t348 => (if (t345.length : Int) = (t348.length : Int) then (incipitlaw23_DropCut.l1 kj9 t345 t348 0) else (some false))) = some r := H
            have A27 := Aside0.mk A270
            clear A270
            replace H := Option.bind_eq_some_iff.mp H
            obtain ⟨t348, A280, H⟩ := H
            replace H : (if (t345.length : Int) = (t348.length : Int) then (incipitlaw23_DropCut.l1 kj9 t345 t348 0) else (some false)) = some r := H
            have A28 := Aside0.mk A280
            clear A280
            by_cases c29 : (t345.length : Int) = (t348.length : Int)
            · rw [if_pos c29] at H
              have c29b0 : ((t345.length : Int) == (t348.length : Int)) = true := beq_iff_eq.mpr c29
              have c29b1 : ((t345.length : Int) != (t348.length : Int)) = false := bne_eq_false_iff_eq.mpr c29
              have c29b2 : (t345.length == t348.length) = true := by first | simpa using c29 | (simp at c29 ⊢; omega)
              clear c29
              have H' := Aside0.mk H
              clear H
              obtain ⟨Ao30, co30, eo30⟩ := Kd.R_slice HO_0.out
              subst eo30
              go_wp2_with (first | ((with_reducible refine gate_callee (f := 34) rfl ?_); refine goesL_ (some 41) rfl rfl Try.func34 (by kernel_rfl) rfl #[.slice Ao30 x0_9.length co30] rfl (by (try simp only [List.map_toArray, List.map_cons, List.map_nil]); first | done | rfl | (simp only [List.length_drop, List.length_take]; rfl)) ?_; (with_reducible refine (drop_Cut.calls kj9 _ _ x0_9 t345 _ ?side1 ?side2 A27.out).mono ?_); (case side1 => repeat (first | exact (Kd.R_reads' HO_0.out).2.2 | (with_reducible refine Kd.C_alloc ?_ _) | (with_reducible refine Kd.C_drewN ?_ _) | (with_reducible refine Kd.C_drew ?_))); (case side2 => exact (Kd.R_reads' HO_0.out).2.1); rintro e w31 ⟨v346, rfl, ho0, hb⟩; refine ⟨_, rfl, ?_⟩; have n0_ := Aside0.mk (Kd.R_below (by (with_reducible repeat (first | apply Kd.R_alloc | apply Kd.R_drewN | apply Kd.R_drew)); exact HO_0.out) hb); have n1_ := Aside0.mk (Kd.S_lower (Kd.S_new' ho0 (Kd.R_lt (by (with_reducible repeat (first | apply Kd.R_alloc | apply Kd.R_drewN | apply Kd.R_drew)); exact HO_0.out))) (below_size (by repeat (first | (with_reducible first | exact HB.out | apply below_alloc | apply pw_below_drewN | apply below_drew1) | exact HB.out)))); have n2_ := Aside0.mk (below_step (by repeat (first | (with_reducible first | exact HB.out | apply below_alloc | apply pw_below_drewN | apply below_drew1) | exact HB.out)) hb); clear HO_0; clear HB; have HO_0 := n0_; have HO347 := n1_; have HB := n2_; clear n0_ n1_ n2_; (try clear hb); (try clear hb2); (try clear hk); (try clear hi); (try clear ho0)) | ((with_reducible refine gate_callee (f := 35) rfl ?_); refine goesL_ (some 43) rfl rfl Try.func35 (by kernel_rfl) rfl #[.slice Ao30 x0_9.length co30] rfl (by (try simp only [List.map_toArray, List.map_cons, List.map_nil]); first | done | rfl | (simp only [List.length_drop, List.length_take]; rfl)) ?_; (with_reducible refine (incipitref12_Cut.calls kj9 _ _ x0_9 t348 _ ?side1 ?side2 A28.out).mono ?_); (case side1 => repeat (first | exact (Kd.R_reads' HO_0.out).2.2 | (with_reducible refine Kd.C_alloc ?_ _) | (with_reducible refine Kd.C_drewN ?_ _) | (with_reducible refine Kd.C_drew ?_))); (case side2 => exact (Kd.R_reads' HO_0.out).2.1); rintro e w32 ⟨v349, rfl, ho0, hb⟩; refine ⟨_, rfl, ?_⟩; have n0_ := Aside0.mk (Kd.R_below (by (with_reducible repeat (first | apply Kd.R_alloc | apply Kd.R_drewN | apply Kd.R_drew)); exact HO_0.out) hb); have n1_ := Aside0.mk (Kd.S_elder' (by (with_reducible repeat (first | apply Kd.S_alloc | apply Kd.S_drewN | apply Kd.S_drew)); exact HO347.out) (Kd.S_base ho0) hb); have n2_ := Aside0.mk (Kd.S_lower (Kd.S_new' (Kd.S_new' ho0 (Kd.R_lt (by (with_reducible repeat (first | apply Kd.R_alloc | apply Kd.R_drewN | apply Kd.R_drew)); exact HO_0.out))) (Kd.S_lt (by (with_reducible repeat (first | apply Kd.S_alloc | apply Kd.S_drewN | apply Kd.S_drew)); exact HO347.out))) (below_size (by repeat (first | (with_reducible first | exact HB.out | apply below_alloc | apply pw_below_drewN | apply below_drew1) | exact HB.out)))); have n3_ := Aside0.mk (below_step (by repeat (first | (with_reducible first | exact HB.out | apply below_alloc | apply pw_below_drewN | apply below_drew1) | exact HB.out)) hb); clear HO_0; clear HO347; clear HB; have HO_0 := n0_; have HO347 := n1_; have HO350 := n2_; have HB := n3_; clear n0_ n1_ n2_ n3_; (try clear hb); (try clear hb2); (try clear hk); (try clear hi); (try clear ho0); obtain ⟨Ao33, co33, eo33⟩ := Kd.S_slice HO347.out; subst eo33; obtain ⟨Ao34, co34, eo34⟩ := Kd.S_slice HO350.out; subst eo34))
              obtain rfl : r = true := HRT.out
              have HC1 := Aside0.mk (Kd.S_reads' HO347.out).2.2
              have HC2 := Aside0.mk (Kd.S_reads' HO350.out).2.2
              clear HO347 HO350 HO_0
              go_loopg [9] kj9 (fun kq v9 w' => ∃ (x9_3 : Int), v9 = .int .i64 x9_3 ∧ Aside0 (incipitlaw23_DropCut.l1 kq t345 t348 x9_3 = some true) ∧ Aside0 (Kd.C (Kd.slice 23 k23) w' Ao33 t345.length t345) ∧ Aside0 (Kd.C (Kd.slice 23 k23) w' Ao34 t348.length t348) ∧ Aside0 (Below w.heap.size w w'))
              case atStart => exact ⟨0, rfl, H', HC1, HC2, HB⟩
              case round =>
                obtain ⟨x9, rfl, HA, HC1, HC2, HB⟩ := hrel
                cases gk with
                | zero => exact absurd HA.out (by simp [incipitlaw23_DropCut.l1])
                | succ k3 =>
                  have H := HA.out
                  clear HA H'
                  simp only [incipitlaw23_DropCut.l1] at H
                  by_cases c1 : x9 < (t345.length : Int)
                  · rw [if_pos c1] at H
                    by_cases c2 : 0 ≤ x9
                    · rw [if_pos c2] at H
                      by_cases c3 : x9 < (t348.length : Int)
                      · rw [if_pos c3] at H
                        obtain ⟨t, ht, H⟩ := Option.bind_eq_some_iff.mp H
                        have HQ := Aside0.mk ht
                        clear ht
                        by_cases c4 : t = true
                        · subst c4
                          rw [if_pos rfl] at H
                          obtain ⟨j, rfl⟩ := Int.eq_ofNat_of_zero_le c2
                          obtain ⟨ad1, A1', c1', rfl, g1, hl1, hC1⟩ := slice_at HC1.out j (by omega)
                          obtain ⟨ad2, A2', c2', rfl, g2, hl2, hC2⟩ := slice_at HC2.out j (by omega)
                          have e1 : rd_L3 t345 (j : Int) = t345.getD j [] := by unfold rd_L3; rw [Int.toNat_natCast]
                          have e2 : rd_L3 t348 (j : Int) = t348.getD j [] := by unfold rd_L3; rw [Int.toNat_natCast]
                          rw [e1] at HQ H
                          rw [e2] at HQ
                          have j0 : ((0 : Int) ≤ (j : Int)) = True := eq_true (by omega)
                          have j1 : (j < t345.length) = True := eq_true (by omega)
                          have j2 : (j < t348.length) = True := eq_true (by omega)
                          have HCa := Aside0.mk hC1
                          have HCb := Aside0.mk hC2
                          clear e1 e2 hC1 hC2
                          obtain ⟨ga, hga⟩ : ∃ g, Aside0 (g = t345.getD j []) := ⟨_, ⟨rfl⟩⟩
                          obtain ⟨gb, hgb⟩ : ∃ g, Aside0 (g = t348.getD j []) := ⟨_, ⟨rfl⟩⟩
                          rw [← hga.out] at g1 hl1 HCa HQ H
                          rw [← hgb.out] at g2 hl2 HCb HQ
                          by_cases c5 : (j : Int) > 0
                          · rw [if_pos c5] at H
                            by_cases d1 : 0 < (ga.length : Int)
                            · rw [if_pos d1] at H
                              obtain ⟨q, hq⟩ : ∃ q, Aside0 (j = q + 1) := ⟨j - 1, ⟨by omega⟩⟩
                              have hm1 := Kd.C_max HC1.out
                              have w1 : wrap64 ((j : Int) - 1) = (q : Int) := by have := hq.out; unfold wrap64; omega
                              rw [w1] at H
                              rw [if_pos (show 0 ≤ (q : Int) by omega), if_pos (show (q : Int) < (t345.length : Int) by have := hq.out; omega)] at H
                              have e3 : rd_L3 t345 (q : Int) = t345.getD q [] := by unfold rd_L3; rw [Int.toNat_natCast]
                              rw [e3] at H
                              obtain ⟨ad1', A3', c3', e4, g3, hl3, hC3⟩ := slice_at HC1.out q (by have := hq.out; omega)
                              obtain rfl := Option.some.inj e4
                              obtain ⟨gp, hgp⟩ : ∃ g, Aside0 (g = t345.getD q []) := ⟨_, ⟨rfl⟩⟩
                              rw [← hgp.out] at g3 hl3 hC3 H
                              have HCp := Aside0.mk hC3
                              by_cases d2 : 0 ≤ wrap64 ((gp.length : Int) - 1)
                              · rw [if_pos d2] at H
                                have hgpm := Kd.C_max HCp.out
                                obtain ⟨m, hm⟩ : ∃ m, Aside0 (gp.length = m + 1) := by
                                  refine ⟨gp.length - 1, ⟨?_⟩⟩
                                  unfold wrap64 at d2
                                  omega
                                have w2 : wrap64 ((gp.length : Int) - 1) = (m : Int) := by have := hm.out; unfold wrap64; omega
                                rw [w2, if_pos (show (m : Int) < (gp.length : Int) by have := hm.out; omega)] at H
                                obtain ⟨ada, ea, f0a, _, _, _, _⟩ := at_T23 HCa.out 0 (by omega) (by omega)
                                obtain ⟨adp, ep, f0p, _, _, _, _⟩ := at_T23 HCp.out (m : Int) (by omega) (by have := hm.out; omega)
                                subst ea
                                subst ep
                                rw [Int.toNat_natCast] at f0p
                                by_cases d3 : ((rd_T23 ga 0).f0).toList = ((rd_T23 gp (m : Int)).f0).toList
                                · rw [if_pos d3] at H; cases H
                                · rw [if_neg d3] at H
                                  have d3b : (((rd_T23 ga 0).f0).toList == ((rd_T23 gp (m : Int)).f0).toList) = false := by simp [d3]
                                  generalize (rd_T23 ga 0).f0 = sa at f0a d3b
                                  generalize (rd_T23 gp (m : Int)).f0 = sp at f0p d3b
                                  have H' := Aside0.mk H
                                  have j3 : (q < t345.length) = True := eq_true (by have := hq.out; omega)
                                  have j4 : ((0 : Int) ≤ (q : Int)) = True := eq_true (by omega)
                                  have j5 : (m < gp.length) = True := eq_true (by have := hm.out; omega)
                                  have j6 : ((0 : Int) ≤ (m : Int)) = True := eq_true (by omega)
                                  have j7 : (0 < ga.length) = True := eq_true (by omega)
                                  have j8 : (0 < (j : Int)) = True := eq_true (by omega)
                                  have j9 : (0 < j) = True := eq_true (by omega)
                                  have w1i : IntKind.i64.wrap ((j : Int) - 1) = (q : Int) := (i64_w _).trans w1
                                  have w2i : IntKind.i64.wrap ((gp.length : Int) - 1) = (m : Int) := (i64_w _).trans w2
                                  have hx1 : ∀ x : LaterW wr, x.1.cell? (ad1.add j) = some (.slice (some ada) ga.length c1') := fun x => x.cell g1
                                  have hx2 : ∀ x : LaterW wr, x.1.cell? (ad2.add j) = some (.slice A2' gb.length c2') := fun x => x.cell g2
                                  have hx3 : ∀ x : LaterW wr, x.1.cell? (ad1.add q) = some (.slice (some adp) gp.length c3') := fun x => x.cell g3
                                  have hx4 : ∀ x : LaterW wr, x.1.cell? (ada.add (Int.toNat 0 * 5)) = some (.string sa) := fun x => x.cell f0a
                                  have hx5 : ∀ x : LaterW wr, x.1.cell? (adp.add (m * 5)) = some (.string sp) := fun x => x.cell f0p
                                  (try simp only [Int.toNat_zero, Nat.zero_mul, Addr.add_zero'] at hx4)
                                  clear H hm1 c5 c1 c2 c3 d1 d2 d3 e3 g1 g2 g3 f0a f0p w1 w2 hC3
                                  go_wp2
                                  refine wp_region_later (by kernel_rfl) (by kernel_rfl) ?_
                                  repeat (go_big_quiet_step ((go_at_call 30; refine LaterW.call _ (incipitref12_EqAll.calls _ (some ada) c1' _ A2' c2' _ true _ (Kd.C_below HCa.out (Subtype.property _)) hl1 (Kd.C_below HCb.out (Subtype.property _)) hl2 HQ.out))))
                                  refine wpQuiet_nil ?_
                                  intro _ hw'
                                  obtain ⟨x, rfl⟩ := hw'
                                  go_wp2
                                  go_roundg k3
                                  case measure => omega
                                  case rel => exact ⟨_, (by first | rfl | (simp; done) | (simp [*]; done)), H', ⟨Kd.C_below HC1.out x.2⟩, ⟨Kd.C_below HC2.out x.2⟩, ⟨below_step HB.out x.2⟩⟩
                              · rw [if_neg d2] at H; cases H
                            · rw [if_neg d1] at H; cases H
                          · rw [if_neg c5] at H
                            obtain rfl : j = 0 := by omega
                            (try rw [Addr.add_zero'] at g1)
                            (try rw [Addr.add_zero'] at g2)
                            have H' := Aside0.mk H
                            clear H c5 c1 c2 c3
                            go_wp2
                            go_outline
                            have hx1 : ∀ x : LaterW wr, x.1.cell? ad1 = some (.slice A1' ga.length c1') := fun x => x.cell g1
                            have hx2 : ∀ x : LaterW wr, x.1.cell? ad2 = some (.slice A2' gb.length c2') := fun x => x.cell g2
                            clear g1 g2
                            refine wp_region_later (by kernel_rfl) (by kernel_rfl) ?_
                            repeat (go_big_quiet_step ((go_at_call 30; refine LaterW.call _ (incipitref12_EqAll.calls _ A1' c1' _ A2' c2' _ true _ (Kd.C_below HCa.out (Subtype.property _)) hl1 (Kd.C_below HCb.out (Subtype.property _)) hl2 HQ.out))))
                            refine wpQuiet_nil ?_
                            intro _ hw'
                            obtain ⟨x, rfl⟩ := hw'
                            go_wp2
                            go_roundg k3
                            case measure => omega
                            case rel => exact ⟨_, (by first | rfl | (simp; done) | (simp; unfold wrap64; omega) | (simp [*]; done)), H', ⟨Kd.C_below HC1.out x.2⟩, ⟨Kd.C_below HC2.out x.2⟩, ⟨below_step HB.out x.2⟩⟩
                        · rw [if_neg c4] at H; cases H
                      · rw [if_neg c3] at H; cases H
                    · rw [if_neg c2] at H; cases H
                  · rw [if_neg c1] at H
                    have c1b : (x9 < (t345.length : Int)) = False := eq_false c1
                    go_wp2
                    go_ret
                    exact ⟨rfl, HB.out⟩
            · rw [if_neg c29] at H
              have c29b0 : ((t345.length : Int) == (t348.length : Int)) = false := beq_eq_false_iff_ne.mpr c29
              have c29b1 : ((t345.length : Int) != (t348.length : Int)) = true := bne_iff_ne.mpr c29
              have c29b2 : (t345.length == t348.length) = false := by first | simpa using c29 | (simp at c29 ⊢; omega)
              obtain rfl := Option.some.inj H
              exact absurd HRT.out (by decide)
  · replace c4 := Bool.eq_false_iff.mpr c4
    subst c4
    have H1 : (some false) = some r := by rw [if_neg (show ¬ (false = true) by decide)] at H; exact H
    clear H
    have H := H1
    clear H1
    obtain rfl := Option.some.inj H
    exact absurd HRT.out (by decide)

end Go.Proofs.Ytcijcfdllfaghaa.MDrp
