-- Written by a program of this session for this claim (out of the translation's print); Lean checks it.
import Derived.Test.YtoglanahjlfihaaMEdtx0
import Derived.Test.YtoglanahjlfihaaMEdtx1
import Derived.Test.YtoglanahjlfihaaMEdtx2
import Derived.Test.YtoglanahjlfihaaMEdtx3
import Derived.Test.YtoglanahjlfihaaMEdtx4
import Derived.Test.YtoglanahjlfihaaMEdtx5
import Derived.Test.YtoglanahjlfihaaMEdtx7
namespace Go.Proofs.Ytoglanahjlfihaa.MEdt
open Go.RowKit Go.Proofs.YtoglanahjlfihaaW.PrintWords Go.Proofs.YtoglanahjlfihaaW.PrintLast Go.Proofs.YtoglanahjlfihaaW.PrintMore
attribute [local go_sem] max2_int min2_int max_two min_two max_three min_three max_four min_four   -- for this text's walks alone
set_option linter.unusedVariables false
set_option linter.unusedSimpArgs false

/-! ### incipitlaw19_EditBytes: function 5 -/
mutual
def incipitlaw19_EditBytes.j0 : Nat → Int → Int → List Int → Bool → Int → Int → Int → List (S55) → List Int → Int → Int → Int → List (S55) → List Int → Option (Bool)
  | 0, _, _, _, _, _, _, _, _, _, _, _, _, _, _ => none
  | k + 1, x2, x3, x10, x66, x191000, x191001, x191002, x191003, x191004, x192000, x192001, x192002, x192003, x192004 => if x66 = true then (some false) else ((edit_Encode.f k x192000 x192001 x192002 x192003 x192004).bind fun bt230 => (if bt230.2 = 0 then ((incipitref12_EqEdit.f k x191000 x191001 x191002 x191003 x191004 x192000 x192001 x192002 x192003 x192004).bind fun t234 => (incipitlaw19_EditBytes.j1 k x2 x3 x10 (((strOfNums x10).toList == (strOfNums bt230.1).toList) != t234))) else (incipitlaw19_EditBytes.j1 k x2 x3 x10 false)))
def incipitlaw19_EditBytes.j1 : Nat → Int → Int → List Int → Bool → Option (Bool)
  | 0, _, _, _, _ => none
  | k + 1, x2, x3, x10, x84 => if x84 = true then (some false) else (if ([] : List Int).length + x10.length < 140737488355328 then ((some (([] : List Int) ++ x10 : List Int)).bind fun y235 => (if x2 ≥ 0 then (incipitlaw19_EditBytes.j2 k x2 x3 y235 (decide ((y235.length : Int) > 0))) else (incipitlaw19_EditBytes.j2 k x2 x3 y235 false))) else (none))
def incipitlaw19_EditBytes.j2 : Nat → Int → Int → List Int → Bool → Option (Bool)
  | 0, _, _, _, _ => none
  | k + 1, x2, x3, x15, x93 => if x93 = true then (if (x15.length : Int) = 0 then (none) else (if 0 ≤ (Int.tmod x2 (x15.length : Int)) then (if (Int.tmod x2 (x15.length : Int)) < (x15.length : Int) then (incipitlaw19_EditBytes.j3 k (x15.set ((Int.tmod x2 (x15.length : Int)) : Int).toNat (Go.bits .xor .u8 (rd x15 (Int.tmod x2 (x15.length : Int))) x3))) else (none)) else (none))) else (incipitlaw19_EditBytes.j3 k x15)
def incipitlaw19_EditBytes.j3 : Nat → List Int → Option (Bool)
  | 0, _ => none
  | k + 1, x15 => (edit_Decode.f k x15).bind fun bt240 => (if bt240.2.2.2.2.2 = 0 then ((edit_Encode.f k bt240.1 bt240.2.1 bt240.2.2.1 bt240.2.2.2.1 bt240.2.2.2.2.1).bind fun bt251 => (if bt251.2 = 0 then (some ((strOfNums bt251.1).toList == (strOfNums x15).toList)) else (some false))) else (if bt240.2.2.2.2.2 = 8 then (if bt240.1 = 0 then (some ((bt240.2.2.2.1.length : Int) == 0)) else (some false)) else (some false)))
end
def incipitlaw19_EditBytes.f (k : Nat) (a0_0 : Int) (a0_1 : Int) (a0_2 : Int) (l0_3 : List (S55)) (l0_4 : List Int) (a1_0 : Int) (a1_1 : Int) (a1_2 : Int) (l1_3 : List (S55)) (l1_4 : List Int) (a2 : Int) (a3 : Int) : Option (Bool) := (incipitlaw19_begun.f k).bind fun t192 => (if t192 = true then ((incipitlaw19_Cut.f k a0_0 a0_1 a0_2 l0_3 l0_4).bind fun bt193 => ((incipitlaw19_Cut.f k a1_0 a1_1 a1_2 l1_3 l1_4).bind fun bt202 => ((edit_Encode.f k bt193.1 bt193.2.1 bt193.2.2.1 bt193.2.2.2.1 bt193.2.2.2.2).bind fun bt211 => ((incipitref12_MayEdit.f k bt193.1 bt193.2.1 bt193.2.2.1 bt193.2.2.2.1 bt193.2.2.2.2).bind fun t215 => (if t215 = true then ((edit_Decode.f k bt211.1).bind fun bt217 => (if bt211.2 = 0 then (if bt217.2.2.2.2.2 = 0 then ((incipitref12_EqEdit.f k bt193.1 bt193.2.1 bt193.2.2.1 bt193.2.2.2.1 bt193.2.2.2.2 bt217.1 bt217.2.1 bt217.2.2.1 bt217.2.2.2.1 bt217.2.2.2.2.1).bind fun t228 => (if t228 = true then ((edit_Check.f k bt193.1 bt193.2.1 bt193.2.2.1 bt193.2.2.2.1 bt193.2.2.2.2).bind fun t229 => (incipitlaw19_EditBytes.j0 k a2 a3 bt211.1 (t229 != 0) bt193.1 bt193.2.1 bt193.2.2.1 bt193.2.2.2.1 bt193.2.2.2.2 bt202.1 bt202.2.1 bt202.2.2.1 bt202.2.2.2.1 bt202.2.2.2.2)) else (incipitlaw19_EditBytes.j0 k a2 a3 bt211.1 true bt193.1 bt193.2.1 bt193.2.2.1 bt193.2.2.2.1 bt193.2.2.2.2 bt202.1 bt202.2.1 bt202.2.2.1 bt202.2.2.2.1 bt202.2.2.2.2))) else (incipitlaw19_EditBytes.j0 k a2 a3 bt211.1 true bt193.1 bt193.2.1 bt193.2.2.1 bt193.2.2.2.1 bt193.2.2.2.2 bt202.1 bt202.2.1 bt202.2.2.1 bt202.2.2.2.1 bt202.2.2.2.2)) else (incipitlaw19_EditBytes.j0 k a2 a3 bt211.1 true bt193.1 bt193.2.1 bt193.2.2.1 bt193.2.2.2.1 bt193.2.2.2.2 bt202.1 bt202.2.1 bt202.2.2.1 bt202.2.2.2.1 bt202.2.2.2.2))) else (if bt211.2 = 12 then (if (bt211.1.length : Int) = 0 then ((edit_Check.f k bt193.1 bt193.2.1 bt193.2.2.1 bt193.2.2.2.1 bt193.2.2.2.2).bind fun t216 => (some (t216 == 12))) else (some false)) else (some false))))))) else (some false))
theorem incipitlaw19_EditBytes.mono_l : ∀ k, (∀ y0 y1 y2 y3 y4 y5 y6 y7 y8 y9 y10 y11 y12 y13, LeO (incipitlaw19_EditBytes.j0 k y0 y1 y2 y3 y4 y5 y6 y7 y8 y9 y10 y11 y12 y13) (incipitlaw19_EditBytes.j0 (k + 1) y0 y1 y2 y3 y4 y5 y6 y7 y8 y9 y10 y11 y12 y13)) ∧ (∀ y0 y1 y2 y3, LeO (incipitlaw19_EditBytes.j1 k y0 y1 y2 y3) (incipitlaw19_EditBytes.j1 (k + 1) y0 y1 y2 y3)) ∧ (∀ y0 y1 y2 y3, LeO (incipitlaw19_EditBytes.j2 k y0 y1 y2 y3) (incipitlaw19_EditBytes.j2 (k + 1) y0 y1 y2 y3)) ∧ (∀ y0, LeO (incipitlaw19_EditBytes.j3 k y0) (incipitlaw19_EditBytes.j3 (k + 1) y0))
  | 0 => ⟨fun _ _ _ _ _ _ _ _ _ _ _ _ _ _ r h => by simp [incipitlaw19_EditBytes.j0] at h, fun _ _ _ _ r h => by simp [incipitlaw19_EditBytes.j1] at h, fun _ _ _ _ r h => by simp [incipitlaw19_EditBytes.j2] at h, fun _ r h => by simp [incipitlaw19_EditBytes.j3] at h⟩
  | k + 1 => by
    obtain ⟨ih0, ih1, ih2, ih3⟩ := incipitlaw19_EditBytes.mono_l k
    refine ⟨?_, ?_, ?_, ?_⟩
    · intro y0 y1 y2 y3 y4 y5 y6 y7 y8 y9 y10 y11 y12 y13
      unfold incipitlaw19_EditBytes.j0
      repeat' first
      | (with_reducible exact ih0 _ _ _ _ _ _ _ _ _ _ _ _ _ _)
      | (with_reducible exact ih1 _ _ _ _)
      | (with_reducible exact ih2 _ _ _ _)
      | (with_reducible exact ih3 _)
      | (with_reducible exact edit_Check.mono _ _ _ _ _ _)
      | (with_reducible exact edit_Decode.mono _ _)
      | (with_reducible exact edit_Encode.mono _ _ _ _ _ _)
      | (with_reducible exact incipitlaw19_Cut.mono _ _ _ _ _ _)
      | (with_reducible exact incipitlaw19_begun.mono _)
      | (with_reducible exact incipitref12_EqEdit.mono _ _ _ _ _ _ _ _ _ _ _)
      | (with_reducible exact incipitref12_MayEdit.mono _ _ _ _ _ _)
      | (with_reducible exact LeO.refl _)
      | (with_reducible exact LeO.none _)
      | (with_reducible refine LeO.ite ?_ ?_)
      | (with_reducible refine LeO.bind ?_ (fun _ => ?_))
      | exact ih0 _ _ _ _ _ _ _ _ _ _ _ _ _ _
      | exact ih1 _ _ _ _
      | exact ih2 _ _ _ _
      | exact ih3 _
      | exact edit_Check.mono _ _ _ _ _ _
      | exact edit_Decode.mono _ _
      | exact edit_Encode.mono _ _ _ _ _ _
      | exact incipitlaw19_Cut.mono _ _ _ _ _ _
      | exact incipitlaw19_begun.mono _
      | exact incipitref12_EqEdit.mono _ _ _ _ _ _ _ _ _ _ _
      | exact incipitref12_MayEdit.mono _ _ _ _ _ _
      | exact LeO.none _
      | refine LeO.ite ?_ ?_
      | refine LeO.bind ?_ (fun _ => ?_)
    · intro y0 y1 y2 y3
      unfold incipitlaw19_EditBytes.j1
      repeat' first
      | (with_reducible exact ih0 _ _ _ _ _ _ _ _ _ _ _ _ _ _)
      | (with_reducible exact ih1 _ _ _ _)
      | (with_reducible exact ih2 _ _ _ _)
      | (with_reducible exact ih3 _)
      | (with_reducible exact edit_Check.mono _ _ _ _ _ _)
      | (with_reducible exact edit_Decode.mono _ _)
      | (with_reducible exact edit_Encode.mono _ _ _ _ _ _)
      | (with_reducible exact incipitlaw19_Cut.mono _ _ _ _ _ _)
      | (with_reducible exact incipitlaw19_begun.mono _)
      | (with_reducible exact incipitref12_EqEdit.mono _ _ _ _ _ _ _ _ _ _ _)
      | (with_reducible exact incipitref12_MayEdit.mono _ _ _ _ _ _)
      | (with_reducible exact LeO.refl _)
      | (with_reducible exact LeO.none _)
      | (with_reducible refine LeO.ite ?_ ?_)
      | (with_reducible refine LeO.bind ?_ (fun _ => ?_))
      | exact ih0 _ _ _ _ _ _ _ _ _ _ _ _ _ _
      | exact ih1 _ _ _ _
      | exact ih2 _ _ _ _
      | exact ih3 _
      | exact edit_Check.mono _ _ _ _ _ _
      | exact edit_Decode.mono _ _
      | exact edit_Encode.mono _ _ _ _ _ _
      | exact incipitlaw19_Cut.mono _ _ _ _ _ _
      | exact incipitlaw19_begun.mono _
      | exact incipitref12_EqEdit.mono _ _ _ _ _ _ _ _ _ _ _
      | exact incipitref12_MayEdit.mono _ _ _ _ _ _
      | exact LeO.none _
      | refine LeO.ite ?_ ?_
      | refine LeO.bind ?_ (fun _ => ?_)
    · intro y0 y1 y2 y3
      unfold incipitlaw19_EditBytes.j2
      repeat' first
      | (with_reducible exact ih0 _ _ _ _ _ _ _ _ _ _ _ _ _ _)
      | (with_reducible exact ih1 _ _ _ _)
      | (with_reducible exact ih2 _ _ _ _)
      | (with_reducible exact ih3 _)
      | (with_reducible exact edit_Check.mono _ _ _ _ _ _)
      | (with_reducible exact edit_Decode.mono _ _)
      | (with_reducible exact edit_Encode.mono _ _ _ _ _ _)
      | (with_reducible exact incipitlaw19_Cut.mono _ _ _ _ _ _)
      | (with_reducible exact incipitlaw19_begun.mono _)
      | (with_reducible exact incipitref12_EqEdit.mono _ _ _ _ _ _ _ _ _ _ _)
      | (with_reducible exact incipitref12_MayEdit.mono _ _ _ _ _ _)
      | (with_reducible exact LeO.refl _)
      | (with_reducible exact LeO.none _)
      | (with_reducible refine LeO.ite ?_ ?_)
      | (with_reducible refine LeO.bind ?_ (fun _ => ?_))
      | exact ih0 _ _ _ _ _ _ _ _ _ _ _ _ _ _
      | exact ih1 _ _ _ _
      | exact ih2 _ _ _ _
      | exact ih3 _
      | exact edit_Check.mono _ _ _ _ _ _
      | exact edit_Decode.mono _ _
      | exact edit_Encode.mono _ _ _ _ _ _
      | exact incipitlaw19_Cut.mono _ _ _ _ _ _
      | exact incipitlaw19_begun.mono _
      | exact incipitref12_EqEdit.mono _ _ _ _ _ _ _ _ _ _ _
      | exact incipitref12_MayEdit.mono _ _ _ _ _ _
      | exact LeO.none _
      | refine LeO.ite ?_ ?_
      | refine LeO.bind ?_ (fun _ => ?_)
    · intro y0
      unfold incipitlaw19_EditBytes.j3
      repeat' first
      | (with_reducible exact ih0 _ _ _ _ _ _ _ _ _ _ _ _ _ _)
      | (with_reducible exact ih1 _ _ _ _)
      | (with_reducible exact ih2 _ _ _ _)
      | (with_reducible exact ih3 _)
      | (with_reducible exact edit_Check.mono _ _ _ _ _ _)
      | (with_reducible exact edit_Decode.mono _ _)
      | (with_reducible exact edit_Encode.mono _ _ _ _ _ _)
      | (with_reducible exact incipitlaw19_Cut.mono _ _ _ _ _ _)
      | (with_reducible exact incipitlaw19_begun.mono _)
      | (with_reducible exact incipitref12_EqEdit.mono _ _ _ _ _ _ _ _ _ _ _)
      | (with_reducible exact incipitref12_MayEdit.mono _ _ _ _ _ _)
      | (with_reducible exact LeO.refl _)
      | (with_reducible exact LeO.none _)
      | (with_reducible refine LeO.ite ?_ ?_)
      | (with_reducible refine LeO.bind ?_ (fun _ => ?_))
      | exact ih0 _ _ _ _ _ _ _ _ _ _ _ _ _ _
      | exact ih1 _ _ _ _
      | exact ih2 _ _ _ _
      | exact ih3 _
      | exact edit_Check.mono _ _ _ _ _ _
      | exact edit_Decode.mono _ _
      | exact edit_Encode.mono _ _ _ _ _ _
      | exact incipitlaw19_Cut.mono _ _ _ _ _ _
      | exact incipitlaw19_begun.mono _
      | exact incipitref12_EqEdit.mono _ _ _ _ _ _ _ _ _ _ _
      | exact incipitref12_MayEdit.mono _ _ _ _ _ _
      | exact LeO.none _
      | refine LeO.ite ?_ ?_
      | refine LeO.bind ?_ (fun _ => ?_)
theorem incipitlaw19_EditBytes.mono : ∀ a0 a1 a2 a3 a4 a5 a6 a7 a8 a9 a10 a11 k, LeO (incipitlaw19_EditBytes.f k a0 a1 a2 a3 a4 a5 a6 a7 a8 a9 a10 a11) (incipitlaw19_EditBytes.f (k + 1) a0 a1 a2 a3 a4 a5 a6 a7 a8 a9 a10 a11) := by
  intro a0 a1 a2 a3 a4 a5 a6 a7 a8 a9 a10 a11 k
  obtain ⟨ih0, ih1, ih2, ih3⟩ := incipitlaw19_EditBytes.mono_l k
  unfold incipitlaw19_EditBytes.f
  repeat' first
      | (with_reducible exact ih0 _ _ _ _ _ _ _ _ _ _ _ _ _ _)
      | (with_reducible exact ih1 _ _ _ _)
      | (with_reducible exact ih2 _ _ _ _)
      | (with_reducible exact ih3 _)
      | (with_reducible exact edit_Check.mono _ _ _ _ _ _)
      | (with_reducible exact edit_Decode.mono _ _)
      | (with_reducible exact edit_Encode.mono _ _ _ _ _ _)
      | (with_reducible exact incipitlaw19_Cut.mono _ _ _ _ _ _)
      | (with_reducible exact incipitlaw19_begun.mono _)
      | (with_reducible exact incipitref12_EqEdit.mono _ _ _ _ _ _ _ _ _ _ _)
      | (with_reducible exact incipitref12_MayEdit.mono _ _ _ _ _ _)
      | (with_reducible exact LeO.refl _)
      | (with_reducible exact LeO.none _)
      | (with_reducible refine LeO.ite ?_ ?_)
      | (with_reducible refine LeO.bind ?_ (fun _ => ?_))
      | exact ih0 _ _ _ _ _ _ _ _ _ _ _ _ _ _
      | exact ih1 _ _ _ _
      | exact ih2 _ _ _ _
      | exact ih3 _
      | exact edit_Check.mono _ _ _ _ _ _
      | exact edit_Decode.mono _ _
      | exact edit_Encode.mono _ _ _ _ _ _
      | exact incipitlaw19_Cut.mono _ _ _ _ _ _
      | exact incipitlaw19_begun.mono _
      | exact incipitref12_EqEdit.mono _ _ _ _ _ _ _ _ _ _ _
      | exact incipitref12_MayEdit.mono _ _ _ _ _ _
      | exact LeO.none _
      | refine LeO.ite ?_ ?_
      | refine LeO.bind ?_ (fun _ => ?_)
def incipitlaw19_EditBytes.T12 : Bool × List (List Nat × List Nat) := (true, [([], []), ([0], [0]), ([1], [1]), ([2], [2]), ([3, 2], [2, 3]), ([2], [2]), ([5, 2], [2, 5]), ([4, 6, 2], [2, 4, 6]), ([2], [2]), ([2], [2]), ([8, 9, 2, 2], [2, 8, 9]), ([7, 10, 2], [2, 7, 10]), ([2, 11], [2, 11])])
def incipitlaw19_EditBytes.B12 : List Nat := [0, 1, 3, 7, 15, 7, 39, 127, 7, 7, 775, 2047, 4095]
theorem incipitlaw19_EditBytes.tab12 : rtab .any (opsOf Try.f5 12) = incipitlaw19_EditBytes.T12 := by kernel_rfl
theorem incipitlaw19_EditBytes.bits12 : waitsOk incipitlaw19_EditBytes.T12.2 incipitlaw19_EditBytes.B12 = true := by kernel_rfl
end Go.Proofs.Ytoglanahjlfihaa.MEdt
