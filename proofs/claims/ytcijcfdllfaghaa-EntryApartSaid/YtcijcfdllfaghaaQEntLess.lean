/- The order of entries: ikey.Less and the reference's Less tell the same. -/
import Derived.Lib.Bytealg
import Derived.Lib.Strings
import Derived.Test.YtcijcfdllfaghaaMEntx2
import Derived.Test.YtcijcfdllfaghaaMEntx3
import Derived.Test.YtcijcfdllfaghaaMEntx4
import Derived.Test.YtcijcfdllfaghaaQEntBasic
namespace Go.Proofs.Ytcijcfdllfaghaa.QEnt
open Go.RowKit Go.Proofs.Ytcijcfdllfaghaa.MEnt Go.Proofs.Ytcijcfdllfaghaa.QEnt Go.Proofs.YtcijcfdllfaghaaW.PrintWords Go.Proofs.YtcijcfdllfaghaaW.PrintLast Go.Proofs.YtcijcfdllfaghaaW.PrintMore
set_option linter.unusedVariables false
set_option linter.unusedSimpArgs false
theorem cmpB : ∀ a b : List UInt8, (Lib.compareBytes a b < 0 ↔ Op.bytesLess a b = true) ∧ (Lib.compareBytes a b = 0 ↔ a = b)
  | [], [] => by simp [Lib.compareBytes, Op.bytesLess]
  | [], _ :: _ => by simp [Lib.compareBytes, Op.bytesLess]
  | _ :: _, [] => by simp [Lib.compareBytes, Op.bytesLess]
  | x :: a, y :: b => by
    have ih := cmpB a b
    unfold Lib.compareBytes
    unfold Op.bytesLess
    by_cases h1 : x < y
    · have hne : x ≠ y := fun e => by subst e; exact absurd h1 (UInt8.lt_irrefl x)
      simp [h1, hne]
    · by_cases h2 : y < x
      · have hne : x ≠ y := fun e => by subst e; exact absurd h2 (UInt8.lt_irrefl x)
        simp [h1, h2, hne]
      · have he : x = y := UInt8.le_antisymm (UInt8.not_lt.1 h2) (UInt8.not_lt.1 h1)
        subst he
        simp [UInt8.lt_irrefl, ih.1, ih.2]
theorem Less_eq (a0 : ByteArray) (a1 a2 : Int) (a3 a4 : ByteArray) (b0 : ByteArray) (b1 b2 : Int) (b3 b4 : ByteArray) : ∃ r, ikey_Less.f a0 a1 a2 a3 a4 b0 b1 b2 b3 b4 = some r ∧ incipitref12_Less.f a0 a1 a2 a3 a4 b0 b1 b2 b3 b4 = some r := by
  have h := cmpB a0.data.toList b0.data.toList
  have hn1 : ∀ x : Int, cmp_isNaN_int64.f x = some false := fun x => by simp [cmp_isNaN_int64.f]
  have hn2 : ∀ x : Int, cmp_isNaN_int.f x = some false := fun x => by simp [cmp_isNaN_int.f]
  simp only [ikey_Less.f, ikey_Compare.f, strings_Compare.f, cmp_Compare_int64.f, cmp_Compare_int.f, hn1, hn2, incipitref12_Less.f, Option.bind_some, Lib.toList_data, Bool.false_eq_true, if_false]
  generalize Lib.compareBytes a0.data.toList b0.data.toList = c at h ⊢
  by_cases e : a0.data.toList = b0.data.toList
  · have c0 := h.2.2 e
    rw [if_pos c0, if_pos e]
    by_cases e1 : a1 = b1
    · subst e1
      simp only [Int.lt_irrefl, if_false, gt_iff_lt, Option.bind_some, if_true]
      by_cases l : b2 < a2
      · refine ⟨true, ?_, ?_⟩ <;> simp [l]
      · by_cases l2 : a2 < b2
        · refine ⟨false, ?_, ?_⟩ <;> simp [l, l2]
        · refine ⟨false, ?_, ?_⟩ <;> simp [l, l2]
    · rw [if_neg e1]
      by_cases l : b1 < a1
      · refine ⟨true, ?_, ?_⟩ <;> simp [l]
      · have l2 : b1 > a1 := by omega
        refine ⟨false, ?_, ?_⟩ <;> simp [l, l2]
  · have c0 : ¬ c = 0 := fun z => e (h.2.1 z)
    rw [if_neg c0, if_neg e]
    refine ⟨decide (c < 0), rfl, ?_⟩
    congr 1
    rw [Bool.eq_iff_iff, decide_eq_true_eq]
    exact h.1.symm
theorem Eq_eq (a0 : ByteArray) (a1 a2 : Int) (a3 a4 : ByteArray) (b0 : ByteArray) (b1 b2 : Int) (b3 b4 : ByteArray) : ∃ r, ikey_Eq.f a0 a1 a2 a3 a4 b0 b1 b2 b3 b4 = some r ∧ incipitref12_Eq.f a0 a1 a2 a3 a4 b0 b1 b2 b3 b4 = some r := by
  refine ⟨_, rfl, ?_⟩
  unfold incipitref12_Eq.f
  by_cases h0 : a0.toList = b0.toList
  · rw [if_pos h0]
    by_cases h1 : a1 = b1
    · rw [if_pos h1]
      by_cases h2 : a2 = b2
      · rw [if_pos h2]
        by_cases h3 : a3.toList = b3.toList
        · rw [if_pos h3]; simp [h0, h1, h2, h3]
        · rw [if_neg h3]; simp [h0, h1, h2, h3]
      · rw [if_neg h2]; simp [h0, h1, h2]
    · rw [if_neg h1]; simp [h0, h1]
  · rw [if_neg h0]; simp [h0]
end Go.Proofs.Ytcijcfdllfaghaa.QEnt
