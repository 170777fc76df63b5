/- The order of entries as one Bool: it goes on, and is total. -/
import Derived.Test.YtcijcfdllfaghaaMDrpx1
import Derived.Test.YtcijcfdllfaghaaQDrpEntOrdR
namespace Go.Proofs.Ytcijcfdllfaghaa.QDrp
open Go.RowKit Go.Proofs.Ytcijcfdllfaghaa.MDrp Go.Proofs.Ytcijcfdllfaghaa.QDrp Go.Proofs.YtcijcfdllfaghaaW.PrintWords Go.Proofs.YtcijcfdllfaghaaW.PrintLast Go.Proofs.YtcijcfdllfaghaaW.PrintMore
set_option linter.unusedVariables false
set_option linter.unusedSimpArgs false
/-- The order, as one Bool. -/
def lt3 (a0 : ByteArray) (a1 a2 : Int) (b0 : ByteArray) (b1 b2 : Int) : Bool := if a0.toList = b0.toList then (if a1 = b1 then decide (a2 > b2) else decide (a1 > b1)) else Op.bytesLess a0.toList b0.toList
theorem bl_irrefl : ∀ l : List UInt8, Op.bytesLess l l = false
  | [] => rfl
  | x :: t => by simp [Op.bytesLess, bl_irrefl t, UInt8.lt_irrefl]
theorem bl_total : ∀ a b : List UInt8, a ≠ b → (Op.bytesLess b a = !(Op.bytesLess a b))
  | [], [], h => absurd rfl h
  | [], _ :: _, _ => by simp [Op.bytesLess]
  | _ :: _, [], _ => by simp [Op.bytesLess]
  | x :: a, y :: b, h => by
    unfold Op.bytesLess
    by_cases e : x = y
    · subst e
      have := bl_total a b (fun z => h (by rw [z]))
      simp [UInt8.lt_irrefl, this]
    · by_cases l : x < y
      · have : ¬ y < x := fun z => UInt8.lt_asymm l z
        simp [l, this, e, Ne.symm e]
      · have l2 : y < x := UInt8.lt_of_le_of_ne (UInt8.not_lt.1 l) (Ne.symm e)
        simp [l, l2, e, Ne.symm e]
theorem bl_trans : ∀ a b c : List UInt8, Op.bytesLess a b = true → Op.bytesLess b c = true → Op.bytesLess a c = true
  | _, [], _, h, _ => by simp [Op.bytesLess] at h
  | _, _ :: _, [], _, h => by simp [Op.bytesLess] at h
  | [], _ :: _, _ :: _, _, _ => by simp [Op.bytesLess]
  | x :: a, y :: b, z :: c, h1, h2 => by
    simp only [Op.bytesLess, Bool.or_eq_true, decide_eq_true_eq, Bool.and_eq_true, beq_iff_eq] at h1 h2 ⊢
    rcases h1 with h1 | ⟨rfl, h1⟩
    · rcases h2 with h2 | ⟨rfl, h2⟩
      · exact .inl (UInt8.lt_trans h1 h2)
      · exact .inl h1
    · rcases h2 with h2 | ⟨rfl, h2⟩
      · exact .inl h2
      · exact .inr ⟨rfl, bl_trans a b c h1 h2⟩
theorem lt3_trans {a0 b0 c0 : ByteArray} {a1 a2 b1 b2 c1 c2 : Int} (h1 : lt3 a0 a1 a2 b0 b1 b2 = true) (h2 : lt3 b0 b1 b2 c0 c1 c2 = true) : lt3 a0 a1 a2 c0 c1 c2 = true := by
  unfold lt3 at *
  by_cases e1 : a0.toList = b0.toList
  · rw [if_pos e1] at h1
    rw [e1]
    by_cases e2 : b0.toList = c0.toList
    · rw [if_pos e2] at h2 ⊢
      by_cases f1 : a1 = b1
      · rw [if_pos f1] at h1
        by_cases f2 : b1 = c1
        · rw [if_pos f2] at h2
          rw [if_pos (by omega)]
          simp only [decide_eq_true_eq] at *; omega
        · rw [if_neg f2] at h2
          rw [if_neg (by omega)]
          simp only [decide_eq_true_eq] at *; omega
      · rw [if_neg f1] at h1
        by_cases f2 : b1 = c1
        · rw [if_neg (by omega)]
          simp only [decide_eq_true_eq] at *; omega
        · rw [if_neg f2] at h2
          simp only [decide_eq_true_eq] at *
          rw [if_neg (by omega)]
          simp only [decide_eq_true_eq]; omega
    · rw [if_neg e2] at h2 ⊢; exact h2
  · rw [if_neg e1] at h1
    by_cases e2 : b0.toList = c0.toList
    · rw [← e2, if_neg e1]; exact h1
    · rw [if_neg e2] at h2
      have h3 := bl_trans _ _ _ h1 h2
      have e3 : ¬ a0.toList = c0.toList := fun z => by rw [z, bl_irrefl] at h3; cases h3
      rw [if_neg e3]; exact h3
theorem lt3_swap (a0 : ByteArray) (a1 a2 : Int) (b0 : ByteArray) (b1 b2 : Int) (h : ¬ (a0.toList = b0.toList ∧ a1 = b1 ∧ a2 = b2)) : lt3 b0 b1 b2 a0 a1 a2 = !(lt3 a0 a1 a2 b0 b1 b2) := by
  unfold lt3
  by_cases e : a0.toList = b0.toList
  · rw [if_pos e, if_pos e.symm]
    by_cases f : a1 = b1
    · rw [if_pos f, if_pos f.symm]
      have g : a2 ≠ b2 := fun z => h ⟨e, f, z⟩
      by_cases l : a2 > b2
      · rw [decide_eq_true l, decide_eq_false (by omega)]; rfl
      · rw [decide_eq_false l, decide_eq_true (by omega)]; rfl
    · rw [if_neg f, if_neg (Ne.symm f)]
      by_cases l : a1 > b1
      · rw [decide_eq_true l, decide_eq_false (by omega)]; rfl
      · rw [decide_eq_false l, decide_eq_true (by omega)]; rfl
  · rw [if_neg e, if_neg (Ne.symm e)]
    exact bl_total _ _ e
theorem lt3_same {a0 b0 : ByteArray} {a1 a2 b1 b2 : Int} (h : a0.toList = b0.toList ∧ a1 = b1 ∧ a2 = b2) : lt3 a0 a1 a2 b0 b1 b2 = false := by
  obtain ⟨e, rfl, rfl⟩ := h
  unfold lt3
  rw [if_pos e, if_pos rfl]; simp
theorem rLess_lt3 (a0 : ByteArray) (a1 a2 : Int) (a3 a4 : ByteArray) (b0 : ByteArray) (b1 b2 : Int) (b3 b4 : ByteArray) : incipitref12_Less.f a0 a1 a2 a3 a4 b0 b1 b2 b3 b4 = some (lt3 a0 a1 a2 b0 b1 b2) := by
  unfold incipitref12_Less.f lt3
  by_cases e : a0.toList = b0.toList
  · rw [if_pos e, if_pos e]
    by_cases f : a1 = b1
    · rw [if_pos f, if_pos f]
    · rw [if_neg f, if_neg f]
  · rw [if_neg e, if_neg e]
end Go.Proofs.Ytcijcfdllfaghaa.QDrp
