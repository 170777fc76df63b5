import Derived.Test.YtenmljkddhonmaaHMrg2
import Derived.Lib.Strings
namespace Go.Proofs.Ytenmljkddhonmaa.MMrg
open Go.RowKit Go.Proofs.Ytenmljkddhonmaa.QMrg Go.Proofs.YtenmljkddhonmaaW.PrintWords Go.Proofs.YtenmljkddhonmaaW.PrintLast Go.Proofs.YtenmljkddhonmaaW.PrintMore
set_option linter.unusedVariables false
set_option linter.unusedSimpArgs false
theorem bl_irrefl : ∀ l : List UInt8, Op.bytesLess l l = false
  | [] => rfl
  | x :: t => by simp [Op.bytesLess, bl_irrefl t, UInt8.lt_irrefl]
theorem bl_total : ∀ a b : List UInt8, a ≠ b → (Op.bytesLess b a = !(Op.bytesLess a b))
  | [], [], h => absurd rfl h
  | [], _ :: _, _ => by simp [Op.bytesLess]
  | _ :: _, [], _ => by simp [Op.bytesLess]
  | x :: a, y :: b, h => by
    unfold Op.bytesLess
    by_cases e : x = y
    · subst e
      have := bl_total a b (fun z => h (by rw [z]))
      simp [UInt8.lt_irrefl, this]
    · by_cases l : x < y
      · have : ¬ y < x := fun z => UInt8.lt_asymm l z
        simp [l, this, e, Ne.symm e]
      · have l2 : y < x := UInt8.lt_of_le_of_ne (UInt8.not_lt.1 l) (Ne.symm e)
        simp [l, l2, e, Ne.symm e]
theorem bl_trans : ∀ a b c : List UInt8, Op.bytesLess a b = true → Op.bytesLess b c = true → Op.bytesLess a c = true
  | _, [], _, h, _ => by simp [Op.bytesLess] at h
  | _, _ :: _, [], _, h => by simp [Op.bytesLess] at h
  | [], _ :: _, _ :: _, _, _ => by simp [Op.bytesLess]
  | x :: a, y :: b, z :: c, h1, h2 => by
    simp only [Op.bytesLess, Bool.or_eq_true, decide_eq_true_eq, Bool.and_eq_true, beq_iff_eq] at h1 h2 ⊢
    rcases h1 with h1 | ⟨rfl, h1⟩
    · rcases h2 with h2 | ⟨rfl, h2⟩
      · exact .inl (UInt8.lt_trans h1 h2)
      · exact .inl h1
    · rcases h2 with h2 | ⟨rfl, h2⟩
      · exact .inl h2
      · exact .inr ⟨rfl, bl_trans a b c h1 h2⟩
/-- The order of entries. -/
def ltE (a b : S28) : Bool := if a.f0.toList = b.f0.toList then (if a.f1 = b.f1 then decide (a.f2 > b.f2) else decide (a.f1 > b.f1)) else Op.bytesLess a.f0.toList b.f0.toList
theorem toList_inj {a b : ByteArray} (h : a.toList = b.toList) : a = b := by
  rw [Lib.toList_data, Lib.toList_data] at h
  exact ByteArray.ext (Array.toList_inj.1 h)
theorem ltE_irrefl (a : S28) : ltE a a = false := by unfold ltE; rw [if_pos rfl, if_pos rfl]; simp
theorem ltE_trans {a b c : S28} (h1 : ltE a b = true) (h2 : ltE b c = true) : ltE a c = true := by
  unfold ltE at *
  by_cases e1 : a.f0.toList = b.f0.toList
  · rw [if_pos e1] at h1
    rw [e1]
    by_cases e2 : b.f0.toList = c.f0.toList
    · rw [if_pos e2] at h2 ⊢
      by_cases f1 : a.f1 = b.f1
      · rw [if_pos f1] at h1
        by_cases f2 : b.f1 = c.f1
        · rw [if_pos f2] at h2
          rw [if_pos (by omega)]
          simp only [decide_eq_true_eq] at *; omega
        · rw [if_neg f2] at h2
          rw [if_neg (by omega)]
          simp only [decide_eq_true_eq] at *; omega
      · rw [if_neg f1] at h1
        by_cases f2 : b.f1 = c.f1
        · rw [if_neg (by omega)]
          simp only [decide_eq_true_eq] at *; omega
        · rw [if_neg f2] at h2
          simp only [decide_eq_true_eq] at *
          rw [if_neg (by omega)]
          simp only [decide_eq_true_eq]; omega
    · rw [if_neg e2] at h2 ⊢; exact h2
  · rw [if_neg e1] at h1
    by_cases e2 : b.f0.toList = c.f0.toList
    · rw [← e2, if_neg e1]; exact h1
    · rw [if_neg e2] at h2
      have h3 := bl_trans _ _ _ h1 h2
      rw [if_neg (fun e3 => by rw [e3, bl_irrefl] at h3; cases h3)]; exact h3
/-- Of two of other keys one stands ahead. -/
theorem ltE_total {a b : S28} (h : ¬ (a.f0 = b.f0 ∧ a.f1 = b.f1)) : ltE b a = !(ltE a b) := by
  unfold ltE
  by_cases e1 : a.f0.toList = b.f0.toList
  · have h1 : a.f1 ≠ b.f1 := fun e => h ⟨toList_inj e1, e⟩
    rw [if_pos e1, if_pos e1.symm, if_neg h1, if_neg (Ne.symm h1)]
    by_cases hl : a.f1 > b.f1
    · rw [decide_eq_true hl, decide_eq_false (by omega)]; rfl
    · rw [decide_eq_false hl, decide_eq_true (by omega)]; rfl
  · rw [if_neg e1, if_neg (Ne.symm e1)]; exact bl_total _ _ e1
theorem cmpB : ∀ a b : List UInt8, (Lib.compareBytes a b < 0 ↔ Op.bytesLess a b = true) ∧ (Lib.compareBytes a b = 0 ↔ a = b)
  | [], [] => by simp [Lib.compareBytes, Op.bytesLess]
  | [], _ :: _ => by simp [Lib.compareBytes, Op.bytesLess]
  | _ :: _, [] => by simp [Lib.compareBytes, Op.bytesLess]
  | x :: a, y :: b => by
    have ih := cmpB a b
    unfold Lib.compareBytes
    unfold Op.bytesLess
    by_cases h1 : x < y
    · have hne : x ≠ y := fun e => by subst e; exact absurd h1 (UInt8.lt_irrefl x)
      simp [h1, hne]
    · by_cases h2 : y < x
      · have hne : x ≠ y := fun e => by subst e; exact absurd h2 (UInt8.lt_irrefl x)
        simp [h1, h2, hne]
      · have he : x = y := UInt8.le_antisymm (UInt8.not_lt.1 h2) (UInt8.not_lt.1 h1)
        subst he
        simp [UInt8.lt_irrefl, ih.1, ih.2]
/-- What the queue asks. -/
def same3 (a b : S28) : Bool := decide (a.f0.toList = b.f0.toList ∧ a.f1 = b.f1 ∧ a.f2 = b.f2)
def lessH (a : S28) (i : Nat) (b : S28) (j : Nat) : Bool := if same3 a b then decide (i < j) else ltE a b
theorem compare_f (a b : S28) : ∃ c, ikey_Compare.f a.f0 a.f1 a.f2 a.f3 a.f4 b.f0 b.f1 b.f2 b.f3 b.f4 = some c ∧ decide (c < 0) = ltE a b ∧ decide (c = 0) = same3 a b := by
  have h := cmpB a.f0.data.toList b.f0.data.toList
  have hn1 : ∀ x : Int, cmp_isNaN_int64.f x = some false := fun x => by simp [cmp_isNaN_int64.f]
  have hn2 : ∀ x : Int, cmp_isNaN_int.f x = some false := fun x => by simp [cmp_isNaN_int.f]
  simp only [ikey_Compare.f, strings_Compare.f, cmp_Compare_int64.f, cmp_Compare_int.f, hn1, hn2, Option.bind_some, Bool.false_eq_true, if_false]
  unfold ltE same3
  rw [Lib.toList_data, Lib.toList_data]
  generalize Lib.compareBytes a.f0.data.toList b.f0.data.toList = c at h ⊢
  by_cases e : a.f0.data.toList = b.f0.data.toList
  · have c0 := h.2.2 e
    rw [if_pos c0, if_pos e]
    by_cases e1 : a.f1 = b.f1
    · rw [e1]
      simp only [Int.lt_irrefl, if_false, gt_iff_lt, Option.bind_some, if_true]
      by_cases l : b.f2 < a.f2
      · refine ⟨-1, ?_, ?_, ?_⟩
        · simp [l]
        · simp [l]
        · simp [e]; omega
      · by_cases l2 : a.f2 < b.f2
        · refine ⟨1, ?_, ?_, ?_⟩
          · simp [l, l2]
          · simp [l]
          · simp [e]; omega
        · have e2 : a.f2 = b.f2 := by omega
          refine ⟨0, ?_, ?_, ?_⟩
          · simp [e2]
          · simp [e2]
          · simp [e, e2]
    · rw [if_neg e1]
      by_cases l : b.f1 < a.f1
      · refine ⟨-1, ?_, ?_, ?_⟩
        · simp [l]
        · simp [l]
        · simp [e1]
      · have l2 : a.f1 < b.f1 := by omega
        refine ⟨1, ?_, ?_, ?_⟩
        · simp [l, l2]
        · simp [l]
        · simp [e1]
  · have c0 : ¬ c = 0 := fun z => e (h.2.1 z)
    rw [if_neg c0, if_neg e]
    refine ⟨c, rfl, ?_, ?_⟩
    · rw [Bool.eq_iff_iff, decide_eq_true_eq]; exact h.1
    · simp [c0, e]
end Go.Proofs.Ytenmljkddhonmaa.MMrg
