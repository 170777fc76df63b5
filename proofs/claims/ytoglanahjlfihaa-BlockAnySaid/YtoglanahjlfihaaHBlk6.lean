import Derived.Test.YtoglanahjlfihaaQBlkGetV
import Derived.Test.YtoglanahjlfihaaMBlkx2
namespace Go.Proofs.Ytoglanahjlfihaa.QBlk
open Go.RowKit Go.Proofs.Ytoglanahjlfihaa.MBlk Go.Proofs.YtoglanahjlfihaaW.PrintWords Go.Proofs.YtoglanahjlfihaaW.PrintLast Go.Proofs.YtoglanahjlfihaaW.PrintMore
set_option linter.unusedVariables false
set_option linter.unusedSimpArgs false
theorem getG_facts (l : List Int) (d : Nat) : ∀ i : Nat, l.length - i = d → 0 ≤ (getG l i).1 ∧ 0 ≤ (getG l i).2 ∧ (getG l i).2 ≤ l.length := by
  induction d with
  | zero => intro i h; rw [getG, if_neg (by omega)]; exact ⟨Int.le_refl _, Int.le_refl _, by simp⟩
  | succ d ih =>
    intro i h
    rw [getG, if_pos (by omega)]
    split
    · exact ih (i + 1) (by omega)
    · split
      · exact ⟨Int.le_refl _, Int.le_refl _, by simp⟩
      · refine ⟨by simp only; omega, by simp only; omega, by simp only; omega⟩
theorem get_facts (l : List Int) : 0 ≤ (get l).1 ∧ 0 ≤ (get l).2 ∧ (get l).2 ≤ l.length := by
  obtain ⟨h1, h2, h3⟩ := getG_facts (l.take 10) _ 0 rfl
  refine ⟨h1, h2, Int.le_trans h3 ?_⟩
  rw [List.length_take]; omega
/-- One number of a row, in a bound. -/
def rd1 (b : List Int) (L : Nat) : Option (Int × List Int) := if (get b).2 = 0 then none else if (get b).1 > (b.length : Int) + L then none else some ((get b).1, b.drop (get b).2.toNat)
/-- So many numbers. -/
def rdN : Nat → List Int → Nat → List Int → Option (List Int × List Int)
  | 0, b, _, acc => some (acc, b)
  | n + 1, b, L, acc => (rd1 b L).bind fun q => rdN n q.2 L (acc ++ [q.1])
/-- Rows, whatever stands behind them. -/
def rdR : Nat → List Int → ByteArray → List S68 → Option (List S68)
  | 0, _, _, acc => some acc
  | f + 1, b, last, acc => if b = [] then some acc else (rdN 3 b last.size []).bind fun q =>
    if q.1.getD 0 0 > last.size then none else if q.1.getD 1 0 > q.2.length then none else if q.1.getD 2 0 > (q.2.length : Int) - q.1.getD 1 0 then none else
      rdR f (q.2.drop ((q.1.getD 1 0).toNat + (q.1.getD 2 0).toNat)) (last.extract 0 (q.1.getD 0 0).toNat ++ strOfNums (q.2.take (q.1.getD 1 0).toNat)) (acc ++ [⟨last.extract 0 (q.1.getD 0 0).toNat ++ strOfNums (q.2.take (q.1.getD 1 0).toNat), strOfNums ((q.2.take ((q.1.getD 1 0).toNat + (q.1.getD 2 0).toNat)).drop (q.1.getD 1 0).toNat)⟩])
theorem rd1_facts {b : List Int} {L : Nat} {x : Int} {r : List Int} (h : rd1 b L = some (x, r)) : 0 ≤ x ∧ x ≤ (b.length : Int) + L ∧ r.length < b.length ∧ ∃ m : Nat, m ≤ b.length ∧ r = b.drop m := by
  unfold rd1 at h
  split at h
  · cases h
  · split at h
    · cases h
    · rename_i h1 h2
      simp only [Option.some.injEq, Prod.mk.injEq] at h
      obtain ⟨rfl, rfl⟩ := h
      obtain ⟨h3, h4, h5⟩ := get_facts b
      refine ⟨h3, by omega, by rw [List.length_drop]; omega, _, by omega, rfl⟩
end Go.Proofs.Ytoglanahjlfihaa.QBlk
