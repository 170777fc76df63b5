/- The reference's numbers in so many bytes. -/
import Derived.Test.YtoglanahjlfihaaMBlkx2
import Derived.Test.YtoglanahjlfihaaQBlkFix4
namespace Go.Proofs.Ytoglanahjlfihaa.QBlk
open Go.RowKit Go.Proofs.Ytoglanahjlfihaa.MBlk Go.Proofs.Ytoglanahjlfihaa.QBlk Go.Proofs.YtoglanahjlfihaaW.PrintWords Go.Proofs.YtoglanahjlfihaaW.PrintLast Go.Proofs.YtoglanahjlfihaaW.PrintMore
set_option linter.unusedVariables false
set_option linter.unusedSimpArgs false
theorem rFixed_l0 (m : Nat) (hm : m ≤ 8) (d : Nat) : ∀ (i n : Nat) (acc : List Int), m - i = d → i ≤ m → acc.length + d < 1000 → Ev (fun k => incipitref1_Fixed.l0 k (n : Int) (m : Int) acc (i : Int)) (acc ++ fix n (m - i)) := by
  induction d with
  | zero =>
    intro i n acc hd hi _
    refine Ev.succ ?_
    simp only [incipitref1_Fixed.l0]
    refine Ev.ite_neg (by omega) ?_
    rw [show m - i = 0 by omega]
    simp only [fix, List.append_nil]
    exact Ev.now _
  | succ d ih =>
    intro i n acc hd hi ha
    refine Ev.succ ?_
    simp only [incipitref1_Fixed.l0]
    rw [wrap64_id (n := (i : Int) + 1) (by omega) (by omega), show (n : Int) / 256 = ((n / 256 : Nat) : Int) by omega, show (n : Int) % 256 = ((n % 256 : Nat) : Int) by omega]
    refine Ev.ite_pos (by omega) (Ev.ite_pos (by omega) ?_)
    have := ih (i + 1) (n / 256) (acc ++ [((n % 256 : Nat) : Int)]) (by omega) (by omega) (by simp; omega)
    rw [List.append_assoc, List.singleton_append] at this
    rw [show m - i = (m - (i + 1)) + 1 by omega]
    simp only [fix]
    exact this
theorem rFixed_ev (n m : Nat) (hm : m ≤ 8) : Ev (fun k => incipitref1_Fixed.f k (n : Int) (m : Int)) (fix n m) := by
  have := rFixed_l0 m hm m 0 n [] rfl (by omega) (by simp; omega)
  simp only [Nat.pow_zero, Nat.div_one, Nat.sub_zero, List.nil_append] at this
  exact this
end Go.Proofs.Ytoglanahjlfihaa.QBlk
