/- The reference's numbers as bytes. -/
import Derived.Test.YtoglanahjlfihaaMBlkx2
import Derived.Test.YtoglanahjlfihaaQBlkPutV
namespace Go.Proofs.Ytoglanahjlfihaa.QBlk
open Go.RowKit Go.Proofs.Ytoglanahjlfihaa.MBlk Go.Proofs.Ytoglanahjlfihaa.QBlk Go.Proofs.YtoglanahjlfihaaW.PrintWords Go.Proofs.YtoglanahjlfihaaW.PrintLast Go.Proofs.YtoglanahjlfihaaW.PrintMore
set_option linter.unusedVariables false
set_option linter.unusedSimpArgs false
theorem rPut_l0 (j : Nat) : ∀ (n : Nat) (acc : List Int), n < 18446744073709551616 → n < 128 ^ (j + 1) → acc.length + j < 140737488355328 → Ev (fun k => incipitref1_Put.l0 k (n : Int) acc) (acc ++ put n) := by
  induction j with
  | zero =>
    intro n acc hn h hl
    have h' : n < 128 := by simpa using h
    refine Ev.succ ?_
    simp only [incipitref1_Put.l0]
    refine Ev.ite_neg (by omega) (Ev.ite_pos (by omega) ?_)
    rw [put_small h', show (n : Int) % 256 = n by omega]
    exact Ev.now _
  | succ j ih =>
    intro n acc hn h hl
    refine Ev.succ ?_
    simp only [incipitref1_Put.l0]
    by_cases h1 : n < 128
    · refine Ev.ite_neg (by omega) (Ev.ite_pos (by omega) ?_)
      rw [put_small h1, show (n : Int) % 256 = n by omega]
      exact Ev.now _
    · refine Ev.ite_pos (by omega) (Ev.ite_pos (by omega) ?_)
      have := ih (n / 128) (acc ++ [((n % 128 + 128 : Nat) : Int)]) (by omega) (by rw [Nat.div_lt_iff_lt_mul (by omega)]; rw [Nat.pow_succ] at h; exact h) (by simp; omega)
      rw [put_big h1]
      rw [List.append_assoc, List.singleton_append] at this
      refine Ev.congr (fun k => ?_) this
      have e1 : Int.tmod (n : Int) 128 = ((n % 128 : Nat) : Int) := by rw [Int.tmod_eq_emod_of_nonneg (by omega)]; omega
      have e2 : Int.tdiv (n : Int) 128 = ((n / 128 : Nat) : Int) := by rw [Int.tdiv_eq_ediv_of_nonneg (by omega)]; omega
      rw [e1, e2, u64_id (by omega) (by omega), u64_id (by omega) (by omega), show (((n % 128 : Nat) : Int) + 128) % 256 = ((n % 128 + 128 : Nat) : Int) by omega]

theorem rPut_ev {n : Nat} (h : n < 18446744073709551616) : Ev (fun k => incipitref1_Put.f k (n : Int)) (put n) :=
  rPut_l0 9 n [] h (Nat.lt_trans h (by decide)) (by simp)
end Go.Proofs.Ytoglanahjlfihaa.QBlk
