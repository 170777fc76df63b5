/- Numbers as bytes: what varint's Put comes to. -/
import Derived.Test.YtoglanahjlfihaaMBlkx1
import Derived.Test.YtoglanahjlfihaaQBlkBasic
namespace Go.Proofs.Ytoglanahjlfihaa.QBlk
open Go.RowKit Go.Proofs.Ytoglanahjlfihaa.MBlk Go.Proofs.Ytoglanahjlfihaa.QBlk Go.Proofs.YtoglanahjlfihaaW.PrintWords Go.Proofs.YtoglanahjlfihaaW.PrintLast Go.Proofs.YtoglanahjlfihaaW.PrintMore
set_option linter.unusedVariables false
set_option linter.unusedSimpArgs false
/-- A number as bytes. -/
def put (n : Nat) : List Int := if h : n < 128 then [(n : Int)] else ((n % 128 + 128 : Nat) : Int) :: put (n / 128)
termination_by n
decreasing_by omega

theorem put_small {n : Nat} (h : n < 128) : put n = [(n : Int)] := by rw [put, dif_pos h]
theorem put_big {n : Nat} (h : ¬ n < 128) : put n = ((n % 128 + 128 : Nat) : Int) :: put (n / 128) := by rw [put, dif_neg h]

theorem put_length (j : Nat) : ∀ n : Nat, n < 128 ^ (j + 1) → (put n).length ≤ j + 1 := by
  induction j with
  | zero => intro n h; rw [put_small (by simpa using h)]; simp
  | succ j ih =>
    intro n h
    by_cases h1 : n < 128
    · rw [put_small h1]; simp
    · rw [put_big h1]
      have := ih (n / 128) (by rw [Nat.div_lt_iff_lt_mul (by omega)]; rw [Nat.pow_succ] at h; exact h)
      simp; omega

theorem put_length10 {n : Nat} (h : n < 18446744073709551616) : (put n).length ≤ 10 :=
  put_length 9 n (Nat.lt_trans h (by decide))

theorem or128 : ∀ x : Fin 256, Go.bits .or .u8 (x.val : Int) 128 = ((x.val % 128 + 128 : Nat) : Int) := by decide +kernel

theorem or128' {x : Int} (h0 : 0 ≤ x) (h1 : x < 256) : Go.bits .or .u8 x 128 = x % 128 + 128 := by
  obtain ⟨n, rfl⟩ := Int.eq_ofNat_of_zero_le h0
  have := or128 ⟨n, by omega⟩
  simp only at this
  rw [this]; omega

theorem Put_l0 (j : Nat) : ∀ (n : Nat) (acc : List Int), n < 128 ^ (j + 1) → acc.length + j < 140737488355328 → Ev (fun k => varint_Put.l0 k (n : Int) acc) (acc ++ put n) := by
  induction j with
  | zero =>
    intro n acc h hl
    have h' : n < 128 := by simpa using h
    refine Ev.succ ?_
    simp only [varint_Put.l0]
    refine Ev.ite_neg (by omega) (Ev.ite_pos (by omega) ?_)
    rw [put_small h', show (n : Int) % 256 = n by omega]
    exact Ev.now _
  | succ j ih =>
    intro n acc h hl
    refine Ev.succ ?_
    simp only [varint_Put.l0]
    by_cases h1 : n < 128
    · refine Ev.ite_neg (by omega) (Ev.ite_pos (by omega) ?_)
      rw [put_small h1, show (n : Int) % 256 = n by omega]
      exact Ev.now _
    · refine Ev.ite_pos (by omega) (Ev.ite_pos (by omega) ?_)
      have := ih (n / 128) (acc ++ [((n % 128 + 128 : Nat) : Int)]) (by rw [Nat.div_lt_iff_lt_mul (by omega)]; rw [Nat.pow_succ] at h; exact h) (by simp; omega)
      rw [put_big h1]
      rw [List.append_assoc, List.singleton_append] at this
      refine Ev.congr (fun k => ?_) this
      rw [or128' (by omega) (by omega), show ((n : Int) % 256 % 128 + 128) = ((n % 128 + 128 : Nat) : Int) by omega]
      rfl

theorem Put_ev {n : Nat} (h : n < 18446744073709551616) : Ev (fun k => varint_Put.f k (n : Int)) (put n) := by
  have := Put_l0 9 n [] (Nat.lt_trans h (by decide)) (by simp)
  exact this
end Go.Proofs.Ytoglanahjlfihaa.QBlk
