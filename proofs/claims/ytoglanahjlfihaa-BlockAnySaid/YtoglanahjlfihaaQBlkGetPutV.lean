/- A number that was written is read again. -/
import Derived.Test.YtoglanahjlfihaaMBlkx0
import Derived.Test.YtoglanahjlfihaaQBlkGetV
namespace Go.Proofs.Ytoglanahjlfihaa.QBlk
open Go.RowKit Go.Proofs.Ytoglanahjlfihaa.MBlk Go.Proofs.Ytoglanahjlfihaa.QBlk Go.Proofs.YtoglanahjlfihaaW.PrintWords Go.Proofs.YtoglanahjlfihaaW.PrintLast Go.Proofs.YtoglanahjlfihaaW.PrintMore
set_option linter.unusedVariables false
set_option linter.unusedSimpArgs false
theorem fixput (n : Nat) (j : Nat) : ∀ n : Nat, n < 128 ^ (j + 1) → val (put n) = n := by
  induction j with
  | zero => intro n h; rw [put_small (by simpa using h)]; simp only [val]; have : n < 128 := by simpa using h
            omega
  | succ j ih =>
    intro n h
    by_cases h1 : n < 128
    · rw [put_small h1]; simp only [val]; omega
    · rw [put_big h1]
      simp only [val]
      rw [ih (n / 128) (by rw [Nat.div_lt_iff_lt_mul (by omega)]; rw [Nat.pow_succ] at h; exact h)]
      omega
theorem val_put {n : Nat} (h : n < 18446744073709551616) : val (put n) = n := fixput n 9 n (Nat.lt_trans h (by decide))

/-- All but the last one go on; the last one doesn't, and is no nought but of nought. -/
theorem put_shape (j : Nat) : ∀ n : Nat, n < 128 ^ (j + 1) → Bytes (put n) ∧ 1 ≤ (put n).length ∧ (∀ i, i + 1 < (put n).length → (put n).getD i 0 > 127) ∧ (put n).getD ((put n).length - 1) 0 ≤ 127 ∧ (1 < (put n).length → (put n).getD ((put n).length - 1) 0 ≠ 0) ∧ ((put n).length = 1 ∨ 128 ^ ((put n).length - 1) * ((put n).getD ((put n).length - 1) 0).toNat ≤ n) := by
  induction j with
  | zero =>
    intro n h
    have h' : n < 128 := by simpa using h
    rw [put_small h']
    exact ⟨by intro c hc; simp at hc; omega, by simp, by intro i hi; simp at hi, by simp; omega, by simp, .inl rfl⟩
  | succ j ih =>
    intro n h
    by_cases h1 : n < 128
    · rw [put_small h1]
      exact ⟨by intro c hc; simp at hc; omega, by simp, by intro i hi; simp at hi, by simp; omega, by simp, .inl rfl⟩
    · obtain ⟨a, b, c, d, e, f⟩ := ih (n / 128) (by rw [Nat.div_lt_iff_lt_mul (by omega)]; rw [Nat.pow_succ] at h; exact h)
      have hn0 : n / 128 ≠ 0 := by omega
      rw [put_big h1]
      generalize hp : put (n / 128) = p at *
      have el : (((n % 128 + 128 : Nat) : Int) :: p).length - 1 = (p.length - 1) + 1 := by simp; omega
      have eg : (((n % 128 + 128 : Nat) : Int) :: p).getD ((((n % 128 + 128 : Nat) : Int) :: p).length - 1) 0 = p.getD (p.length - 1) 0 := by
        rw [el, List.getD_cons_succ]
      have hl1 : p.length = 1 → p.getD (p.length - 1) 0 = ((n / 128 : Nat) : Int) := by
        intro hl
        by_cases h2 : n / 128 < 128
        · rw [← hp, put_small h2]; rfl
        · exfalso
          rw [put_big h2] at hp
          have h3 := (ih (n / 128) (by rw [Nat.div_lt_iff_lt_mul (by omega)]; rw [Nat.pow_succ] at h; exact h)).2.1
          have h4 : 1 ≤ (put (n / 128 / 128)).length := by
            rw [put]; split <;> simp
          rw [← hp] at hl
          simp at hl
          rw [hl] at h4
          simp at h4
      refine ⟨?_, by simp, ?_, by rw [eg]; exact d, ?_, .inr ?_⟩
      · intro x hx
        rcases List.mem_cons.1 hx with rfl | hx
        · omega
        · exact a x hx
      · intro i hi
        cases i with
        | zero => simp; omega
        | succ i => simpa using c i (by simpa using hi)
      · intro _
        rw [eg]
        rcases Nat.lt_or_ge 1 p.length with hl | hl
        · exact e hl
        · rw [hl1 (by omega)]; omega
      · rw [eg, el, Nat.pow_succ]
        rcases f with f | f
        · rw [hl1 f, f]; simp; omega
        · have : 128 ^ (p.length - 1) * 128 * (p.getD (p.length - 1) 0).toNat = 128 ^ (p.length - 1) * (p.getD (p.length - 1) 0).toNat * 128 := by
            rw [Nat.mul_assoc, Nat.mul_comm 128, Nat.mul_assoc]
          omega

theorem getG_go (l : List Int) (m : Nat) (hm : m < l.length) (h : ∀ i, i < m → l.getD i 0 > 127) (d : Nat) : ∀ i, m - i = d → i ≤ m → getG l i = getG l m := by
  induction d with
  | zero => intro i hd hi; rw [show i = m by omega]
  | succ d ih =>
    intro i hd hi
    rw [getG_step (by omega) (h i (by omega))]
    exact ih (i + 1) (by omega) (by omega)

theorem get_put {n : Nat} (h : n < 18446744073709551616) (rest : List Int) : get (put n ++ rest) = ((n : Int), ((put n).length : Int)) := by
  obtain ⟨hb, h1, h2, h3, h4, h5⟩ := put_shape 9 n (Nat.lt_trans h (by decide))
  have h10 := put_length10 h
  have hv := val_put h
  generalize put n = p at *
  have hg : ∀ i, i < p.length → ((p ++ rest).take 10).getD i 0 = p.getD i 0 := by
    intro i hi
    rw [List.getD_eq_getElem?_getD, List.getD_eq_getElem?_getD, List.getElem?_take, if_pos (by omega), List.getElem?_append_left hi]
  have hlen : p.length ≤ ((p ++ rest).take 10).length := by rw [List.length_take, List.length_append]; omega
  unfold get
  rw [getG_go _ (p.length - 1) (by omega) (fun i hi => by rw [hg i (by omega)]; exact h2 i (by omega)) _ 0 rfl (by omega)]
  have hn9 : ¬ (p.length - 1 = 9 ∧ p.getD (p.length - 1) 0 > 1) := by
    rintro ⟨e, hgt⟩
    rcases h5 with h5 | h5
    · omega
    · rw [e] at h5
      have : (128 : Nat) ^ 9 * 2 = 18446744073709551616 := by decide
      have h6 : 2 ≤ (p.getD 9 0).toNat := by rw [e] at hgt; omega
      have := Nat.mul_le_mul (Nat.le_refl (128 ^ 9)) h6
      omega
  have hn0 : ¬ (p.length - 1 > 0 ∧ p.getD (p.length - 1) 0 = 0) := by
    rintro ⟨e, hz⟩
    exact h4 (by omega) hz
  rw [getG, if_pos (by omega), hg _ (by omega), if_neg (by omega), if_neg (fun h => h.elim hn0 hn9), show p.length - 1 + 1 = p.length by omega]
  have et : ((p ++ rest).take 10).take p.length = p := by
    rw [List.take_take, Nat.min_eq_left h10, List.take_left' rfl]
  rw [et, hv]
  congr 1
  omega
theorem put_bytes {n : Nat} (h : n < 18446744073709551616) : Bytes (put n) := (put_shape 9 n (Nat.lt_trans h (by decide))).1
theorem put_pos {n : Nat} (h : n < 18446744073709551616) : 1 ≤ (put n).length := (put_shape 9 n (Nat.lt_trans h (by decide))).2.1
end Go.Proofs.Ytoglanahjlfihaa.QBlk
