/- It is proved that the law NumbersTight of package incipitlaw8 returns true at every input: a number written with more bytes than it needs is read as none. No conditions. -/
import Derived.Test.YthpeieieibbbgaaMNumx3
import Derived.Test.YthpeieieibbbgaaQGet
namespace Go.Proofs.Ythpeieieibbbgaa.Pure
open Go.RowKit Go.Proofs.Ythpeieieibbbgaa.MNum Go.Proofs.Ythpeieieibbbgaa.QNum Go.Proofs.YthpeieieibbbgaaW.PrintWords Go.Proofs.YthpeieieibbbgaaW.PrintLast

/-- All bytes but the last one go on. -/
def Q0 (b : List Int) : Prop := Bytes b ∧ 1 ≤ b.length ∧ ∀ j, j + 1 < b.length → b.getD j 0 > 127
def Q1 (b : List Int) : Prop := Q0 b ∧ 2 ≤ b.length ∧ b.getD (b.length - 1) 0 = 0

theorem put_q0 (j : Nat) : ∀ n : Nat, n < 128 ^ (j + 1) → Q0 (put n) := by
  induction j with
  | zero =>
    intro n h
    have h' : n < 128 := by simpa using h
    rw [put_small h']
    exact ⟨by intro c hc; simp at hc; omega, by simp, by intro j hj; simp at hj⟩
  | succ j ih =>
    intro n h
    by_cases h1 : n < 128
    · rw [put_small h1]
      exact ⟨by intro c hc; simp at hc; omega, by simp, by intro j hj; simp at hj⟩
    · rw [put_big h1]
      obtain ⟨a, b, c⟩ := ih (n / 128) (by rw [Nat.div_lt_iff_lt_mul (by omega)]; rw [Nat.pow_succ] at h; exact h)
      refine ⟨?_, by simp, ?_⟩
      · intro x hx
        rcases List.mem_cons.1 hx with rfl | hx
        · omega
        · exact a x hx
      · intro i hi
        cases i with
        | zero => simp; omega
        | succ i => simpa using c i (by simpa using hi)

theorem q1_step {b : List Int} (h : Q0 b) : Q1 (b.set (b.length - 1) (Go.bits .or .u8 (b.getD (b.length - 1) 0) 128) ++ [0]) := by
  obtain ⟨hb, h1, h2⟩ := h
  have hg := hb.getD (b.length - 1)
  rw [or128' hg.1 hg.2]
  generalize b.getD (b.length - 1) 0 = c at *
  refine ⟨⟨?_, by simp, ?_⟩, by simp; omega, ?_⟩
  · refine Bytes.append ?_ (by intro x hx; simp at hx; omega)
    intro x hx
    rcases List.mem_or_eq_of_mem_set hx with hx | rfl
    · exact hb x hx
    · omega
  · intro j hj
    simp only [List.length_append, List.length_set, List.length_singleton] at hj
    rw [List.getD_eq_getElem?_getD, List.getElem?_append_left (by simp; omega), List.getElem?_set]
    by_cases e : b.length - 1 = j
    · rw [if_pos e, if_pos (by omega)]; simp; omega
    · rw [if_neg e]
      have := h2 j (by omega)
      rwa [List.getD_eq_getElem?_getD] at this
  · rw [List.getD_eq_getElem?_getD, List.getElem?_append_right (by simp)]
    simp

theorem getG_tight (l : List Int) (d : Nat) : ∀ i, l.length - i = d → (∀ j, i ≤ j → j < l.length → l.getD j 0 > 127 ∨ (0 < j ∧ l.getD j 0 = 0)) → getG l i = (0, 0) := by
  induction d with
  | zero => intro i hd _; exact getG_none (by omega)
  | succ d ih =>
    intro i hd h
    have hlt : i < l.length := by omega
    rcases h i (Nat.le_refl _) hlt with h1 | h1
    · rw [getG_step hlt h1]
      exact ih (i + 1) (by omega) (fun j hj hl => h j (by omega) hl)
    · rw [getG, if_pos hlt, if_neg (by omega), if_pos (Or.inl h1)]

theorem get_tight {b : List Int} (h : Q1 b) : get b = (0, 0) := by
  obtain ⟨⟨hb, h1, h2⟩, h3, h4⟩ := h
  refine getG_tight _ _ 0 rfl (fun j _ hj => ?_)
  rw [List.length_take] at hj
  have e : (b.take 10).getD j 0 = b.getD j 0 := by
    rw [List.getD_eq_getElem?_getD, List.getD_eq_getElem?_getD, List.getElem?_take, if_pos (by omega)]
  rw [e]
  by_cases hl : j + 1 < b.length
  · exact .inl (h2 j hl)
  · have : j = b.length - 1 := by omega
    subst this
    exact .inr ⟨by omega, h4⟩

theorem Tight_l0 (m : Nat) (hm : m ≤ 12) (d : Nat) : ∀ (i : Nat) (b : List Int), m - i = d → i ≤ m → Q0 b → (i = 0 ∨ Q1 b) → 1 ≤ m → b.length + d ≤ 1000 → Ev (fun k => incipitlaw8_NumbersTight.l0 k (m : Int) b (i : Int)) true := by
  induction d with
  | zero =>
    intro i b hd hi h0 h1 hm1 _
    have h1 : Q1 b := by
      rcases h1 with h1 | h1
      · omega
      · exact h1
    refine Ev.succ ?_
    simp only [incipitlaw8_NumbersTight.l0]
    refine Ev.ite_neg (by omega) (Ev.bind (Get_ev h0.1) ?_)
    rw [get_tight h1]
    exact Ev.ite_pos rfl (Ev.now _)
  | succ d ih =>
    intro i b hd hi h0 h1 hm1 hlen
    refine Ev.succ ?_
    have hl : 1 ≤ b.length := h0.2.1
    simp only [incipitlaw8_NumbersTight.l0]
    rw [wrap64_id (n := (b.length : Int) - 1) (by omega) (by omega), wrap64_id (n := (i : Int) + 1) (by omega) (by omega)]
    refine Ev.ite_pos (by omega) (Ev.ite_pos (by omega) (Ev.ite_pos (by omega) ?_))
    simp only [Option.bind_some]
    refine Ev.ite_pos (by simp; omega) ?_
    have h := q1_step h0
    have e : ((b.length : Int) - 1) = ((b.length - 1 : Nat) : Int) := by omega
    rw [e, rd_nat, Int.toNat_natCast]
    exact ih (i + 1) _ (by omega) (by omega) h.1 (.inr h) hm1 (by simp; omega)

/-- YOURS: ∀ (a0 : Int) (a1 : Int), (Lit.int .u64 a0).wf = true → (Lit.int .i64 a1).wf = true → ∃ k, incipitlaw8_NumbersTight.f k a0 a1 = some true -/
theorem NumbersTight : incipitlaw8_NumbersTight.Pure := by
  intro n m hn _
  refine Ev.rounds (g := fun k => incipitlaw8_NumbersTight.f k n m) ?_
  have hn' : 0 ≤ n ∧ n < 18446744073709551616 := by
    simp only [Lit.wf, IntKind.min, IntKind.max, IntKind.signed, IntKind.bits] at hn
    simp at hn
    omega
  obtain ⟨n, rfl⟩ := Int.eq_ofNat_of_zero_le hn'.1
  have hn'' : n < 18446744073709551616 := by omega
  unfold incipitlaw8_NumbersTight.f
  refine Ev.bind begun_ev (Ev.ite_pos rfl ?_)
  by_cases h1 : m < 1
  · refine Ev.ite_pos h1 (Ev.succ ?_)
    simp only [incipitlaw8_NumbersTight.j0]
    exact Ev.ite_pos trivial (Ev.now _)
  · refine Ev.ite_neg h1 (Ev.succ ?_)
    simp only [incipitlaw8_NumbersTight.j0]
    by_cases h2 : m > 12
    · exact Ev.ite_pos (decide_eq_true h2) (Ev.now _)
    · refine Ev.ite_neg (by simp; omega) (Ev.bind (rPut_ev hn'') ?_)
      obtain ⟨m, rfl⟩ := Int.eq_ofNat_of_zero_le (show 0 ≤ m by omega)
      have hp := put_q0 9 n (Nat.lt_trans hn'' (by decide))
      have hl := put_length10 hn''
      exact Tight_l0 m (by omega) m 0 (put n) (by omega) (by omega) hp (.inl rfl) (by omega) (by omega)

end Go.Proofs.Ythpeieieibbbgaa.Pure
