import Derived.Test.YtoglanahjlfihaaHLst14
import Derived.Test.YtoglanahjlfihaaQLstBasic
namespace Go.Proofs.Ytoglanahjlfihaa.MLst
open Go.RowKit Go.Proofs.Ytoglanahjlfihaa.QLst Go.Proofs.YtoglanahjlfihaaW.PrintWords Go.Proofs.YtoglanahjlfihaaW.PrintLast Go.Proofs.YtoglanahjlfihaaW.PrintMore
set_option linter.unusedVariables false
set_option linter.unusedSimpArgs false
/-- A text of one letter. -/
def lett (i : Nat) : ByteArray := strOfNums [97 + (i : Int)]
theorem lett_list (i : Nat) (h : i < 150) : (lett i).toList = [UInt8.ofNat (97 + i)] := by
  rw [Lib.toList_data]
  unfold lett strOfNums
  simp only [List.map_cons, List.map_nil]
  rw [show ((97 + (i : Int)).toNat) = 97 + i from by omega]
theorem lett_inj {i j : Nat} (hi : i < 150) (hj : j < 150) (h : lett i = lett j) : i = j := by
  have h2 : (lett i).toList = (lett j).toList := by rw [h]
  rw [lett_list i hi, lett_list j hj] at h2
  simp only [List.cons.injEq, and_true] at h2
  have h3 := congrArg UInt8.toNat h2
  rw [UInt8.toNat_ofNat_of_lt' (by omega : 97 + i < 256), UInt8.toNat_ofNat_of_lt' (by omega : 97 + j < 256)] at h3
  omega
theorem lett_size (i : Nat) : (lett i).size = 1 := rfl
/-- The entry of a place. -/
def entK (k a : Nat) : S30 := ⟨lett (a % k), ((a / k + 1 : Nat) : Int), 1, ⟨#[]⟩, ⟨#[]⟩⟩
theorem entK_small (k a : Nat) : Small (entK k a) := by
  refine ⟨?_, ?_, ?_, ?_⟩
  · show (lett _).size ≤ 30; rw [lett_size]; decide
  · show (⟨#[]⟩ : ByteArray).size ≤ 30; decide
  · show (⟨#[]⟩ : ByteArray).size ≤ 60; decide
  · show (1 : Int) ≤ maxK; decide
theorem entK_inj {k a b : Nat} (hk : 0 < k) (hk2 : k ≤ 12) (h0 : (entK k a).f0 = (entK k b).f0) (h1 : (entK k a).f1 = (entK k b).f1) : a = b := by
  have e0 : a % k = b % k := lett_inj (by have := Nat.mod_lt a hk; omega) (by have := Nat.mod_lt b hk; omega) h0
  have e1 : ((a / k + 1 : Nat) : Int) = ((b / k + 1 : Nat) : Int) := h1
  have e2 : a / k = b / k := by omega
  rw [← Nat.div_add_mod a k, ← Nat.div_add_mod b k, e0, e2]
/-- A list that holds just the places told. -/
def Holds (k n : Nat) (on : List Bool) (l : List S30) : Prop := (∀ a, a < n → on.getD a false = has l (entK k a).f0 (entK k a).f1) ∧ ∀ x ∈ l, ∃ a, a < n ∧ x = entK k a
theorem Holds.start (k n m : Nat) : Holds k n (List.replicate m false) [] := by
  refine ⟨fun a _ => ?_, fun x hx => by cases hx⟩
  rw [List.getD_eq_getElem?_getD, List.getElem?_replicate]
  by_cases h : a < m
  · rw [if_pos h]; rfl
  · rw [if_neg h]; rfl
theorem Holds.put {k n : Nat} {on : List Bool} {l : List S30} (h : Holds k n on l) (hk : 0 < k) (hk2 : k ≤ 12) {a : Nat} (ha : a < n) (hn : n ≤ on.length) : Holds k n (on.set a true) (putL l (entK k a)) := by
  have hmem : ∀ x, x ∈ putL l (entK k a) ↔ (x ∈ l ∨ (has l (entK k a).f0 (entK k a).f1 = false ∧ x = entK k a)) := by
    intro x
    unfold putL
    by_cases hh : has l (entK k a).f0 (entK k a).f1 = true
    · rw [if_pos hh]; simp [hh]
    · rw [if_neg hh, mem_insE]
      have : has l (entK k a).f0 (entK k a).f1 = false := by simpa using hh
      simp [this, or_comm]
  refine ⟨fun b hb => ?_, fun x hx => ?_⟩
  · rw [List.getD_eq_getElem?_getD, List.getElem?_set]
    by_cases hab : a = b
    · subst hab
      rw [if_pos rfl, if_pos (by omega)]
      symm
      show has _ _ _ = true
      rw [has_iff]
      by_cases hh : has l (entK k a).f0 (entK k a).f1 = true
      · obtain ⟨x, hx, h1⟩ := has_iff.1 hh
        exact ⟨x, (hmem x).2 (.inl hx), h1⟩
      · exact ⟨entK k a, (hmem _).2 (.inr ⟨by simpa using hh, rfl⟩), rfl, rfl⟩
    · rw [if_neg hab, ← List.getD_eq_getElem?_getD, h.1 b hb, Bool.eq_iff_iff, has_iff, has_iff]
      constructor
      · rintro ⟨x, hx, h1⟩; exact ⟨x, (hmem x).2 (.inl hx), h1⟩
      · rintro ⟨x, hx, h1⟩
        rcases (hmem x).1 hx with hx | ⟨_, rfl⟩
        · exact ⟨x, hx, h1⟩
        · exact absurd (entK_inj hk hk2 h1.1 h1.2) hab
  · rcases (hmem x).1 hx with hx | ⟨_, rfl⟩
    · exact h.2 x hx
    · exact ⟨a, ha, rfl⟩
/-- What is wanted: the last number not above. -/
def wantN (f : Nat → Bool) (seq : Int) : Nat → Nat
  | 0 => 0
  | v + 1 => if f v = true ∧ ((v + 1 : Nat) : Int) ≤ seq then v + 1 else wantN f seq v
theorem wantN_le (f : Nat → Bool) (seq : Int) : ∀ V, wantN f seq V ≤ V
  | 0 => Nat.le_refl _
  | v + 1 => by
    unfold wantN
    split
    · exact Nat.le_refl _
    · exact Nat.le_succ_of_le (wantN_le f seq v)
theorem wantN_max (f : Nat → Bool) (seq : Int) : ∀ V v, v < V → f v = true → ((v + 1 : Nat) : Int) ≤ seq → v + 1 ≤ wantN f seq V
  | 0, v, h, _, _ => absurd h (Nat.not_lt_zero _)
  | V + 1, v, h, h1, h2 => by
    unfold wantN
    by_cases hc : f V = true ∧ ((V + 1 : Nat) : Int) ≤ seq
    · rw [if_pos hc]; omega
    · rw [if_neg hc]
      have hne : v ≠ V := fun e => hc (by subst e; exact ⟨h1, h2⟩)
      exact wantN_max f seq V v (by omega) h1 h2
theorem wantN_is (f : Nat → Bool) (seq : Int) : ∀ V, 0 < wantN f seq V → ∃ m, wantN f seq V = m + 1 ∧ m < V ∧ f m = true ∧ ((m + 1 : Nat) : Int) ≤ seq
  | 0, h => absurd h (Nat.lt_irrefl _)
  | V + 1, h => by
    unfold wantN at h ⊢
    by_cases hc : f V = true ∧ ((V + 1 : Nat) : Int) ≤ seq
    · rw [if_pos hc]; exact ⟨V, rfl, Nat.lt_succ_self _, hc.1, hc.2⟩
    · rw [if_neg hc] at h ⊢
      obtain ⟨m, h1, h2, h3⟩ := wantN_is f seq V h
      exact ⟨m, h1, by omega, h3⟩
theorem place {k v q : Nat} (hk : 0 < k) (hq : q < k) : (v * k + q) % k = q ∧ (v * k + q) / k = v := by
  constructor
  · rw [Nat.mul_comm, Nat.mul_add_mod, Nat.mod_eq_of_lt hq]
  · rw [Nat.mul_comm, Nat.mul_add_div hk, Nat.div_eq_of_lt hq, Nat.add_zero]
/-- The version told is the one wanted. -/
theorem Holds.get {k V q : Nat} {on : List Bool} {l : List S30} {seq : Int} (h : Holds k (k * V) on l) (hs : Srt l) (hkn : Kn l) (hk : 0 < k) (hk2 : k ≤ 12) (hq : q < k) :
    match getE l (lett q) seq with | none => wantN (fun v => on.getD (v * k + q) false) seq V = 0 | some x => x.f1 = ((wantN (fun v => on.getD (v * k + q) false) seq V : Nat) : Int) ∧ 0 < wantN (fun v => on.getD (v * k + q) false) seq V := by
  have hin : ∀ m, m < V → on.getD (m * k + q) false = true → ∃ y ∈ l, y.f0 = lett q ∧ y.f1 = ((m + 1 : Nat) : Int) := by
    intro m hm ho
    have hlt : m * k + q < k * V := by
      have : (m + 1) * k ≤ V * k := Nat.mul_le_mul_right k hm
      rw [Nat.mul_comm k V]
      rw [Nat.add_mul, Nat.one_mul] at this
      omega
    rw [h.1 _ hlt, has_iff] at ho
    obtain ⟨y, hy, h0, h1⟩ := ho
    obtain ⟨p1, p2⟩ := place (v := m) hk hq
    exact ⟨y, hy, by rw [h0]; show lett ((m * k + q) % k) = _; rw [p1], by rw [h1]; show (((m * k + q) / k + 1 : Nat) : Int) = _; rw [p2]⟩
  cases hg : getE l (lett q) seq with
  | none =>
    show wantN _ _ _ = 0
    by_cases hz : 0 < wantN (fun v => on.getD (v * k + q) false) seq V
    · obtain ⟨m, h1, h2, h3, h4⟩ := wantN_is _ _ _ hz
      obtain ⟨y, hy, h5, h6⟩ := hin m h2 h3
      have := get_none hs hkn hg y hy h5
      omega
    · omega
  | some x =>
    obtain ⟨hx, hx0, hx1, hmax⟩ := get_some hs hkn hg
    obtain ⟨a, ha, rfl⟩ := h.2 x hx
    have hx0' : lett (a % k) = lett q := hx0
    have hmod : a % k = q := lett_inj (by have := Nat.mod_lt a hk; omega) (by omega) hx0'
    have hdec : a = (a / k) * k + q := by
      have := Nat.div_add_mod a k
      rw [Nat.mul_comm, hmod] at this
      omega
    have hdv : a / k < V := Nat.div_lt_of_lt_mul ha
    have ho : on.getD ((a / k) * k + q) false = true := by
      rw [← hdec, h.1 a ha, has_iff]
      exact ⟨_, hx, rfl, rfl⟩
    have hle : a / k + 1 ≤ wantN (fun v => on.getD (v * k + q) false) seq V := wantN_max _ _ _ _ hdv ho hx1
    obtain ⟨m, h1, h2, h3, h4⟩ := wantN_is (fun v => on.getD (v * k + q) false) seq V (Nat.lt_of_lt_of_le (Nat.succ_pos _) hle)
    obtain ⟨y, hy, h5, h6⟩ := hin m h2 h3
    have hm := hmax y hy h5 (by omega)
    have hx1e : (entK k a).f1 = ((a / k + 1 : Nat) : Int) := rfl
    rw [hx1e] at hm
    show (entK k a).f1 = _ ∧ _
    rw [hx1e]
    clear hx1e hdec hmod ho hdv hx0' hx0 hx1 hmax hg
    generalize a / k = d at *
    generalize wantN (fun v => on.getD (v * k + q) false) seq V = W at *
    rw [h6] at hm
    exact ⟨by omega, by omega⟩
end Go.Proofs.Ytoglanahjlfihaa.MLst
