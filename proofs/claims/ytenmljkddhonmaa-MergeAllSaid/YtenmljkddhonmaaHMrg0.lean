import Derived.WalkKit
namespace Go.Proofs.Ytenmljkddhonmaa.QMrg
set_option linter.unusedVariables false
set_option linter.unusedSimpArgs false
/-! Heaps of keys, as container/heap turns them. -/
def Child (c p : Nat) : Prop := c = 2 * p + 1 ∨ c = 2 * p + 2
def HeapFrom (key : Nat → Nat) (n s : Nat) : Prop := ∀ p c, s ≤ p → c < n → Child c p → key p ≤ key c
/-- All in order but at i, which goes down. -/
def Sift (key : Nat → Nat) (n s i : Nat) : Prop := s ≤ i ∧ (∀ p c, s ≤ p → p ≠ i → c < n → Child c p → key p ≤ key c) ∧ (∀ p c, s ≤ p → Child i p → c < n → Child c i → key p ≤ key c)
def swk (key : Nat → Nat) (i j : Nat) : Nat → Nat := fun x => if x = i then key j else if x = j then key i else key x
theorem Sift.step {key : Nat → Nat} {n s i j : Nat} (h : Sift key n s i) (hj : Child j i) (hjn : j < n) (hlt : key j < key i) (hmin : ∀ c, c < n → Child c i → key j ≤ key c) : Sift (swk key i j) n s j := by
  obtain ⟨hs, h1, h2⟩ := h
  unfold Sift Child at *
  refine ⟨by omega, fun p c hp hne hc hcp => ?_, fun p c hp hjp hc hcj => ?_⟩
  · unfold swk
    by_cases hpi : p = i
    · subst hpi
      rw [if_pos rfl]
      by_cases hcj : c = j
      · subst hcj
        rw [if_neg (show ¬ c = p by omega), if_pos rfl]; omega
      · rw [if_neg (show ¬ c = p by omega), if_neg hcj]
        exact hmin c hc hcp
    · rw [if_neg hpi, if_neg hne]
      by_cases hci : c = i
      · subst hci
        rw [if_pos rfl]
        exact h2 p j hp hcp hjn hj
      · by_cases hcj : c = j
        · exact absurd (show p = i by omega) hpi
        · rw [if_neg hci, if_neg hcj]
          exact h1 p c hp hpi hc hcp
  · have hpi : p = i := by omega
    subst hpi
    unfold swk
    rw [if_pos rfl, if_neg (show ¬ c = p by omega), if_neg (show ¬ c = j by omega)]
    exact h1 j c (by omega) (by omega) hc hcj
theorem Sift.stop {key : Nat → Nat} {n s i : Nat} (h : Sift key n s i) (hmin : ∀ c, c < n → Child c i → key i ≤ key c) : HeapFrom key n s := by
  intro p c hp hc hcp
  by_cases hpi : p = i
  · subst hpi; exact hmin c hc hcp
  · exact h.2.1 p c hp hpi hc hcp
theorem Sift.start {key : Nat → Nat} {n i : Nat} (h : HeapFrom key n (i + 1)) : Sift key n i i :=
  ⟨Nat.le_refl _, fun p c hp hne hc hcp => h p c (by omega) hc hcp, fun p c hp hip _ _ => by unfold Child at hip; omega⟩
theorem HeapFrom.leaves (key : Nat → Nat) (n : Nat) : HeapFrom key n (n / 2) := fun p c hp hc hcp => by unfold Child at hcp; omega
theorem HeapFrom.root {key : Nat → Nat} {n : Nat} (h : HeapFrom key n 0) : ∀ c, c < n → key 0 ≤ key c := by
  intro c
  induction c using Nat.strongRecOn with
  | _ c ih =>
    intro hc
    by_cases h0 : c = 0
    · subst h0; exact Nat.le_refl _
    · have hp : Child c ((c - 1) / 2) := by unfold Child; omega
      exact Nat.le_trans (ih ((c - 1) / 2) (by omega) (by omega)) (h _ c (Nat.zero_le _) hc hp)
theorem HeapFrom.less {key : Nat → Nat} {n m : Nat} (h : HeapFrom key n 0) (hm : m ≤ n) : HeapFrom key m 0 := fun p c hp hc hcp => h p c hp (by omega) hcp
/-- Keys that agree below n are heaps alike. -/
theorem Sift.congr {key key' : Nat → Nat} {n s i : Nat} (h : Sift key n s i) (e : ∀ x, x < n → key' x = key x) (hi : i < n) : Sift key' n s i := by
  obtain ⟨hs, h1, h2⟩ := h
  unfold Sift Child at *
  refine ⟨hs, fun p c hp hne hc hcp => ?_, fun p c hp hip hc hci => ?_⟩
  · rw [e p (by omega), e c hc]; exact h1 p c hp hne hc hcp
  · rw [e p (by omega), e c hc]; exact h2 p c hp hip hc hci
theorem HeapFrom.congr {key key' : Nat → Nat} {n s : Nat} (h : HeapFrom key n s) (e : ∀ x, x < n → key' x = key x) : HeapFrom key' n s := by
  intro p c hp hc hcp
  have hpn : p < n := by unfold Child at hcp; omega
  rw [e p hpn, e c hc]; exact h p c hp hc hcp
variable {α : Type}
/-- The key of a place. -/
def kOf (f : α → Nat) (q : List α) (x : Nat) : Nat := (q[x]?.map f).getD 0
/-- Two swapped. -/
def swp (q : List α) (i j : Nat) : List α := match q[i]?, q[j]? with | some a, some b => (q.set i b).set j a | _, _ => q
theorem swp_len (q : List α) (i j : Nat) : (swp q i j).length = q.length := by
  unfold swp
  split <;> simp
theorem swp_get (q : List α) {i j : Nat} (hi : i < q.length) (hj : j < q.length) (x : Nat) : (swp q i j)[x]? = if x = j then q[i]? else if x = i then q[j]? else q[x]? := by
  unfold swp
  rw [List.getElem?_eq_getElem hi, List.getElem?_eq_getElem hj]
  simp only
  rw [List.getElem?_set]
  by_cases hxj : j = x
  · subst hxj
    rw [if_pos rfl, if_pos (by simpa using hj), if_pos rfl]
  · rw [if_neg hxj, if_neg (Ne.symm hxj), List.getElem?_set]
    by_cases hxi : i = x
    · subst hxi
      rw [if_pos rfl, if_pos hi, if_pos rfl]
    · rw [if_neg hxi, if_neg (Ne.symm hxi)]
theorem kOf_swp (f : α → Nat) (q : List α) {i j : Nat} (hi : i < q.length) (hj : j < q.length) (hne : i ≠ j) : ∀ x, kOf f (swp q i j) x = swk (kOf f q) i j x := by
  intro x
  unfold kOf swk
  rw [swp_get q hi hj]
  by_cases hxj : x = j
  · subst hxj
    rw [if_pos rfl, if_neg (Ne.symm hne), if_pos rfl]
  · rw [if_neg hxj]
    by_cases hxi : x = i
    · subst hxi
      rw [if_pos rfl, if_pos rfl]
    · rw [if_neg hxi, if_neg hxi, if_neg hxj]
theorem swp_perm (q : List α) (i j : Nat) : (swp q i j).Perm q := by
  unfold swp
  split
  · rename_i a b ha hb
    obtain ⟨hi, rfl⟩ := List.getElem?_eq_some_iff.1 ha
    obtain ⟨hj, rfl⟩ := List.getElem?_eq_some_iff.1 hb
    have h := Array.swap_perm (xs := q.toArray) (i := i) (j := j) (by simpa using hi) (by simpa using hj)
    have h2 := Array.perm_iff_toList_perm.1 h
    simpa [Array.swap] using h2
  · exact List.Perm.refl _
end Go.Proofs.Ytenmljkddhonmaa.QMrg
