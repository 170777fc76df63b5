import Derived.Test.YtenmljkddhonmaaHMrg21
namespace Go.Proofs.Ytenmljkddhonmaa.MMrg
open Go.RowKit Go.Proofs.Ytenmljkddhonmaa.QMrg Go.Proofs.YtenmljkddhonmaaW.PrintWords Go.Proofs.YtenmljkddhonmaaW.PrintLast Go.Proofs.YtenmljkddhonmaaW.PrintMore
set_option linter.unusedVariables false
set_option linter.unusedSimpArgs false
/-! the order of entries, and a stable sort with places -/
theorem same3_iff {a b : S28} : same3 a b = true ↔ (a.f0 = b.f0 ∧ a.f1 = b.f1 ∧ a.f2 = b.f2) := by
  unfold same3
  rw [decide_eq_true_eq]
  exact ⟨fun h => ⟨toList_inj h.1, h.2⟩, fun h => ⟨by rw [h.1], h.2⟩⟩
theorem ltE_congr {a b c : S28} (h : same3 a b = true) : ltE a c = ltE b c ∧ ltE c a = ltE c b := by
  obtain ⟨h1, h2, h3⟩ := same3_iff.1 h
  unfold ltE
  rw [h1, h2, h3]
  exact ⟨rfl, rfl⟩
theorem ltE_tri (a b : S28) : ltE a b = true ∨ same3 a b = true ∨ ltE b a = true := by
  by_cases h : a.f0 = b.f0 ∧ a.f1 = b.f1
  · obtain ⟨h0, h1⟩ := h
    rcases Int.lt_trichotomy a.f2 b.f2 with h2 | h2 | h2
    · right; right
      unfold ltE
      rw [if_pos (by rw [h0]), if_pos h1.symm]
      simpa using h2
    · exact .inr (.inl (same3_iff.2 ⟨h0, h1, h2⟩))
    · left
      unfold ltE
      rw [if_pos (by rw [h0]), if_pos h1]
      simpa using h2
  · have := ltE_total h
    cases hab : ltE a b with
    | true => exact .inl rfl
    | false => rw [hab] at this; exact .inr (.inr this)
theorem same3_no {a b : S28} (h : same3 a b = true) : ltE a b = false := by
  rw [(ltE_congr (c := b) h).1]; exact ltE_irrefl b
/-- a < b, and c is not ahead of b: a < c. -/
theorem ltE_up {a b c : S28} (h1 : ltE a b = true) (h2 : ltE c b = false) : ltE a c = true := by
  rcases ltE_tri a c with h | h | h
  · exact h
  · rw [← (ltE_congr (c := b) h).1, h1] at h2; cases h2
  · rw [ltE_trans h h1] at h2; cases h2
/-- Behind one another, and equal ones by their places. -/
def rT (x y : S28 × Nat) : Prop := ltE y.1 x.1 = false ∧ (ltE x.1 y.1 = false → x.2 ≤ y.2)
def insT (x : S28 × Nat) : List (S28 × Nat) → List (S28 × Nat)
  | [] => [x]
  | y :: t => if ltE x.1 y.1 = true then x :: y :: t else y :: insT x t
theorem insT_fst (x : S28 × Nat) : ∀ Z, (insT x Z).map Prod.fst = insE x.1 (Z.map Prod.fst)
  | [] => rfl
  | y :: t => by
    unfold insT
    rw [List.map_cons]
    unfold insE
    by_cases h : ltE x.1 y.1 = true
    · rw [if_pos h, if_pos h]; rfl
    · rw [if_neg h, if_neg h, List.map_cons, insT_fst x t]
theorem mem_insT {x y : S28 × Nat} : ∀ {Z}, y ∈ insT x Z ↔ y = x ∨ y ∈ Z
  | [] => by simp [insT]
  | z :: t => by
    unfold insT
    by_cases h : ltE x.1 z.1 = true
    · rw [if_pos h]; simp
    · rw [if_neg h, List.mem_cons, List.mem_cons, mem_insT (Z := t)]
      constructor
      · rintro (h | h | h)
        · exact .inr (.inl h)
        · exact .inl h
        · exact .inr (.inr h)
      · rintro (h | h | h)
        · exact .inr (.inl h)
        · exact .inl h
        · exact .inr (.inr h)
theorem insT_sorted (x : S28 × Nat) : ∀ Z : List (S28 × Nat), Z.Pairwise rT → (∀ z ∈ Z, z.2 ≤ x.2) → (insT x Z).Pairwise rT
  | [], _, _ => by simp [insT]
  | y :: t, hZ, ht => by
    obtain ⟨h1, h2⟩ := List.pairwise_cons.1 hZ
    unfold insT
    by_cases h : ltE x.1 y.1 = true
    · rw [if_pos h]
      refine List.pairwise_cons.2 ⟨fun z hz => ?_, hZ⟩
      have hxz : ltE x.1 z.1 = true := by
        rcases List.mem_cons.1 hz with rfl | hz
        · exact h
        · exact ltE_up h (h1 z hz).1
      exact ⟨ltE_asymm hxz, fun hn => by rw [hxz] at hn; cases hn⟩
    · rw [if_neg h]
      refine List.pairwise_cons.2 ⟨fun z hz => ?_, insT_sorted x t h2 (fun z hz => ht z (List.mem_cons_of_mem _ hz))⟩
      rcases mem_insT.1 hz with rfl | hz
      · exact ⟨by simpa using h, fun _ => ht y List.mem_cons_self⟩
      · exact h1 z hz
theorem insT_pos {x y : S28 × Nat} {t : List (S28 × Nat)} (h : ltE x.1 y.1 = true) : insT x (y :: t) = x :: y :: t := if_pos h
theorem insT_neg {x y : S28 × Nat} {t : List (S28 × Nat)} (h : ¬ ltE x.1 y.1 = true) : insT x (y :: t) = y :: insT x t := if_neg h
/-- Sorted, as entries. -/
theorem insT_filter (x : S28 × Nat) (p : S28 × Nat → Bool) : ∀ Z : List (S28 × Nat), Z.Pairwise rT → (insT x Z).filter p = if p x then insT x (Z.filter p) else Z.filter p
  | [], _ => by
    by_cases hp : p x = true
    · simp [hp, insT]
    · simp [hp, insT]
  | y :: t, hZ => by
    obtain ⟨h1, h2⟩ := List.pairwise_cons.1 hZ
    by_cases h : ltE x.1 y.1 = true
    · rw [insT_pos h]
      by_cases hp : p x = true
      · rw [if_pos hp, List.filter_cons_of_pos hp]
        have hall : ∀ z ∈ (y :: t).filter p, ltE x.1 z.1 = true := by
          intro z hz
          rcases List.mem_cons.1 (List.mem_filter.1 hz).1 with rfl | hz
          · exact h
          · exact ltE_up h (h1 z hz).1
        cases hf : (y :: t).filter p with
        | nil => rfl
        | cons z zs =>
          rw [hf] at hall
          rw [insT_pos (hall z List.mem_cons_self)]
      · rw [if_neg hp, List.filter_cons_of_neg hp]
    · rw [insT_neg h]
      have ih := insT_filter x p t h2
      by_cases hy : p y = true
      · rw [List.filter_cons_of_pos hy, List.filter_cons_of_pos hy, ih]
        by_cases hp : p x = true
        · rw [if_pos hp, if_pos hp, insT_neg h]
        · rw [if_neg hp, if_neg hp]
      · rw [List.filter_cons_of_neg hy, List.filter_cons_of_neg hy, ih]
/-- All of them in, one behind the other. -/
def srtT (X : List (S28 × Nat)) : List (S28 × Nat) := X.foldl (fun Z x => insT x Z) []
def srtE (X : List S28) : List S28 := X.foldl (fun Z x => insE x Z) []
theorem srtT_snoc (X : List (S28 × Nat)) (x : S28 × Nat) : srtT (X ++ [x]) = insT x (srtT X) := by unfold srtT; rw [List.foldl_append]; rfl
theorem srtE_snoc (X : List S28) (x : S28) : srtE (X ++ [x]) = insE x (srtE X) := by unfold srtE; rw [List.foldl_append]; rfl
theorem list_snoc {α : Type} {P : List α → Prop} (h0 : P []) (h1 : ∀ l x, P l → P (l ++ [x])) : ∀ l, P l := by
  intro l
  have : ∀ r : List α, P r.reverse := by
    intro r
    induction r with
    | nil => exact h0
    | cons x r ih => rw [List.reverse_cons]; exact h1 _ _ ih
  have h := this l.reverse
  rwa [List.reverse_reverse] at h
theorem srtT_fst (X : List (S28 × Nat)) : (srtT X).map Prod.fst = srtE (X.map Prod.fst) := by
  refine list_snoc (P := fun X => (srtT X).map Prod.fst = srtE (X.map Prod.fst)) rfl (fun X x ih => ?_) X
  rw [srtT_snoc, insT_fst, ih, List.map_append, List.map_singleton, srtE_snoc]
theorem srtE_len (X : List S28) : (srtE X).length = X.length := by
  refine list_snoc (P := fun X => (srtE X).length = X.length) rfl (fun X x ih => ?_) X
  rw [srtE_snoc, insE_len, ih, List.length_append, List.length_singleton]
theorem srtT_mem (X : List (S28 × Nat)) : ∀ x, x ∈ srtT X ↔ x ∈ X := by
  refine list_snoc (P := fun X => ∀ x, x ∈ srtT X ↔ x ∈ X) (fun x => Iff.rfl) (fun X y ih x => ?_) X
  rw [srtT_snoc, mem_insT, ih, List.mem_append, List.mem_singleton, or_comm]
theorem srtT_sorted (X : List (S28 × Nat)) : X.Pairwise (fun a b => a.2 ≤ b.2) → (srtT X).Pairwise rT := by
  refine list_snoc (P := fun X => X.Pairwise (fun a b => a.2 ≤ b.2) → (srtT X).Pairwise rT) (fun _ => List.Pairwise.nil) (fun X y ih h => ?_) X
  rw [List.pairwise_append] at h
  rw [srtT_snoc]
  exact insT_sorted y _ (ih h.1) (fun z hz => h.2.2 z ((srtT_mem X z).1 hz) y (List.mem_singleton.2 rfl))
theorem srtT_filter (p : S28 × Nat → Bool) (X : List (S28 × Nat)) : X.Pairwise (fun a b => a.2 ≤ b.2) → (srtT X).filter p = srtT (X.filter p) := by
  refine list_snoc (P := fun X => X.Pairwise (fun a b => a.2 ≤ b.2) → (srtT X).filter p = srtT (X.filter p)) (fun _ => rfl) (fun X y ih h => ?_) X
  rw [List.pairwise_append] at h
  rw [srtT_snoc, insT_filter y p _ (srtT_sorted X h.1), ih h.1, List.filter_append]
  by_cases hp : p y = true
  · rw [if_pos hp, List.filter_cons_of_pos hp, List.filter_nil, srtT_snoc]
  · rw [if_neg hp, List.filter_cons_of_neg hp, List.filter_nil, List.append_nil]
theorem rT_less {x y : S28 × Nat} (h : rT x y) (hne : x.2 ≠ y.2) : lessH x.1 x.2 y.1 y.2 = true := by
  unfold lessH
  cases hs : same3 x.1 y.1 with
  | true =>
    rw [if_pos rfl, decide_eq_true_eq]
    have := h.2 (same3_no hs)
    omega
  | false =>
    rw [if_neg (by decide)]
    rcases ltE_tri x.1 y.1 with h1 | h1 | h1
    · exact h1
    · rw [hs] at h1; cases h1
    · rw [h.1] at h1; cases h1
/-- A list that is in order stays as it is. -/
def Inc (l : List S28) : Prop := l.Pairwise (fun a b => ltE b a = false)
theorem insE_last (e : S28) : ∀ l : List S28, (∀ x ∈ l, ltE e x = false) → insE e l = l ++ [e]
  | [], _ => rfl
  | x :: t, h => by
    unfold insE
    rw [if_neg (by rw [h x List.mem_cons_self]; decide), insE_last e t (fun y hy => h y (List.mem_cons_of_mem _ hy))]; rfl
theorem srtE_of_inc (l : List S28) : Inc l → srtE l = l := by
  refine list_snoc (P := fun l => Inc l → srtE l = l) (fun _ => rfl) (fun l x ih h => ?_) l
  unfold Inc at h ih
  rw [List.pairwise_append] at h
  rw [srtE_snoc, ih h.1, insE_last]
  exact fun y hy => h.2.2 y hy x (List.mem_singleton.2 rfl)
theorem mem_insE {e x : S28} : ∀ {l}, x ∈ insE e l ↔ x = e ∨ x ∈ l
  | [] => by simp [insE]
  | z :: t => by
    unfold insE
    by_cases h : ltE e z = true
    · rw [if_pos h]; simp
    · rw [if_neg h, List.mem_cons, List.mem_cons, mem_insE (l := t)]
      constructor
      · rintro (h | h | h)
        · exact .inr (.inl h)
        · exact .inl h
        · exact .inr (.inr h)
      · rintro (h | h | h)
        · exact .inr (.inl h)
        · exact .inl h
        · exact .inr (.inr h)
theorem insE_inc (e : S28) : ∀ l, Inc l → Inc (insE e l)
  | [], _ => by unfold Inc insE; simp
  | x :: t, h => by
    unfold Inc at *
    obtain ⟨h1, h2⟩ := List.pairwise_cons.1 h
    unfold insE
    by_cases hc : ltE e x = true
    · rw [if_pos hc]
      refine List.pairwise_cons.2 ⟨fun z hz => ?_, h⟩
      rcases List.mem_cons.1 hz with rfl | hz
      · exact ltE_asymm hc
      · exact ltE_asymm (ltE_up hc (h1 z hz))
    · rw [if_neg hc]
      refine List.pairwise_cons.2 ⟨fun z hz => ?_, insE_inc e t h2⟩
      rcases mem_insE.1 hz with rfl | hz
      · simpa using hc
      · exact h1 z hz
theorem srtE_inc (l : List S28) : Inc (srtE l) := by
  refine list_snoc (P := fun l => Inc (srtE l)) (by unfold Inc srtE; exact List.Pairwise.nil) (fun l x ih => ?_) l
  rw [srtE_snoc]; exact insE_inc x _ ih
/-- The lists one behind the other, each entry with its list's place. -/
def tags : List (List S28) → Nat → List (S28 × Nat)
  | [], _ => []
  | l :: L, j => l.map (fun e => (e, j)) ++ tags L (j + 1)
theorem tags_mem : ∀ (L : List (List S28)) (j : Nat) (x : S28 × Nat), x ∈ tags L j → j ≤ x.2 ∧ x.2 < j + L.length
  | [], _, _, h => by cases h
  | l :: L, j, x, h => by
    unfold tags at h
    rw [List.mem_append] at h
    rw [List.length_cons]
    rcases h with h | h
    · obtain ⟨e, _, rfl⟩ := List.mem_map.1 h
      exact ⟨Nat.le_refl _, by show j < _; omega⟩
    · have := tags_mem L (j + 1) x h
      omega
theorem tags_up : ∀ (L : List (List S28)) (j : Nat), (tags L j).Pairwise (fun a b => a.2 ≤ b.2)
  | [], _ => List.Pairwise.nil
  | l :: L, j => by
    unfold tags
    rw [List.pairwise_append]
    refine ⟨?_, tags_up L (j + 1), fun a ha b hb => ?_⟩
    · rw [List.pairwise_map]
      exact List.pairwise_of_forall (fun _ _ => Nat.le_refl _)
    · obtain ⟨e, _, rfl⟩ := List.mem_map.1 ha
      have := tags_mem L (j + 1) b hb
      show j ≤ b.2
      omega
theorem tags_filter : ∀ (L : List (List S28)) (j k : Nat), k < L.length → (tags L j).filter (fun x => decide (x.2 = j + k)) = (L.getD k []).map (fun e => (e, j + k))
  | [], _, _, h => absurd h (Nat.not_lt_zero _)
  | l :: L, j, 0, _ => by
    unfold tags
    rw [List.filter_append]
    have h1 : (l.map (fun e => (e, j))).filter (fun x => decide (x.2 = j + 0)) = l.map (fun e => (e, j)) := by
      rw [List.filter_eq_self]
      intro a ha
      obtain ⟨e, _, rfl⟩ := List.mem_map.1 ha
      simp
    have h2 : (tags L (j + 1)).filter (fun x => decide (x.2 = j + 0)) = [] := by
      rw [List.filter_eq_nil_iff]
      intro a ha
      have := tags_mem L (j + 1) a ha
      simp; omega
    rw [h1, h2, List.append_nil]; rfl
  | l :: L, j, k + 1, hk => by
    unfold tags
    rw [List.filter_append]
    have h1 : (l.map (fun e => (e, j))).filter (fun x => decide (x.2 = j + (k + 1))) = [] := by
      rw [List.filter_eq_nil_iff]
      intro a ha
      obtain ⟨e, _, rfl⟩ := List.mem_map.1 ha
      simp
    have h2 := tags_filter L (j + 1) k (by simpa using hk)
    rw [h1, List.nil_append, show j + (k + 1) = j + 1 + k by omega, h2]; rfl
/-- What merging sorted lists comes to. -/
theorem merge_spec (L : List (List S28)) (hL : ∀ l ∈ L, Inc l) : (∀ x ∈ srtT (tags L 0), x.2 < L.length) ∧ (srtT (tags L 0)).Pairwise (fun x y => x.2 ≠ y.2 → lessH x.1 x.2 y.1 y.2 = true) ∧ ∀ j, j < L.length → ((srtT (tags L 0)).filter (fun x => decide (x.2 = j))).map Prod.fst = L.getD j [] := by
  refine ⟨fun x hx => ?_, (srtT_sorted _ (tags_up L 0)).imp (fun h hne => rT_less h hne), fun j hj => ?_⟩
  · have := tags_mem L 0 x ((srtT_mem _ x).1 hx)
    omega
  · rw [srtT_filter _ _ (tags_up L 0)]
    have h := tags_filter L 0 j hj
    rw [Nat.zero_add] at h
    rw [h, srtT_fst, List.map_map]
    have e : ((L.getD j []).map (Prod.fst ∘ fun e => (e, j))) = L.getD j [] := by
      have : (Prod.fst ∘ fun e : S28 => (e, j)) = id := rfl
      rw [this, List.map_id]
    rw [e]
    refine srtE_of_inc _ (hL _ ?_)
    rw [List.getD_eq_getElem?_getD, List.getElem?_eq_getElem hj]
    exact List.getElem_mem hj
theorem tags_fst : ∀ (L : List (List S28)) (j : Nat), (tags L j).map Prod.fst = L.flatten
  | [], _ => rfl
  | l :: L, j => by
    unfold tags
    rw [List.map_append, tags_fst L (j + 1), List.map_map, List.flatten_cons]
    congr 1
    have : (Prod.fst ∘ fun e : S28 => (e, j)) = id := rfl
    rw [this, List.map_id]
end Go.Proofs.Ytenmljkddhonmaa.MMrg
