import Derived.Test.YtenmljkddhonmaaHMrg14
namespace Go.Proofs.Ytenmljkddhonmaa.MMrg
open Go.RowKit Go.Proofs.Ytenmljkddhonmaa.QMrg Go.Proofs.YtenmljkddhonmaaW.PrintWords Go.Proofs.YtenmljkddhonmaaW.PrintLast Go.Proofs.YtenmljkddhonmaaW.PrintMore
set_option linter.unusedVariables false
set_option linter.unusedSimpArgs false
theorem same3_symm (a b : S28) : same3 a b = same3 b a := by
  unfold same3
  rw [Bool.eq_iff_iff, decide_eq_true_eq, decide_eq_true_eq]
  constructor <;> (intro ⟨h1, h2, h3⟩; exact ⟨h1.symm, h2.symm, h3.symm⟩)
theorem ltE_asymm {a b : S28} (h : ltE a b = true) : ltE b a = false := by
  cases h2 : ltE b a with
  | false => rfl
  | true =>
    have := ltE_trans h h2
    rw [ltE_irrefl] at this; cases this
theorem lessH_asymm {a b : S28} {i j : Nat} (h : lessH a i b j = true) : lessH b j a i = false := by
  unfold lessH at *
  rw [same3_symm b a]
  cases hs : same3 a b with
  | true =>
    rw [hs, if_pos rfl, decide_eq_true_eq] at h
    rw [if_pos rfl, decide_eq_false_iff_not]; omega
  | false =>
    rw [hs, if_neg (by decide)] at h
    rw [if_neg (by decide)]
    exact ltE_asymm h
/-- The ranked list of a place, out of the entries in order, each with its place. -/
def rkL (Z : List (S28 × Nat)) (j : Nat) : List (S28 × Nat) := (Z.zipIdx.filter (fun x => decide (x.1.2 = j))).map (fun x => (x.1.1, x.2))
theorem parts_perm {α : Type} (f : α → Nat) : ∀ (n : Nat) (Z : List α), (∀ x ∈ Z, f x < n) → ((List.range n).flatMap (fun j => Z.filter (fun x => decide (f x = j)))).Perm Z
  | 0, Z, h => by
    cases Z with
    | nil => exact List.Perm.refl _
    | cons z Z => exact absurd (h z List.mem_cons_self) (Nat.not_lt_zero _)
  | n + 1, Z, h => by
    have h1 := List.filter_append_perm (fun x => decide (f x < n)) Z
    have ih := parts_perm f n (Z.filter (fun x => decide (f x < n))) (fun x hx => by simpa using (List.mem_filter.1 hx).2)
    have e1 : (List.range n).flatMap (fun j => (Z.filter (fun x => decide (f x < n))).filter (fun x => decide (f x = j))) = (List.range n).flatMap (fun j => Z.filter (fun x => decide (f x = j))) := by
      unfold List.flatMap
      congr 1
      refine List.map_congr_left fun j hj => ?_
      rw [List.filter_filter]
      congr 1
      funext x
      have := List.mem_range.1 hj
      by_cases hx : f x = j
      · simp [hx]; omega
      · simp [hx]
    have e2 : Z.filter (fun x => !decide (f x < n)) = Z.filter (fun x => decide (f x = n)) := by
      refine List.filter_congr fun x hx => ?_
      have := h x hx
      by_cases he : f x = n
      · simp [he]
      · simp [he]; omega
    rw [e1] at ih
    rw [e2] at h1
    rw [List.range_succ, List.flatMap_append]
    have e3 : List.flatMap (fun j => Z.filter (fun x => decide (f x = j))) [n] = Z.filter (fun x => decide (f x = n)) := by simp
    rw [e3]
    exact (List.Perm.append_right _ ih).trans h1
/-- The queue of ranked lists, all there. -/
def QL (rl : Nat → List (S28 × Nat)) (k : Nat) : List L28 := (List.range k).filterMap (fun j => match rl j with
  | (e, r) :: t => some ⟨e, r, j, t⟩
  | [] => none)
theorem QK_QL {ps : List (Option Nat)} {rl : Nat → List (S28 × Nat)} {n : Nat} (h : ∀ j, j < n → rl j = [] ∨ ∃ p, ps[j]? = some (some p)) : QK ps rl n = QL rl n := by
  unfold QK QL
  have : ∀ (l : List Nat), (∀ j ∈ l, j < n) → l.filterMap (mkL ps rl) = l.filterMap (fun j => match rl j with
    | (e, r) :: t => some (⟨e, r, j, t⟩ : L28)
    | [] => none) := by
    intro l
    induction l with
    | nil => intro _; rfl
    | cons j l ih =>
      intro hl
      rw [List.filterMap_cons, List.filterMap_cons, ih (fun x hx => hl x (List.mem_cons_of_mem _ hx))]
      have hj := h j (hl j List.mem_cons_self)
      have : mkL ps rl j = (match rl j with
        | (e, r) :: t => some (⟨e, r, j, t⟩ : L28)
        | [] => none) := by
        unfold mkL
        rcases hj with hj | ⟨p, hp⟩
        · rw [hj]; cases ps.getD j none <;> rfl
        · rw [List.getD_eq_getElem?_getD, hp]
          cases hr : rl j with
          | nil => rfl
          | cons er t => obtain ⟨e, r⟩ := er; rfl
      rw [this]
  exact this _ (fun j hj => List.mem_range.1 hj)
theorem allOf_QL (rl : Nat → List (S28 × Nat)) : ∀ l : List Nat, allOf (l.filterMap (fun j => match rl j with
    | (e, r) :: t => some (⟨e, r, j, t⟩ : L28)
    | [] => none)) = l.flatMap rl
  | [] => rfl
  | j :: l => by
    have ih := allOf_QL rl l
    rw [List.filterMap_cons, List.flatMap_cons, ← ih]
    cases hr : rl j with
    | nil => rfl
    | cons er t =>
      obtain ⟨e, r⟩ := er
      rfl
theorem QL_mem {rl : Nat → List (S28 × Nat)} {k : Nat} {l : L28} (h : l ∈ QL rl k) : l.at_ < k ∧ items l = rl l.at_ := by
  unfold QL at h
  obtain ⟨j, hj, hl⟩ := List.mem_filterMap.1 h
  cases hr : rl j with
  | nil => rw [hr] at hl; cases hl
  | cons er t =>
    obtain ⟨e, r⟩ := er
    rw [hr] at hl
    injection hl with hl
    subst hl
    exact ⟨List.mem_range.1 hj, by rw [hr]; rfl⟩
theorem rkL_mem {Z : List (S28 × Nat)} {j : Nat} {x : S28 × Nat} (h : x ∈ rkL Z j) : Z[x.2]? = some (x.1, j) := by
  unfold rkL at h
  obtain ⟨y, hy, rfl⟩ := List.mem_map.1 h
  obtain ⟨hy, hj⟩ := List.mem_filter.1 hy
  have h1 := List.mem_zipIdx_iff_getElem?.1 hy
  rw [decide_eq_true_eq] at hj
  rw [h1, ← hj]
theorem zip_up {α : Type} (l : List α) : l.zipIdx.Pairwise (fun x y => x.2 < y.2) := by
  rw [List.pairwise_iff_getElem]
  intro i j hi hj hij
  rw [List.getElem_zipIdx, List.getElem_zipIdx]
  simpa using hij
theorem Inv_tags (Z : List (S28 × Nat)) (n : Nat) (hn : ∀ x ∈ Z, x.2 < n) (hZ : Z.Pairwise (fun x y => x.2 ≠ y.2 → lessH x.1 x.2 y.1 y.2 = true)) : Inv lessH (Z.map Prod.fst) 0 (QL (rkL Z) n) := by
  refine ⟨?_, ?_, ?_, ?_⟩
  · have h1 : allOf (QL (rkL Z) n) = (List.range n).flatMap (rkL Z) := allOf_QL _ _
    rw [h1, List.drop_zero]
    have h2 := parts_perm (fun x : (S28 × Nat) × Nat => x.1.2) n Z.zipIdx (fun x hx => by
      have := List.mem_zipIdx_iff_getElem?.1 hx
      exact hn _ (List.mem_of_getElem? this))
    have h3 := h2.map (fun x : (S28 × Nat) × Nat => (x.1.1, x.2))
    rw [List.map_flatMap] at h3
    have h4 : Z.zipIdx.map (fun x : (S28 × Nat) × Nat => (x.1.1, x.2)) = (Z.map Prod.fst).zipIdx := by
      apply List.ext_getElem?
      intro i
      rw [List.getElem?_map, List.getElem?_zipIdx, List.getElem?_zipIdx, List.getElem?_map]
      cases Z[i]? <;> rfl
    rw [h4] at h3
    exact h3
  · intro l hl
    obtain ⟨_, h⟩ := QL_mem hl
    unfold Up
    rw [h]
    unfold rkL
    rw [List.pairwise_map]
    exact (zip_up Z).filter _
  · unfold QL
    have h1 : ((List.range n).filterMap (fun j => match rkL Z j with
      | (e, r) :: t => some (⟨e, r, j, t⟩ : L28)
      | [] => none)).Pairwise (fun a b => a.at_ < b.at_) := by
      refine List.Pairwise.filterMap _ (R := fun a b => a < b) (fun a b hab x hx y hy => ?_) List.pairwise_lt_range
      have hxa : x.at_ = a := by
        cases hr : rkL Z a with
        | nil => rw [hr] at hx; cases hx
        | cons er t => rw [hr] at hx; injection hx with hx; rw [← hx]
      have hyb : y.at_ = b := by
        cases hr : rkL Z b with
        | nil => rw [hr] at hy; cases hy
        | cons er t => rw [hr] at hy; injection hy with hy; rw [← hy]
      omega
    unfold List.Nodup
    rw [List.pairwise_map]
    exact h1.imp (fun h => by omega)
  · intro l hl l' hl' hne x hx y hy
    rw [(QL_mem hl).2] at hx
    rw [(QL_mem hl').2] at hy
    have h1 := rkL_mem hx
    have h2 := rkL_mem hy
    rw [List.pairwise_iff_getElem] at hZ
    obtain ⟨k1, e1⟩ := List.getElem?_eq_some_iff.1 h1
    obtain ⟨k2, e2⟩ := List.getElem?_eq_some_iff.1 h2
    rcases Nat.lt_trichotomy x.2 y.2 with h | h | h
    · have := hZ x.2 y.2 k1 k2 h (by rw [e1, e2]; exact hne)
      rw [e1, e2] at this
      rw [this, decide_eq_true h]
    · exfalso
      rw [h, h2] at h1
      injection h1 with h1
      injection h1 with _ h1
      exact hne h1.symm
    · have := hZ y.2 x.2 k2 k1 h (by rw [e1, e2]; exact fun e => hne e.symm)
      rw [e1, e2] at this
      rw [lessH_asymm this, decide_eq_false (by omega)]
/-- A place's list, out of the entries in order. -/
theorem rkL_fst (Z : List (S28 × Nat)) (j : Nat) : (rkL Z j).map Prod.fst = (Z.filter (fun x => decide (x.2 = j))).map Prod.fst := by
  unfold rkL
  rw [List.map_map]
  have : ∀ (Z : List (S28 × Nat)) (k : Nat), ((Z.zipIdx k).filter (fun x => decide (x.1.2 = j))).map (Prod.fst ∘ fun x => (x.1.1, x.2)) = (Z.filter (fun x => decide (x.2 = j))).map Prod.fst := by
    intro Z
    induction Z with
    | nil => intro k; rfl
    | cons z Z ih =>
      intro k
      rw [List.zipIdx_cons, List.filter_cons, List.filter_cons]
      by_cases hz : z.2 = j
      · simp only [hz, decide_true, if_true, List.map_cons, ih]; rfl
      · simp only [hz, decide_false, Bool.false_eq_true, if_false, ih]
  exact this Z 0
end Go.Proofs.Ytenmljkddhonmaa.MMrg
