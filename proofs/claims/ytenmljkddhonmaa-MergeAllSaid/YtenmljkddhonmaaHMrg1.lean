import Derived.Test.YtenmljkddhonmaaHMrg0
namespace Go.Proofs.Ytenmljkddhonmaa.QMrg
set_option linter.unusedVariables false
set_option linter.unusedSimpArgs false
/-- A source behind its first entry: that entry, its rank, its source's place, what comes behind. -/
structure Ln (ε : Type) where
  e : ε
  r : Nat
  at_ : Nat
  rest : List (ε × Nat)
variable {ε : Type}
def items (l : Ln ε) : List (ε × Nat) := (l.e, l.r) :: l.rest
def allOf (q : List (Ln ε)) : List (ε × Nat) := q.flatMap items
def Up (l : Ln ε) : Prop := (items l).Pairwise (fun x y => x.2 < y.2)
/-- The places stand once, and what is asked of two entries of two sources is their ranks. -/
def Agree (less : ε → Nat → ε → Nat → Bool) (q : List (Ln ε)) : Prop := (q.map Ln.at_).Nodup ∧ ∀ l ∈ q, ∀ l' ∈ q, l.at_ ≠ l'.at_ → ∀ x ∈ items l, ∀ y ∈ items l', less x.1 l.at_ y.1 l'.at_ = decide (x.2 < y.2)
/-- What is still to come is the target behind i. -/
structure Inv (less : ε → Nat → ε → Nat → Bool) (T : List ε) (i : Nat) (q : List (Ln ε)) : Prop where
  perm : (allOf q).Perm (T.zipIdx.drop i)
  up : ∀ l ∈ q, Up l
  agree : Agree less q
theorem Agree.perm {less : ε → Nat → ε → Nat → Bool} {q q' : List (Ln ε)} (h : Agree less q) (hp : q'.Perm q) : Agree less q' :=
  ⟨(hp.map Ln.at_).symm.nodup h.1, fun l hl l' hl' => h.2 l (hp.mem_iff.1 hl) l' (hp.mem_iff.1 hl')⟩
theorem Inv.of_perm {less : ε → Nat → ε → Nat → Bool} {T : List ε} {i : Nat} {q q' : List (Ln ε)} (h : Inv less T i q) (hp : q'.Perm q) : Inv less T i q' :=
  ⟨(hp.flatMap_right items).trans h.perm, fun l hl => h.up l (hp.mem_iff.1 hl), h.agree.perm hp⟩
theorem drop_zip (T : List ε) (i : Nat) (hi : i < T.length) : T.zipIdx.drop i = (T[i], i) :: T.zipIdx.drop (i + 1) := by
  rw [List.drop_eq_getElem_cons (by rw [List.length_zipIdx]; exact hi)]
  congr 1
  rw [List.getElem_zipIdx]; simp
theorem drop_ge {T : List ε} {i : Nat} {x : ε × Nat} (h : x ∈ T.zipIdx.drop i) : i ≤ x.2 := by
  obtain ⟨k, hk, rfl⟩ := List.mem_iff_getElem.1 h
  rw [List.getElem_drop, List.getElem_zipIdx]
  simp
theorem Up.ge {l : Ln ε} (h : Up l) {x : ε × Nat} (hx : x ∈ items l) : l.r ≤ x.2 := by
  unfold Up items at *
  rw [List.pairwise_cons] at h
  rcases List.mem_cons.1 hx with rfl | hx
  · exact Nat.le_refl _
  · exact Nat.le_of_lt (h.1 x hx)
/-- The first of a heap is what comes next. -/
theorem Inv.first {less : ε → Nat → ε → Nat → Bool} {T : List ε} {i : Nat} {l : Ln ε} {q : List (Ln ε)} (h : Inv less T i (l :: q)) (hh : HeapFrom (kOf Ln.r (l :: q)) (l :: q).length 0) : i < T.length ∧ T[i]? = some l.e ∧ l.r = i := by
  have hmin : ∀ x ∈ allOf (l :: q), l.r ≤ x.2 := by
    intro x hx
    unfold allOf at hx
    obtain ⟨l', hl', hx'⟩ := List.mem_flatMap.1 hx
    obtain ⟨k, hk, rfl⟩ := List.mem_iff_getElem.1 hl'
    have h1 := hh.root k hk
    have h2 : kOf Ln.r (l :: q) 0 = l.r := rfl
    have h3 : kOf Ln.r (l :: q) k = ((l :: q)[k]).r := by unfold kOf; rw [List.getElem?_eq_getElem hk]; rfl
    rw [h2, h3] at h1
    exact Nat.le_trans h1 ((h.up _ (List.getElem_mem hk)).ge hx')
  have hm : (l.e, l.r) ∈ allOf (l :: q) := by unfold allOf items; simp
  have hm2 := h.perm.mem_iff.1 hm
  have hge := drop_ge hm2
  have hi : i < T.length := by
    by_cases hc : i < T.length
    · exact hc
    · rw [List.drop_eq_nil_of_le (by rw [List.length_zipIdx]; omega)] at hm2
      cases hm2
  have hin : (T[i], i) ∈ allOf (l :: q) := h.perm.mem_iff.2 (by rw [drop_zip T i hi]; exact List.mem_cons_self)
  have hle := hmin _ hin
  have hr : l.r = i := Nat.le_antisymm hle hge
  refine ⟨hi, ?_, hr⟩
  have hmz : (l.e, l.r) ∈ T.zipIdx := List.mem_of_mem_drop hm2
  rw [List.mem_zipIdx_iff_getElem?] at hmz
  rw [← hr]; exact hmz
theorem Inv.next {less : ε → Nat → ε → Nat → Bool} {T : List ε} {i : Nat} {l : Ln ε} {q : List (Ln ε)} (h : Inv less T i (l :: q)) (hh : HeapFrom (kOf Ln.r (l :: q)) (l :: q).length 0) {e2 : ε} {r2 : Nat} {rest2 : List (ε × Nat)} (hr : l.rest = (e2, r2) :: rest2) : Inv less T (i + 1) (⟨e2, r2, l.at_, rest2⟩ :: q) := by
  obtain ⟨hi, hT, hri⟩ := h.first hh
  have hTi : T[i] = l.e := by rw [List.getElem?_eq_getElem hi] at hT; exact Option.some.inj hT
  have hsub : ∀ x ∈ items (⟨e2, r2, l.at_, rest2⟩ : Ln ε), x ∈ items l := by
    intro x hx
    unfold items at *
    rw [hr]
    exact List.mem_cons_of_mem _ hx
  refine ⟨?_, ?_, ?_, ?_⟩
  · have hp := h.perm
    rw [drop_zip T i hi, hTi] at hp
    unfold allOf at hp ⊢
    rw [List.flatMap_cons] at hp ⊢
    unfold items at hp ⊢
    rw [hri, hr] at hp
    simp only at hp ⊢
    exact List.Perm.cons_inv hp
  · intro x hx
    rcases List.mem_cons.1 hx with rfl | hx
    · have := h.up l List.mem_cons_self
      unfold Up items at this ⊢
      rw [hr, List.pairwise_cons] at this
      exact this.2
    · exact h.up x (List.mem_cons_of_mem _ hx)
  · exact h.agree.1
  · intro a ha b hb hne x hx y hy
    have hA : ∀ c ∈ (⟨e2, r2, l.at_, rest2⟩ :: q : List (Ln ε)), ∃ c' ∈ l :: q, c'.at_ = c.at_ ∧ ∀ z ∈ items c, z ∈ items c' := by
      intro c hc
      rcases List.mem_cons.1 hc with rfl | hc
      · exact ⟨l, List.mem_cons_self, rfl, hsub⟩
      · exact ⟨c, List.mem_cons_of_mem _ hc, rfl, fun z hz => hz⟩
    obtain ⟨a', ha', ea, sa⟩ := hA a ha
    obtain ⟨b', hb', eb, sb⟩ := hA b hb
    have := h.agree.2 a' ha' b' hb' (by rw [ea, eb]; exact hne) x (sa x hx) y (sb y hy)
    rw [ea, eb] at this
    exact this
theorem Inv.last {less : ε → Nat → ε → Nat → Bool} {T : List ε} {i : Nat} {l : Ln ε} {q : List (Ln ε)} (h : Inv less T i (l :: q)) (hh : HeapFrom (kOf Ln.r (l :: q)) (l :: q).length 0) (hr : l.rest = []) : Inv less T (i + 1) q := by
  obtain ⟨hi, hT, hri⟩ := h.first hh
  have hTi : T[i] = l.e := by rw [List.getElem?_eq_getElem hi] at hT; exact Option.some.inj hT
  refine ⟨?_, fun x hx => h.up x (List.mem_cons_of_mem _ hx), ?_, fun a ha b hb => h.agree.2 a (List.mem_cons_of_mem _ ha) b (List.mem_cons_of_mem _ hb)⟩
  · have hp := h.perm
    rw [drop_zip T i hi, hTi] at hp
    unfold allOf at hp ⊢
    rw [List.flatMap_cons] at hp
    unfold items at hp
    rw [hri, hr] at hp
    exact List.Perm.cons_inv hp
  · have := h.agree.1
    rw [List.map_cons, List.nodup_cons] at this
    exact this.2
theorem Inv.done {less : ε → Nat → ε → Nat → Bool} {T : List ε} {i : Nat} (h : Inv less T i ([] : List (Ln ε))) : T.length ≤ i := by
  have := h.perm.length_eq
  unfold allOf at this
  rw [List.flatMap_nil, List.length_nil, List.length_drop, List.length_zipIdx] at this
  omega
/-- What two places of the queue are asked. -/
theorem Agree.less {less : ε → Nat → ε → Nat → Bool} {q : List (Ln ε)} (h : Agree less q) {i j : Nat} (hi : i < q.length) (hj : j < q.length) (hne : i ≠ j) : less q[i].e q[i].at_ q[j].e q[j].at_ = decide (kOf Ln.r q i < kOf Ln.r q j) := by
  have hat : q[i].at_ ≠ q[j].at_ := by
    intro he
    have h1 : (q.map Ln.at_).Pairwise (· ≠ ·) := h.1
    rcases Nat.lt_or_gt_of_ne hne with hlt | hlt
    · refine List.pairwise_iff_getElem.1 h1 i j (by rw [List.length_map]; exact hi) (by rw [List.length_map]; exact hj) hlt ?_
      rw [List.getElem_map, List.getElem_map, he]
    · refine List.pairwise_iff_getElem.1 h1 j i (by rw [List.length_map]; exact hj) (by rw [List.length_map]; exact hi) hlt ?_
      rw [List.getElem_map, List.getElem_map, he]
  have := h.2 _ (List.getElem_mem hi) _ (List.getElem_mem hj) hat (q[i].e, q[i].r) (by unfold items; simp) (q[j].e, q[j].r) (by unfold items; simp)
  rw [this]
  unfold kOf
  rw [List.getElem?_eq_getElem hi, List.getElem?_eq_getElem hj]; rfl
end Go.Proofs.Ytenmljkddhonmaa.QMrg
