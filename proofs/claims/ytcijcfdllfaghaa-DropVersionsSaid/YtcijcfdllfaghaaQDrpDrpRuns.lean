/- Runs of entries of one form: drop.keys, drop.versions, and what stays. -/
import Derived.Test.YtcijcfdllfaghaaMDrpx0
import Derived.Test.YtcijcfdllfaghaaMDrpx4
import Derived.Test.YtcijcfdllfaghaaQDrpEntSortR
namespace Go.Proofs.Ytcijcfdllfaghaa.QDrp
open Go.RowKit Go.Proofs.Ytcijcfdllfaghaa.MDrp Go.Proofs.Ytcijcfdllfaghaa.QDrp Go.Proofs.YtcijcfdllfaghaaW.PrintWords Go.Proofs.YtcijcfdllfaghaaW.PrintLast Go.Proofs.YtcijcfdllfaghaaW.PrintMore
set_option linter.unusedVariables false
set_option linter.unusedSimpArgs false
def nm (x : S23) : List UInt8 := x.f0.toList
def grp : List S23 → List (List S23)
  | [] => []
  | x :: t => match grp t with
    | [] => [[x]]
    | [] :: gs => [x] :: gs
    | (y :: g) :: gs => if nm x = nm y then (x :: y :: g) :: gs else [x] :: (y :: g) :: gs
def Run (g : List S23) : Prop := ∀ x ∈ g, ∀ y ∈ g, nm x = nm y
def Dec (g : List S23) : Prop := g.Pairwise (fun x y => x.f1 > y.f1)
def Apt (g h : List S23) : Prop := ∀ x ∈ g, ∀ y ∈ h, nm x ≠ nm y
structure Runs (gs : List (List S23)) : Prop where
  run : ∀ g ∈ gs, Run g
  dec : ∀ g ∈ gs, Dec g
  apt : gs.Pairwise Apt
theorem grp_cons (x : S23) (t : List S23) : ∃ g gs, grp (x :: t) = (x :: g) :: gs := by
  unfold grp
  split
  · exact ⟨_, _, rfl⟩
  · exact ⟨_, _, rfl⟩
  · split
    · exact ⟨_, _, rfl⟩
    · exact ⟨_, _, rfl⟩
theorem grp_flat : ∀ l : List S23, (grp l).flatten = l
  | [] => rfl
  | x :: t => by
    have ih := grp_flat t
    unfold grp
    split
    · rename_i h; rw [h] at ih; simp at ih; subst ih; rfl
    · rename_i h; rw [h] at ih; simp at ih; simp [ih]
    · rename_i h; rw [h] at ih
      split
      · simp only [List.flatten_cons, List.cons_append] at ih ⊢; rw [ih]
      · simp only [List.flatten_cons, List.cons_append, List.nil_append] at ih ⊢; rw [ih]
theorem grp_ne : ∀ l : List S23, ∀ g ∈ grp l, g ≠ []
  | [], g, h => by cases h
  | x :: t, g, h => by
    have ih := grp_ne t
    cases ht : t with
    | nil => subst ht; simp [grp] at h; subst h; simp
    | cons y u =>
      obtain ⟨g', gs, e⟩ := grp_cons y u
      rw [ht] at ih h
      unfold grp at h
      rw [e] at h ih
      simp only at h
      split at h
      · rcases List.mem_cons.1 h with h | h
        · subst h; simp
        · exact ih g (List.mem_cons_of_mem _ h)
      · rcases List.mem_cons.1 h with h | h
        · subst h; simp
        · exact ih g h
theorem grp_run : ∀ (r s : List S23), r ≠ [] → Run r → (∀ y, s.head? = some y → ∀ x ∈ r, nm x ≠ nm y) → grp (r ++ s) = r :: grp s
  | [], s, h, _, _ => absurd rfl h
  | [x], s, _, _, hs => by
    cases s with
    | nil => rfl
    | cons y t =>
      obtain ⟨g, gs, e⟩ := grp_cons y t
      show grp (x :: y :: t) = _
      rw [grp, e]
      simp only
      rw [if_neg (hs y rfl x (by simp))]
  | x :: y :: r, s, _, hr, hs => by
    have ih := grp_run (y :: r) s (by simp) (fun a ha b hb => hr a (List.mem_cons_of_mem _ ha) b (List.mem_cons_of_mem _ hb)) (fun z hz a ha => hs z hz a (List.mem_cons_of_mem _ ha))
    show grp (x :: ((y :: r) ++ s)) = _
    rw [grp, ih]
    simp only
    rw [if_pos (hr x (by simp) y (by simp))]
theorem grp_len : ∀ l : List S23, (grp l).length ≤ l.length
  | [] => Nat.le_refl _
  | x :: t => by
    have ih := grp_len t
    cases ht : t with
    | nil => simp [grp]
    | cons y u =>
      obtain ⟨g', gs, e⟩ := grp_cons y u
      rw [ht, e] at ih
      rw [grp, e]
      simp only
      split
      · simp only [List.length_cons] at ih ⊢; omega
      · simp only [List.length_cons] at ih ⊢; omega
theorem grp_lens (l : List S23) : ((grp l).map List.length).sum = l.length := by
  rw [← List.length_flatten, grp_flat]
theorem srt_nm {x y z : S23} (h : srtR x y) (hne : nm x ≠ nm y) (hyz : z = y ∨ srtR y z) : nm x ≠ nm z := by
  have hb : Op.bytesLess (nm x) (nm y) = true := by
    have := h.1
    unfold ltS lt3 at this
    rwa [if_neg (show ¬ x.f0.toList = y.f0.toList from hne)] at this
  rcases hyz with rfl | hyz
  · exact hne
  · intro e
    have h2 := hyz.1
    unfold ltS lt3 at h2
    by_cases c : y.f0.toList = z.f0.toList
    · exact hne (e.trans c.symm)
    · rw [if_neg c] at h2
      have h3 := bl_trans _ _ _ hb h2
      have e' : nm x = z.f0.toList := e
      rw [← e', bl_irrefl] at h3
      cases h3
theorem srt_dec {x y : S23} (h : srtR x y) (e : nm x = nm y) : x.f1 > y.f1 := by
  obtain ⟨h1, h2⟩ := h
  unfold ltS lt3 at h1
  have e' : x.f0.toList = y.f0.toList := e
  rw [if_pos e'] at h1
  by_cases c : x.f1 = y.f1
  · exact absurd ⟨e', c⟩ h2
  · rw [if_neg c] at h1; exact of_decide_eq_true h1
theorem grp_runs : ∀ l : List S23, l.Pairwise srtR → Runs (grp l)
  | [], _ => ⟨(fun g h => by cases h), (fun g h => by cases h), List.Pairwise.nil⟩
  | x :: t, hl => by
    obtain ⟨h1, h2⟩ := List.pairwise_cons.1 hl
    have ih := grp_runs t h2
    cases ht : t with
    | nil =>
      simp only [grp]
      exact ⟨fun g h a ha b hb => by simp at h; subst h; simp at ha hb; rw [ha, hb], fun g h => by simp at h; subst h; exact List.pairwise_singleton _ _, List.pairwise_singleton _ _⟩
    | cons y u =>
      obtain ⟨g', gs, e⟩ := grp_cons y u
      have hf := grp_flat t
      rw [ht, e] at ih hf
      have hxy : srtR x y := h1 y (by rw [ht]; simp)
      rw [ht] at h1 h2
      obtain ⟨h3, _⟩ := List.pairwise_cons.1 h2
      have hmem : ∀ z ∈ y :: u, z = y ∨ srtR y z := fun z hz => by
        rcases List.mem_cons.1 hz with hz | hz
        · exact .inl hz
        · exact .inr (h3 z hz)
      have hin : ∀ h ∈ ((y :: g') :: gs), ∀ z ∈ h, z ∈ y :: u := fun h hh z hz => by
        rw [← hf]; exact List.mem_flatten.2 ⟨h, hh, hz⟩
      obtain ⟨ha1, ha2⟩ := List.pairwise_cons.1 ih.apt
      rw [grp, e]
      simp only
      split
      · rename_i c
        refine ⟨fun g hg => ?_, fun g hg => ?_, List.pairwise_cons.2 ⟨fun h hh a ha b hb => ?_, ha2⟩⟩
        · rcases List.mem_cons.1 hg with rfl | hg
          · have hr := ih.run _ (List.mem_cons_self ..)
            intro a ha b hb
            have hx : ∀ z ∈ x :: y :: g', nm z = nm y := by
              intro z hz
              rcases List.mem_cons.1 hz with hz' | hz'
              · rw [hz']; exact c
              · exact hr z hz' y (by simp)
            exact (hx a ha).trans (hx b hb).symm
          · exact ih.run g (List.mem_cons_of_mem _ hg)
        · rcases List.mem_cons.1 hg with rfl | hg
          · have hr := ih.run _ (List.mem_cons_self ..)
            refine List.pairwise_cons.2 ⟨fun z hz => ?_, ih.dec _ (List.mem_cons_self ..)⟩
            exact srt_dec (h1 z (hin _ (List.mem_cons_self ..) z hz)) (c.trans (hr y (by simp) z hz))
          · exact ih.dec g (List.mem_cons_of_mem _ hg)
        · rcases List.mem_cons.1 ha with rfl | ha
          · rw [c]; exact ha1 h hh y (by simp) b hb
          · exact ha1 h hh a ha b hb
      · rename_i c
        refine ⟨fun g hg => ?_, fun g hg => ?_, List.pairwise_cons.2 ⟨fun h hh a ha b hb => ?_, ih.apt⟩⟩
        · rcases List.mem_cons.1 hg with rfl | hg
          · intro a ha b hb; simp at ha hb; rw [ha, hb]
          · exact ih.run g hg
        · rcases List.mem_cons.1 hg with rfl | hg
          · exact List.pairwise_singleton _ _
          · exact ih.dec g hg
        · simp at ha; subst ha
          exact srt_nm hxy c (hmem b (hin h hh b hb))
theorem grp_of : ∀ gs : List (List S23), Runs gs → grp gs.flatten = gs.filter (fun g => !g.isEmpty)
  | [], _ => rfl
  | g :: gs, h => by
    obtain ⟨ha1, ha2⟩ := List.pairwise_cons.1 h.apt
    have ih := grp_of gs ⟨fun g hg => h.run g (List.mem_cons_of_mem _ hg), fun g hg => h.dec g (List.mem_cons_of_mem _ hg), ha2⟩
    cases hg : g with
    | nil => subst hg; simp only [List.flatten_cons, List.nil_append, List.filter_cons, List.isEmpty_nil, Bool.not_true, Bool.false_eq_true, if_false]; exact ih
    | cons x t =>
      rw [hg] at h ha1
      rw [List.flatten_cons, grp_run (x :: t) _ (by simp) (h.run _ (List.mem_cons_self ..)) ?_, ih]
      · simp
      · intro y hy a ha
        have hm : y ∈ gs.flatten := List.mem_of_mem_head? hy
        obtain ⟨k, hk, hyk⟩ := List.mem_flatten.1 hm
        exact ha1 k hk a ha y hyk
/-! ### drop.keys -/
theorem rdE (l : List S23) (i : Nat) (h : i < l.length) : rd_T23 l (i : Int) = l[i] := rd_T23_nat l i h
theorem keys_l0 (m : Nat) : ∀ (l : List S23) (acc : List (List S23)), l.length ≤ m → acc.length + l.length < 1000000 → Ev (fun k => drop_keys.l0 k l acc) (acc ++ grp l) := by
  induction m with
  | zero =>
    intro l acc hm hl
    obtain rfl : l = [] := List.length_eq_zero_iff.1 (by omega)
    refine Ev.succ ?_
    simp only [drop_keys.l0]
    rw [grp, List.append_nil]
    exact Ev.ite_neg (by simp) (Ev.now _)
  | succ m ih =>
    intro l acc hm hl
    by_cases hp : 0 < l.length
    · have hrun : ∀ (d n : Nat), l.length - n = d → 1 ≤ n → n ≤ l.length → (∀ i (h : i < l.length), i < n → nm l[i] = nm l[0]) → Ev (fun k => drop_keys.l1 k l acc (n : Int)) (acc ++ grp l) := by
        intro d
        induction d with
        | zero =>
          intro n hd h1 hn hr
          obtain rfl : n = l.length := by omega
          have e : grp l = l :: grp [] := by
            have := grp_run l [] (by intro h; rw [h] at hp; simp at hp) ?_ (by simp)
            · rwa [List.append_nil] at this
            · intro x hx y hy
              obtain ⟨i, hi, rfl⟩ := List.mem_iff_getElem.1 hx
              obtain ⟨j, hj, rfl⟩ := List.mem_iff_getElem.1 hy
              rw [hr i hi hi, hr j hj hj]
          refine Ev.succ ?_
          simp only [drop_keys.l1, Int.toNat_natCast]
          refine Ev.ite_neg (by omega) (Ev.ite_pos (by omega) (Ev.ite_pos (by omega) (Ev.ite_pos (by omega) ?_)))
          rw [List.drop_length, List.take_length]
          have := ih [] (acc ++ [l]) (by simp) (by simp; omega)
          rw [e, show acc ++ l :: grp [] = acc ++ [l] ++ grp [] by simp]
          exact this
        | succ d ihd =>
          intro n hd h1 hn hr
          have hlt : n < l.length := by omega
          have en : wrap64 ((n : Int) + 1) = ((n + 1 : Nat) : Int) := by rw [wrap64_id (by omega) (by omega)]; omega
          refine Ev.succ ?_
          simp only [drop_keys.l1, en, rdE l n hlt, Int.toNat_natCast]
          rw [show rd_T23 l 0 = l[0] from rdE l 0 hp]
          refine Ev.ite_pos (by omega) (Ev.ite_pos (by omega) (Ev.ite_pos (by omega) ?_))
          by_cases c : l[n].f0.toList = l[0].f0.toList
          · refine Ev.ite_pos c (ihd (n + 1) (by omega) (by omega) (by omega) ?_)
            intro i h hi
            by_cases e : i = n
            · subst e; exact c
            · exact hr i h (by omega)
          · refine Ev.ite_neg c (Ev.ite_pos (by omega) (Ev.ite_pos (by omega) ?_))
            have e : grp l = l.take n :: grp (l.drop n) := by
              have hne : l.take n ≠ [] := by
                intro h0
                have := congrArg List.length h0
                rw [List.length_take] at this
                simp only [List.length_nil] at this
                omega
              have hq : ∀ x ∈ l.take n, nm x = nm l[0] := by
                intro x hx
                obtain ⟨i, hi, rfl⟩ := List.mem_iff_getElem.1 hx
                rw [List.length_take] at hi
                rw [List.getElem_take]
                exact hr i (by omega) (by omega)
              have := grp_run (l.take n) (l.drop n) hne (fun x hx y hy => (hq x hx).trans (hq y hy).symm) ?_
              · rwa [List.take_append_drop] at this
              · intro y hy x hx
                rw [List.head?_drop, List.getElem?_eq_getElem hlt] at hy
                rw [hq x hx, ← Option.some.inj hy]
                exact fun h => c h.symm
            have := ih (l.drop n) (acc ++ [l.take n]) (by rw [List.length_drop]; omega) (by simp only [List.length_append, List.length_singleton, List.length_drop]; omega)
            rw [e, show acc ++ l.take n :: grp (l.drop n) = acc ++ [l.take n] ++ grp (l.drop n) by simp]
            exact this
      refine Ev.succ ?_
      simp only [drop_keys.l0]
      refine Ev.ite_pos (by omega) (hrun (l.length - 1) 1 rfl (Nat.le_refl _) hp ?_)
      intro i h hi
      obtain rfl : i = 0 := by omega
      rfl
    · obtain rfl : l = [] := List.length_eq_zero_iff.1 (by omega)
      refine Ev.succ ?_
      simp only [drop_keys.l0]
      rw [grp, List.append_nil]
      exact Ev.ite_neg (by simp) (Ev.now _)
theorem keys_ev (l : List S23) (hl : l.length < 1000000) : Ev (fun k => drop_keys.f k l) (grp l) := by
  have := keys_l0 l.length l [] (Nat.le_refl _) (by simpa using hl)
  rw [List.nil_append] at this
  exact this
end Go.Proofs.Ytcijcfdllfaghaa.QDrp
