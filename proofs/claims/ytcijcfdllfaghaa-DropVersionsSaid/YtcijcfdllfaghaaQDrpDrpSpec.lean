/- What stays of entries: drop.Entries, drop.Seen and the reference's Drop, Seen. -/
import Derived.Test.YtcijcfdllfaghaaMDrpx0
import Derived.Test.YtcijcfdllfaghaaMDrpx4
import Derived.Test.YtcijcfdllfaghaaMDrpx5
import Derived.Test.YtcijcfdllfaghaaQDrpDrpRuns
namespace Go.Proofs.Ytcijcfdllfaghaa.QDrp
open Go.RowKit Go.Proofs.Ytcijcfdllfaghaa.MDrp Go.Proofs.Ytcijcfdllfaghaa.QDrp Go.Proofs.YtcijcfdllfaghaaW.PrintWords Go.Proofs.YtcijcfdllfaghaaW.PrintLast Go.Proofs.YtcijcfdllfaghaaW.PrintMore
set_option linter.unusedVariables false
set_option linter.unusedSimpArgs false
theorem fm_congr {α β : Type} {f g : α → List β} : ∀ l : List α, (∀ a ∈ l, f a = g a) → l.flatMap f = l.flatMap g
  | [], _ => rfl
  | a :: t, h => by rw [List.flatMap_cons, List.flatMap_cons, h a (List.mem_cons_self ..), fm_congr t (fun b hb => h b (List.mem_cons_of_mem _ hb))]
theorem dseen_up {snaps : List Int} {a b c : Int} (h : dseen snaps a b = true) (hbc : b ≤ c) : dseen snaps a c = true := by
  unfold dseen at h ⊢
  rw [List.any_eq_true] at h ⊢
  obtain ⟨n, hn, h⟩ := h
  simp only [Bool.and_eq_true, decide_eq_true_eq] at h ⊢
  exact ⟨n, hn, h.1, by omega⟩
/-- What stays of a run behind an entry. -/
def runB (snaps : List Int) (p : S23) : List S23 → List S23
  | [] => []
  | e :: t => (if dseen snaps e.f1 p.f1 = true then [e] else []) ++ runB snaps e t
def runA (snaps : List Int) : List S23 → List S23
  | [] => []
  | e :: t => e :: runB snaps e t
theorem versR_runB (snaps : List Int) : ∀ (t pre : List S23) (p : S23), Dec (pre ++ p :: t) → versR snaps (pre ++ [p]) t = runB snaps p t
  | [], pre, p, _ => rfl
  | e :: t, pre, p, h => by
    have h' : Dec ((pre ++ [p]) ++ e :: t) := by simpa using h
    have ih := versR_runB snaps t (pre ++ [p]) e h'
    rw [versR, runB, ih]
    congr 1
    obtain ⟨h1, h2, h3⟩ := List.pairwise_append.1 h'
    have hpe : p.f1 > e.f1 := h3 p (by simp) e (by simp)
    obtain ⟨h4, h5, h6⟩ := List.pairwise_append.1 h1
    cases hd : dseen snaps e.f1 p.f1 with
    | true =>
      rw [if_neg, if_pos rfl]
      rw [Bool.not_eq_true, List.any_eq_false]
      intro x hx
      have hxp : p.f1 ≤ x.f1 := by
        rcases List.mem_append.1 hx with hx | hx
        · have := h6 x hx p (by simp); omega
        · simp at hx; rw [hx]; exact Int.le_refl _
      rw [dseen_up hd hxp]; simp
    | false =>
      rw [if_pos, if_neg (by simp)]
      rw [List.any_eq_true]
      exact ⟨p, by simp, by simp only [Bool.and_eq_true, decide_eq_true_eq]; exact ⟨hpe, by rw [hd]; rfl⟩⟩
theorem versR_runA (snaps : List Int) (g : List S23) (h : Dec g) : versR snaps [] g = runA snaps g := by
  cases g with
  | nil => rfl
  | cons e t =>
    have := versR_runB snaps t [] e h
    rw [List.nil_append] at this
    rw [versR, List.nil_append, this]
    rfl
def below (snaps : List Int) (a : Int) : Bool := snaps.any (fun s => decide (s < a))
/-- What the end of a run loses. -/
def vend (snaps : List Int) (bottom : Bool) : List S23 → List S23
  | [] => []
  | [x] => if bottom = true ∧ x.f2 = 0 ∧ below snaps x.f1 = false then [] else [x]
  | x :: y :: t => x :: vend snaps bottom (y :: t)
theorem vend_ne (snaps : List Int) (bottom : Bool) : ∀ (x : S23) (t : List S23), vend snaps bottom (x :: t) = if bottom = true ∧ ((x :: t).getD t.length z23).f2 = 0 ∧ below snaps ((x :: t).getD t.length z23).f1 = false then (x :: t).take t.length else x :: t
  | x, [] => rfl
  | x, y :: t => by
    have ih := vend_ne snaps bottom y t
    rw [vend, ih]
    have e : (x :: y :: t).getD (y :: t).length z23 = (y :: t).getD t.length z23 := rfl
    rw [e]
    split
    · rfl
    · rfl
theorem versEnd_vend (snaps : List Int) (bottom : Bool) (g : List S23) : versEnd snaps bottom g = vend snaps bottom g := by
  cases g with
  | nil => unfold versEnd; simp [vend]
  | cons x t =>
    rw [vend_ne]
    unfold versEnd
    have e : (x :: t).length - 1 = t.length := by simp
    rw [e]
    cases bottom with
    | false => simp
    | true =>
      rw [if_pos rfl, if_pos (by simp)]
      by_cases c : ((x :: t).getD t.length z23).f2 = 0
      · rw [if_pos c]
        have eb : snaps.any (fun s => decide (s < ((x :: t).getD t.length z23).f1)) = below snaps ((x :: t).getD t.length z23).f1 := rfl
        rw [eb]
        cases below snaps ((x :: t).getD t.length z23).f1 with
        | true => rw [if_pos rfl, if_neg (by simp)]
        | false => rw [if_neg (by simp), if_pos ⟨rfl, c, rfl⟩]
      · rw [if_neg c, if_neg (fun h => c h.2.1)]
def stay (snaps : List Int) (bottom : Bool) (g : List S23) : List S23 := vend snaps bottom (runA snaps g)
theorem runB_sub (snaps : List Int) : ∀ (t : List S23) (p : S23), (runB snaps p t).Sublist t
  | [], p => List.Sublist.slnil
  | e :: t, p => by
    unfold runB
    split
    · exact (runB_sub snaps t e).cons_cons e
    · rw [List.nil_append]; exact (runB_sub snaps t e).cons e
theorem runA_sub (snaps : List Int) (g : List S23) : (runA snaps g).Sublist g := by
  cases g with
  | nil => exact List.Sublist.slnil
  | cons e t => exact (runB_sub snaps t e).cons_cons e
theorem vend_sub (snaps : List Int) (bottom : Bool) : ∀ g : List S23, (vend snaps bottom g).Sublist g
  | [] => List.Sublist.slnil
  | [x] => by
    unfold vend
    split
    · exact List.nil_sublist _
    · exact List.Sublist.refl _
  | x :: y :: t => (vend_sub snaps bottom (y :: t)).cons_cons x
theorem stay_sub (snaps : List Int) (bottom : Bool) (g : List S23) : (stay snaps bottom g).Sublist g := (vend_sub _ _ _).trans (runA_sub _ _)
theorem Runs.map {gs : List (List S23)} (h : Runs gs) (f : List S23 → List S23) (hf : ∀ g ∈ gs, (f g).Sublist g) : Runs (gs.map f) := by
  refine ⟨fun g hg => ?_, fun g hg => ?_, ?_⟩
  · obtain ⟨g0, h0, rfl⟩ := List.mem_map.1 hg
    exact fun x hx y hy => h.run g0 h0 x ((hf g0 h0).subset hx) y ((hf g0 h0).subset hy)
  · obtain ⟨g0, h0, rfl⟩ := List.mem_map.1 hg
    exact (h.dec g0 h0).sublist (hf g0 h0)
  · rw [List.pairwise_map]
    refine List.Pairwise.imp_of_mem ?_ h.apt
    intro a b ha hb hab x hx y hy
    exact hab x ((hf a ha).subset hx) y ((hf b hb).subset hy)
/-! ### drop.Entries -/
theorem rdL (l : List (List S23)) (i : Nat) (h : i < l.length) : rd_L3 l (i : Int) = l[i] := by
  unfold rd_L3; rw [Int.toNat_natCast, List.getD_eq_getElem?_getD, List.getElem?_eq_getElem h]; rfl
theorem len_le_sum {gs : List (List S23)} {g : List S23} (h : g ∈ gs) : g.length ≤ (gs.map List.length).sum := by
  induction gs with
  | nil => cases h
  | cons a t ih =>
    rw [List.map_cons, List.sum_cons]
    rcases List.mem_cons.1 h with h | h
    · subst h; omega
    · have := ih h; omega
theorem versEnd_len (snaps : List Int) (bottom : Bool) (g : List S23) (h : Dec g) : (versEnd snaps bottom (versR snaps [] g)).length ≤ g.length := by
  rw [versEnd_vend, versR_runA snaps g h]; exact (stay_sub snaps bottom g).length_le
theorem Entries_l0 (snaps : List Int) (bottom : Bool) (gs : List (List S23)) (hd : ∀ g ∈ gs, Dec g) (hl : gs.length < 1000000) (hs : (gs.map List.length).sum < 1000000) (d : Nat) : ∀ (i : Nat) (acc : List S23), gs.length - i = d → acc.length + ((gs.drop i).map List.length).sum < 1000000 →
    Ev (fun k => drop_Entries.l0 k snaps bottom acc gs (gs.length : Int) (i : Int)) (acc ++ (gs.drop i).flatMap (stay snaps bottom)) := by
  induction d with
  | zero =>
    intro i acc hi ha
    refine Ev.succ ?_
    simp only [drop_Entries.l0]
    rw [List.drop_eq_nil_of_le (by omega), List.flatMap_nil, List.append_nil]
    exact Ev.ite_neg (by omega) (Ev.now _)
  | succ d ih =>
    intro i acc hi ha
    have hlt : i < gs.length := by omega
    have en : wrap64 ((i : Int) + 1) = ((i + 1 : Nat) : Int) := by rw [wrap64_id (by omega) (by omega)]; omega
    have hm : gs[i] ∈ gs := List.getElem_mem hlt
    have hle := len_le_sum hm
    have hdd := hd _ hm
    have hvl := versEnd_len snaps bottom gs[i] hdd
    have e : versEnd snaps bottom (versR snaps [] gs[i]) = stay snaps bottom gs[i] := by rw [versEnd_vend, versR_runA snaps _ hdd]; rfl
    rw [List.drop_eq_getElem_cons hlt, List.map_cons, List.sum_cons] at ha
    rw [List.drop_eq_getElem_cons hlt, List.flatMap_cons, ← List.append_assoc]
    refine Ev.succ ?_
    simp only [drop_Entries.l0, en, rdL gs i hlt]
    refine Ev.ite_pos (by omega) (Ev.ite_pos (by omega) (Ev.ite_pos (by omega) (Ev.bind (a := stay snaps bottom gs[i]) ?_ (Ev.ite_pos ?_ (ih (i + 1) _ (by omega) ?_)))))
    · refine Ev.same ?_
      unfold drop_versions.f
      rw [if_pos (by omega), e]
    · rw [← e]; omega
    · rw [List.length_append, ← e]; omega
theorem Entries_ev (l : List S23) (snaps : List Int) (bottom : Bool) (hl : l.length < 100000) (hs : l.Pairwise srtR) : Ev (fun k => drop_Entries.f k l snaps bottom) ((grp l).flatMap (stay snaps bottom)) := by
  unfold drop_Entries.f
  refine Ev.bind (keys_ev l (by omega)) ?_
  have hg := grp_len l
  have hsum := grp_lens l
  have := Entries_l0 snaps bottom (grp l) (grp_runs l hs).dec (by omega) (by omega) (grp l).length 0 [] rfl (by rw [List.drop_zero]; simp only [List.length_nil]; omega)
  rw [List.drop_zero, List.nil_append] at this
  exact this
/-! ### drop.Seen -/
def seenG (s : Int) (g : List S23) : List S23 := match g.find? (fun x => decide (x.f1 ≤ s)) with
  | some e => if e.f2 = 1 then [e] else []
  | none => []
theorem idxB_find (p : S23 → Bool) : ∀ (g : List S23) (i : Int), (g.find? p = none ∧ idxB p g i = -1) ∨ ∃ j, ∃ h : j < g.length, g.find? p = some g[j] ∧ idxB p g i = i + j
  | [], i => .inl ⟨rfl, rfl⟩
  | x :: t, i => by
    cases hp : p x with
    | true =>
      right
      refine ⟨0, by simp, by simp [hp], ?_⟩
      unfold idxB
      rw [hp]; simp
    | false =>
      rcases idxB_find p t (i + 1) with ⟨h1, h2⟩ | ⟨j, h, h1, h2⟩
      · left
        refine ⟨by rw [List.find?_cons, hp]; exact h1, ?_⟩
        unfold idxB; rw [hp]; simpa using h2
      · right
        refine ⟨j + 1, by simpa using h, by rw [List.find?_cons, hp]; exact h1, ?_⟩
        unfold idxB; rw [hp]
        simp only [Bool.false_eq_true, if_false, h2]
        omega
theorem seenStep_G (s : Int) (g : List S23) : seenStep s g = seenG s g := by
  unfold seenStep seenG
  rcases idxB_find (fun x : S23 => decide (x.f1 ≤ s)) g 0 with ⟨h1, h2⟩ | ⟨j, h, h1, h2⟩
  · rw [h1, h2, if_neg (by omega)]
  · rw [h1, h2, Int.zero_add, if_pos (by omega), rdE g j h]
theorem Seen_ev (l : List S23) (s : Int) (hl : l.length < 100000) : Ev (fun k => drop_Seen.f k l s) ((grp l).flatMap (seenG s)) := by
  unfold drop_Seen.f
  refine Ev.bind (keys_ev l (by omega)) (Ev.same ?_)
  have := grp_len l
  rw [if_pos (by omega)]
  congr 1
  exact fm_congr _ (fun g _ => seenStep_G s g)
theorem seenG_nil (s : Int) : seenG s [] = [] := rfl
theorem flat_ne (s : Int) : ∀ gs : List (List S23), (gs.filter (fun g => !g.isEmpty)).flatMap (seenG s) = gs.flatMap (seenG s)
  | [] => rfl
  | g :: t => by
    cases g with
    | nil => simp only [List.filter_cons, List.isEmpty_nil, Bool.not_true, Bool.false_eq_true, if_false, List.flatMap_cons, seenG_nil, List.nil_append]; exact flat_ne s t
    | cons x u => simp only [List.filter_cons, List.isEmpty_cons, Bool.not_false, if_true, List.flatMap_cons]; rw [flat_ne s t]
/-- What a number sees is what it saw. -/
theorem stay_seen {snaps : List Int} {s : Int} (bottom : Bool) (g : List S23) (hd : Dec g) (hs : s ∈ snaps ∨ ∀ x ∈ g, x.f1 ≤ s) : seenG s (stay snaps bottom g) = seenG s g := by
  -- behind an entry that is above s
  have hB : ∀ (t : List S23) (p : S23), s ∈ snaps → Dec (p :: t) → p.f1 > s → (runB snaps p t).find? (fun x => decide (x.f1 ≤ s)) = t.find? (fun x => decide (x.f1 ≤ s)) := by
    intro t
    induction t with
    | nil => intro p _ _ _; rfl
    | cons e t ih =>
      intro p hm hdp hp
      obtain ⟨h1, h2⟩ := List.pairwise_cons.1 hdp
      by_cases c : e.f1 ≤ s
      · have : dseen snaps e.f1 p.f1 = true := by
          unfold dseen
          rw [List.any_eq_true]
          exact ⟨s, hm, by simp only [Bool.and_eq_true, decide_eq_true_eq]; omega⟩
        rw [runB, if_pos this]
        simp [c]
      · have := ih e hm h2 (by omega)
        rw [runB]
        split
        · rw [List.singleton_append, List.find?_cons, List.find?_cons, this]
        · rw [List.nil_append, List.find?_cons, this]
          simp [c]
  have hA : (runA snaps g).find? (fun x => decide (x.f1 ≤ s)) = g.find? (fun x => decide (x.f1 ≤ s)) := by
    cases g with
    | nil => rfl
    | cons e t =>
      rw [runA, List.find?_cons, List.find?_cons]
      by_cases c : e.f1 ≤ s
      · simp [c]
      · simp only [c, decide_false]
        rcases hs with hs | hs
        · exact hB t e hs hd (by omega)
        · exact absurd (hs e (by simp)) c
  have hdA : Dec (runA snaps g) := hd.sublist (runA_sub snaps g)
  have hsA : s ∈ snaps ∨ ∀ x ∈ runA snaps g, x.f1 ≤ s := by
    rcases hs with hs | hs
    · exact .inl hs
    · exact .inr fun x hx => hs x ((runA_sub snaps g).subset hx)
  have hV : ∀ h : List S23, Dec h → seenG s (vend snaps bottom h) = seenG s h := by
    intro h
    induction h with
    | nil => intro _; rfl
    | cons x t ih =>
      intro hdh
      obtain ⟨h1, h2⟩ := List.pairwise_cons.1 hdh
      cases t with
      | nil =>
        unfold vend
        split
        · rename_i c
          unfold seenG
          rw [List.find?_nil, List.find?_cons]
          by_cases c2 : x.f1 ≤ s
          · simp [c2, c.2.1]
          · simp [c2]
        · rfl
      | cons y u =>
        have := ih h2
        rw [vend]
        unfold seenG at this ⊢
        rw [List.find?_cons, List.find?_cons]
        by_cases c : x.f1 ≤ s
        · simp [c]
        · simp only [c, decide_false]; exact this
  unfold stay
  rw [hV _ hdA]
  unfold seenG
  rw [hA]
end Go.Proofs.Ytcijcfdllfaghaa.QDrp
