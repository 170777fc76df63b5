/- It is proved that the law DropCut of package incipitlaw23 returns true at every input: pieces of some size, one behind the other, of which no key is parted. No conditions. -/
import Derived.Test.YtcijcfdllfaghaaMDrpx0
import Derived.Test.YtcijcfdllfaghaaMDrpx10
import Derived.Test.YtcijcfdllfaghaaMDrpx5
import Derived.Test.YtcijcfdllfaghaaMDrpx9
import Derived.Test.YtcijcfdllfaghaaQDrpDrpRef
namespace Go.Proofs.Ytcijcfdllfaghaa.Pure
open Go.RowKit Go.Proofs.Ytcijcfdllfaghaa.MDrp Go.Proofs.Ytcijcfdllfaghaa.QDrp Go.Proofs.YtcijcfdllfaghaaW.PrintWords Go.Proofs.YtcijcfdllfaghaaW.PrintLast Go.Proofs.YtcijcfdllfaghaaW.PrintMore
set_option linter.unusedVariables false
set_option linter.unusedSimpArgs false
theorem cBegun_ev : Ev (fun k => incipitlaw23_begun.f k) true := Ev.of incipitlaw23_begun.mono (k := 12) (by decide +kernel)
def rcutL : S23 → List S23 → List (List S23) → List S23 → Int → List (List S23)
  | _, [], out, now, _ => if 0 < now.length then out ++ [now] else out
  | p, e :: t, out, now, n => if n ≥ 1500 ∧ ¬ nm e = nm p then rcutL e t (out ++ [now]) [e] (addE 0 e) else rcutL e t out (now ++ [e]) (addE n e)
def rcutF : List S23 → List (List S23)
  | [] => []
  | e :: t => rcutL e t [] [e] (addE 0 e)
theorem Weigh_add (x : S23) (n : Int) : ∃ t, incipitref12_Weigh.f x.f0 x.f1 x.f2 x.f3 x.f4 = some t ∧ wrap64 (n + t) = addE n x := ⟨_, rfl, rfl⟩
theorem rCut_l0 (l : List S23) (hl : l.length < 1000000) (d : Nat) : ∀ (i : Nat) (out : List (List S23)) (now : List S23) (n : Int), l.length - (i + 1) = d → (h : i < l.length) → out.length ≤ i + 1 → now.length ≤ i + 1 →
    Ev (fun k => incipitref12_Cut.l0 k l out now n ((i + 1 : Nat) : Int)) (rcutL l[i] (l.drop (i + 1)) out now n) := by
  induction d with
  | zero =>
    intro i out now n hd h ho hw
    refine Ev.succ ?_
    simp only [incipitref12_Cut.l0]
    rw [List.drop_eq_nil_of_le (by omega), rcutL]
    refine Ev.ite_neg (by omega) ?_
    by_cases c : 0 < now.length
    · rw [if_pos c]; exact Ev.ite_pos (by omega) (Ev.ite_pos (by omega) (Ev.now _))
    · rw [if_neg c]; exact Ev.ite_neg (by omega) (Ev.now _)
  | succ d ih =>
    intro i out now n hd h ho hw
    have hlt : i + 1 < l.length := by omega
    have en : wrap64 (((i + 1 : Nat) : Int) + 1) = ((i + 1 + 1 : Nat) : Int) := by rw [wrap64_id (by omega) (by omega)]; omega
    have ep : wrap64 (((i + 1 : Nat) : Int) - 1) = (i : Int) := by rw [wrap64_id (by omega) (by omega)]; omega
    obtain ⟨t, ht, ha⟩ := Weigh_add l[i + 1] n
    obtain ⟨t0, ht0, ha0⟩ := Weigh_add l[i + 1] 0
    obtain rfl : t = t0 := by rw [ht] at ht0; exact Option.some.inj ht0
    rw [List.drop_eq_getElem_cons hlt, rcutL]
    have more := ih (i + 1) out (now ++ [l[i + 1]]) (addE n l[i + 1]) (by omega) hlt (by omega) (by rw [List.length_append, List.length_singleton]; omega)
    refine Ev.succ ?_
    simp only [incipitref12_Cut.l0, en, ep, rdE l i h, rdE l (i + 1) hlt, ht, S23_eta, Option.bind_some, ha, ha0]
    refine Ev.ite_pos (by omega) ?_
    by_cases c : n ≥ 1500
    · refine Ev.ite_pos c (Ev.ite_pos (by omega) (Ev.ite_pos (by omega) (Ev.ite_pos (by omega) ?_)))
      by_cases c2 : l[i + 1].f0.toList = l[i].f0.toList
      · rw [if_neg (fun z => z.2 c2)]
        exact Ev.ite_pos c2 (Ev.ite_pos (by omega) more)
      · rw [if_pos ⟨c, c2⟩]
        have := ih (i + 1) (out ++ [now]) ([] ++ [l[i + 1]]) (addE 0 l[i + 1]) (by omega) hlt (by rw [List.length_append, List.length_singleton]; omega) (by simp)
        exact Ev.ite_neg c2 (Ev.ite_pos (by omega) (Ev.ite_pos (by simp) this))
    · rw [if_neg (fun z => c z.1)]
      exact Ev.ite_neg c (Ev.ite_pos (by omega) (Ev.ite_pos (by omega) more))
theorem rCut_ev (l : List S23) (hl : l.length < 1000000) : Ev (fun k => incipitref12_Cut.f k l) (rcutF l) := by
  unfold incipitref12_Cut.f
  cases l with
  | nil =>
    refine Ev.succ ?_
    simp only [incipitref12_Cut.l0]
    exact Ev.ite_neg (by simp) (Ev.ite_neg (by simp) (Ev.now _))
  | cons e t =>
    obtain ⟨u, hu, ha⟩ := Weigh_add e 0
    have e0 : wrap64 ((0 : Int) + 1) = ((0 + 1 : Nat) : Int) := by rw [wrap64_id (by omega) (by omega)]; rfl
    have := rCut_l0 (e :: t) hl t.length 0 [] ([] ++ [e]) (addE 0 e) (by simp) (by simp) (by simp) (by simp)
    refine Ev.succ ?_
    simp only [incipitref12_Cut.l0, e0, show rd_T23 (e :: t) 0 = e from rfl, hu, S23_eta, Option.bind_some, ha]
    exact Ev.ite_pos (by simp) (Ev.ite_neg (by omega) (Ev.ite_pos (by omega) (Ev.ite_pos (by simp) this)))
theorem rcutL_run : ∀ (t : List S23) (e : S23) (rest : List S23) (out : List (List S23)) (now : List S23) (n : Int), Run (e :: t) → rcutL e (t ++ rest) out now n = rcutL ((e :: t).getLast (by simp)) rest out (now ++ t) (sumE n t)
  | [], e, rest, out, now, n, _ => by rw [List.nil_append, List.append_nil]; rfl
  | x :: t, e, rest, out, now, n, h => by
    have ih := rcutL_run t x rest out (now ++ [x]) (addE n x) (fun a ha b hb => h a (List.mem_cons_of_mem _ ha) b (List.mem_cons_of_mem _ hb))
    rw [List.cons_append, rcutL, if_neg (fun z => z.2 (h x (by simp) e (by simp))), ih, List.append_assoc, List.singleton_append]
    rfl
theorem rcutL_runs : ∀ (gs : List (List S23)) (p : S23) (out : List (List S23)) (now : List S23) (n : Int), Runs gs → (∀ g ∈ gs, g ≠ []) → (∀ g ∈ gs, ∀ x ∈ g, nm p ≠ nm x) → 0 < now.length →
    rcutL p gs.flatten out now n = if n ≥ 1500 then cutR gs (out ++ [now]) [] 0 else cutR gs out now n
  | [], p, out, now, n, _, _, _, hw => by
    rw [List.flatten_nil, rcutL, if_pos hw, cutR, cutR, if_pos hw]
    simp
  | g :: gs, p, out, now, n, h, hne, hp, hw => by
    obtain ⟨ha1, ha2⟩ := List.pairwise_cons.1 h.apt
    cases hg : g with
    | nil => exact absurd hg (hne g (List.mem_cons_self ..))
    | cons e t =>
      rw [hg] at h hp ha1
      have hr := h.run _ (List.mem_cons_self ..)
      have hn : ¬ nm e = nm p := fun z => hp _ (List.mem_cons_self ..) e (by simp) z.symm
      have IH := fun out now n hw => rcutL_runs gs ((e :: t).getLast (by simp)) out now n ⟨fun g hg => h.run g (List.mem_cons_of_mem _ hg), fun g hg => h.dec g (List.mem_cons_of_mem _ hg), ha2⟩ (fun g hg => hne g (List.mem_cons_of_mem _ hg)) (fun k hk x hx => ha1 k hk _ (List.getLast_mem _) x hx) hw
      rw [List.flatten_cons, List.cons_append, rcutL]
      by_cases c : n ≥ 1500
      · rw [if_pos ⟨c, hn⟩, rcutL_run t e _ _ _ _ hr, IH _ _ _ (by simp), if_pos c, cutR]
        rfl
      · rw [if_neg (fun z => c z.1), rcutL_run t e _ _ _ _ hr, IH _ _ _ (by simp; omega), if_neg c, cutR]
        rw [List.append_assoc, List.singleton_append]
        rfl
theorem rcutF_runs (gs : List (List S23)) (h : Runs gs) (hne : ∀ g ∈ gs, g ≠ []) : rcutF gs.flatten = cutR gs [] [] 0 := by
  cases gs with
  | nil => rfl
  | cons g gs =>
    obtain ⟨ha1, ha2⟩ := List.pairwise_cons.1 h.apt
    cases hg : g with
    | nil => exact absurd hg (hne g (List.mem_cons_self ..))
    | cons e t =>
      rw [hg] at h ha1
      have hr := h.run _ (List.mem_cons_self ..)
      rw [List.flatten_cons, List.cons_append, rcutF, rcutL_run t e _ _ _ _ hr, rcutL_runs gs _ _ _ _ ⟨fun g hg => h.run g (List.mem_cons_of_mem _ hg), fun g hg => h.dec g (List.mem_cons_of_mem _ hg), ha2⟩ (fun g hg => hne g (List.mem_cons_of_mem _ hg)) (fun k hk x hx => ha1 k hk _ (List.getLast_mem _) x hx) (by simp), cutR]
      rfl
theorem cutR_ok : ∀ (gs out : List (List S23)) (piece : List S23) (size : Int), (∀ g ∈ gs, g ≠ []) → (∀ p ∈ out, p ≠ []) → (out ++ piece :: gs).Pairwise Apt → (∀ p ∈ cutR gs out piece size, p ≠ []) ∧ (cutR gs out piece size).Pairwise Apt
  | [], out, piece, size, _, ho, hp => by
    rw [cutR]
    by_cases c : 0 < piece.length
    · rw [if_pos c]
      refine ⟨fun p h => ?_, hp⟩
      rcases List.mem_append.1 h with h | h
      · exact ho p h
      · simp at h; subst h; intro z; rw [z] at c; simp at c
    · rw [if_neg c]
      exact ⟨ho, (List.pairwise_append.1 hp).1⟩
  | g :: gs, out, piece, size, hg, ho, hp => by
    obtain ⟨h1, h2, h3⟩ := List.pairwise_append.1 hp
    obtain ⟨h4, h5⟩ := List.pairwise_cons.1 h2
    obtain ⟨h6, h7⟩ := List.pairwise_cons.1 h5
    have hgn := hg g (List.mem_cons_self ..)
    have hgs : ∀ k ∈ gs, k ≠ [] := fun k hk => hg k (List.mem_cons_of_mem _ hk)
    have hj : ∀ a ∈ out, Apt a (piece ++ g) := by
      intro a ha x hx y hy
      rcases List.mem_append.1 hy with hy | hy
      · exact h3 a ha piece (by simp) x hx y hy
      · exact h3 a ha g (by simp) x hx y hy
    have hk : ∀ k ∈ gs, Apt (piece ++ g) k := by
      intro k hk x hx y hy
      rcases List.mem_append.1 hx with hx | hx
      · exact h4 k (List.mem_cons_of_mem _ hk) x hx y hy
      · exact h6 k hk x hx y hy
    rw [cutR]
    split
    · refine cutR_ok gs (out ++ [piece ++ g]) [] 0 hgs ?_ ?_
      · intro p h
        rcases List.mem_append.1 h with h | h
        · exact ho p h
        · simp only [List.mem_singleton] at h; subst h; simp [hgn]
      · refine List.pairwise_append.2 ⟨List.pairwise_append.2 ⟨h1, List.pairwise_singleton _ _, fun a ha b hb => ?_⟩, List.pairwise_cons.2 ⟨fun k _ x hx => (by cases hx), h7⟩, fun a ha b hb => ?_⟩
        · simp only [List.mem_singleton] at hb; subst hb; exact hj a ha
        · rcases List.mem_cons.1 hb with hb | hb
          · subst hb; intro x _ y hy; cases hy
          · rcases List.mem_append.1 ha with ha | ha
            · exact h3 a ha b (by simp [hb])
            · simp only [List.mem_singleton] at ha; subst ha; exact hk b hb
    · refine cutR_ok gs out (piece ++ g) _ hgs ho (List.pairwise_append.2 ⟨h1, List.pairwise_cons.2 ⟨hk, h7⟩, fun a ha b hb => ?_⟩)
      rcases List.mem_cons.1 hb with hb | hb
      · subst hb; exact hj a ha
      · exact h3 a ha b (by simp [hb])
theorem cutR_len : ∀ (gs out : List (List S23)) (piece : List S23) (size : Int), (cutR gs out piece size).length ≤ out.length + gs.length + 1
  | [], out, piece, size => by rw [cutR]; split <;> simp
  | g :: gs, out, piece, size => by
    rw [cutR]
    split
    · have := cutR_len gs (out ++ [piece ++ g]) [] 0; simp only [List.length_append, List.length_singleton, List.length_cons, List.length_nil] at this ⊢; omega
    · have := cutR_len gs out (piece ++ g) (sumE size g); simp only [List.length_cons]; omega
theorem cutR_flat : ∀ (gs out : List (List S23)) (piece : List S23) (size : Int), (cutR gs out piece size).flatten = out.flatten ++ piece ++ gs.flatten
  | [], out, piece, size => by
    rw [cutR]
    split
    · simp
    · rename_i c
      have : piece = [] := List.length_eq_zero_iff.1 (by omega)
      subst this; simp
  | g :: gs, out, piece, size => by
    rw [cutR]
    split
    · rw [cutR_flat]; simp
    · rw [cutR_flat]; simp
theorem cut_l1 (c : List (List S23)) (hc : c.length < 1000000) (hne : ∀ p ∈ c, p ≠ []) (hlen : ∀ p ∈ c, p.length < 1000000) (hp : c.Pairwise Apt) (n : Nat) : ∀ i : Nat, c.length - i = n → Ev (fun k => incipitlaw23_DropCut.l1 k c c (i : Int)) true := by
  induction n with
  | zero =>
    intro i hd
    refine Ev.succ ?_
    simp only [incipitlaw23_DropCut.l1]
    exact Ev.ite_neg (by omega) (Ev.now _)
  | succ n ih =>
    intro i hd
    have hlt : i < c.length := by omega
    have en : wrap64 ((i : Int) + 1) = ((i + 1 : Nat) : Int) := by rw [wrap64_id (by omega) (by omega)]; omega
    have next := ih (i + 1) (by omega)
    have hm := hlen c[i] (List.getElem_mem hlt)
    refine Ev.succ ?_
    simp only [incipitlaw23_DropCut.l1, en, rdL c i hlt]
    refine Ev.ite_pos (by omega) (Ev.ite_pos (by omega) (Ev.ite_pos (by omega) (Ev.bind (EqAll_ev rfl hm) (Ev.ite_pos rfl ?_))))
    cases i with
    | zero => exact Ev.ite_neg (by omega) next
    | succ j =>
      have hj : j < c.length := by omega
      have ep : wrap64 (((j + 1 : Nat) : Int) - 1) = (j : Int) := by rw [wrap64_id (by omega) (by omega)]; omega
      have hmj := hlen c[j] (List.getElem_mem hj)
      have h1 : 0 < c[j + 1].length := List.length_pos_iff.2 (hne _ (List.getElem_mem hlt))
      have h2 : 0 < c[j].length := List.length_pos_iff.2 (hne _ (List.getElem_mem hj))
      have el : wrap64 (((c[j].length : Nat) : Int) - 1) = ((c[j].length - 1 : Nat) : Int) := by rw [wrap64_id (by omega) (by omega)]; omega
      have hap := (List.pairwise_iff_getElem.1 hp) j (j + 1) hj hlt (by omega)
      simp only [ep, rdL c j hj, el]
      rw [show rd_T23 c[j + 1] 0 = c[j + 1][0] from rdE c[j + 1] 0 h1, rdE c[j] (c[j].length - 1) (by omega)]
      refine Ev.ite_pos (by omega) (Ev.ite_pos (by omega) (Ev.ite_pos (by omega) (Ev.ite_pos (by omega) (Ev.ite_pos (by omega) (Ev.ite_pos (by omega) (Ev.ite_neg ?_ next))))))
      exact fun z => hap c[j][c[j].length - 1] (List.getElem_mem _) c[j + 1][0] (List.getElem_mem _) z.symm
theorem cut_j2 (l : List S23) (hl : l.length < 100000) (hs : l.Pairwise srtR) : Ev (fun k => incipitlaw23_DropCut.j2 k l) true := by
  have hR := grp_runs l hs
  have hne := grp_ne l
  have hg := grp_len l
  have hsum := grp_lens l
  have hF := rcutF_runs (grp l) hR hne
  rw [grp_flat] at hF
  obtain ⟨o1, o2⟩ := cutR_ok (grp l) [] [] 0 hne (fun p h => by cases h) (List.pairwise_cons.2 ⟨fun k _ x hx => (by cases hx), hR.apt⟩)
  have hlen := cutR_len (grp l) [] [] 0
  have hfl := cutR_flat (grp l) [] [] 0
  rw [grp_flat] at hfl
  simp only [List.flatten_nil, List.nil_append, List.length_nil] at hfl hlen
  have hD : Ev (fun k => drop_Cut.f k l) (cutR (grp l) [] [] 0) := by
    unfold drop_Cut.f
    exact Ev.bind (keys_ev l (by omega)) (Ev.same (if_pos ⟨by omega, by omega⟩))
  have hr := rCut_ev l (by omega)
  rw [hF] at hr
  refine Ev.succ ?_
  simp only [incipitlaw23_DropCut.j2]
  refine Ev.bind hD (Ev.bind hr (Ev.ite_pos (by trivial) (cut_l1 _ (by omega) o1 (fun p hp => ?_) o2 _ 0 rfl)))
  have := len_le_sum hp
  rw [← List.length_flatten, hfl] at this
  omega
theorem set_srt {l : List S23} (hs : l.Pairwise srtR) (i : Nat) (h : i < l.length) (v : ByteArray) : (l.set i ⟨l[i].f0, l[i].f1, l[i].f2, l[i].f3, v⟩).Pairwise srtR := by
  rw [List.pairwise_iff_getElem] at hs ⊢
  have key : ∀ a (ha : a < l.length), ((l.set i ⟨l[i].f0, l[i].f1, l[i].f2, l[i].f3, v⟩)[a]'(by rw [List.length_set]; exact ha)).f0 = l[a].f0 ∧ ((l.set i ⟨l[i].f0, l[i].f1, l[i].f2, l[i].f3, v⟩)[a]'(by rw [List.length_set]; exact ha)).f1 = l[a].f1 ∧ ((l.set i ⟨l[i].f0, l[i].f1, l[i].f2, l[i].f3, v⟩)[a]'(by rw [List.length_set]; exact ha)).f2 = l[a].f2 := by
    intro a ha
    rw [List.getElem_set]
    by_cases c : i = a
    · subst c; rw [if_pos rfl]; exact ⟨rfl, rfl, rfl⟩
    · rw [if_neg c]; exact ⟨rfl, rfl, rfl⟩
  intro a b ha hb hab
  rw [List.length_set] at ha hb
  have := hs a b ha hb hab
  unfold srtR ltS at this ⊢
  rw [(key a ha).1, (key a ha).2.1, (key a ha).2.2, (key b hb).1, (key b hb).2.1, (key b hb).2.2]
  exact this
theorem cut_l0 (a : Int) (h0 : 0 ≤ a) (h1 : a < 3000) (n : Nat) : ∀ (i : Nat) (l : List S23), l.length + 3 - i ≤ n → l.length < 100000 → i < 100003 → l.Pairwise srtR → Ev (fun k => incipitlaw23_DropCut.l0 k l a (i : Int)) true := by
  induction n with
  | zero =>
    intro i l hd hl hi hs
    refine Ev.succ ?_
    simp only [incipitlaw23_DropCut.l0]
    exact Ev.ite_neg (by omega) (cut_j2 l hl hs)
  | succ n ih =>
    intro i l hd hl hi hs
    refine Ev.succ ?_
    by_cases c : i < l.length
    · have en : wrap64 ((i : Int) + 3) = ((i + 3 : Nat) : Int) := by rw [wrap64_id (by omega) (by omega)]; omega
      simp only [incipitlaw23_DropCut.l0, en, rdE l i c, Int.toNat_natCast]
      refine Ev.ite_pos (by omega) (Ev.ite_pos (by omega) ?_)
      by_cases c2 : l[i].f2 = 1
      · exact Ev.ite_pos c2 (Ev.ite_pos h0 (Ev.ite_pos (by omega) (ih (i + 3) _ (by rw [List.length_set]; omega) (by rw [List.length_set]; exact hl) (by omega) (set_srt hs i c _))))
      · exact Ev.ite_neg c2 (ih (i + 3) l (by omega) hl (by omega) hs)
    · simp only [incipitlaw23_DropCut.l0]
      exact Ev.ite_neg (by omega) (cut_j2 l hl hs)
theorem DropCut : ∀ l0 a1, (l0.length ≤ maxLen ∧ ∀ x ∈ l0, (x.f0.size ≤ maxLen ∧ (Lit.int .i64 x.f1).wf = true ∧ (Lit.int .i64 x.f2).wf = true ∧ x.f3.size ≤ maxLen ∧ x.f4.size ≤ maxLen)) → (Lit.int .i64 a1).wf = true → ∃ k, incipitlaw23_DropCut.f k l0 a1 = some true := by
  intro l0 a1 _ _
  refine Ev.rounds (g := fun k => incipitlaw23_DropCut.f k l0 a1) ?_
  obtain ⟨l, hS, hl, hs, hok⟩ := Sort_ev l0 60 (by omega)
  unfold incipitlaw23_DropCut.f
  refine Ev.bind cBegun_ev (Ev.ite_pos rfl (Ev.bind hS ?_))
  have no : Ev (fun k => incipitlaw23_DropCut.j0 k l a1 false) true := by
    refine Ev.succ ?_
    simp only [incipitlaw23_DropCut.j0]
    exact Ev.ite_neg (by simp) (cut_j2 l (by omega) hs)
  by_cases c : a1 ≥ 0
  · refine Ev.ite_pos c ?_
    by_cases c2 : a1 < 3000
    · rw [decide_eq_true c2]
      refine Ev.succ ?_
      simp only [incipitlaw23_DropCut.j0]
      exact Ev.ite_pos trivial (cut_l0 a1 c c2 _ 0 l (Nat.le_refl _) (by omega) (by omega) hs)
    · rw [decide_eq_false c2]; exact no
  · exact Ev.ite_neg c no
end Go.Proofs.Ytcijcfdllfaghaa.Pure
