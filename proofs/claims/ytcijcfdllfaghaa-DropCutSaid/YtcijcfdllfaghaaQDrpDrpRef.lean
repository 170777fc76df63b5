/- The reference's Drop and Seen come to what drop's Entries and Seen do. -/
import Derived.Test.YtcijcfdllfaghaaMDrpx0
import Derived.Test.YtcijcfdllfaghaaMDrpx4
import Derived.Test.YtcijcfdllfaghaaMDrpx5
import Derived.Test.YtcijcfdllfaghaaMDrpx6
import Derived.Test.YtcijcfdllfaghaaMDrpx7
import Derived.Test.YtcijcfdllfaghaaMDrpx8
import Derived.Test.YtcijcfdllfaghaaQDrpDrpSpec
namespace Go.Proofs.Ytcijcfdllfaghaa.QDrp
open Go.RowKit Go.Proofs.Ytcijcfdllfaghaa.MDrp Go.Proofs.Ytcijcfdllfaghaa.QDrp Go.Proofs.YtcijcfdllfaghaaW.PrintWords Go.Proofs.YtcijcfdllfaghaaW.PrintLast Go.Proofs.YtcijcfdllfaghaaW.PrintMore
set_option linter.unusedVariables false
set_option linter.unusedSimpArgs false
theorem between_l0 (snaps : List Int) (a b : Int) (hl : snaps.length < 1000000) (d : Nat) : ∀ i : Nat, snaps.length - i = d → Ev (fun k => incipitref12_between.l0 k snaps a b (i : Int)) (dseen (snaps.drop i) a b) := by
  induction d with
  | zero =>
    intro i hd
    refine Ev.succ ?_
    simp only [incipitref12_between.l0]
    rw [List.drop_eq_nil_of_le (by omega)]
    exact Ev.ite_neg (by omega) (Ev.now _)
  | succ d ih =>
    intro i hd
    have hlt : i < snaps.length := by omega
    have en : wrap64 ((i : Int) + 1) = ((i + 1 : Nat) : Int) := by rw [wrap64_id (by omega) (by omega)]; omega
    refine Ev.succ ?_
    simp only [incipitref12_between.l0, en, rd_nat]
    rw [List.drop_eq_getElem_cons hlt, show snaps.getD i 0 = snaps[i] by rw [List.getD_eq_getElem?_getD, List.getElem?_eq_getElem hlt]; rfl]
    have e : dseen (snaps[i] :: snaps.drop (i + 1)) a b = ((decide (a ≤ snaps[i]) && decide (snaps[i] < b)) || dseen (snaps.drop (i + 1)) a b) := rfl
    rw [e]
    refine Ev.ite_pos (by omega) (Ev.ite_pos (by omega) ?_)
    by_cases c1 : snaps[i] ≥ a
    · rw [decide_eq_true (show a ≤ snaps[i] from c1)]
      refine Ev.ite_pos c1 ?_
      by_cases c2 : snaps[i] < b
      · rw [decide_eq_true c2]; exact Ev.ite_pos c2 (Ev.now _)
      · rw [decide_eq_false c2]; exact Ev.ite_neg c2 (ih (i + 1) (by omega))
    · rw [decide_eq_false (show ¬ a ≤ snaps[i] from c1)]; exact Ev.ite_neg c1 (ih (i + 1) (by omega))
theorem between_ev (snaps : List Int) (a b : Int) (hl : snaps.length < 1000000) : Ev (fun k => incipitref12_between.f k snaps a b) (dseen snaps a b) := between_l0 snaps a b hl snaps.length 0 rfl
theorem below_l0 (snaps : List Int) (a : Int) (hl : snaps.length < 1000000) (d : Nat) : ∀ i : Nat, snaps.length - i = d → Ev (fun k => incipitref12_below.l0 k snaps a (i : Int)) (below (snaps.drop i) a) := by
  induction d with
  | zero =>
    intro i hd
    refine Ev.succ ?_
    simp only [incipitref12_below.l0]
    rw [List.drop_eq_nil_of_le (by omega)]
    exact Ev.ite_neg (by omega) (Ev.now _)
  | succ d ih =>
    intro i hd
    have hlt : i < snaps.length := by omega
    have en : wrap64 ((i : Int) + 1) = ((i + 1 : Nat) : Int) := by rw [wrap64_id (by omega) (by omega)]; omega
    refine Ev.succ ?_
    simp only [incipitref12_below.l0, en, rd_nat]
    rw [List.drop_eq_getElem_cons hlt, show snaps.getD i 0 = snaps[i] by rw [List.getD_eq_getElem?_getD, List.getElem?_eq_getElem hlt]; rfl]
    have e : below (snaps[i] :: snaps.drop (i + 1)) a = (decide (snaps[i] < a) || below (snaps.drop (i + 1)) a) := rfl
    rw [e]
    refine Ev.ite_pos (by omega) (Ev.ite_pos (by omega) ?_)
    by_cases c1 : snaps[i] < a
    · rw [decide_eq_true c1]; exact Ev.ite_pos c1 (Ev.now _)
    · rw [decide_eq_false c1]; exact Ev.ite_neg c1 (ih (i + 1) (by omega))
theorem below_ev (snaps : List Int) (a : Int) (hl : snaps.length < 1000000) : Ev (fun k => incipitref12_below.f k snaps a) (below snaps a) := below_l0 snaps a hl snaps.length 0 rfl
def dropA (snaps : List Int) : S23 → List S23 → List S23
  | _, [] => []
  | p, e :: t => (if nm p = nm e then (if dseen snaps e.f1 p.f1 = true then [e] else []) else [e]) ++ dropA snaps e t
def dropF (snaps : List Int) : List S23 → List S23
  | [] => []
  | e :: t => e :: dropA snaps e t
def dropB (snaps : List Int) : List S23 → List S23
  | [] => []
  | [x] => if x.f2 = 0 ∧ below snaps x.f1 = false then [] else [x]
  | x :: y :: t => (if nm y = nm x then [x] else (if x.f2 = 0 ∧ below snaps x.f1 = false then [] else [x])) ++ dropB snaps (y :: t)
theorem S23_eta (x : S23) : (⟨x.f0, x.f1, x.f2, x.f3, x.f4⟩ : S23) = x := rfl
theorem Drop_l1 (snaps : List Int) (out : List S23) (hn : snaps.length < 1000000) (hl : out.length < 1000000) (d : Nat) : ∀ (i : Nat) (acc : List S23), out.length - i = d → acc.length ≤ i → Ev (fun k => incipitref12_Drop.l1 k snaps out acc (i : Int)) (acc ++ dropB snaps (out.drop i)) := by
  induction d with
  | zero =>
    intro i acc hd ha
    refine Ev.succ ?_
    simp only [incipitref12_Drop.l1]
    rw [List.drop_eq_nil_of_le (by omega), dropB, List.append_nil]
    exact Ev.ite_neg (by omega) (Ev.now _)
  | succ d ih =>
    intro i acc hd ha
    have hlt : i < out.length := by omega
    have en : wrap64 ((i : Int) + 1) = ((i + 1 : Nat) : Int) := by rw [wrap64_id (by omega) (by omega)]; omega
    have yes : ∀ {r}, acc ++ [out[i]] ++ dropB snaps (out.drop (i + 1)) = r → Ev (fun k => incipitref12_Drop.l1 k snaps out (acc ++ [out[i]]) ((i + 1 : Nat) : Int)) r := by
      intro r h
      rw [← h]
      exact ih (i + 1) _ (by omega) (by rw [List.length_append, List.length_singleton]; omega)
    have no := ih (i + 1) acc (by omega) (by omega)
    refine Ev.succ ?_
    simp only [incipitref12_Drop.l1, en, rdE out i hlt, S23_eta]
    refine Ev.ite_pos (by omega) ?_
    by_cases c : i + 1 < out.length
    · rw [List.drop_eq_getElem_cons hlt]
      have e1 : out.drop (i + 1) = out[i + 1] :: out.drop (i + 1 + 1) := List.drop_eq_getElem_cons c
      have eB : dropB snaps (out[i] :: out.drop (i + 1)) = (if nm out[i + 1] = nm out[i] then [out[i]] else (if out[i].f2 = 0 ∧ below snaps out[i].f1 = false then [] else [out[i]])) ++ dropB snaps (out.drop (i + 1)) := by
        rw [e1, dropB]
      rw [eB]
      simp only [rdE out (i + 1) c]
      refine Ev.ite_neg (by omega) (Ev.ite_pos (by omega) (Ev.ite_pos (by omega) (Ev.ite_pos (by omega) ?_)))
      by_cases c1 : out[i + 1].f0.toList = out[i].f0.toList
      · rw [if_pos (show nm out[i + 1] = nm out[i] from c1)]
        exact Ev.ite_pos c1 (Ev.ite_pos (by omega) (yes (by simp)))
      · rw [if_neg (show ¬ nm out[i + 1] = nm out[i] from c1)]
        refine Ev.ite_neg c1 ?_
        by_cases c2 : out[i].f2 = 0
        · refine Ev.ite_pos c2 (Ev.bind (below_ev snaps out[i].f1 hn) ?_)
          cases below snaps out[i].f1 with
          | true => rw [if_neg (by simp)]; exact Ev.ite_pos rfl (Ev.ite_pos (by omega) (yes (by simp)))
          | false => rw [if_pos ⟨c2, rfl⟩, List.nil_append]; exact Ev.ite_neg (by simp) no
        · rw [if_neg (fun h => c2 h.1)]
          exact Ev.ite_neg c2 (Ev.ite_pos (by omega) (yes (by simp)))
    · have e1 : out.drop i = [out[i]] := by
        rw [List.drop_eq_getElem_cons hlt, List.drop_eq_nil_of_le (by omega)]
      have e2 : out.drop (i + 1) = [] := List.drop_eq_nil_of_le (by omega)
      rw [e2] at no yes
      rw [dropB] at no yes
      rw [e1, dropB]
      refine Ev.ite_pos (by omega) (Ev.ite_pos (by omega) ?_)
      by_cases c2 : out[i].f2 = 0
      · refine Ev.ite_pos c2 (Ev.bind (below_ev snaps out[i].f1 hn) ?_)
        cases below snaps out[i].f1 with
        | true => rw [if_neg (by simp)]; exact Ev.ite_pos rfl (Ev.ite_pos (by omega) (yes (by simp)))
        | false => rw [if_pos ⟨c2, rfl⟩]; exact Ev.ite_neg (by simp) no
      · rw [if_neg (fun h => c2 h.1)]
        exact Ev.ite_neg c2 (Ev.ite_pos (by omega) (yes (by simp)))
theorem Drop_l0 (l : List S23) (snaps : List Int) (bottom : Bool) (R : List S23) (hn : snaps.length < 1000000) (hl : l.length < 1000000) (d : Nat) : ∀ (i : Nat) (acc : List S23), l.length - (i + 1) = d → (h : i < l.length) → acc.length ≤ i + 1 →
    Ev (fun k => if bottom = true then incipitref12_Drop.l1 k snaps (acc ++ dropA snaps l[i] (l.drop (i + 1))) [] 0 else some (acc ++ dropA snaps l[i] (l.drop (i + 1)))) R → Ev (fun k => incipitref12_Drop.l0 k l snaps bottom acc ((i + 1 : Nat) : Int)) R := by
  induction d with
  | zero =>
    intro i acc hd h ha hR
    rw [List.drop_eq_nil_of_le (by omega), dropA, List.append_nil] at hR
    refine Ev.succ ?_
    simp only [incipitref12_Drop.l0]
    exact Ev.ite_neg (by omega) hR
  | succ d ih =>
    intro i acc hd h ha hR
    have hlt : i + 1 < l.length := by omega
    have en : wrap64 (((i + 1 : Nat) : Int) + 1) = ((i + 1 + 1 : Nat) : Int) := by rw [wrap64_id (by omega) (by omega)]; omega
    have ep : wrap64 (((i + 1 : Nat) : Int) - 1) = (i : Int) := by rw [wrap64_id (by omega) (by omega)]; omega
    rw [List.drop_eq_getElem_cons hlt, dropA] at hR
    refine Ev.succ ?_
    simp only [incipitref12_Drop.l0, en, ep, rdE l i h, rdE l (i + 1) hlt, S23_eta]
    refine Ev.ite_pos (by omega) (Ev.ite_pos (by omega) (Ev.ite_pos (by omega) (Ev.ite_pos (by omega) (Ev.ite_pos (by omega) ?_))))
    have yes : Ev (fun k => if bottom = true then incipitref12_Drop.l1 k snaps (acc ++ ([l[i + 1]] ++ dropA snaps l[i + 1] (l.drop (i + 1 + 1)))) [] 0 else some (acc ++ ([l[i + 1]] ++ dropA snaps l[i + 1] (l.drop (i + 1 + 1))))) R → Ev (fun k => incipitref12_Drop.l0 k l snaps bottom (acc ++ [l[i + 1]]) ((i + 1 + 1 : Nat) : Int)) R := by
      intro h2
      rw [← List.append_assoc] at h2
      exact ih (i + 1) _ (by omega) hlt (by rw [List.length_append, List.length_singleton]; omega) h2
    by_cases c : l[i].f0.toList = l[i + 1].f0.toList
    · rw [if_pos (show nm l[i] = nm l[i + 1] from c)] at hR
      refine Ev.ite_pos c (Ev.bind (between_ev snaps _ _ hn) ?_)
      cases hb : dseen snaps l[i + 1].f1 l[i].f1 with
      | true =>
        rw [hb, if_pos rfl] at hR
        exact Ev.ite_pos rfl (Ev.ite_pos (by omega) (yes hR))
      | false =>
        rw [hb, if_neg (by simp), List.nil_append] at hR
        exact Ev.ite_neg (by simp) (ih (i + 1) acc (by omega) hlt (by omega) hR)
    · rw [if_neg (show ¬ nm l[i] = nm l[i + 1] from c)] at hR
      exact Ev.ite_neg c (Ev.ite_pos (by omega) (yes hR))
theorem rDrop_ev (l : List S23) (snaps : List Int) (bottom : Bool) (hn : snaps.length < 1000000) (hl : l.length < 1000000) (hd : (dropF snaps l).length < 1000000) : Ev (fun k => incipitref12_Drop.f k l snaps bottom) (if bottom = true then dropB snaps (dropF snaps l) else dropF snaps l) := by
  have hfin : Ev (fun k => if bottom = true then incipitref12_Drop.l1 k snaps (dropF snaps l) [] 0 else some (dropF snaps l)) (if bottom = true then dropB snaps (dropF snaps l) else dropF snaps l) := by
    cases bottom with
    | true =>
      have := Drop_l1 snaps (dropF snaps l) hn hd (dropF snaps l).length 0 [] rfl (by simp)
      rw [List.drop_zero, List.nil_append] at this
      simpa using this
    | false => simpa using Ev.now (dropF snaps l)
  unfold incipitref12_Drop.f
  cases l with
  | nil =>
    refine Ev.succ ?_
    simp only [incipitref12_Drop.l0]
    exact Ev.ite_neg (by simp) hfin
  | cons e t =>
    refine Ev.succ ?_
    have e0 : wrap64 ((0 : Int) + 1) = ((0 + 1 : Nat) : Int) := by rw [wrap64_id (by omega) (by omega)]; rfl
    simp only [incipitref12_Drop.l0, e0, show rd_T23 (e :: t) 0 = e from rfl, S23_eta]
    refine Ev.ite_pos (by simp) (Ev.ite_neg (by omega) (Ev.ite_pos (by omega) (Ev.ite_pos (by simp) ?_)))
    refine Drop_l0 (e :: t) snaps bottom _ hn hl t.length 0 ([] ++ [e]) (by simp) (by simp) (by simp) ?_
    exact hfin
/-! ### by runs -/
theorem dropA_run (snaps : List Int) : ∀ (t : List S23) (e : S23) (rest : List S23), Run (e :: t) → dropA snaps e (t ++ rest) = runB snaps e t ++ dropA snaps ((e :: t).getLast (by simp)) rest
  | [], e, rest, _ => rfl
  | x :: t, e, rest, h => by
    have ih := dropA_run snaps t x rest (fun a ha b hb => h a (List.mem_cons_of_mem _ ha) b (List.mem_cons_of_mem _ hb))
    rw [List.cons_append, dropA, ih, runB, if_pos (h e (by simp) x (by simp)), List.append_assoc]
    rfl
theorem dropA_runs (snaps : List Int) : ∀ (gs : List (List S23)) (p : S23), Runs gs → (∀ g ∈ gs, g ≠ []) → (∀ g ∈ gs, ∀ x ∈ g, nm p ≠ nm x) → dropA snaps p gs.flatten = gs.flatMap (runA snaps)
  | [], p, _, _, _ => rfl
  | g :: gs, p, h, hne, hp => by
    obtain ⟨ha1, ha2⟩ := List.pairwise_cons.1 h.apt
    cases hg : g with
    | nil => exact absurd hg (hne g (List.mem_cons_self ..))
    | cons e t =>
      rw [hg] at h hp ha1
      have hr := h.run _ (List.mem_cons_self ..)
      have ih := dropA_runs snaps gs ((e :: t).getLast (by simp)) ⟨fun g hg => h.run g (List.mem_cons_of_mem _ hg), fun g hg => h.dec g (List.mem_cons_of_mem _ hg), ha2⟩ (fun g hg => hne g (List.mem_cons_of_mem _ hg)) (fun k hk x hx => ha1 k hk _ (List.getLast_mem _) x hx)
      rw [List.flatten_cons, List.cons_append, dropA, if_neg (hp _ (List.mem_cons_self ..) e (by simp)), dropA_run snaps t e _ hr, ih, List.flatMap_cons]
      rfl
theorem dropF_runs (snaps : List Int) (gs : List (List S23)) (h : Runs gs) (hne : ∀ g ∈ gs, g ≠ []) : dropF snaps gs.flatten = gs.flatMap (runA snaps) := by
  cases gs with
  | nil => rfl
  | cons g gs =>
    obtain ⟨ha1, ha2⟩ := List.pairwise_cons.1 h.apt
    cases hg : g with
    | nil => exact absurd hg (hne g (List.mem_cons_self ..))
    | cons e t =>
      rw [hg] at h ha1
      have hr := h.run _ (List.mem_cons_self ..)
      have := dropA_runs snaps gs ((e :: t).getLast (by simp)) ⟨fun g hg => h.run g (List.mem_cons_of_mem _ hg), fun g hg => h.dec g (List.mem_cons_of_mem _ hg), ha2⟩ (fun g hg => hne g (List.mem_cons_of_mem _ hg)) (fun k hk x hx => ha1 k hk _ (List.getLast_mem _) x hx)
      rw [List.flatten_cons, List.cons_append, dropF, dropA_run snaps t e _ hr, this, List.flatMap_cons]
      rfl
theorem dropB_run (snaps : List Int) : ∀ (g rest : List S23), g ≠ [] → Run g → (∀ y, rest.head? = some y → ∀ x ∈ g, nm x ≠ nm y) → dropB snaps (g ++ rest) = vend snaps true g ++ dropB snaps rest
  | [], rest, h, _, _ => absurd rfl h
  | [x], rest, _, _, hs => by
    cases rest with
    | nil => rw [List.append_nil, dropB, dropB, vend, List.append_nil]; simp
    | cons y t =>
      show dropB snaps (x :: y :: t) = _
      rw [dropB, if_neg (fun h => hs y rfl x (by simp) h.symm), vend]
      simp
  | x :: y :: g, rest, _, hr, hs => by
    have ih := dropB_run snaps (y :: g) rest (by simp) (fun a ha b hb => hr a (List.mem_cons_of_mem _ ha) b (List.mem_cons_of_mem _ hb)) (fun z hz a ha => hs z hz a (List.mem_cons_of_mem _ ha))
    show dropB snaps (x :: y :: (g ++ rest)) = _
    rw [dropB, if_pos (hr y (by simp) x (by simp)), vend]
    rw [List.cons_append] at ih
    rw [ih]; rfl
theorem dropB_runs (snaps : List Int) : ∀ gs : List (List S23), Runs gs → (∀ g ∈ gs, g ≠ []) → dropB snaps gs.flatten = gs.flatMap (vend snaps true)
  | [], _, _ => rfl
  | g :: gs, h, hne => by
    obtain ⟨ha1, ha2⟩ := List.pairwise_cons.1 h.apt
    have ih := dropB_runs snaps gs ⟨fun g hg => h.run g (List.mem_cons_of_mem _ hg), fun g hg => h.dec g (List.mem_cons_of_mem _ hg), ha2⟩ (fun g hg => hne g (List.mem_cons_of_mem _ hg))
    rw [List.flatten_cons, dropB_run snaps g _ (hne g (List.mem_cons_self ..)) (h.run g (List.mem_cons_self ..)) ?_, ih, List.flatMap_cons]
    intro y hy a ha
    have hm : y ∈ gs.flatten := List.mem_of_mem_head? hy
    obtain ⟨k, hk, hyk⟩ := List.mem_flatten.1 hm
    exact ha1 k hk a ha y hyk
theorem vend_false (snaps : List Int) : ∀ g : List S23, vend snaps false g = g
  | [] => rfl
  | [x] => by rw [vend, if_neg (by simp)]
  | x :: y :: t => by rw [vend, vend_false snaps (y :: t)]
theorem flat_len {f : List S23 → List S23} : ∀ gs : List (List S23), (∀ g ∈ gs, (f g).length ≤ g.length) → (gs.flatMap f).length ≤ gs.flatten.length
  | [], _ => Nat.le_refl _
  | g :: gs, h => by
    rw [List.flatMap_cons, List.flatten_cons, List.length_append, List.length_append]
    have := flat_len gs (fun k hk => h k (List.mem_cons_of_mem _ hk))
    have := h g (List.mem_cons_self ..)
    omega
theorem Drop_ev (l : List S23) (snaps : List Int) (bottom : Bool) (hl : l.length < 100000) (hn : snaps.length < 100000) (hs : l.Pairwise srtR) : Ev (fun k => incipitref12_Drop.f k l snaps bottom) ((grp l).flatMap (stay snaps bottom)) := by
  have hR := grp_runs l hs
  have hne := grp_ne l
  have hF := dropF_runs snaps (grp l) hR hne
  rw [grp_flat] at hF
  have hlen : (dropF snaps l).length ≤ l.length := by
    rw [hF]
    have := flat_len (f := runA snaps) (grp l) (fun g _ => (runA_sub snaps g).length_le)
    rwa [grp_flat] at this
  have := rDrop_ev l snaps bottom (by omega) (by omega) (by omega)
  cases bottom with
  | false =>
    rw [if_neg (by simp), hF] at this
    have e : stay snaps false = runA snaps := by funext g; exact vend_false snaps _
    rw [e]; exact this
  | true =>
    rw [if_pos rfl, hF] at this
    have e : (grp l).flatMap (runA snaps) = ((grp l).map (runA snaps)).flatten := by rw [List.flatMap_def]
    have hR2 := hR.map (runA snaps) (fun g _ => runA_sub snaps g)
    have hne2 : ∀ g ∈ (grp l).map (runA snaps), g ≠ [] := by
      intro g hg
      obtain ⟨g0, h0, rfl⟩ := List.mem_map.1 hg
      cases hg0 : g0 with
      | nil => exact absurd hg0 (hne g0 h0)
      | cons x t => simp [runA]
    rw [e, dropB_runs snaps _ hR2 hne2, List.flatMap_map] at this
    exact this
/-! ### Seen -/
def seenA (s : Int) : S23 → List S23 → List S23
  | _, [] => []
  | p, e :: t => (if e.f1 ≤ s ∧ (nm p = nm e → p.f1 > s) ∧ e.f2 = 1 then [e] else []) ++ seenA s e t
def seenF (s : Int) : List S23 → List S23
  | [] => []
  | e :: t => (if e.f1 ≤ s ∧ e.f2 = 1 then [e] else []) ++ seenA s e t
theorem rSeen_l0 (l : List S23) (s : Int) (hl : l.length < 1000000) (d : Nat) : ∀ (i : Nat) (acc : List S23), l.length - (i + 1) = d → (h : i < l.length) → acc.length ≤ i + 1 →
    Ev (fun k => incipitref12_Seen.l0 k l s acc ((i + 1 : Nat) : Int)) (acc ++ seenA s l[i] (l.drop (i + 1))) := by
  induction d with
  | zero =>
    intro i acc hd h ha
    refine Ev.succ ?_
    simp only [incipitref12_Seen.l0]
    rw [List.drop_eq_nil_of_le (by omega), seenA, List.append_nil]
    exact Ev.ite_neg (by omega) (Ev.now _)
  | succ d ih =>
    intro i acc hd h ha
    have hlt : i + 1 < l.length := by omega
    have en : wrap64 (((i + 1 : Nat) : Int) + 1) = ((i + 1 + 1 : Nat) : Int) := by rw [wrap64_id (by omega) (by omega)]; omega
    have ep : wrap64 (((i + 1 : Nat) : Int) - 1) = (i : Int) := by rw [wrap64_id (by omega) (by omega)]; omega
    rw [List.drop_eq_getElem_cons hlt, seenA]
    have yes : Ev (fun k => incipitref12_Seen.l0 k l s (acc ++ [l[i + 1]]) ((i + 1 + 1 : Nat) : Int)) (acc ++ ([l[i + 1]] ++ seenA s l[i + 1] (l.drop (i + 1 + 1)))) := by
      rw [← List.append_assoc]
      exact ih (i + 1) _ (by omega) hlt (by rw [List.length_append, List.length_singleton]; omega)
    have no : Ev (fun k => incipitref12_Seen.l0 k l s acc ((i + 1 + 1 : Nat) : Int)) (acc ++ ([] ++ seenA s l[i + 1] (l.drop (i + 1 + 1)))) := by
      rw [List.nil_append]
      exact ih (i + 1) acc (by omega) hlt (by omega)
    refine Ev.succ ?_
    simp only [incipitref12_Seen.l0, en, ep, rdE l i h, rdE l (i + 1) hlt, S23_eta]
    refine Ev.ite_pos (by omega) (Ev.ite_pos (by omega) ?_)
    by_cases c1 : l[i + 1].f1 ≤ s
    · refine Ev.ite_pos c1 (Ev.ite_neg (by omega) (Ev.ite_pos (by omega) (Ev.ite_pos (by omega) ?_)))
      by_cases c2 : l[i].f0.toList = l[i + 1].f0.toList
      · refine Ev.ite_pos c2 ?_
        by_cases c3 : l[i].f1 > s
        · refine Ev.ite_pos c3 ?_
          by_cases c4 : l[i + 1].f2 = 1
          · rw [if_pos ⟨c1, fun _ => c3, c4⟩]; exact Ev.ite_pos c4 (Ev.ite_pos (by omega) yes)
          · rw [if_neg (fun z => c4 z.2.2)]; exact Ev.ite_neg c4 no
        · rw [if_neg (fun z => c3 (z.2.1 c2))]; exact Ev.ite_neg c3 no
      · refine Ev.ite_neg c2 ?_
        by_cases c4 : l[i + 1].f2 = 1
        · rw [if_pos ⟨c1, fun z => absurd z c2, c4⟩]; exact Ev.ite_pos c4 (Ev.ite_pos (by omega) yes)
        · rw [if_neg (fun z => c4 z.2.2)]; exact Ev.ite_neg c4 no
    · rw [if_neg (fun z => c1 z.1)]; exact Ev.ite_neg c1 no
theorem rSeen_ev (l : List S23) (s : Int) (hl : l.length < 1000000) : Ev (fun k => incipitref12_Seen.f k l s) (seenF s l) := by
  unfold incipitref12_Seen.f
  cases l with
  | nil =>
    refine Ev.succ ?_
    simp only [incipitref12_Seen.l0]
    exact Ev.ite_neg (by simp) (Ev.now _)
  | cons e t =>
    refine Ev.succ ?_
    have e0 : wrap64 ((0 : Int) + 1) = ((0 + 1 : Nat) : Int) := by rw [wrap64_id (by omega) (by omega)]; rfl
    have go : ∀ acc : List S23, acc.length ≤ 1 → Ev (fun k => incipitref12_Seen.l0 k (e :: t) s acc ((0 + 1 : Nat) : Int)) (acc ++ seenA s e t) := by
      intro acc ha
      exact rSeen_l0 (e :: t) s hl t.length 0 acc (by simp) (by simp) (by omega)
    simp only [incipitref12_Seen.l0, e0, show rd_T23 (e :: t) 0 = e from rfl, S23_eta]
    refine Ev.ite_pos (by simp) (Ev.ite_pos (by omega) ?_)
    rw [seenF]
    by_cases c1 : e.f1 ≤ s
    · refine Ev.ite_pos c1 (Ev.ite_pos trivial ?_)
      by_cases c2 : e.f2 = 1
      · rw [if_pos ⟨c1, c2⟩]; exact Ev.ite_pos c2 (Ev.ite_pos (by simp) (go ([] ++ [e]) (by simp)))
      · rw [if_neg (fun z => c2 z.2)]; exact Ev.ite_neg c2 (go [] (by simp))
    · rw [if_neg (fun z => c1 z.1)]; exact Ev.ite_neg c1 (go [] (by simp))
theorem seenG_cons (s : Int) (e : S23) (t : List S23) : seenG s (e :: t) = (if e.f1 ≤ s ∧ e.f2 = 1 then [e] else []) ++ (if e.f1 ≤ s then [] else seenG s t) := by
  unfold seenG
  rw [List.find?_cons]
  by_cases c : e.f1 ≤ s
  · simp [c]
  · simp [c]
theorem seenA_run (s : Int) : ∀ (t : List S23) (e : S23) (rest : List S23), Run (e :: t) → Dec (e :: t) → seenA s e (t ++ rest) = (if e.f1 ≤ s then [] else seenG s t) ++ seenA s ((e :: t).getLast (by simp)) rest
  | [], e, rest, _, _ => by
    rw [List.nil_append, List.getLast_singleton]
    split <;> rfl
  | x :: t, e, rest, h, hd => by
    obtain ⟨h1, h2⟩ := List.pairwise_cons.1 hd
    have hex := h1 x (by simp)
    have ih := seenA_run s t x rest (fun a ha b hb => h a (List.mem_cons_of_mem _ ha) b (List.mem_cons_of_mem _ hb)) h2
    rw [List.cons_append, seenA, ih, seenG_cons, ← List.append_assoc]
    have el : (e :: x :: t).getLast (by simp) = (x :: t).getLast (by simp) := rfl
    rw [el]
    congr 1
    have hn : nm e = nm x := h e (by simp) x (by simp)
    by_cases c : e.f1 ≤ s
    · rw [if_pos c, if_neg (fun z => by have := z.2.1 hn; omega), if_pos (by omega)]; rfl
    · rw [if_neg c]
      congr 1
      by_cases c2 : x.f1 ≤ s ∧ x.f2 = 1
      · rw [if_pos c2, if_pos ⟨c2.1, fun _ => by omega, c2.2⟩]
      · rw [if_neg c2, if_neg (fun z => c2 ⟨z.1, z.2.2⟩)]
theorem seenA_runs (s : Int) : ∀ (gs : List (List S23)) (p : S23), Runs gs → (∀ g ∈ gs, g ≠ []) → (∀ g ∈ gs, ∀ x ∈ g, nm p ≠ nm x) → seenA s p gs.flatten = gs.flatMap (seenG s)
  | [], p, _, _, _ => rfl
  | g :: gs, p, h, hne, hp => by
    obtain ⟨ha1, ha2⟩ := List.pairwise_cons.1 h.apt
    cases hg : g with
    | nil => exact absurd hg (hne g (List.mem_cons_self ..))
    | cons e t =>
      rw [hg] at h hp ha1
      have ih := seenA_runs s gs ((e :: t).getLast (by simp)) ⟨fun g hg => h.run g (List.mem_cons_of_mem _ hg), fun g hg => h.dec g (List.mem_cons_of_mem _ hg), ha2⟩ (fun g hg => hne g (List.mem_cons_of_mem _ hg)) (fun k hk x hx => ha1 k hk _ (List.getLast_mem _) x hx)
      have hn := hp _ (List.mem_cons_self ..) e (by simp)
      rw [List.flatten_cons, List.cons_append, seenA, seenA_run s t e _ (h.run _ (List.mem_cons_self ..)) (h.dec _ (List.mem_cons_self ..)), ih, List.flatMap_cons, seenG_cons, List.append_assoc]
      congr 1
      by_cases c2 : e.f1 ≤ s ∧ e.f2 = 1
      · rw [if_pos c2, if_pos ⟨c2.1, fun z => absurd z hn, c2.2⟩]
      · rw [if_neg c2, if_neg (fun z => c2 ⟨z.1, z.2.2⟩)]
theorem seenF_runs (s : Int) (gs : List (List S23)) (h : Runs gs) (hne : ∀ g ∈ gs, g ≠ []) : seenF s gs.flatten = gs.flatMap (seenG s) := by
  cases gs with
  | nil => rfl
  | cons g gs =>
    obtain ⟨ha1, ha2⟩ := List.pairwise_cons.1 h.apt
    cases hg : g with
    | nil => exact absurd hg (hne g (List.mem_cons_self ..))
    | cons e t =>
      rw [hg] at h ha1
      have ih := seenA_runs s gs ((e :: t).getLast (by simp)) ⟨fun g hg => h.run g (List.mem_cons_of_mem _ hg), fun g hg => h.dec g (List.mem_cons_of_mem _ hg), ha2⟩ (fun g hg => hne g (List.mem_cons_of_mem _ hg)) (fun k hk x hx => ha1 k hk _ (List.getLast_mem _) x hx)
      rw [List.flatten_cons, List.cons_append, seenF, seenA_run s t e _ (h.run _ (List.mem_cons_self ..)) (h.dec _ (List.mem_cons_self ..)), ih, List.flatMap_cons, seenG_cons, List.append_assoc]
theorem rSeenG_ev (l : List S23) (s : Int) (hl : l.length < 100000) (hs : l.Pairwise srtR) : Ev (fun k => incipitref12_Seen.f k l s) ((grp l).flatMap (seenG s)) := by
  have := rSeen_ev l s (by omega)
  have h := seenF_runs s (grp l) (grp_runs l hs) (grp_ne l)
  rw [grp_flat] at h
  rwa [h] at this
/-! ### EqAll -/
theorem Eq_refl (x : S23) : incipitref12_Eq.f x.f0 x.f1 x.f2 x.f3 x.f4 x.f0 x.f1 x.f2 x.f3 x.f4 = some true := by
  unfold incipitref12_Eq.f
  simp
theorem EqAll_l0 (l : List S23) (hl : l.length < 1000000) (d : Nat) : ∀ i : Nat, l.length - i = d → Ev (fun k => incipitref12_EqAll.l0 k l l (i : Int)) true := by
  induction d with
  | zero =>
    intro i hd
    refine Ev.succ ?_
    simp only [incipitref12_EqAll.l0]
    exact Ev.ite_neg (by omega) (Ev.now _)
  | succ d ih =>
    intro i hd
    have en : wrap64 ((i : Int) + 1) = ((i + 1 : Nat) : Int) := by rw [wrap64_id (by omega) (by omega)]; omega
    refine Ev.succ ?_
    simp only [incipitref12_EqAll.l0, en, Eq_refl, Option.bind_some]
    exact Ev.ite_pos (by omega) (Ev.ite_pos (by omega) (Ev.ite_pos (by omega) (Ev.ite_pos (by simp) (ih (i + 1) (by omega)))))
theorem EqAll_ev {l m : List S23} (e : l = m) (hl : l.length < 1000000) : Ev (fun k => incipitref12_EqAll.f k l m) true := by
  subst e
  unfold incipitref12_EqAll.f
  exact Ev.ite_pos rfl (EqAll_l0 l hl l.length 0 rfl)
theorem cut_ev (l : List Int) : ∃ m, incipitlaw23_cut.f l = some m ∧ m.length ≤ 12 := by
  unfold incipitlaw23_cut.f
  by_cases c : (l.length : Int) > 12
  · rw [if_pos c, if_pos (by omega)]; exact ⟨_, rfl, by rw [List.length_take]; omega⟩
  · rw [if_neg c]; exact ⟨_, rfl, by omega⟩
end Go.Proofs.Ytcijcfdllfaghaa.QDrp
