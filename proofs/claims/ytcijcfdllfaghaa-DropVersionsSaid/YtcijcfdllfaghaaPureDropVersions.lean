/- It is proved that the law DropVersions of package incipitlaw23 returns true at every input: of a key's versions those stay that somebody sees. No conditions. -/
import Derived.Test.YtcijcfdllfaghaaMDrpx0
import Derived.Test.YtcijcfdllfaghaaMDrpx12
import Derived.Test.YtcijcfdllfaghaaMDrpx4
import Derived.Test.YtcijcfdllfaghaaMDrpx5
import Derived.Test.YtcijcfdllfaghaaQDrpDrpSpec
namespace Go.Proofs.Ytcijcfdllfaghaa.Pure
open Go.RowKit Go.Proofs.Ytcijcfdllfaghaa.MDrp Go.Proofs.Ytcijcfdllfaghaa.QDrp Go.Proofs.YtcijcfdllfaghaaW.PrintWords Go.Proofs.YtcijcfdllfaghaaW.PrintLast Go.Proofs.YtcijcfdllfaghaaW.PrintMore
set_option linter.unusedVariables false
set_option linter.unusedSimpArgs false
theorem dseen_one (s : List Int) (j : Int) : dseen s j (j + 1) = decide (j ∈ s) := by
  unfold dseen
  rw [Bool.eq_iff_iff, List.any_eq_true, decide_eq_true_iff]
  constructor
  · rintro ⟨n, hn, h⟩
    simp only [Bool.and_eq_true, decide_eq_true_eq] at h
    obtain rfl : n = j := by omega
    exact hn
  · intro h
    exact ⟨j, h, by simp; omega⟩
theorem runB_mk (s : List Int) : ∀ j : Nat, runB s (kE ((j : Int) + 1)) (mkE j) = (mkE j).filter (fun e => decide (e.f1 ∈ s))
  | 0 => rfl
  | j + 1 => by
    have ih := runB_mk s j
    have e1 : dseen s (kE ((j : Int) + 1)).f1 (kE (((j + 1 : Nat) : Int) + 1)).f1 = decide ((j : Int) + 1 ∈ s) := dseen_one s ((j : Int) + 1)
    rw [mkE, runB, ih, e1, List.filter_cons]
    by_cases c : (j : Int) + 1 ∈ s <;> simp [kE, c]
theorem mk_mem (x : Int) : ∀ j : Nat, x ∈ (mkE j).map (fun e => e.f1) ↔ 1 ≤ x ∧ x ≤ j
  | 0 => by simp [mkE]; omega
  | j + 1 => by
    rw [mkE, List.map_cons, List.mem_cons, mk_mem x j]
    show x = (j : Int) + 1 ∨ _ ↔ _
    omega
theorem mk_nodup : ∀ j : Nat, ((mkE j).map (fun e => e.f1)).Nodup
  | 0 => by simp [mkE]
  | j + 1 => by
    rw [mkE, List.map_cons, List.nodup_cons, mk_mem]
    refine ⟨?_, mk_nodup j⟩
    show ¬ (1 ≤ (j : Int) + 1 ∧ (j : Int) + 1 ≤ j)
    omega
theorem mk_kind : ∀ j : Nat, ∀ e ∈ mkE j, e.f2 = 1 ∧ nm e = nm (kE 0)
  | 0, e, h => by simp [mkE] at h
  | j + 1, e, h => by
    rw [mkE, List.mem_cons] at h
    rcases h with rfl | h
    · exact ⟨rfl, rfl⟩
    · exact mk_kind j e h
theorem vend_kind (s : List Int) (b : Bool) : ∀ g : List S23, (∀ e ∈ g, e.f2 = 1) → vend s b g = g
  | [], _ => rfl
  | [x], h => by rw [vend, if_neg (fun z => by have := h x (by simp); omega)]
  | x :: y :: t, h => by rw [vend, vend_kind s b (y :: t) (fun e he => h e (List.mem_cons_of_mem _ he))]
theorem want_mem (a x : Int) : ∀ (s L : List Int), x ∈ wantL a L s ↔ x ∈ L ∨ ∃ y ∈ s, 1 ≤ y ∧ x = (if a < y then a else y)
  | [], L => by simp [wantL]
  | y :: t, L => by
    rw [wantL, want_mem a x t]
    have e : x ∈ (if 1 ≤ y then putI L (if a < y then a else y) else L) ↔ x ∈ L ∨ (1 ≤ y ∧ x = (if a < y then a else y)) := by
      by_cases c : 1 ≤ y
      · rw [if_pos c]
        unfold putI
        generalize (if a < y then a else y) = z
        by_cases d : z ∈ L
        · rw [if_pos d]
          exact ⟨.inl, fun h => h.elim id (fun h => h.2 ▸ d)⟩
        · rw [if_neg d, List.mem_append, List.mem_singleton]
          exact ⟨fun h => h.imp id (fun h => ⟨c, h⟩), fun h => h.imp id (fun h => h.2)⟩
      · rw [if_neg c]
        exact ⟨.inl, fun h => h.elim id (fun h => absurd h.1 c)⟩
    rw [e]
    simp only [List.mem_cons, exists_eq_or_imp]
    exact ⟨fun h => h.elim (fun h => h.elim .inl (fun h => .inr (.inl h))) (fun h => .inr (.inr h)), fun h => h.elim (fun h => .inl (.inl h)) (fun h => h.elim (fun h => .inl (.inr h)) .inr)⟩
theorem want_nodup (a : Int) : ∀ (s L : List Int), L.Nodup → (wantL a L s).Nodup
  | [], L, h => h
  | y :: t, L, h => by
    rw [wantL]
    refine want_nodup a t _ ?_
    generalize (if a < y then a else y) = z
    by_cases c : 1 ≤ y
    · rw [if_pos c]
      unfold putI
      by_cases d : z ∈ L
      · rw [if_pos d]; exact h
      · rw [if_neg d]
        rw [List.nodup_append]
        refine ⟨h, by simp, ?_⟩
        intro u hu v hv
        rw [List.mem_singleton] at hv
        subst hv
        exact fun e => d (e ▸ hu)
    · rw [if_neg c]; exact h
theorem versions_end (m : Nat) (hm : m + 1 ≤ 40) (s : List Int) : let d := kE ((m : Int) + 1) :: (mkE m).filter (fun e => decide (e.f1 ∈ s)); let W := wantL ((m + 1 : Nat) : Int) [((m + 1 : Nat) : Int)] s;
    (d.all (okE W) && decide (d.length = W.length)) = true := by
  intro d W
  have hsub : d.Sublist (mkE (m + 1)) := by
    rw [mkE]
    exact List.Sublist.cons_cons _ List.filter_sublist
  have hnd : (d.map (fun e => e.f1)).Nodup := (mk_nodup (m + 1)).sublist (hsub.map _)
  have hW : W.Nodup := want_nodup _ _ _ (by simp)
  have hiff : ∀ x : Int, x ∈ d.map (fun e => e.f1) ↔ x ∈ W := by
    intro x
    have e1 : x ∈ d.map (fun e => e.f1) ↔ x = (m : Int) + 1 ∨ (x ∈ (mkE m).map (fun e => e.f1) ∧ x ∈ s) := by
      show x ∈ (kE ((m : Int) + 1) :: (mkE m).filter (fun e => decide (e.f1 ∈ s))).map (fun e => e.f1) ↔ _
      rw [List.map_cons, List.mem_cons]
      refine or_congr Iff.rfl ?_
      simp only [List.mem_map, List.mem_filter, decide_eq_true_eq]
      exact ⟨fun ⟨e, h, he⟩ => ⟨⟨e, h.1, he⟩, he ▸ h.2⟩, fun ⟨⟨e, h, he⟩, hx⟩ => ⟨e, ⟨h, he ▸ hx⟩, he⟩⟩
    rw [e1, mk_mem, want_mem, List.mem_singleton]
    constructor
    · rintro (h | ⟨h, hx⟩)
      · exact .inl (by omega)
      · exact .inr ⟨x, hx, h.1, by rw [if_neg (by omega)]⟩
    · rintro (h | ⟨y, hy, h1, h2⟩)
      · exact .inl (by omega)
      · by_cases c : ((m + 1 : Nat) : Int) < y
        · rw [if_pos c] at h2; exact .inl (by omega)
        · rw [if_neg c] at h2
          subst h2
          by_cases c2 : x = (m : Int) + 1
          · exact .inl c2
          · exact .inr ⟨by omega, hy⟩
  rw [Bool.and_eq_true]
  refine ⟨List.all_eq_true.2 fun e he => ?_, decide_eq_true ?_⟩
  · have h1 := (hiff e.f1).1 (List.mem_map.2 ⟨e, he, rfl⟩)
    have h2 := (mk_mem e.f1 (m + 1)).1 (List.mem_map.2 ⟨e, hsub.subset he, rfl⟩)
    exact decide_eq_true ⟨h2.1, by omega, h1⟩
  · have := ((List.perm_ext_iff_of_nodup hnd hW).2 hiff).length_eq
    rwa [List.length_map] at this
theorem mk_srt : ∀ j : Nat, (mkE j).Pairwise srtR
  | 0 => List.Pairwise.nil
  | j + 1 => by
    rw [mkE]
    refine List.pairwise_cons.2 ⟨?_, mk_srt j⟩
    intro e he
    have h1 := (mk_mem e.f1 j).1 (List.mem_map.2 ⟨e, he, rfl⟩)
    have h2 := (mk_kind j e he).2
    unfold srtR
    refine ⟨?_, fun z => ?_⟩
    · unfold ltS lt3
      rw [if_pos (by rw [show e.f0.toList = nm e from rfl, h2]; rfl), if_neg (show ¬ ((kE ((j : Int) + 1)).f1 = e.f1) from fun z => by have z' : (j : Int) + 1 = e.f1 := z; omega)]
      exact decide_eq_true (show (j : Int) + 1 > e.f1 by omega)
    · have : (j : Int) + 1 = e.f1 := z.2
      omega
theorem vBegun_ev : Ev (fun k => incipitlaw23_begun.f k) true := Ev.of incipitlaw23_begun.mono (k := 12) (by decide +kernel)
theorem cut_some (l : List Int) : ∃ s, incipitlaw23_cut.f l = some s := by
  unfold incipitlaw23_cut.f
  split
  · rw [if_pos (by omega)]; exact ⟨_, rfl⟩
  · exact ⟨_, rfl⟩
theorem mk_entries (m : Nat) (hm : m + 1 ≤ 40) (s : List Int) : Ev (fun k => drop_Entries.f k (mkE (m + 1)) s true) (kE ((m : Int) + 1) :: (mkE m).filter (fun e => decide (e.f1 ∈ s))) := by
  have h := Entries_ev (mkE (m + 1)) s true (by rw [mkE_len]; omega) (mk_srt _)
  have hg : grp (mkE (m + 1)) = [mkE (m + 1)] := by
    have := grp_run (mkE (m + 1)) [] (by simp [mkE]) (fun x hx y hy => by rw [(mk_kind _ x hx).2, (mk_kind _ y hy).2]) (fun y hy => by cases hy)
    rwa [List.append_nil] at this
  rw [hg, List.flatMap_cons, List.flatMap_nil, List.append_nil] at h
  unfold stay at h
  have hr : runA s (mkE (m + 1)) = kE ((m : Int) + 1) :: (mkE m).filter (fun e => decide (e.f1 ∈ s)) := by
    rw [mkE, runA, runB_mk]
  rw [hr, vend_kind s true _ ?_] at h
  · exact h
  · intro e he
    rcases List.mem_cons.1 he with rfl | he
    · rfl
    · exact (mk_kind m e (List.filter_sublist.subset he)).1
theorem DropVersions_ev (a0 : Int) (l1 : List Int) : Ev (fun k => incipitlaw23_DropVersions.f k a0 l1) true := by
  unfold incipitlaw23_DropVersions.f
  refine Ev.bind vBegun_ev (Ev.ite_pos rfl ?_)
  by_cases c1 : a0 < 1
  · exact Ev.ite_pos c1 (Ev.now _)
  refine Ev.ite_neg c1 ?_
  by_cases c2 : 40 < a0
  · exact Ev.ite_pos c2 (Ev.now _)
  refine Ev.ite_neg c2 ?_
  obtain ⟨s, hs⟩ := cut_some l1
  obtain ⟨m, rfl⟩ : ∃ m : Nat, a0 = ((m + 1 : Nat) : Int) := ⟨(a0 - 1).toNat, by omega⟩
  rw [hs]
  simp only [Option.bind_some, Int.toNat_natCast]
  have hv := versions_end m (by omega) s
  refine Ev.bind (mk_entries m (by omega) s) ?_
  simp only at hv
  rw [hv]
  exact Ev.now _
theorem DropVersions : incipitlaw23_DropVersions.Pure := fun a0 l1 => Ev.rounds (g := fun k => incipitlaw23_DropVersions.f k a0 l1) (DropVersions_ev a0 l1)
end Go.Proofs.Ytcijcfdllfaghaa.Pure
