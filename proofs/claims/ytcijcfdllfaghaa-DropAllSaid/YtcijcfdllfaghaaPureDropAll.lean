/- It is proved that the law DropAll of package incipitlaw23 returns true at every input: what goes is what the document says, and nobody's view is changed by it. No conditions. -/
import Derived.Test.YtcijcfdllfaghaaMDrpx0
import Derived.Test.YtcijcfdllfaghaaMDrpx5
import Derived.Test.YtcijcfdllfaghaaMDrpx9
import Derived.Test.YtcijcfdllfaghaaQDrpDrpRef
namespace Go.Proofs.Ytcijcfdllfaghaa.Pure
open Go.RowKit Go.Proofs.Ytcijcfdllfaghaa.MDrp Go.Proofs.Ytcijcfdllfaghaa.QDrp Go.Proofs.YtcijcfdllfaghaaW.PrintWords Go.Proofs.YtcijcfdllfaghaaW.PrintLast Go.Proofs.YtcijcfdllfaghaaW.PrintMore
set_option linter.unusedVariables false
set_option linter.unusedSimpArgs false
theorem aBegun_ev : Ev (fun k => incipitlaw23_begun.f k) true := Ev.of incipitlaw23_begun.mono (k := 12) (by decide +kernel)
theorem all_l0 (l d : List S23) (snaps : List Int) (hn : snaps.length < 1000) (hv : ∀ s, (s ∈ snaps ∨ s = 1125899906842624) → ∃ v, v.length < 1000000 ∧ Ev (fun k => drop_Seen.f k l s) v ∧ Ev (fun k => drop_Seen.f k d s) v) (n : Nat) : ∀ i : Nat, snaps.length - i = n → Ev (fun k => incipitlaw23_DropAll.l0 k l snaps d (i : Int)) true := by
  induction n with
  | zero =>
    intro i hd
    obtain ⟨v, hl, h1, h2⟩ := hv 1125899906842624 (.inr rfl)
    refine Ev.succ ?_
    simp only [incipitlaw23_DropAll.l0]
    exact Ev.ite_neg (by omega) (Ev.bind h1 (Ev.bind h2 (Ev.bind (EqAll_ev rfl hl) (Ev.now _))))
  | succ n ih =>
    intro i hd
    have hlt : i < snaps.length := by omega
    have en : wrap64 ((i : Int) + 1) = ((i + 1 : Nat) : Int) := by rw [wrap64_id (by omega) (by omega)]; omega
    have er : rd snaps (i : Int) = snaps[i] := by rw [rd_nat, List.getD_eq_getElem?_getD, List.getElem?_eq_getElem hlt]; rfl
    obtain ⟨v, hl, h1, h2⟩ := hv snaps[i] (.inl (List.getElem_mem hlt))
    refine Ev.succ ?_
    simp only [incipitlaw23_DropAll.l0, en, er]
    exact Ev.ite_pos (by omega) (Ev.ite_pos (by omega) (Ev.bind h1 (Ev.bind h2 (Ev.bind (EqAll_ev rfl hl) (Ev.ite_pos rfl (ih (i + 1) (by omega)))))))
theorem DropAll : ∀ l0 l1 a2 a3, (l0.length ≤ maxLen ∧ ∀ x ∈ l0, (x.f0.size ≤ maxLen ∧ (Lit.int .i64 x.f1).wf = true ∧ (Lit.int .i64 x.f2).wf = true ∧ x.f3.size ≤ maxLen ∧ x.f4.size ≤ maxLen)) → (l1.length ≤ maxLen ∧ ∀ x ∈ l1, (Lit.int .i64 x).wf = true) → (Lit.int .i64 a3).wf = true → ∃ k, incipitlaw23_DropAll.f k l0 l1 a2 a3 = some true := by
  intro l0 l1 a2 a3 _ _ _
  refine Ev.rounds (g := fun k => incipitlaw23_DropAll.f k l0 l1 a2 a3) ?_
  obtain ⟨l, hS, hl, hs, hok⟩ := Sort_ev l0 50 (by omega)
  obtain ⟨snaps, hc, hn⟩ := cut_ev l1
  have hR := grp_runs l hs
  have hR2 := hR.map (stay snaps a2) (fun g _ => stay_sub snaps a2 g)
  have hE := Entries_ev l snaps a2 (by omega) hs
  have hD := Drop_ev l snaps a2 (by omega) (by omega) hs
  have hg := grp_len l
  have hdl : ((grp l).flatMap (stay snaps a2)).length ≤ l.length := by
    have := flat_len (f := stay snaps a2) (grp l) (fun g _ => (stay_sub snaps a2 g).length_le)
    rwa [grp_flat] at this
  have hsl : ∀ s, ((grp l).flatMap (seenG s)).length ≤ l.length := by
    intro s
    have := flat_len (f := seenG s) (grp l) (fun g hg => by
      cases g with
      | nil => simp [seenG]
      | cons x t => unfold seenG; split <;> (try split) <;> simp)
    rwa [grp_flat] at this
  have hview : ∀ s, (s ∈ snaps ∨ s = 1125899906842624) → ((grp ((grp l).flatMap (stay snaps a2))).flatMap (seenG s)) = (grp l).flatMap (seenG s) := by
    intro s hsn
    rw [show (grp l).flatMap (stay snaps a2) = ((grp l).map (stay snaps a2)).flatten from List.flatMap_def .., grp_of _ hR2, flat_ne, List.flatMap_map]
    refine fm_congr _ (fun g hg => stay_seen a2 g (hR.dec g hg) ?_)
    rcases hsn with h | h
    · exact .inl h
    · right
      intro x hx
      have : x ∈ l := by rw [← grp_flat l]; exact List.mem_flatten.2 ⟨g, hg, hx⟩
      have := (hok x this).1.2
      omega
  unfold incipitlaw23_DropAll.f
  refine Ev.bind aBegun_ev (Ev.ite_pos rfl (Ev.bind hS ?_))
  simp only [hc, Option.bind_some]
  refine Ev.bind hE (Ev.bind hD (Ev.bind (EqAll_ev rfl (by omega)) (Ev.ite_pos rfl (Ev.bind (Seen_ev l a3 (by omega)) (Ev.bind (rSeenG_ev l a3 (by omega) hs) (Ev.bind (EqAll_ev rfl (by have := hsl a3; omega)) ?_))))))
  refine Ev.succ ?_
  simp only [incipitlaw23_DropAll.j0]
  refine Ev.ite_neg (by simp) (all_l0 l _ snaps (by omega) (fun s hsn => ⟨_, by have := hsl s; omega, Seen_ev l s (by omega), ?_⟩) snaps.length 0 rfl)
  have := Seen_ev ((grp l).flatMap (stay snaps a2)) s (by omega)
  rwa [hview s hsn] at this
end Go.Proofs.Ytcijcfdllfaghaa.Pure
