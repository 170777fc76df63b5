/- It is proved that the law UcdEnds of package incipitlaw2 returns true at every input: what a character comes to comes to itself, and its marks stand in order. No conditions. -/
import Derived.Test.YthpeieieibbbgaaMUcdx1
import Derived.Test.YthpeieieibbbgaaMUcdx2
import Derived.Test.YthpeieieibbbgaaMUcdx3
import Derived.Test.YthpeieieibbbgaaQUcdUcdTab
namespace Go.Proofs.Ythpeieieibbbgaa.Pure
open Go.RowKit Go.Proofs.Ythpeieieibbbgaa.MUcd Go.Proofs.Ythpeieieibbbgaa.QUcd Go.Proofs.YthpeieieibbbgaaW.PrintWords Go.Proofs.YthpeieieibbbgaaW.PrintLast Go.Proofs.YthpeieieibbbgaaW.PrintMore
set_option linter.unusedVariables false
set_option linter.unusedSimpArgs false
theorem begun_ev : Ev (fun k => incipitlaw2_begun.f k) true := by
  unfold incipitlaw2_begun.f
  refine Ev.bind (Class_ev 769) (Ev.ite_pos (by decide +kernel) (Ev.bind (Class_ev 97) (Ev.ite_pos (by decide +kernel) (Ev.bind (Class_ev 803) (Ev.ite_pos (by decide +kernel) (Ev.bind (Map_ev 233) ?_))))))
  rw [show mapN 233 = [101, 769] by decide +kernel]
  refine Ev.bind (Ev.of (incipitlaw1_Ints.mono _ _) (k := 10) (show incipitlaw1_Ints.f 10 [101, 769] [101, 769] = some true by decide +kernel)) (Ev.ite_pos rfl (Ev.bind (Map_ev 101) ?_))
  rw [show mapN 101 = [] by decide +kernel]
  exact Ev.now _
/-- What is asked of what a character comes to. -/
def good (c : Int) (l : List Int) : Bool := (List.range l.length).all (fun i => mapN (l.getD i 0) == [] && (i == 0 || decide (classN (l.getD (i - 1) 0) ≤ classN (l.getD i 0)) || decide (classN (l.getD i 0) ≤ 0))) && (l.length != 1 || l.getD 0 0 != c)
theorem mps_good : mps.all (fun x => good x.a x.l) = true := by decide +kernel
theorem mapL_good (c : Int) : ∀ l : List MLn, l.all (fun x => good x.a x.l) = true → good c (mapL c l) = true
  | [], _ => by simp [mapL, good]
  | x :: t, h => by
    simp only [List.all_cons, Bool.and_eq_true] at h
    simp only [mapL]
    split
    · exact mapL_good c t h.2
    · split
      · rename_i e; rw [← e]; exact h.1
      · simp [good]
theorem mapN_good (c : Int) : good c (mapN c) = true := by
  unfold mapN
  split
  · simp [good]
  · exact mapL_good c mps mps_good
theorem ends_l0 (c : Int) (l : List Int) (hg : good c l = true) (d : Nat) : ∀ i : Nat, l.length - i = d → i ≤ l.length → l.length ≤ 1000 → Ev (fun k => incipitlaw2_UcdEnds.l0 k c l (i : Int)) true := by
  simp only [good, Bool.and_eq_true, List.all_eq_true, List.mem_range] at hg
  obtain ⟨h1, h2⟩ := hg
  induction d with
  | zero =>
    intro i hd hi hl
    refine Ev.succ ?_
    simp only [incipitlaw2_UcdEnds.l0]
    refine Ev.ite_neg (by omega) ?_
    by_cases c1 : (l.length : Int) = 1
    · refine Ev.ite_pos c1 (Ev.ite_pos (by omega) ?_)
      have e : (l.getD 0 0 != c) = true := by
        have : (l.length != 1) = false := by simp; omega
        rw [this, Bool.false_or] at h2; exact h2
      have e2 : (rd l 0 != c) = true := by
        have := rd_nat l 0
        rw [show ((0 : Nat) : Int) = 0 from rfl] at this
        rw [this]; exact e
      rw [e2]; exact Ev.now _
    · exact Ev.ite_neg c1 (Ev.now _)
  | succ d ih =>
    intro i hd hi hl
    have hn := ih (i + 1) (by omega) (by omega) hl
    have hh := h1 i (by omega)
    refine Ev.succ ?_
    simp only [incipitlaw2_UcdEnds.l0]
    refine Ev.ite_pos (by omega) (Ev.ite_pos (by omega) ?_)
    rw [rd_nat, wrap64_id (n := (i : Int) + 1) (by omega) (by omega)]
    refine Ev.bind (Map_ev _) ?_
    rw [beq_iff_eq] at hh
    rw [hh.1]
    refine Ev.ite_pos rfl ?_
    by_cases c0 : i = 0
    · subst c0; exact Ev.ite_neg (by omega) hn
    · refine Ev.ite_pos (by omega) (Ev.bind (Class_ev _) ?_)
      by_cases c1 : classN (l.getD i 0) > 0
      · refine Ev.ite_pos c1 ?_
        rw [show wrap64 ((i : Int) - 1) = ((i - 1 : Nat) : Int) by rw [wrap64_id (by omega) (by omega)]; omega, rd_nat]
        refine Ev.ite_pos (by omega) (Ev.ite_pos (by omega) (Ev.bind (Class_ev _) (Ev.bind (Class_ev _) ?_)))
        have h3 := hh.2
        simp only [Bool.or_eq_true, beq_iff_eq, decide_eq_true_eq] at h3
        exact Ev.ite_neg (by omega) hn
      · exact Ev.ite_neg c1 hn
theorem mps_short : mps.all (fun x => decide (x.l.length ≤ 1000)) = true := by decide +kernel
theorem mapL_short (c : Int) : ∀ l : List MLn, l.all (fun x => decide (x.l.length ≤ 1000)) = true → (mapL c l).length ≤ 1000
  | [], _ => by simp [mapL]
  | x :: t, h => by
    simp only [List.all_cons, Bool.and_eq_true, decide_eq_true_eq] at h
    simp only [mapL]
    split
    · exact mapL_short c t h.2
    · split
      · exact h.1
      · simp
theorem mapN_short (c : Int) : (mapN c).length ≤ 1000 := by
  unfold mapN
  split
  · simp
  · exact mapL_short c mps mps_short
theorem UcdEnds : incipitlaw2_UcdEnds.Pure := by
  intro c _
  refine Ev.rounds (g := fun k => incipitlaw2_UcdEnds.f k c) ?_
  unfold incipitlaw2_UcdEnds.f
  refine Ev.bind begun_ev (Ev.ite_pos rfl (Ev.bind (Map_ev c) ?_))
  exact ends_l0 c _ (mapN_good c) _ 0 rfl (by omega) (mapN_short c)
end Go.Proofs.Ythpeieieibbbgaa.Pure
