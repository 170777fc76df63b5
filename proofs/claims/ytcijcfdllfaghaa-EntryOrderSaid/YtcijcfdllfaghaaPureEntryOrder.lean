/- It is proved that the law EntryOrder of package incipitlaw7 returns true at every input: entries stand by forms, then by numbers falling, then by kinds, as the reference says. No conditions. -/
import Derived.Test.YtcijcfdllfaghaaMEntx0
import Derived.Test.YtcijcfdllfaghaaMEntx4
import Derived.Test.YtcijcfdllfaghaaQEntEntOrd
namespace Go.Proofs.Ytcijcfdllfaghaa.Pure
open Go.RowKit Go.Proofs.Ytcijcfdllfaghaa.MEnt Go.Proofs.Ytcijcfdllfaghaa.QEnt Go.Proofs.YtcijcfdllfaghaaW.PrintWords Go.Proofs.YtcijcfdllfaghaaW.PrintLast Go.Proofs.YtcijcfdllfaghaaW.PrintMore
set_option linter.unusedVariables false
set_option linter.unusedSimpArgs false
theorem EntryOrder : ∀ x0 x1 : S23, (x0.f0.size ≤ maxLen ∧ (Lit.int .i64 x0.f1).wf = true ∧ (Lit.int .i64 x0.f2).wf = true ∧ x0.f3.size ≤ maxLen ∧ x0.f4.size ≤ maxLen) → (x1.f0.size ≤ maxLen ∧ (Lit.int .i64 x1.f1).wf = true ∧ (Lit.int .i64 x1.f2).wf = true ∧ x1.f3.size ≤ maxLen ∧ x1.f4.size ≤ maxLen) → ∃ k, incipitlaw7_EntryOrder.f k x0.f0 x0.f1 x0.f2 x0.f3 x0.f4 x1.f0 x1.f1 x1.f2 x1.f3 x1.f4 = some true := by
  intro x y _ _
  refine Ev.rounds (g := fun k => incipitlaw7_EntryOrder.f k x.f0 x.f1 x.f2 x.f3 x.f4 y.f0 y.f1 y.f2 y.f3 y.f4) ?_
  unfold incipitlaw7_EntryOrder.f
  refine Ev.bind begun_ev (Ev.ite_pos rfl ?_)
  obtain ⟨c0, c3, c4, hx⟩ := Cut_ok x.f0 x.f1 x.f2 x.f3 x.f4
  obtain ⟨d0, d3, d4, hy⟩ := Cut_ok y.f0 y.f1 y.f2 y.f3 y.f4
  obtain ⟨r1, l1, l2⟩ := Less_eq c0 x.f1 x.f2 c3 c4 d0 y.f1 y.f2 d3 d4
  obtain ⟨r2, q1, q2⟩ := Eq_eq c0 x.f1 x.f2 c3 c4 d0 y.f1 y.f2 d3 d4
  obtain ⟨r3, m1, m2⟩ := Less_eq d0 y.f1 y.f2 d3 d4 c0 x.f1 x.f2 c3 c4
  simp only [hx, hy, Option.bind_some, l1, l2, q1, q2, m1, m2, beq_self_eq_true, if_true]
  exact Ev.now _
end Go.Proofs.Ytcijcfdllfaghaa.Pure
