/- It is proved that the law UcdBlock of package incipitlaw2 returns true at every input: of any thirty-two numbers one behind the other each has its class and its map. No conditions. -/
import Derived.Test.YthpeieieibbbgaaMUcdx5
import Derived.Test.YthpeieieibbbgaaQUcdUcdRef
namespace Go.Proofs.Ythpeieieibbbgaa.Pure
open Go.RowKit Go.Proofs.Ythpeieieibbbgaa.MUcd Go.Proofs.Ythpeieieibbbgaa.QUcd Go.Proofs.YthpeieieibbbgaaW.PrintWords Go.Proofs.YthpeieieibbbgaaW.PrintLast Go.Proofs.YthpeieieibbbgaaW.PrintMore
set_option linter.unusedVariables false
set_option linter.unusedSimpArgs false
theorem block_l0 (a : Int) (h0 : 0 ≤ a) (h1 : a ≤ 1114111) (d : Nat) : ∀ i : Nat, 32 - i = d → i ≤ 32 → Ev (fun k => incipitlaw2_UcdBlock.l0 k a (a + i)) true := by
  have e : wrap64 (a + 32) = a + 32 := wrap64_id (by omega) (by omega)
  induction d with
  | zero =>
    intro i hd hi
    refine Ev.succ ?_
    simp only [incipitlaw2_UcdBlock.l0, e]
    exact Ev.ite_neg (by omega) (Ev.now _)
  | succ d ih =>
    intro i hd hi
    have en : wrap64 (a + (i : Int) + 1) = a + ((i + 1 : Nat) : Int) := by rw [wrap64_id (by omega) (by omega)]; omega
    refine Ev.succ ?_
    simp only [incipitlaw2_UcdBlock.l0, e, en]
    exact Ev.ite_pos (by omega) (Ev.bind (Class_ev _) (Ev.bind (rClass_ev _) (Ev.ite_pos rfl (Ev.bind (Map_ev _) (Ev.bind (rMap_ev _) (Ev.bind (ints_ev _ (mapN2_short _)) (Ev.ite_pos rfl (ih (i + 1) (by omega) (by omega)))))))))
theorem UcdBlock : incipitlaw2_UcdBlock.Pure := by
  intro a _
  refine Ev.rounds (g := fun k => incipitlaw2_UcdBlock.f k a) ?_
  unfold incipitlaw2_UcdBlock.f
  refine Ev.bind begun2_ev (Ev.ite_pos rfl ?_)
  have yes : Ev (fun k => incipitlaw2_UcdBlock.j0 k a true) true := by
    refine Ev.succ ?_
    simp only [incipitlaw2_UcdBlock.j0]
    exact Ev.ite_pos trivial (Ev.now _)
  by_cases c0 : a < 0
  · exact Ev.ite_pos c0 yes
  · refine Ev.ite_neg c0 ?_
    by_cases c1 : a > 1114111
    · rw [decide_eq_true c1]; exact yes
    · rw [decide_eq_false c1]
      refine Ev.succ ?_
      simp only [incipitlaw2_UcdBlock.j0]
      have := block_l0 a (by omega) (by omega) 32 0 rfl (by omega)
      rw [show a + ((0 : Nat) : Int) = a by omega] at this
      exact Ev.ite_neg (by simp) this
end Go.Proofs.Ythpeieieibbbgaa.Pure
