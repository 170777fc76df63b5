/- It is proved that the law UcdAll of package incipitlaw2 returns true at every input: the class of any number, and what it comes to, are told as the reference tells them. No conditions. -/
import Derived.Test.YthpeieieibbbgaaMUcdx3
import Derived.Test.YthpeieieibbbgaaQUcdUcdRef
namespace Go.Proofs.Ythpeieieibbbgaa.Pure
open Go.RowKit Go.Proofs.Ythpeieieibbbgaa.MUcd Go.Proofs.Ythpeieieibbbgaa.QUcd Go.Proofs.YthpeieieibbbgaaW.PrintWords Go.Proofs.YthpeieieibbbgaaW.PrintLast Go.Proofs.YthpeieieibbbgaaW.PrintMore
set_option linter.unusedVariables false
set_option linter.unusedSimpArgs false
theorem UcdAll : incipitlaw2_UcdAll.Pure := by
  intro c _
  refine Ev.rounds (g := fun k => incipitlaw2_UcdAll.f k c) ?_
  unfold incipitlaw2_UcdAll.f
  refine Ev.bind begun2_ev (Ev.ite_pos rfl (Ev.bind (Class_ev c) (Ev.bind (rClass_ev c) (Ev.ite_pos rfl (Ev.bind (Map_ev c) (Ev.bind (rMap_ev c) (Ev.bind (ints_ev _ (mapN2_short c)) (Ev.now _))))))))
end Go.Proofs.Ythpeieieibbbgaa.Pure
