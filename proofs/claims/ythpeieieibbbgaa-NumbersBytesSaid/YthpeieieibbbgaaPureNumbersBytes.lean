/- It is proved that the law NumbersBytes of package incipitlaw8 returns true at every input: any bytes begin with a number, or a text, or with none, as the reference says. No conditions. -/
import Derived.Test.YthpeieieibbbgaaMNumx4
import Derived.Test.YthpeieieibbbgaaQNumGetRef
import Derived.Test.YthpeieieibbbgaaQNumNumBegun
namespace Go.Proofs.Ythpeieieibbbgaa.Pure
open Go.RowKit Go.Proofs.Ythpeieieibbbgaa.MNum Go.Proofs.Ythpeieieibbbgaa.QNum Go.Proofs.YthpeieieibbbgaaW.PrintWords Go.Proofs.YthpeieieibbbgaaW.PrintLast Go.Proofs.YthpeieieibbbgaaW.PrintMore
set_option linter.unusedVariables false
set_option linter.unusedSimpArgs false
theorem bytes_of_wf {l : List Int} (h : ∀ x ∈ l, (Lit.int .u8 x).wf = true) : Bytes l := fun c hc => by
  have := h c hc
  simp [Lit.wf, IntKind.min, IntKind.max, IntKind.signed, IntKind.bits] at this
  omega
theorem NumbersBytes : incipitlaw8_NumbersBytes.Pure := by
  intro l0 _ _ hb0
  refine Ev.rounds (g := fun k => incipitlaw8_NumbersBytes.f k l0) ?_
  have hb := (bytes_of_wf hb0).take 60
  have hl : (l0.take 60).length ≤ 4611686018427387904 := by rw [List.length_take]; omega
  unfold incipitlaw8_NumbersBytes.f
  refine Ev.bind begun_ev (Ev.ite_pos rfl ?_)
  simp only [Option.bind_some]
  refine Ev.bind (Get_ev hb) (Ev.bind (rGet_ev hb hl) (Ev.bind (GetText_ev hb hl) (Ev.bind (rGetText_ev hb hl) ?_)))
  refine Ev.ite_pos rfl (Ev.ite_pos rfl (Ev.ite_pos rfl ?_))
  rw [beq_self_eq_true]
  exact Ev.now _
end Go.Proofs.Ythpeieieibbbgaa.Pure
