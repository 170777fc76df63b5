/- It is proved that the law CrcAll of package incipitlaw9 returns true at every input: bytes have the document's sum, however they are cut. No conditions. -/
import Derived.Test.YthpeieieibbbgaaMCrcx1
import Derived.Test.YthpeieieibbbgaaQCrc
namespace Go.Proofs.Ythpeieieibbbgaa.Pure
open Go.RowKit Go.Proofs.Ythpeieieibbbgaa.MCrc Go.Proofs.Ythpeieieibbbgaa.QCrc Go.Proofs.YthpeieieibbbgaaW.PrintWords Go.Proofs.YthpeieieibbbgaaW.PrintLast

theorem CrcAll : incipitlaw9_CrcAll.Pure := by
  intro l0 l1 h0 _ hb0 h1 _ hb1
  refine Ev.rounds (g := fun k => incipitlaw9_CrcAll.f k l0 l1) ?_
  have ba := (bytes_of_wf hb0).take 300
  have bb := (bytes_of_wf hb1).take 300
  have la : (l0.take 300).length ≤ 300 := by rw [List.length_take]; omega
  have lb : (l1.take 300).length ≤ 300 := by rw [List.length_take]; omega
  unfold incipitlaw9_CrcAll.f
  generalize l0.take 300 = a at *
  generalize l1.take 300 = b at *
  have bc := ba.append bb
  have lc : (a ++ b).length ≤ 600 := by rw [List.length_append]; omega
  refine Ev.bind begun_ev (Ev.ite_pos rfl ?_)
  simp only [Option.bind_some, List.nil_append, List.length_nil, Nat.zero_add]
  refine Ev.ite_pos (by omega) (Ev.ite_pos (by omega) ?_)
  refine Ev.bind (Sum_ev bc (by omega)) (Ev.bind (rSum_ev bc (by omega)) (Ev.ite_pos rfl ?_))
  refine Ev.bind (Sum_ev ba (by omega)) (Ev.bind (More_ev bb (by omega) (sum_lt ba)) (Ev.bind (Sum_ev bc (by omega)) ?_))
  have e : neg (fold (neg (sum a)) b) = sum (a ++ b) := by
    unfold sum; rw [neg_neg, fold_append]
  rw [e, beq_self_eq_true]
  exact Ev.now _

end Go.Proofs.Ythpeieieibbbgaa.Pure
