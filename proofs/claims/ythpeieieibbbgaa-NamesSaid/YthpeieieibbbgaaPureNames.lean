/- It is proved that the law Names of package incipitlaw0 returns true: each name of api has the document's number. No conditions. -/
import Derived.Test.YthpeieieibbbgaaPNamesx1
namespace Go.Proofs.Ythpeieieibbbgaa.Pure
open Go.RowKit Go.Proofs.Ythpeieieibbbgaa.PNames Go.Proofs.YthpeieieibbbgaaW.PrintWords Go.Proofs.YthpeieieibbbgaaW.PrintLast

/-- YOURS: ∃ k, incipitlaw0_Names.f k  = some true
What it reaches (each with k first where it has rounds; `.mono`: more rounds tell the same; `.l0`, ..: its loops, with `.mono_l`): incipitlaw0_Names.f -/
theorem Names : incipitlaw0_Names.Pure := by
  exact ⟨60, by decide +kernel⟩

end Go.Proofs.Ythpeieieibbbgaa.Pure
