/- The begin of the statements on numbers. -/
import Derived.Test.YthpeieieibbbgaaMNumx2
import Derived.Test.YthpeieieibbbgaaQNumBasic
namespace Go.Proofs.Ythpeieieibbbgaa.QNum
open Go.RowKit Go.Proofs.Ythpeieieibbbgaa.MNum Go.Proofs.Ythpeieieibbbgaa.QNum Go.Proofs.YthpeieieibbbgaaW.PrintWords Go.Proofs.YthpeieieibbbgaaW.PrintLast Go.Proofs.YthpeieieibbbgaaW.PrintMore
set_option linter.unusedVariables false
set_option linter.unusedSimpArgs false
theorem begun_ev : Ev (fun k => incipitlaw8_begun.f k) true := Ev.of incipitlaw8_begun.mono (k := 20) (by decide +kernel)
end Go.Proofs.Ythpeieieibbbgaa.QNum
