/- The begin of the statements on records. -/
import Derived.Test.YtcijcfdllfaghaaMRecx2
import Derived.Test.YtcijcfdllfaghaaMRecx3
import Derived.Test.YtcijcfdllfaghaaQRecRecRead
namespace Go.Proofs.Ytcijcfdllfaghaa.QRec
open Go.RowKit Go.Proofs.Ytcijcfdllfaghaa.MRec Go.Proofs.Ytcijcfdllfaghaa.QRec Go.Proofs.YtcijcfdllfaghaaW.PrintWords Go.Proofs.YtcijcfdllfaghaaW.PrintLast Go.Proofs.YtcijcfdllfaghaaW.PrintMore
set_option linter.unusedVariables false
set_option linter.unusedSimpArgs false
theorem begun_ev : Ev (fun k => incipitlaw11_begun.f k) true := Ev.of incipitlaw11_begun.mono (k := 60) (by decide +kernel)
theorem Append0_ev {b : List Int} (hb : Bytes b) (hl : b.length ≤ 100000) : Ev (fun k => reclog_Append.f k 0 b) (app 0 b true) := by
  have := Append_ev (a := 0) hb (by omega)
  simpa using this
end Go.Proofs.Ytcijcfdllfaghaa.QRec
