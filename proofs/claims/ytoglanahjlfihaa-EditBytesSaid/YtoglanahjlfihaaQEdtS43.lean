/- An edit as data: three numbers, a slice of files, a slice of numbers. -/
import Derived.Test.YtoglanahjlfihaaMEdtx0
namespace Go.Proofs.Ytoglanahjlfihaa.QEdt
open Go.RowKit Go.Proofs.Ytoglanahjlfihaa.MEdt Go.Proofs.YtoglanahjlfihaaW.PrintWords Go.Proofs.YtoglanahjlfihaaW.PrintLast Go.Proofs.YtoglanahjlfihaaW.PrintMore
set_option linter.unusedVariables false
set_option linter.unusedSimpArgs false
structure S43 where
  f0 : Int
  f1 : Int
  f2 : Int
  f3 : List S55
  f4 : List Int
def k43 : Kd S43 := Kd.iso (Kd.pair (Kd.int .i64) (Kd.pair (Kd.int .i64) (Kd.pair (Kd.int .i64) (Kd.pair (Kd.slice 55 k55) (Kd.slice 2 (Kd.int .i64)))))) (fun x : S43 => (x.f0, x.f1, x.f2, x.f3, x.f4))
theorem k43_open {w : World} {x : S43} {cs : List Value} (h : k43.K w x cs) : ∃ A3 c3 A4 c4, Kd.C k55 w A3 x.f3.length x.f3 ∧ x.f3.length ≤ c3 ∧ Kd.C (Kd.int .i64) w A4 x.f4.length x.f4 ∧ x.f4.length ≤ c4 ∧ cs = [.int .i64 x.f0, .int .i64 x.f1, .int .i64 x.f2, .slice A3 x.f3.length c3, .slice A4 x.f4.length c4] := by
  obtain ⟨_, _, rfl, rfl, ⟨_, _, rfl, rfl, ⟨_, _, rfl, rfl, ⟨_, _, rfl, ⟨A3, c3, rfl, h3, hC3⟩, ⟨A4, c4, rfl, h4, hC4⟩⟩⟩⟩⟩ := h
  exact ⟨A3, c3, A4, c4, hC3, h3, hC4, h4, rfl⟩
end Go.Proofs.Ytoglanahjlfihaa.QEdt
