/- What Cut leaves. -/
import Derived.Lib.Bytealg
import Derived.Lib.Strings
import Derived.Test.YtcijcfdllfaghaaMDrpx1
import Derived.Test.YtcijcfdllfaghaaQDrpBasic
namespace Go.Proofs.Ytcijcfdllfaghaa.QDrp
open Go.RowKit Go.Proofs.Ytcijcfdllfaghaa.MDrp Go.Proofs.Ytcijcfdllfaghaa.QDrp Go.Proofs.YtcijcfdllfaghaaW.PrintWords Go.Proofs.YtcijcfdllfaghaaW.PrintLast Go.Proofs.YtcijcfdllfaghaaW.PrintMore
set_option linter.unusedVariables false
set_option linter.unusedSimpArgs false
theorem Cut1_ok (s : ByteArray) (n : Nat) : ∃ t, incipitlaw1_Cut.f s (n : Int) = some t := by
  unfold incipitlaw1_Cut.f
  by_cases c : (s.size : Int) > n
  · rw [if_pos c, if_pos (by omega), if_pos (by omega)]; exact ⟨_, rfl⟩
  · rw [if_neg c]; exact ⟨_, rfl⟩
theorem Cut_ok (a0 : ByteArray) (a1 a2 : Int) (a3 a4 : ByteArray) : ∃ c0 c3 c4, incipitlaw7_Cut.f a0 a1 a2 a3 a4 = some (c0, a1, a2, c3, c4) := by
  obtain ⟨c0, h0⟩ := Cut1_ok a0 30
  obtain ⟨c3, h3⟩ := Cut1_ok a3 30
  obtain ⟨c4, h4⟩ := Cut1_ok a4 60
  have e30 : ((30 : Nat) : Int) = 30 := rfl
  have e60 : ((60 : Nat) : Int) = 60 := rfl
  rw [e30] at h0 h3
  rw [e60] at h4
  refine ⟨c0, c3, c4, ?_⟩
  unfold incipitlaw7_Cut.f
  rw [h0, h3, h4]; rfl
end Go.Proofs.Ytcijcfdllfaghaa.QDrp
