-- Written by a program of this session for this claim (out of the translation's print); Lean checks it.
import Derived.Test.YthpeieieibbbgaaProg
import Derived.Below
import Derived.Deep.Draws
import Derived.Deep.AppendLies
import Derived.Maps.AppendAt
import Derived.OwnWalk
import Derived.Laws.BytesArg
import Derived.Laws.MakeOwn
import Derived.Laws.OwnMore
import Derived.Deep.OwnRows
import Derived.Tactics
import Derived.Lib.ConvBytes
import Derived.Laws.Slices
import Derived.WalkKit
import Derived.KernelRfl
import Derived.RowKit3
import Derived.Deep.LoopGhost
import Derived.Deep.QuietTactic
import Derived.BigQuiet
import Derived.WideLaws
import Derived.Deep.DeepCutAuto
import Derived.Deep.CutBlock
import Derived.Deep.RegionHeld3
import Derived.Laws.Rows
import Derived.Lib.AppendStr
import Derived.ArgAppend
import Derived.Laws.IdiomCopy
import Derived.OrdersHeld
import Derived.Laws.BitsLemmas
import Derived.RowKit
import Derived.Deep.LoopGhost
import Derived.Test.YthpeieieibbbgaaWWords
import Derived.Test.YthpeieieibbbgaaWLast
import Derived.Test.YthpeieieibbbgaaWTab
import Derived.Test.YthpeieieibbbgaaWFour
import Derived.Test.YthpeieieibbbgaaWQPut
import Derived.Test.YthpeieieibbbgaaWApart
import Derived.Test.YthpeieieibbbgaaWArr
import Derived.Test.YthpeieieibbbgaaWZeros
import Derived.Test.YthpeieieibbbgaaWFoot
import Derived.Test.YthpeieieibbbgaaWKept
import Derived.Test.YthpeieieibbbgaaWShare
import Derived.Test.YthpeieieibbbgaaWN
import Derived.Test.YthpeieieibbbgaaWFootNe
import Derived.Test.YthpeieieibbbgaaWAt
import Derived.Test.YthpeieieibbbgaaWEqStruct
import Derived.Test.YthpeieieibbbgaaWRepsOne
import Derived.Test.YthpeieieibbbgaaWInv
import Derived.Test.YthpeieieibbbgaaWInvWords
import Derived.Test.YthpeieieibbbgaaWGuard
import Derived.Test.YthpeieieibbbgaaWNEv
import Derived.Test.YthpeieieibbbgaaWMore
namespace Go.Proofs.Ythpeieieibbbgaa.MFlt
open Go.RowKit Go.Proofs.YthpeieieibbbgaaW.PrintWords Go.Proofs.YthpeieieibbbgaaW.PrintLast Go.Proofs.YthpeieieibbbgaaW.PrintMore
attribute [local go_sem] max2_int min2_int max_two min_two max_three min_three max_four min_four   -- for this text's walks alone
set_option linter.unusedVariables false
set_option linter.unusedSimpArgs false



def errW : Option Int → Value
  | none => .nilIface
  | some c => .iface 0 (.int .i64 c)
theorem errW_none : errW none = .nilIface := rfl
theorem errW_some (c : Int) : errW (some c) = .iface 0 (.int .i64 c) := rfl

theorem info5 : (Try.prog.info? 5).map (fun i => (i.zero, i.size, i.bytes)) = some (some (.int .u8 0), 1, 1) := by kernel_rfl
theorem info9 : (Try.prog.info? 9).map (fun i => (i.zero, i.size, i.bytes)) = some (some (.string ⟨#[]⟩), 1, 16) := by kernel_rfl
-- the values' own types

end Go.Proofs.Ythpeieieibbbgaa.MFlt
