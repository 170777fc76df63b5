/-
  No cell of these rows narrows 'for every input' (looked for: loops, veiled, ifaces, maps, wideKeys, modest, calm, conditions, laid).
  DERIVED. THE GIVEN ROWS OF THIS SEAT. 9 by the template 'for every input the law returns true; each argument reads behind the call as it read before'; 0 by the template 'total and deterministic' (their statements: YtenmljkddhonmaaTotals.lean).
  GIVEN WITH THE SEED: the statements are not yours to turn. If you find one false, say at which input.
  Laid BY PROGRAM, IN A SANDBOX (cutbox-rows.mjs): the forced cells as the released guide's own fill.sh prints them over the translation f3047a134466f9b3… (all of the seat's roots in one cut). By AI agents, Wed Nov 11 2026. No macro, syntax, notation, axiom, sorry.
-/
import Derived.Test.YtenmljkddhonmaaChecked
import GoSem.Claim
import GoSem.ClaimJoined
import GoSem.ClaimMapViews
import Derived.JoinedTies
import Derived.KernelRfl
namespace Go.Proofs.Ytenmljkddhonmaa
/- THE CELL 'sum', in the pinned program and in every row, IS THE sha256 OF THE DUMP (.gsa) THAT YtenmljkddhonmaaProg.lean LOADS. Nothing in Lean hashes anything: it is a label: what it is worth is what the hold of that sum in a sandbox is worth. -/
noncomputable def Try.pinned : Pinned := { name := "ytenmljkddhonmaa", sum := "f3047a134466f9b39d1f267585fbce15167332164349686f63155db3aa0a57ea", checked := Try.checked }
namespace Rows
def none {H : Type} : Left H := { results := [], args := [] }

/-- 'incipitlaw18.MergeAll': WHATEVER THE INPUT: true; the input reads as it did. -/
def mergeAllSpec : ChangeSpec := { name := "mergeAll", fn := fun _ => fun
  | [d1, d2] => { results := [.lit (.bool true)], args := [d1, d2] }
  | _ => none }
def mergeAllRow : OpenClaim := { program := "ytenmljkddhonmaa", sum := "f3047a134466f9b39d1f267585fbce15167332164349686f63155db3aa0a57ea", func := "incipit/incipitlaw18.MergeAll", spec := "mergeAll", unfollowed := true, recurses := true, apart := false }
def MergeAllSaid : Prop := mergeAllRow.holds Try.pinned (OpenSpec.ofChange mergeAllSpec)

/-- ITS FALSE NEIGHBOUR: 'it returns false'. Refute it at one input. -/
def mergeAllWrong : ChangeSpec := { name := "mergeAll", fn := fun _ => fun
  | [d1, d2] => { results := [.lit (.bool false)], args := [d1, d2] }
  | _ => none }
def MergeAllWrongFalsely : Prop := mergeAllRow.holds Try.pinned (OpenSpec.ofChange mergeAllWrong)

/-- 'incipitlaw18.MergeMany': WHATEVER THE INPUT: true; the input reads as it did. -/
def mergeManySpec : ChangeSpec := { name := "mergeMany", fn := fun _ => fun
  | [d1, d2] => { results := [.lit (.bool true)], args := [d1, d2] }
  | _ => none }
def mergeManyRow : OpenClaim := { program := "ytenmljkddhonmaa", sum := "f3047a134466f9b39d1f267585fbce15167332164349686f63155db3aa0a57ea", func := "incipit/incipitlaw18.MergeMany", spec := "mergeMany", unfollowed := true, recurses := true, apart := false }
def MergeManySaid : Prop := mergeManyRow.holds Try.pinned (OpenSpec.ofChange mergeManySpec)

/-- ITS FALSE NEIGHBOUR: 'it returns false'. Refute it at one input. -/
def mergeManyWrong : ChangeSpec := { name := "mergeMany", fn := fun _ => fun
  | [d1, d2] => { results := [.lit (.bool false)], args := [d1, d2] }
  | _ => none }
def MergeManyWrongFalsely : Prop := mergeManyRow.holds Try.pinned (OpenSpec.ofChange mergeManyWrong)

/-- 'incipitlaw18.MergeEqual': WHATEVER THE INPUT: true; the input reads as it did. -/
def mergeEqualSpec : ChangeSpec := { name := "mergeEqual", fn := fun _ => fun
  | [d] => { results := [.lit (.bool true)], args := [d] }
  | _ => none }
def mergeEqualRow : OpenClaim := { program := "ytenmljkddhonmaa", sum := "f3047a134466f9b39d1f267585fbce15167332164349686f63155db3aa0a57ea", func := "incipit/incipitlaw18.MergeEqual", spec := "mergeEqual", unfollowed := true, recurses := true, apart := false }
def MergeEqualSaid : Prop := mergeEqualRow.holds Try.pinned (OpenSpec.ofChange mergeEqualSpec)

/-- ITS FALSE NEIGHBOUR: 'it returns false'. Refute it at one input. -/
def mergeEqualWrong : ChangeSpec := { name := "mergeEqual", fn := fun _ => fun
  | [d] => { results := [.lit (.bool false)], args := [d] }
  | _ => none }
def MergeEqualWrongFalsely : Prop := mergeEqualRow.holds Try.pinned (OpenSpec.ofChange mergeEqualWrong)

/-- 'incipitlaw17.TableRaw': WHATEVER THE INPUT: true; the input reads as it did. -/
def tableRawSpec : ChangeSpec := { name := "tableRaw", fn := fun _ => fun
  | [d] => { results := [.lit (.bool true)], args := [d] }
  | _ => none }
def tableRawRow : OpenClaim := { program := "ytenmljkddhonmaa", sum := "f3047a134466f9b39d1f267585fbce15167332164349686f63155db3aa0a57ea", func := "incipit/incipitlaw17.TableRaw", spec := "tableRaw", inPlace := ["internal/bytealg.abigen_runtime_cmpstring"], unfollowed := true, recurses := true, apart := false }
def TableRawSaid : Prop := tableRawRow.holds Try.pinned (OpenSpec.ofChange tableRawSpec)

/-- ITS FALSE NEIGHBOUR: 'it returns false'. Refute it at one input. -/
def tableRawWrong : ChangeSpec := { name := "tableRaw", fn := fun _ => fun
  | [d] => { results := [.lit (.bool false)], args := [d] }
  | _ => none }
def TableRawWrongFalsely : Prop := tableRawRow.holds Try.pinned (OpenSpec.ofChange tableRawWrong)

/-- 'incipitlaw17.TableVersions': WHATEVER THE INPUT: true; the input reads as it did. -/
def tableVersionsSpec : ChangeSpec := { name := "tableVersions", fn := fun _ => fun
  | [d1, d2] => { results := [.lit (.bool true)], args := [d1, d2] }
  | _ => none }
def tableVersionsRow : OpenClaim := { program := "ytenmljkddhonmaa", sum := "f3047a134466f9b39d1f267585fbce15167332164349686f63155db3aa0a57ea", func := "incipit/incipitlaw17.TableVersions", spec := "tableVersions", inPlace := ["internal/bytealg.abigen_runtime_cmpstring"], unfollowed := true, recurses := true, apart := false }
def TableVersionsSaid : Prop := tableVersionsRow.holds Try.pinned (OpenSpec.ofChange tableVersionsSpec)

/-- ITS FALSE NEIGHBOUR: 'it returns false'. Refute it at one input. -/
def tableVersionsWrong : ChangeSpec := { name := "tableVersions", fn := fun _ => fun
  | [d1, d2] => { results := [.lit (.bool false)], args := [d1, d2] }
  | _ => none }
def TableVersionsWrongFalsely : Prop := tableVersionsRow.holds Try.pinned (OpenSpec.ofChange tableVersionsWrong)

/-- 'incipitlaw17.TableMany': WHATEVER THE INPUT: true; the input reads as it did. -/
def tableManySpec : ChangeSpec := { name := "tableMany", fn := fun _ => fun
  | [d1, d2] => { results := [.lit (.bool true)], args := [d1, d2] }
  | _ => none }
def tableManyRow : OpenClaim := { program := "ytenmljkddhonmaa", sum := "f3047a134466f9b39d1f267585fbce15167332164349686f63155db3aa0a57ea", func := "incipit/incipitlaw17.TableMany", spec := "tableMany", inPlace := ["internal/bytealg.abigen_runtime_cmpstring"], unfollowed := true, recurses := true, apart := false }
def TableManySaid : Prop := tableManyRow.holds Try.pinned (OpenSpec.ofChange tableManySpec)

/-- ITS FALSE NEIGHBOUR: 'it returns false'. Refute it at one input. -/
def tableManyWrong : ChangeSpec := { name := "tableMany", fn := fun _ => fun
  | [d1, d2] => { results := [.lit (.bool false)], args := [d1, d2] }
  | _ => none }
def TableManyWrongFalsely : Prop := tableManyRow.holds Try.pinned (OpenSpec.ofChange tableManyWrong)

/-- 'incipitlaw17.TableAll': WHATEVER THE INPUT: true; the input reads as it did. -/
def tableAllSpec : ChangeSpec := { name := "tableAll", fn := fun _ => fun
  | [d1, d2, d3] => { results := [.lit (.bool true)], args := [d1, d2, d3] }
  | _ => none }
def tableAllRow : OpenClaim := { program := "ytenmljkddhonmaa", sum := "f3047a134466f9b39d1f267585fbce15167332164349686f63155db3aa0a57ea", func := "incipit/incipitlaw17.TableAll", spec := "tableAll", inPlace := ["internal/bytealg.abigen_runtime_cmpstring"], unfollowed := true, recurses := true, apart := false }
def TableAllSaid : Prop := tableAllRow.holds Try.pinned (OpenSpec.ofChange tableAllSpec)

/-- ITS FALSE NEIGHBOUR: 'it returns false'. Refute it at one input. -/
def tableAllWrong : ChangeSpec := { name := "tableAll", fn := fun _ => fun
  | [d1, d2, d3] => { results := [.lit (.bool false)], args := [d1, d2, d3] }
  | _ => none }
def TableAllWrongFalsely : Prop := tableAllRow.holds Try.pinned (OpenSpec.ofChange tableAllWrong)

/-- 'incipitlaw17.TableSpoilt': WHATEVER THE INPUT: true; the input reads as it did. -/
def tableSpoiltSpec : ChangeSpec := { name := "tableSpoilt", fn := fun _ => fun
  | [d1, d2, d3, d4, d5] => { results := [.lit (.bool true)], args := [d1, d2, d3, d4, d5] }
  | _ => none }
def tableSpoiltRow : OpenClaim := { program := "ytenmljkddhonmaa", sum := "f3047a134466f9b39d1f267585fbce15167332164349686f63155db3aa0a57ea", func := "incipit/incipitlaw17.TableSpoilt", spec := "tableSpoilt", inPlace := ["internal/bytealg.abigen_runtime_cmpstring"], unfollowed := true, recurses := true, apart := false }
def TableSpoiltSaid : Prop := tableSpoiltRow.holds Try.pinned (OpenSpec.ofChange tableSpoiltSpec)

/-- ITS FALSE NEIGHBOUR: 'it returns false'. Refute it at one input. -/
def tableSpoiltWrong : ChangeSpec := { name := "tableSpoilt", fn := fun _ => fun
  | [d1, d2, d3, d4, d5] => { results := [.lit (.bool false)], args := [d1, d2, d3, d4, d5] }
  | _ => none }
def TableSpoiltWrongFalsely : Prop := tableSpoiltRow.holds Try.pinned (OpenSpec.ofChange tableSpoiltWrong)

/-- 'incipitlaw17.TableNone': WHATEVER THE INPUT: true; the input reads as it did. -/
def tableNoneSpec : ChangeSpec := { name := "tableNone", fn := fun _ => fun
  | [] => { results := [.lit (.bool true)], args := [] }
  | _ => none }
def tableNoneRow : OpenClaim := { program := "ytenmljkddhonmaa", sum := "f3047a134466f9b39d1f267585fbce15167332164349686f63155db3aa0a57ea", func := "incipit/incipitlaw17.TableNone", spec := "tableNone", inPlace := ["internal/bytealg.abigen_runtime_cmpstring"], unfollowed := true, recurses := true, apart := false }
def TableNoneSaid : Prop := tableNoneRow.holds Try.pinned (OpenSpec.ofChange tableNoneSpec)

/-- ITS FALSE NEIGHBOUR: 'it returns false'. Refute it at one input. -/
def tableNoneWrong : ChangeSpec := { name := "tableNone", fn := fun _ => fun
  | [] => { results := [.lit (.bool false)], args := [] }
  | _ => none }
def TableNoneWrongFalsely : Prop := tableNoneRow.holds Try.pinned (OpenSpec.ofChange tableNoneWrong)

/- THE SECOND FORM. 'bulk': how many values and letters a reading holds, each counted each time it is reached (what is shared counts as often as it is met; a slice's spare places count too). A statement '..UptoSaid' is the law's where the arguments, and the package variables that the reading takes, are together of bulk at most 1048576: NARROWER than '..Said'. Prove '..Said' where nothing that the law and all that it calls make is longer than what came in: it says more and counts as full. Else prove '..UptoSaid'. A law counts once. -/
mutual
def uptoBulk {H : Type} : DataW H → Nat
  | .lit (.string bytes) => bytes.length + 1
  | .lit _ => 1
  | .nil => 1
  | .ptr d => uptoBulk d + 1
  | .slice elems spare => uptoBulkAll elems + uptoBulkAll spare + 1
  | .agg parts => uptoBulkAll parts + 1
  | .iface _ d => uptoBulk d + 1
  | .map entries => uptoBulkEntries entries + 1
  | .held _ => 1
def uptoBulkAll {H : Type} : List (DataW H) → Nat
  | [] => 0
  | d :: r => uptoBulk d + uptoBulkAll r
def uptoBulkEntries {H : Type} : List (Lit × DataW H) → Nat
  | [] => 0
  | x :: r => uptoBulkEntry x + uptoBulkEntries r
def uptoBulkEntry {H : Type} : Lit × DataW H → Nat
  | (.string bytes, d) => bytes.length + uptoBulk d + 1
  | (_, d) => uptoBulk d + 1
 end
def uptoSmall : (H : Type) → List (DataW H) → Bool := fun _ ds => decide (uptoBulkAll ds ≤ 1048576)
def OpenSpec.upto (s : _root_.Go.ChangeSpec) : _root_.Go.OpenSpec := { _root_.Go.OpenSpec.ofChange s with cond := some uptoSmall }

/-- 'incipitlaw18.MergeAll', WHERE WHAT IT READS IS OF BULK AT MOST 1048576: true; the input reads as it did. -/
def mergeAllUptoRow : OpenClaim := { program := "ytenmljkddhonmaa", sum := "f3047a134466f9b39d1f267585fbce15167332164349686f63155db3aa0a57ea", func := "incipit/incipitlaw18.MergeAll", spec := "mergeAll", unfollowed := true, recurses := true, apart := false, narrowed := true }
def MergeAllUptoSaid : Prop := mergeAllUptoRow.holds Try.pinned (OpenSpec.upto mergeAllSpec)

/-- 'incipitlaw18.MergeMany', WHERE WHAT IT READS IS OF BULK AT MOST 1048576: true; the input reads as it did. -/
def mergeManyUptoRow : OpenClaim := { program := "ytenmljkddhonmaa", sum := "f3047a134466f9b39d1f267585fbce15167332164349686f63155db3aa0a57ea", func := "incipit/incipitlaw18.MergeMany", spec := "mergeMany", unfollowed := true, recurses := true, apart := false, narrowed := true }
def MergeManyUptoSaid : Prop := mergeManyUptoRow.holds Try.pinned (OpenSpec.upto mergeManySpec)

/-- 'incipitlaw18.MergeEqual', WHERE WHAT IT READS IS OF BULK AT MOST 1048576: true; the input reads as it did. -/
def mergeEqualUptoRow : OpenClaim := { program := "ytenmljkddhonmaa", sum := "f3047a134466f9b39d1f267585fbce15167332164349686f63155db3aa0a57ea", func := "incipit/incipitlaw18.MergeEqual", spec := "mergeEqual", unfollowed := true, recurses := true, apart := false, narrowed := true }
def MergeEqualUptoSaid : Prop := mergeEqualUptoRow.holds Try.pinned (OpenSpec.upto mergeEqualSpec)

/-- 'incipitlaw17.TableRaw', WHERE WHAT IT READS IS OF BULK AT MOST 1048576: true; the input reads as it did. -/
def tableRawUptoRow : OpenClaim := { program := "ytenmljkddhonmaa", sum := "f3047a134466f9b39d1f267585fbce15167332164349686f63155db3aa0a57ea", func := "incipit/incipitlaw17.TableRaw", spec := "tableRaw", inPlace := ["internal/bytealg.abigen_runtime_cmpstring"], unfollowed := true, recurses := true, apart := false, narrowed := true }
def TableRawUptoSaid : Prop := tableRawUptoRow.holds Try.pinned (OpenSpec.upto tableRawSpec)

/-- 'incipitlaw17.TableVersions', WHERE WHAT IT READS IS OF BULK AT MOST 1048576: true; the input reads as it did. -/
def tableVersionsUptoRow : OpenClaim := { program := "ytenmljkddhonmaa", sum := "f3047a134466f9b39d1f267585fbce15167332164349686f63155db3aa0a57ea", func := "incipit/incipitlaw17.TableVersions", spec := "tableVersions", inPlace := ["internal/bytealg.abigen_runtime_cmpstring"], unfollowed := true, recurses := true, apart := false, narrowed := true }
def TableVersionsUptoSaid : Prop := tableVersionsUptoRow.holds Try.pinned (OpenSpec.upto tableVersionsSpec)

/-- 'incipitlaw17.TableMany', WHERE WHAT IT READS IS OF BULK AT MOST 1048576: true; the input reads as it did. -/
def tableManyUptoRow : OpenClaim := { program := "ytenmljkddhonmaa", sum := "f3047a134466f9b39d1f267585fbce15167332164349686f63155db3aa0a57ea", func := "incipit/incipitlaw17.TableMany", spec := "tableMany", inPlace := ["internal/bytealg.abigen_runtime_cmpstring"], unfollowed := true, recurses := true, apart := false, narrowed := true }
def TableManyUptoSaid : Prop := tableManyUptoRow.holds Try.pinned (OpenSpec.upto tableManySpec)

/-- 'incipitlaw17.TableAll', WHERE WHAT IT READS IS OF BULK AT MOST 1048576: true; the input reads as it did. -/
def tableAllUptoRow : OpenClaim := { program := "ytenmljkddhonmaa", sum := "f3047a134466f9b39d1f267585fbce15167332164349686f63155db3aa0a57ea", func := "incipit/incipitlaw17.TableAll", spec := "tableAll", inPlace := ["internal/bytealg.abigen_runtime_cmpstring"], unfollowed := true, recurses := true, apart := false, narrowed := true }
def TableAllUptoSaid : Prop := tableAllUptoRow.holds Try.pinned (OpenSpec.upto tableAllSpec)

/-- 'incipitlaw17.TableSpoilt', WHERE WHAT IT READS IS OF BULK AT MOST 1048576: true; the input reads as it did. -/
def tableSpoiltUptoRow : OpenClaim := { program := "ytenmljkddhonmaa", sum := "f3047a134466f9b39d1f267585fbce15167332164349686f63155db3aa0a57ea", func := "incipit/incipitlaw17.TableSpoilt", spec := "tableSpoilt", inPlace := ["internal/bytealg.abigen_runtime_cmpstring"], unfollowed := true, recurses := true, apart := false, narrowed := true }
def TableSpoiltUptoSaid : Prop := tableSpoiltUptoRow.holds Try.pinned (OpenSpec.upto tableSpoiltSpec)

/-- 'incipitlaw17.TableNone', WHERE WHAT IT READS IS OF BULK AT MOST 1048576: true; the input reads as it did. -/
def tableNoneUptoRow : OpenClaim := { program := "ytenmljkddhonmaa", sum := "f3047a134466f9b39d1f267585fbce15167332164349686f63155db3aa0a57ea", func := "incipit/incipitlaw17.TableNone", spec := "tableNone", inPlace := ["internal/bytealg.abigen_runtime_cmpstring"], unfollowed := true, recurses := true, apart := false, narrowed := true }
def TableNoneUptoSaid : Prop := tableNoneUptoRow.holds Try.pinned (OpenSpec.upto tableNoneSpec)

end Rows
end Go.Proofs.Ytenmljkddhonmaa
