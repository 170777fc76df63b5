/-
  No cell of these rows narrows 'for every input' (looked for: loops, veiled, ifaces, maps, wideKeys, modest, calm, conditions, laid).
  DERIVED. THE GIVEN ROWS OF THIS SEAT. 12 by the template 'for every input the law returns true; each argument reads behind the call as it read before'; 0 by the template 'total and deterministic' (their statements: YtcijcfdllfaghaaTotals.lean).
  GIVEN WITH THE SEED: the statements are not yours to turn. If you find one false, say at which input.
  Laid BY PROGRAM, IN A SANDBOX (cutbox-rows.mjs): the forced cells as the released guide's own fill.sh prints them over the translation de31b53ccd41c6b1… (all of the seat's roots in one cut). By AI agents, Wed Nov 11 2026. No macro, syntax, notation, axiom, sorry.
-/
import Derived.Test.YtcijcfdllfaghaaChecked
import GoSem.Claim
import GoSem.ClaimJoined
import GoSem.ClaimMapViews
import Derived.JoinedTies
import Derived.KernelRfl
namespace Go.Proofs.Ytcijcfdllfaghaa
/- THE CELL 'sum', in the pinned program and in every row, IS THE sha256 OF THE DUMP (.gsa) THAT YtcijcfdllfaghaaProg.lean LOADS. Nothing in Lean hashes anything: it is a label: what it is worth is what the hold of that sum in a sandbox is worth. -/
noncomputable def Try.pinned : Pinned := { name := "ytcijcfdllfaghaa", sum := "de31b53ccd41c6b1eed237c5ba871b00bb1453d80bf28dd932828b6c34e49358", checked := Try.checked }
namespace Rows
def none {H : Type} : Left H := { results := [], args := [] }

/-- 'incipitlaw7.EntryOrder': WHATEVER THE INPUT: true; the input reads as it did. -/
def entryOrderSpec : ChangeSpec := { name := "entryOrder", fn := fun _ => fun
  | [d1, d2] => { results := [.lit (.bool true)], args := [d1, d2] }
  | _ => none }
def entryOrderRow : OpenClaim := { program := "ytcijcfdllfaghaa", sum := "de31b53ccd41c6b1eed237c5ba871b00bb1453d80bf28dd932828b6c34e49358", func := "incipit/incipitlaw7.EntryOrder", spec := "entryOrder", inPlace := ["internal/bytealg.abigen_runtime_cmpstring"], unfollowed := true, recurses := true, apart := false }
def EntryOrderSaid : Prop := entryOrderRow.holds Try.pinned (OpenSpec.ofChange entryOrderSpec)

/-- ITS FALSE NEIGHBOUR: 'it returns false'. Refute it at one input. -/
def entryOrderWrong : ChangeSpec := { name := "entryOrder", fn := fun _ => fun
  | [d1, d2] => { results := [.lit (.bool false)], args := [d1, d2] }
  | _ => none }
def EntryOrderWrongFalsely : Prop := entryOrderRow.holds Try.pinned (OpenSpec.ofChange entryOrderWrong)

/-- 'incipitlaw7.EntryFind': WHATEVER THE INPUT: true; the input reads as it did. -/
def entryFindSpec : ChangeSpec := { name := "entryFind", fn := fun _ => fun
  | [d1, d2, d3] => { results := [.lit (.bool true)], args := [d1, d2, d3] }
  | _ => none }
def entryFindRow : OpenClaim := { program := "ytcijcfdllfaghaa", sum := "de31b53ccd41c6b1eed237c5ba871b00bb1453d80bf28dd932828b6c34e49358", func := "incipit/incipitlaw7.EntryFind", spec := "entryFind", inPlace := ["internal/bytealg.abigen_runtime_cmpstring"], unfollowed := true, recurses := true, apart := false }
def EntryFindSaid : Prop := entryFindRow.holds Try.pinned (OpenSpec.ofChange entryFindSpec)

/-- ITS FALSE NEIGHBOUR: 'it returns false'. Refute it at one input. -/
def entryFindWrong : ChangeSpec := { name := "entryFind", fn := fun _ => fun
  | [d1, d2, d3] => { results := [.lit (.bool false)], args := [d1, d2, d3] }
  | _ => none }
def EntryFindWrongFalsely : Prop := entryFindRow.holds Try.pinned (OpenSpec.ofChange entryFindWrong)

/-- 'incipitlaw7.EntryApart': WHATEVER THE INPUT: true; the input reads as it did. -/
def entryApartSpec : ChangeSpec := { name := "entryApart", fn := fun _ => fun
  | [d1, d2, d3] => { results := [.lit (.bool true)], args := [d1, d2, d3] }
  | _ => none }
def entryApartRow : OpenClaim := { program := "ytcijcfdllfaghaa", sum := "de31b53ccd41c6b1eed237c5ba871b00bb1453d80bf28dd932828b6c34e49358", func := "incipit/incipitlaw7.EntryApart", spec := "entryApart", inPlace := ["internal/bytealg.abigen_runtime_cmpstring"], unfollowed := true, recurses := true, apart := false }
def EntryApartSaid : Prop := entryApartRow.holds Try.pinned (OpenSpec.ofChange entryApartSpec)

/-- ITS FALSE NEIGHBOUR: 'it returns false'. Refute it at one input. -/
def entryApartWrong : ChangeSpec := { name := "entryApart", fn := fun _ => fun
  | [d1, d2, d3] => { results := [.lit (.bool false)], args := [d1, d2, d3] }
  | _ => none }
def EntryApartWrongFalsely : Prop := entryApartRow.holds Try.pinned (OpenSpec.ofChange entryApartWrong)

/-- 'incipitlaw7.EntryVersions': WHATEVER THE INPUT: true; the input reads as it did. -/
def entryVersionsSpec : ChangeSpec := { name := "entryVersions", fn := fun _ => fun
  | [d1, d2, d3] => { results := [.lit (.bool true)], args := [d1, d2, d3] }
  | _ => none }
def entryVersionsRow : OpenClaim := { program := "ytcijcfdllfaghaa", sum := "de31b53ccd41c6b1eed237c5ba871b00bb1453d80bf28dd932828b6c34e49358", func := "incipit/incipitlaw7.EntryVersions", spec := "entryVersions", inPlace := ["internal/bytealg.abigen_runtime_cmpstring"], unfollowed := true, recurses := true, apart := false }
def EntryVersionsSaid : Prop := entryVersionsRow.holds Try.pinned (OpenSpec.ofChange entryVersionsSpec)

/-- ITS FALSE NEIGHBOUR: 'it returns false'. Refute it at one input. -/
def entryVersionsWrong : ChangeSpec := { name := "entryVersions", fn := fun _ => fun
  | [d1, d2, d3] => { results := [.lit (.bool false)], args := [d1, d2, d3] }
  | _ => none }
def EntryVersionsWrongFalsely : Prop := entryVersionsRow.holds Try.pinned (OpenSpec.ofChange entryVersionsWrong)

/-- 'incipitlaw23.DropAll': WHATEVER THE INPUT: true; the input reads as it did. -/
def dropAllSpec : ChangeSpec := { name := "dropAll", fn := fun _ => fun
  | [d1, d2, d3, d4] => { results := [.lit (.bool true)], args := [d1, d2, d3, d4] }
  | _ => none }
def dropAllRow : OpenClaim := { program := "ytcijcfdllfaghaa", sum := "de31b53ccd41c6b1eed237c5ba871b00bb1453d80bf28dd932828b6c34e49358", func := "incipit/incipitlaw23.DropAll", spec := "dropAll", unfollowed := true, recurses := true, apart := false }
def DropAllSaid : Prop := dropAllRow.holds Try.pinned (OpenSpec.ofChange dropAllSpec)

/-- ITS FALSE NEIGHBOUR: 'it returns false'. Refute it at one input. -/
def dropAllWrong : ChangeSpec := { name := "dropAll", fn := fun _ => fun
  | [d1, d2, d3, d4] => { results := [.lit (.bool false)], args := [d1, d2, d3, d4] }
  | _ => none }
def DropAllWrongFalsely : Prop := dropAllRow.holds Try.pinned (OpenSpec.ofChange dropAllWrong)

/-- 'incipitlaw23.DropCut': WHATEVER THE INPUT: true; the input reads as it did. -/
def dropCutSpec : ChangeSpec := { name := "dropCut", fn := fun _ => fun
  | [d1, d2] => { results := [.lit (.bool true)], args := [d1, d2] }
  | _ => none }
def dropCutRow : OpenClaim := { program := "ytcijcfdllfaghaa", sum := "de31b53ccd41c6b1eed237c5ba871b00bb1453d80bf28dd932828b6c34e49358", func := "incipit/incipitlaw23.DropCut", spec := "dropCut", unfollowed := true, recurses := true, apart := false }
def DropCutSaid : Prop := dropCutRow.holds Try.pinned (OpenSpec.ofChange dropCutSpec)

/-- ITS FALSE NEIGHBOUR: 'it returns false'. Refute it at one input. -/
def dropCutWrong : ChangeSpec := { name := "dropCut", fn := fun _ => fun
  | [d1, d2] => { results := [.lit (.bool false)], args := [d1, d2] }
  | _ => none }
def DropCutWrongFalsely : Prop := dropCutRow.holds Try.pinned (OpenSpec.ofChange dropCutWrong)

/-- 'incipitlaw23.DropVersions': WHATEVER THE INPUT: true; the input reads as it did. -/
def dropVersionsSpec : ChangeSpec := { name := "dropVersions", fn := fun _ => fun
  | [d1, d2] => { results := [.lit (.bool true)], args := [d1, d2] }
  | _ => none }
def dropVersionsRow : OpenClaim := { program := "ytcijcfdllfaghaa", sum := "de31b53ccd41c6b1eed237c5ba871b00bb1453d80bf28dd932828b6c34e49358", func := "incipit/incipitlaw23.DropVersions", spec := "dropVersions", unfollowed := true, recurses := true, apart := false }
def DropVersionsSaid : Prop := dropVersionsRow.holds Try.pinned (OpenSpec.ofChange dropVersionsSpec)

/-- ITS FALSE NEIGHBOUR: 'it returns false'. Refute it at one input. -/
def dropVersionsWrong : ChangeSpec := { name := "dropVersions", fn := fun _ => fun
  | [d1, d2] => { results := [.lit (.bool false)], args := [d1, d2] }
  | _ => none }
def DropVersionsWrongFalsely : Prop := dropVersionsRow.holds Try.pinned (OpenSpec.ofChange dropVersionsWrong)

/-- 'incipitlaw23.DropAgain': WHATEVER THE INPUT: true; the input reads as it did. -/
def dropAgainSpec : ChangeSpec := { name := "dropAgain", fn := fun _ => fun
  | [d1, d2, d3, d4, d5] => { results := [.lit (.bool true)], args := [d1, d2, d3, d4, d5] }
  | _ => none }
def dropAgainRow : OpenClaim := { program := "ytcijcfdllfaghaa", sum := "de31b53ccd41c6b1eed237c5ba871b00bb1453d80bf28dd932828b6c34e49358", func := "incipit/incipitlaw23.DropAgain", spec := "dropAgain", unfollowed := true, recurses := true, apart := false }
def DropAgainSaid : Prop := dropAgainRow.holds Try.pinned (OpenSpec.ofChange dropAgainSpec)

/-- ITS FALSE NEIGHBOUR: 'it returns false'. Refute it at one input. -/
def dropAgainWrong : ChangeSpec := { name := "dropAgain", fn := fun _ => fun
  | [d1, d2, d3, d4, d5] => { results := [.lit (.bool false)], args := [d1, d2, d3, d4, d5] }
  | _ => none }
def DropAgainWrongFalsely : Prop := dropAgainRow.holds Try.pinned (OpenSpec.ofChange dropAgainWrong)

/-- 'incipitlaw11.RecordsLaid': WHATEVER THE INPUT: true; the input reads as it did. -/
def recordsLaidSpec : ChangeSpec := { name := "recordsLaid", fn := fun _ => fun
  | [d1, d2] => { results := [.lit (.bool true)], args := [d1, d2] }
  | _ => none }
def recordsLaidRow : OpenClaim := { program := "ytcijcfdllfaghaa", sum := "de31b53ccd41c6b1eed237c5ba871b00bb1453d80bf28dd932828b6c34e49358", func := "incipit/incipitlaw11.RecordsLaid", spec := "recordsLaid", apart := false }
def RecordsLaidSaid : Prop := recordsLaidRow.holds Try.pinned (OpenSpec.ofChange recordsLaidSpec)

/-- ITS FALSE NEIGHBOUR: 'it returns false'. Refute it at one input. -/
def recordsLaidWrong : ChangeSpec := { name := "recordsLaid", fn := fun _ => fun
  | [d1, d2] => { results := [.lit (.bool false)], args := [d1, d2] }
  | _ => none }
def RecordsLaidWrongFalsely : Prop := recordsLaidRow.holds Try.pinned (OpenSpec.ofChange recordsLaidWrong)

/-- 'incipitlaw11.RecordsCut': WHATEVER THE INPUT: true; the input reads as it did. -/
def recordsCutSpec : ChangeSpec := { name := "recordsCut", fn := fun _ => fun
  | [d1, d2, d3] => { results := [.lit (.bool true)], args := [d1, d2, d3] }
  | _ => none }
def recordsCutRow : OpenClaim := { program := "ytcijcfdllfaghaa", sum := "de31b53ccd41c6b1eed237c5ba871b00bb1453d80bf28dd932828b6c34e49358", func := "incipit/incipitlaw11.RecordsCut", spec := "recordsCut", apart := false }
def RecordsCutSaid : Prop := recordsCutRow.holds Try.pinned (OpenSpec.ofChange recordsCutSpec)

/-- ITS FALSE NEIGHBOUR: 'it returns false'. Refute it at one input. -/
def recordsCutWrong : ChangeSpec := { name := "recordsCut", fn := fun _ => fun
  | [d1, d2, d3] => { results := [.lit (.bool false)], args := [d1, d2, d3] }
  | _ => none }
def RecordsCutWrongFalsely : Prop := recordsCutRow.holds Try.pinned (OpenSpec.ofChange recordsCutWrong)

/-- 'incipitlaw11.RecordsEdge': WHATEVER THE INPUT: true; the input reads as it did. -/
def recordsEdgeSpec : ChangeSpec := { name := "recordsEdge", fn := fun _ => fun
  | [d1, d2] => { results := [.lit (.bool true)], args := [d1, d2] }
  | _ => none }
def recordsEdgeRow : OpenClaim := { program := "ytcijcfdllfaghaa", sum := "de31b53ccd41c6b1eed237c5ba871b00bb1453d80bf28dd932828b6c34e49358", func := "incipit/incipitlaw11.RecordsEdge", spec := "recordsEdge", apart := false }
def RecordsEdgeSaid : Prop := recordsEdgeRow.holds Try.pinned (OpenSpec.ofChange recordsEdgeSpec)

/-- ITS FALSE NEIGHBOUR: 'it returns false'. Refute it at one input. -/
def recordsEdgeWrong : ChangeSpec := { name := "recordsEdge", fn := fun _ => fun
  | [d1, d2] => { results := [.lit (.bool false)], args := [d1, d2] }
  | _ => none }
def RecordsEdgeWrongFalsely : Prop := recordsEdgeRow.holds Try.pinned (OpenSpec.ofChange recordsEdgeWrong)

/-- 'incipitlaw11.RecordsInside': WHATEVER THE INPUT: true; the input reads as it did. -/
def recordsInsideSpec : ChangeSpec := { name := "recordsInside", fn := fun _ => fun
  | [d1, d2] => { results := [.lit (.bool true)], args := [d1, d2] }
  | _ => none }
def recordsInsideRow : OpenClaim := { program := "ytcijcfdllfaghaa", sum := "de31b53ccd41c6b1eed237c5ba871b00bb1453d80bf28dd932828b6c34e49358", func := "incipit/incipitlaw11.RecordsInside", spec := "recordsInside", apart := false }
def RecordsInsideSaid : Prop := recordsInsideRow.holds Try.pinned (OpenSpec.ofChange recordsInsideSpec)

/-- ITS FALSE NEIGHBOUR: 'it returns false'. Refute it at one input. -/
def recordsInsideWrong : ChangeSpec := { name := "recordsInside", fn := fun _ => fun
  | [d1, d2] => { results := [.lit (.bool false)], args := [d1, d2] }
  | _ => none }
def RecordsInsideWrongFalsely : Prop := recordsInsideRow.holds Try.pinned (OpenSpec.ofChange recordsInsideWrong)

/- THE SECOND FORM. 'bulk': how many values and letters a reading holds, each counted each time it is reached (what is shared counts as often as it is met; a slice's spare places count too). A statement '..UptoSaid' is the law's where the arguments, and the package variables that the reading takes, are together of bulk at most 1048576: NARROWER than '..Said'. Prove '..Said' where nothing that the law and all that it calls make is longer than what came in: it says more and counts as full. Else prove '..UptoSaid'. A law counts once. -/
mutual
def uptoBulk {H : Type} : DataW H → Nat
  | .lit (.string bytes) => bytes.length + 1
  | .lit _ => 1
  | .nil => 1
  | .ptr d => uptoBulk d + 1
  | .slice elems spare => uptoBulkAll elems + uptoBulkAll spare + 1
  | .agg parts => uptoBulkAll parts + 1
  | .iface _ d => uptoBulk d + 1
  | .map entries => uptoBulkEntries entries + 1
  | .held _ => 1
def uptoBulkAll {H : Type} : List (DataW H) → Nat
  | [] => 0
  | d :: r => uptoBulk d + uptoBulkAll r
def uptoBulkEntries {H : Type} : List (Lit × DataW H) → Nat
  | [] => 0
  | x :: r => uptoBulkEntry x + uptoBulkEntries r
def uptoBulkEntry {H : Type} : Lit × DataW H → Nat
  | (.string bytes, d) => bytes.length + uptoBulk d + 1
  | (_, d) => uptoBulk d + 1
 end
def uptoSmall : (H : Type) → List (DataW H) → Bool := fun _ ds => decide (uptoBulkAll ds ≤ 1048576)
def OpenSpec.upto (s : _root_.Go.ChangeSpec) : _root_.Go.OpenSpec := { _root_.Go.OpenSpec.ofChange s with cond := some uptoSmall }

/-- 'incipitlaw7.EntryOrder', WHERE WHAT IT READS IS OF BULK AT MOST 1048576: true; the input reads as it did. -/
def entryOrderUptoRow : OpenClaim := { program := "ytcijcfdllfaghaa", sum := "de31b53ccd41c6b1eed237c5ba871b00bb1453d80bf28dd932828b6c34e49358", func := "incipit/incipitlaw7.EntryOrder", spec := "entryOrder", inPlace := ["internal/bytealg.abigen_runtime_cmpstring"], unfollowed := true, recurses := true, apart := false, narrowed := true }
def EntryOrderUptoSaid : Prop := entryOrderUptoRow.holds Try.pinned (OpenSpec.upto entryOrderSpec)

/-- 'incipitlaw7.EntryFind', WHERE WHAT IT READS IS OF BULK AT MOST 1048576: true; the input reads as it did. -/
def entryFindUptoRow : OpenClaim := { program := "ytcijcfdllfaghaa", sum := "de31b53ccd41c6b1eed237c5ba871b00bb1453d80bf28dd932828b6c34e49358", func := "incipit/incipitlaw7.EntryFind", spec := "entryFind", inPlace := ["internal/bytealg.abigen_runtime_cmpstring"], unfollowed := true, recurses := true, apart := false, narrowed := true }
def EntryFindUptoSaid : Prop := entryFindUptoRow.holds Try.pinned (OpenSpec.upto entryFindSpec)

/-- 'incipitlaw7.EntryApart', WHERE WHAT IT READS IS OF BULK AT MOST 1048576: true; the input reads as it did. -/
def entryApartUptoRow : OpenClaim := { program := "ytcijcfdllfaghaa", sum := "de31b53ccd41c6b1eed237c5ba871b00bb1453d80bf28dd932828b6c34e49358", func := "incipit/incipitlaw7.EntryApart", spec := "entryApart", inPlace := ["internal/bytealg.abigen_runtime_cmpstring"], unfollowed := true, recurses := true, apart := false, narrowed := true }
def EntryApartUptoSaid : Prop := entryApartUptoRow.holds Try.pinned (OpenSpec.upto entryApartSpec)

/-- 'incipitlaw7.EntryVersions', WHERE WHAT IT READS IS OF BULK AT MOST 1048576: true; the input reads as it did. -/
def entryVersionsUptoRow : OpenClaim := { program := "ytcijcfdllfaghaa", sum := "de31b53ccd41c6b1eed237c5ba871b00bb1453d80bf28dd932828b6c34e49358", func := "incipit/incipitlaw7.EntryVersions", spec := "entryVersions", inPlace := ["internal/bytealg.abigen_runtime_cmpstring"], unfollowed := true, recurses := true, apart := false, narrowed := true }
def EntryVersionsUptoSaid : Prop := entryVersionsUptoRow.holds Try.pinned (OpenSpec.upto entryVersionsSpec)

/-- 'incipitlaw23.DropAll', WHERE WHAT IT READS IS OF BULK AT MOST 1048576: true; the input reads as it did. -/
def dropAllUptoRow : OpenClaim := { program := "ytcijcfdllfaghaa", sum := "de31b53ccd41c6b1eed237c5ba871b00bb1453d80bf28dd932828b6c34e49358", func := "incipit/incipitlaw23.DropAll", spec := "dropAll", unfollowed := true, recurses := true, apart := false, narrowed := true }
def DropAllUptoSaid : Prop := dropAllUptoRow.holds Try.pinned (OpenSpec.upto dropAllSpec)

/-- 'incipitlaw23.DropCut', WHERE WHAT IT READS IS OF BULK AT MOST 1048576: true; the input reads as it did. -/
def dropCutUptoRow : OpenClaim := { program := "ytcijcfdllfaghaa", sum := "de31b53ccd41c6b1eed237c5ba871b00bb1453d80bf28dd932828b6c34e49358", func := "incipit/incipitlaw23.DropCut", spec := "dropCut", unfollowed := true, recurses := true, apart := false, narrowed := true }
def DropCutUptoSaid : Prop := dropCutUptoRow.holds Try.pinned (OpenSpec.upto dropCutSpec)

/-- 'incipitlaw23.DropVersions', WHERE WHAT IT READS IS OF BULK AT MOST 1048576: true; the input reads as it did. -/
def dropVersionsUptoRow : OpenClaim := { program := "ytcijcfdllfaghaa", sum := "de31b53ccd41c6b1eed237c5ba871b00bb1453d80bf28dd932828b6c34e49358", func := "incipit/incipitlaw23.DropVersions", spec := "dropVersions", unfollowed := true, recurses := true, apart := false, narrowed := true }
def DropVersionsUptoSaid : Prop := dropVersionsUptoRow.holds Try.pinned (OpenSpec.upto dropVersionsSpec)

/-- 'incipitlaw23.DropAgain', WHERE WHAT IT READS IS OF BULK AT MOST 1048576: true; the input reads as it did. -/
def dropAgainUptoRow : OpenClaim := { program := "ytcijcfdllfaghaa", sum := "de31b53ccd41c6b1eed237c5ba871b00bb1453d80bf28dd932828b6c34e49358", func := "incipit/incipitlaw23.DropAgain", spec := "dropAgain", unfollowed := true, recurses := true, apart := false, narrowed := true }
def DropAgainUptoSaid : Prop := dropAgainUptoRow.holds Try.pinned (OpenSpec.upto dropAgainSpec)

/-- 'incipitlaw11.RecordsLaid', WHERE WHAT IT READS IS OF BULK AT MOST 1048576: true; the input reads as it did. -/
def recordsLaidUptoRow : OpenClaim := { program := "ytcijcfdllfaghaa", sum := "de31b53ccd41c6b1eed237c5ba871b00bb1453d80bf28dd932828b6c34e49358", func := "incipit/incipitlaw11.RecordsLaid", spec := "recordsLaid", apart := false, narrowed := true }
def RecordsLaidUptoSaid : Prop := recordsLaidUptoRow.holds Try.pinned (OpenSpec.upto recordsLaidSpec)

/-- 'incipitlaw11.RecordsCut', WHERE WHAT IT READS IS OF BULK AT MOST 1048576: true; the input reads as it did. -/
def recordsCutUptoRow : OpenClaim := { program := "ytcijcfdllfaghaa", sum := "de31b53ccd41c6b1eed237c5ba871b00bb1453d80bf28dd932828b6c34e49358", func := "incipit/incipitlaw11.RecordsCut", spec := "recordsCut", apart := false, narrowed := true }
def RecordsCutUptoSaid : Prop := recordsCutUptoRow.holds Try.pinned (OpenSpec.upto recordsCutSpec)

/-- 'incipitlaw11.RecordsEdge', WHERE WHAT IT READS IS OF BULK AT MOST 1048576: true; the input reads as it did. -/
def recordsEdgeUptoRow : OpenClaim := { program := "ytcijcfdllfaghaa", sum := "de31b53ccd41c6b1eed237c5ba871b00bb1453d80bf28dd932828b6c34e49358", func := "incipit/incipitlaw11.RecordsEdge", spec := "recordsEdge", apart := false, narrowed := true }
def RecordsEdgeUptoSaid : Prop := recordsEdgeUptoRow.holds Try.pinned (OpenSpec.upto recordsEdgeSpec)

/-- 'incipitlaw11.RecordsInside', WHERE WHAT IT READS IS OF BULK AT MOST 1048576: true; the input reads as it did. -/
def recordsInsideUptoRow : OpenClaim := { program := "ytcijcfdllfaghaa", sum := "de31b53ccd41c6b1eed237c5ba871b00bb1453d80bf28dd932828b6c34e49358", func := "incipit/incipitlaw11.RecordsInside", spec := "recordsInside", apart := false, narrowed := true }
def RecordsInsideUptoSaid : Prop := recordsInsideUptoRow.holds Try.pinned (OpenSpec.upto recordsInsideSpec)

end Rows
end Go.Proofs.Ytcijcfdllfaghaa
