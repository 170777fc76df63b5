/-
  No cell of these rows narrows 'for every input' (looked for: loops, veiled, ifaces, maps, wideKeys, modest, calm, conditions, laid).
  DERIVED. THE GIVEN ROWS OF THIS SEAT. 12 by the template 'for every input the law returns true; each argument reads behind the call as it read before'; 0 by the template 'total and deterministic' (their statements: YtoglanahjlfihaaTotals.lean).
  GIVEN WITH THE SEED: the statements are not yours to turn. If you find one false, say at which input.
  Laid BY PROGRAM, IN A SANDBOX (cutbox-rows.mjs): the forced cells as the released guide's own fill.sh prints them over the translation 304e4014e500ffcc… (all of the seat's roots in one cut). By AI agents, Wed Nov 11 2026. No macro, syntax, notation, axiom, sorry.
-/
import Derived.Test.YtoglanahjlfihaaChecked
import GoSem.Claim
import GoSem.ClaimJoined
import GoSem.ClaimMapViews
import Derived.JoinedTies
import Derived.KernelRfl
namespace Go.Proofs.Ytoglanahjlfihaa
/- THE CELL 'sum', in the pinned program and in every row, IS THE sha256 OF THE DUMP (.gsa) THAT YtoglanahjlfihaaProg.lean LOADS. Nothing in Lean hashes anything: it is a label: what it is worth is what the hold of that sum in a sandbox is worth. -/
noncomputable def Try.pinned : Pinned := { name := "ytoglanahjlfihaa", sum := "304e4014e500ffcc41ee9ef22abe211cd52991c554ae5aff65d516e5a1bce6de", checked := Try.checked }
namespace Rows
def none {H : Type} : Left H := { results := [], args := [] }

/-- 'incipitlaw14.ListVersions': WHATEVER THE INPUT: true; the input reads as it did. -/
def listVersionsSpec : ChangeSpec := { name := "listVersions", fn := fun _ => fun
  | [d1, d2, d3, d4] => { results := [.lit (.bool true)], args := [d1, d2, d3, d4] }
  | _ => none }
def listVersionsRow : OpenClaim := { program := "ytoglanahjlfihaa", sum := "304e4014e500ffcc41ee9ef22abe211cd52991c554ae5aff65d516e5a1bce6de", func := "incipit/incipitlaw14.ListVersions", spec := "listVersions", inPlace := ["internal/bytealg.abigen_runtime_cmpstring"], apart := false }
def ListVersionsSaid : Prop := listVersionsRow.holds Try.pinned (OpenSpec.ofChange listVersionsSpec)

/-- ITS FALSE NEIGHBOUR: 'it returns false'. Refute it at one input. -/
def listVersionsWrong : ChangeSpec := { name := "listVersions", fn := fun _ => fun
  | [d1, d2, d3, d4] => { results := [.lit (.bool false)], args := [d1, d2, d3, d4] }
  | _ => none }
def ListVersionsWrongFalsely : Prop := listVersionsRow.holds Try.pinned (OpenSpec.ofChange listVersionsWrong)

/-- 'incipitlaw14.ListTowers': WHATEVER THE INPUT: true; the input reads as it did. -/
def listTowersSpec : ChangeSpec := { name := "listTowers", fn := fun _ => fun
  | [d1, d2, d3] => { results := [.lit (.bool true)], args := [d1, d2, d3] }
  | _ => none }
def listTowersRow : OpenClaim := { program := "ytoglanahjlfihaa", sum := "304e4014e500ffcc41ee9ef22abe211cd52991c554ae5aff65d516e5a1bce6de", func := "incipit/incipitlaw14.ListTowers", spec := "listTowers", inPlace := ["internal/bytealg.abigen_runtime_cmpstring"], apart := false }
def ListTowersSaid : Prop := listTowersRow.holds Try.pinned (OpenSpec.ofChange listTowersSpec)

/-- ITS FALSE NEIGHBOUR: 'it returns false'. Refute it at one input. -/
def listTowersWrong : ChangeSpec := { name := "listTowers", fn := fun _ => fun
  | [d1, d2, d3] => { results := [.lit (.bool false)], args := [d1, d2, d3] }
  | _ => none }
def ListTowersWrongFalsely : Prop := listTowersRow.holds Try.pinned (OpenSpec.ofChange listTowersWrong)

/-- 'incipitlaw19.EditBytes': WHATEVER THE INPUT: true; the input reads as it did. -/
def editBytesSpec : ChangeSpec := { name := "editBytes", fn := fun _ => fun
  | [d1, d2, d3, d4] => { results := [.lit (.bool true)], args := [d1, d2, d3, d4] }
  | _ => none }
def editBytesRow : OpenClaim := { program := "ytoglanahjlfihaa", sum := "304e4014e500ffcc41ee9ef22abe211cd52991c554ae5aff65d516e5a1bce6de", func := "incipit/incipitlaw19.EditBytes", spec := "editBytes", unfollowed := true, recurses := true, apart := false }
def EditBytesSaid : Prop := editBytesRow.holds Try.pinned (OpenSpec.ofChange editBytesSpec)

/-- ITS FALSE NEIGHBOUR: 'it returns false'. Refute it at one input. -/
def editBytesWrong : ChangeSpec := { name := "editBytes", fn := fun _ => fun
  | [d1, d2, d3, d4] => { results := [.lit (.bool false)], args := [d1, d2, d3, d4] }
  | _ => none }
def EditBytesWrongFalsely : Prop := editBytesRow.holds Try.pinned (OpenSpec.ofChange editBytesWrong)

/-- 'incipitlaw19.EditEnds': WHATEVER THE INPUT: true; the input reads as it did. -/
def editEndsSpec : ChangeSpec := { name := "editEnds", fn := fun _ => fun
  | [d1, d2, d3, d4, d5, d6] => { results := [.lit (.bool true)], args := [d1, d2, d3, d4, d5, d6] }
  | _ => none }
def editEndsRow : OpenClaim := { program := "ytoglanahjlfihaa", sum := "304e4014e500ffcc41ee9ef22abe211cd52991c554ae5aff65d516e5a1bce6de", func := "incipit/incipitlaw19.EditEnds", spec := "editEnds", unfollowed := true, recurses := true, apart := false }
def EditEndsSaid : Prop := editEndsRow.holds Try.pinned (OpenSpec.ofChange editEndsSpec)

/-- ITS FALSE NEIGHBOUR: 'it returns false'. Refute it at one input. -/
def editEndsWrong : ChangeSpec := { name := "editEnds", fn := fun _ => fun
  | [d1, d2, d3, d4, d5, d6] => { results := [.lit (.bool false)], args := [d1, d2, d3, d4, d5, d6] }
  | _ => none }
def EditEndsWrongFalsely : Prop := editEndsRow.holds Try.pinned (OpenSpec.ofChange editEndsWrong)

/-- 'incipitlaw19.EditMany': WHATEVER THE INPUT: true; the input reads as it did. -/
def editManySpec : ChangeSpec := { name := "editMany", fn := fun _ => fun
  | [d1, d2] => { results := [.lit (.bool true)], args := [d1, d2] }
  | _ => none }
def editManyRow : OpenClaim := { program := "ytoglanahjlfihaa", sum := "304e4014e500ffcc41ee9ef22abe211cd52991c554ae5aff65d516e5a1bce6de", func := "incipit/incipitlaw19.EditMany", spec := "editMany", unfollowed := true, recurses := true, apart := false }
def EditManySaid : Prop := editManyRow.holds Try.pinned (OpenSpec.ofChange editManySpec)

/-- ITS FALSE NEIGHBOUR: 'it returns false'. Refute it at one input. -/
def editManyWrong : ChangeSpec := { name := "editMany", fn := fun _ => fun
  | [d1, d2] => { results := [.lit (.bool false)], args := [d1, d2] }
  | _ => none }
def EditManyWrongFalsely : Prop := editManyRow.holds Try.pinned (OpenSpec.ofChange editManyWrong)

/-- 'incipitlaw14.ListBoth': WHATEVER THE INPUT: true; the input reads as it did. -/
def listBothSpec : ChangeSpec := { name := "listBoth", fn := fun _ => fun
  | [d] => { results := [.lit (.bool true)], args := [d] }
  | _ => none }
def listBothRow : OpenClaim := { program := "ytoglanahjlfihaa", sum := "304e4014e500ffcc41ee9ef22abe211cd52991c554ae5aff65d516e5a1bce6de", func := "incipit/incipitlaw14.ListBoth", spec := "listBoth", inPlace := ["internal/bytealg.abigen_runtime_cmpstring"], apart := false }
def ListBothSaid : Prop := listBothRow.holds Try.pinned (OpenSpec.ofChange listBothSpec)

/-- ITS FALSE NEIGHBOUR: 'it returns false'. Refute it at one input. -/
def listBothWrong : ChangeSpec := { name := "listBoth", fn := fun _ => fun
  | [d] => { results := [.lit (.bool false)], args := [d] }
  | _ => none }
def ListBothWrongFalsely : Prop := listBothRow.holds Try.pinned (OpenSpec.ofChange listBothWrong)

/-- 'incipitlaw16.BlockAll': WHATEVER THE INPUT: true; the input reads as it did. -/
def blockAllSpec : ChangeSpec := { name := "blockAll", fn := fun _ => fun
  | [d1, d2] => { results := [.lit (.bool true)], args := [d1, d2] }
  | _ => none }
def blockAllRow : OpenClaim := { program := "ytoglanahjlfihaa", sum := "304e4014e500ffcc41ee9ef22abe211cd52991c554ae5aff65d516e5a1bce6de", func := "incipit/incipitlaw16.BlockAll", spec := "blockAll", apart := false }
def BlockAllSaid : Prop := blockAllRow.holds Try.pinned (OpenSpec.ofChange blockAllSpec)

/-- ITS FALSE NEIGHBOUR: 'it returns false'. Refute it at one input. -/
def blockAllWrong : ChangeSpec := { name := "blockAll", fn := fun _ => fun
  | [d1, d2] => { results := [.lit (.bool false)], args := [d1, d2] }
  | _ => none }
def BlockAllWrongFalsely : Prop := blockAllRow.holds Try.pinned (OpenSpec.ofChange blockAllWrong)

/-- 'incipitlaw16.BlockAny': WHATEVER THE INPUT: true; the input reads as it did. -/
def blockAnySpec : ChangeSpec := { name := "blockAny", fn := fun _ => fun
  | [d1, d2, d3, d4, d5] => { results := [.lit (.bool true)], args := [d1, d2, d3, d4, d5] }
  | _ => none }
def blockAnyRow : OpenClaim := { program := "ytoglanahjlfihaa", sum := "304e4014e500ffcc41ee9ef22abe211cd52991c554ae5aff65d516e5a1bce6de", func := "incipit/incipitlaw16.BlockAny", spec := "blockAny", apart := false }
def BlockAnySaid : Prop := blockAnyRow.holds Try.pinned (OpenSpec.ofChange blockAnySpec)

/-- ITS FALSE NEIGHBOUR: 'it returns false'. Refute it at one input. -/
def blockAnyWrong : ChangeSpec := { name := "blockAny", fn := fun _ => fun
  | [d1, d2, d3, d4, d5] => { results := [.lit (.bool false)], args := [d1, d2, d3, d4, d5] }
  | _ => none }
def BlockAnyWrongFalsely : Prop := blockAnyRow.holds Try.pinned (OpenSpec.ofChange blockAnyWrong)

/-- 'incipitlaw16.BlockNone': WHATEVER THE INPUT: true; the input reads as it did. -/
def blockNoneSpec : ChangeSpec := { name := "blockNone", fn := fun _ => fun
  | [] => { results := [.lit (.bool true)], args := [] }
  | _ => none }
def blockNoneRow : OpenClaim := { program := "ytoglanahjlfihaa", sum := "304e4014e500ffcc41ee9ef22abe211cd52991c554ae5aff65d516e5a1bce6de", func := "incipit/incipitlaw16.BlockNone", spec := "blockNone", apart := false }
def BlockNoneSaid : Prop := blockNoneRow.holds Try.pinned (OpenSpec.ofChange blockNoneSpec)

/-- ITS FALSE NEIGHBOUR: 'it returns false'. Refute it at one input. -/
def blockNoneWrong : ChangeSpec := { name := "blockNone", fn := fun _ => fun
  | [] => { results := [.lit (.bool false)], args := [] }
  | _ => none }
def BlockNoneWrongFalsely : Prop := blockNoneRow.holds Try.pinned (OpenSpec.ofChange blockNoneWrong)

/-- 'incipitlaw16.BlockSeek': WHATEVER THE INPUT: true; the input reads as it did. -/
def blockSeekSpec : ChangeSpec := { name := "blockSeek", fn := fun _ => fun
  | [d] => { results := [.lit (.bool true)], args := [d] }
  | _ => none }
def blockSeekRow : OpenClaim := { program := "ytoglanahjlfihaa", sum := "304e4014e500ffcc41ee9ef22abe211cd52991c554ae5aff65d516e5a1bce6de", func := "incipit/incipitlaw16.BlockSeek", spec := "blockSeek", apart := false }
def BlockSeekSaid : Prop := blockSeekRow.holds Try.pinned (OpenSpec.ofChange blockSeekSpec)

/-- ITS FALSE NEIGHBOUR: 'it returns false'. Refute it at one input. -/
def blockSeekWrong : ChangeSpec := { name := "blockSeek", fn := fun _ => fun
  | [d] => { results := [.lit (.bool false)], args := [d] }
  | _ => none }
def BlockSeekWrongFalsely : Prop := blockSeekRow.holds Try.pinned (OpenSpec.ofChange blockSeekWrong)

/-- 'incipitlaw16.BlockShares': WHATEVER THE INPUT: true; the input reads as it did. -/
def blockSharesSpec : ChangeSpec := { name := "blockShares", fn := fun _ => fun
  | [d1, d2] => { results := [.lit (.bool true)], args := [d1, d2] }
  | _ => none }
def blockSharesRow : OpenClaim := { program := "ytoglanahjlfihaa", sum := "304e4014e500ffcc41ee9ef22abe211cd52991c554ae5aff65d516e5a1bce6de", func := "incipit/incipitlaw16.BlockShares", spec := "blockShares", apart := false }
def BlockSharesSaid : Prop := blockSharesRow.holds Try.pinned (OpenSpec.ofChange blockSharesSpec)

/-- ITS FALSE NEIGHBOUR: 'it returns false'. Refute it at one input. -/
def blockSharesWrong : ChangeSpec := { name := "blockShares", fn := fun _ => fun
  | [d1, d2] => { results := [.lit (.bool false)], args := [d1, d2] }
  | _ => none }
def BlockSharesWrongFalsely : Prop := blockSharesRow.holds Try.pinned (OpenSpec.ofChange blockSharesWrong)

/-- 'incipitlaw14.ListNone': WHATEVER THE INPUT: true; the input reads as it did. -/
def listNoneSpec : ChangeSpec := { name := "listNone", fn := fun _ => fun
  | [] => { results := [.lit (.bool true)], args := [] }
  | _ => none }
def listNoneRow : OpenClaim := { program := "ytoglanahjlfihaa", sum := "304e4014e500ffcc41ee9ef22abe211cd52991c554ae5aff65d516e5a1bce6de", func := "incipit/incipitlaw14.ListNone", spec := "listNone", inPlace := ["internal/bytealg.abigen_runtime_cmpstring"], apart := false }
def ListNoneSaid : Prop := listNoneRow.holds Try.pinned (OpenSpec.ofChange listNoneSpec)

/-- ITS FALSE NEIGHBOUR: 'it returns false'. Refute it at one input. -/
def listNoneWrong : ChangeSpec := { name := "listNone", fn := fun _ => fun
  | [] => { results := [.lit (.bool false)], args := [] }
  | _ => none }
def ListNoneWrongFalsely : Prop := listNoneRow.holds Try.pinned (OpenSpec.ofChange listNoneWrong)

/- THE SECOND FORM. 'bulk': how many values and letters a reading holds, each counted each time it is reached (what is shared counts as often as it is met; a slice's spare places count too). A statement '..UptoSaid' is the law's where the arguments, and the package variables that the reading takes, are together of bulk at most 1048576: NARROWER than '..Said'. Prove '..Said' where nothing that the law and all that it calls make is longer than what came in: it says more and counts as full. Else prove '..UptoSaid'. A law counts once. -/
mutual
def uptoBulk {H : Type} : DataW H → Nat
  | .lit (.string bytes) => bytes.length + 1
  | .lit _ => 1
  | .nil => 1
  | .ptr d => uptoBulk d + 1
  | .slice elems spare => uptoBulkAll elems + uptoBulkAll spare + 1
  | .agg parts => uptoBulkAll parts + 1
  | .iface _ d => uptoBulk d + 1
  | .map entries => uptoBulkEntries entries + 1
  | .held _ => 1
def uptoBulkAll {H : Type} : List (DataW H) → Nat
  | [] => 0
  | d :: r => uptoBulk d + uptoBulkAll r
def uptoBulkEntries {H : Type} : List (Lit × DataW H) → Nat
  | [] => 0
  | x :: r => uptoBulkEntry x + uptoBulkEntries r
def uptoBulkEntry {H : Type} : Lit × DataW H → Nat
  | (.string bytes, d) => bytes.length + uptoBulk d + 1
  | (_, d) => uptoBulk d + 1
 end
def uptoSmall : (H : Type) → List (DataW H) → Bool := fun _ ds => decide (uptoBulkAll ds ≤ 1048576)
def OpenSpec.upto (s : _root_.Go.ChangeSpec) : _root_.Go.OpenSpec := { _root_.Go.OpenSpec.ofChange s with cond := some uptoSmall }

/-- 'incipitlaw14.ListVersions', WHERE WHAT IT READS IS OF BULK AT MOST 1048576: true; the input reads as it did. -/
def listVersionsUptoRow : OpenClaim := { program := "ytoglanahjlfihaa", sum := "304e4014e500ffcc41ee9ef22abe211cd52991c554ae5aff65d516e5a1bce6de", func := "incipit/incipitlaw14.ListVersions", spec := "listVersions", inPlace := ["internal/bytealg.abigen_runtime_cmpstring"], apart := false, narrowed := true }
def ListVersionsUptoSaid : Prop := listVersionsUptoRow.holds Try.pinned (OpenSpec.upto listVersionsSpec)

/-- 'incipitlaw14.ListTowers', WHERE WHAT IT READS IS OF BULK AT MOST 1048576: true; the input reads as it did. -/
def listTowersUptoRow : OpenClaim := { program := "ytoglanahjlfihaa", sum := "304e4014e500ffcc41ee9ef22abe211cd52991c554ae5aff65d516e5a1bce6de", func := "incipit/incipitlaw14.ListTowers", spec := "listTowers", inPlace := ["internal/bytealg.abigen_runtime_cmpstring"], apart := false, narrowed := true }
def ListTowersUptoSaid : Prop := listTowersUptoRow.holds Try.pinned (OpenSpec.upto listTowersSpec)

/-- 'incipitlaw19.EditBytes', WHERE WHAT IT READS IS OF BULK AT MOST 1048576: true; the input reads as it did. -/
def editBytesUptoRow : OpenClaim := { program := "ytoglanahjlfihaa", sum := "304e4014e500ffcc41ee9ef22abe211cd52991c554ae5aff65d516e5a1bce6de", func := "incipit/incipitlaw19.EditBytes", spec := "editBytes", unfollowed := true, recurses := true, apart := false, narrowed := true }
def EditBytesUptoSaid : Prop := editBytesUptoRow.holds Try.pinned (OpenSpec.upto editBytesSpec)

/-- 'incipitlaw19.EditEnds', WHERE WHAT IT READS IS OF BULK AT MOST 1048576: true; the input reads as it did. -/
def editEndsUptoRow : OpenClaim := { program := "ytoglanahjlfihaa", sum := "304e4014e500ffcc41ee9ef22abe211cd52991c554ae5aff65d516e5a1bce6de", func := "incipit/incipitlaw19.EditEnds", spec := "editEnds", unfollowed := true, recurses := true, apart := false, narrowed := true }
def EditEndsUptoSaid : Prop := editEndsUptoRow.holds Try.pinned (OpenSpec.upto editEndsSpec)

/-- 'incipitlaw19.EditMany', WHERE WHAT IT READS IS OF BULK AT MOST 1048576: true; the input reads as it did. -/
def editManyUptoRow : OpenClaim := { program := "ytoglanahjlfihaa", sum := "304e4014e500ffcc41ee9ef22abe211cd52991c554ae5aff65d516e5a1bce6de", func := "incipit/incipitlaw19.EditMany", spec := "editMany", unfollowed := true, recurses := true, apart := false, narrowed := true }
def EditManyUptoSaid : Prop := editManyUptoRow.holds Try.pinned (OpenSpec.upto editManySpec)

/-- 'incipitlaw14.ListBoth', WHERE WHAT IT READS IS OF BULK AT MOST 1048576: true; the input reads as it did. -/
def listBothUptoRow : OpenClaim := { program := "ytoglanahjlfihaa", sum := "304e4014e500ffcc41ee9ef22abe211cd52991c554ae5aff65d516e5a1bce6de", func := "incipit/incipitlaw14.ListBoth", spec := "listBoth", inPlace := ["internal/bytealg.abigen_runtime_cmpstring"], apart := false, narrowed := true }
def ListBothUptoSaid : Prop := listBothUptoRow.holds Try.pinned (OpenSpec.upto listBothSpec)

/-- 'incipitlaw16.BlockAll', WHERE WHAT IT READS IS OF BULK AT MOST 1048576: true; the input reads as it did. -/
def blockAllUptoRow : OpenClaim := { program := "ytoglanahjlfihaa", sum := "304e4014e500ffcc41ee9ef22abe211cd52991c554ae5aff65d516e5a1bce6de", func := "incipit/incipitlaw16.BlockAll", spec := "blockAll", apart := false, narrowed := true }
def BlockAllUptoSaid : Prop := blockAllUptoRow.holds Try.pinned (OpenSpec.upto blockAllSpec)

/-- 'incipitlaw16.BlockAny', WHERE WHAT IT READS IS OF BULK AT MOST 1048576: true; the input reads as it did. -/
def blockAnyUptoRow : OpenClaim := { program := "ytoglanahjlfihaa", sum := "304e4014e500ffcc41ee9ef22abe211cd52991c554ae5aff65d516e5a1bce6de", func := "incipit/incipitlaw16.BlockAny", spec := "blockAny", apart := false, narrowed := true }
def BlockAnyUptoSaid : Prop := blockAnyUptoRow.holds Try.pinned (OpenSpec.upto blockAnySpec)

/-- 'incipitlaw16.BlockNone', WHERE WHAT IT READS IS OF BULK AT MOST 1048576: true; the input reads as it did. -/
def blockNoneUptoRow : OpenClaim := { program := "ytoglanahjlfihaa", sum := "304e4014e500ffcc41ee9ef22abe211cd52991c554ae5aff65d516e5a1bce6de", func := "incipit/incipitlaw16.BlockNone", spec := "blockNone", apart := false, narrowed := true }
def BlockNoneUptoSaid : Prop := blockNoneUptoRow.holds Try.pinned (OpenSpec.upto blockNoneSpec)

/-- 'incipitlaw16.BlockSeek', WHERE WHAT IT READS IS OF BULK AT MOST 1048576: true; the input reads as it did. -/
def blockSeekUptoRow : OpenClaim := { program := "ytoglanahjlfihaa", sum := "304e4014e500ffcc41ee9ef22abe211cd52991c554ae5aff65d516e5a1bce6de", func := "incipit/incipitlaw16.BlockSeek", spec := "blockSeek", apart := false, narrowed := true }
def BlockSeekUptoSaid : Prop := blockSeekUptoRow.holds Try.pinned (OpenSpec.upto blockSeekSpec)

/-- 'incipitlaw16.BlockShares', WHERE WHAT IT READS IS OF BULK AT MOST 1048576: true; the input reads as it did. -/
def blockSharesUptoRow : OpenClaim := { program := "ytoglanahjlfihaa", sum := "304e4014e500ffcc41ee9ef22abe211cd52991c554ae5aff65d516e5a1bce6de", func := "incipit/incipitlaw16.BlockShares", spec := "blockShares", apart := false, narrowed := true }
def BlockSharesUptoSaid : Prop := blockSharesUptoRow.holds Try.pinned (OpenSpec.upto blockSharesSpec)

/-- 'incipitlaw14.ListNone', WHERE WHAT IT READS IS OF BULK AT MOST 1048576: true; the input reads as it did. -/
def listNoneUptoRow : OpenClaim := { program := "ytoglanahjlfihaa", sum := "304e4014e500ffcc41ee9ef22abe211cd52991c554ae5aff65d516e5a1bce6de", func := "incipit/incipitlaw14.ListNone", spec := "listNone", inPlace := ["internal/bytealg.abigen_runtime_cmpstring"], apart := false, narrowed := true }
def ListNoneUptoSaid : Prop := listNoneUptoRow.holds Try.pinned (OpenSpec.upto listNoneSpec)

end Rows
end Go.Proofs.Ytoglanahjlfihaa
