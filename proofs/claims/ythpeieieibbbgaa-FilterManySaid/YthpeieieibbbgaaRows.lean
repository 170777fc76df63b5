/-
  No cell of these rows narrows 'for every input' (looked for: loops, veiled, ifaces, maps, wideKeys, modest, calm, conditions, laid).
  DERIVED. THE GIVEN ROWS OF THIS SEAT. 12 by the template 'for every input the law returns true; each argument reads behind the call as it read before'; 0 by the template 'total and deterministic' (their statements: YthpeieieibbbgaaTotals.lean).
  GIVEN WITH THE SEED: the statements are not yours to turn. If you find one false, say at which input.
  Laid BY PROGRAM, IN A SANDBOX (cutbox-rows.mjs): the forced cells as the released guide's own fill.sh prints them over the translation d142c6c5fbb35b5b… (all of the seat's roots in one cut). By AI agents, Wed Nov 11 2026. No macro, syntax, notation, axiom, sorry.
-/
import Derived.Test.YthpeieieibbbgaaChecked
import GoSem.Claim
import GoSem.ClaimJoined
import GoSem.ClaimMapViews
import Derived.JoinedTies
import Derived.KernelRfl
namespace Go.Proofs.Ythpeieieibbbgaa
/- THE CELL 'sum', in the pinned program and in every row, IS THE sha256 OF THE DUMP (.gsa) THAT YthpeieieibbbgaaProg.lean LOADS. Nothing in Lean hashes anything: it is a label: what it is worth is what the hold of that sum in a sandbox is worth. -/
noncomputable def Try.pinned : Pinned := { name := "ythpeieieibbbgaa", sum := "d142c6c5fbb35b5b90eea6239425f323f5843626736a669cd785fce65af02a38", checked := Try.checked }
namespace Rows
def none {H : Type} : Left H := { results := [], args := [] }

/-- 'incipitlaw0.Names': WHATEVER THE INPUT: true; the input reads as it did. -/
def namesSpec : ChangeSpec := { name := "names", fn := fun _ => fun
  | [] => { results := [.lit (.bool true)], args := [] }
  | _ => none }
def namesRow : OpenClaim := { program := "ythpeieieibbbgaa", sum := "d142c6c5fbb35b5b90eea6239425f323f5843626736a669cd785fce65af02a38", func := "incipit/incipitlaw0.Names", spec := "names", apart := false }
def NamesSaid : Prop := namesRow.holds Try.pinned (OpenSpec.ofChange namesSpec)

/-- ITS FALSE NEIGHBOUR: 'it returns false'. Refute it at one input. -/
def namesWrong : ChangeSpec := { name := "names", fn := fun _ => fun
  | [] => { results := [.lit (.bool false)], args := [] }
  | _ => none }
def NamesWrongFalsely : Prop := namesRow.holds Try.pinned (OpenSpec.ofChange namesWrong)

/-- 'incipitlaw9.CrcAll': WHATEVER THE INPUT: true; the input reads as it did. -/
def crcAllSpec : ChangeSpec := { name := "crcAll", fn := fun _ => fun
  | [d1, d2] => { results := [.lit (.bool true)], args := [d1, d2] }
  | _ => none }
def crcAllRow : OpenClaim := { program := "ythpeieieibbbgaa", sum := "d142c6c5fbb35b5b90eea6239425f323f5843626736a669cd785fce65af02a38", func := "incipit/incipitlaw9.CrcAll", spec := "crcAll", apart := false }
def CrcAllSaid : Prop := crcAllRow.holds Try.pinned (OpenSpec.ofChange crcAllSpec)

/-- ITS FALSE NEIGHBOUR: 'it returns false'. Refute it at one input. -/
def crcAllWrong : ChangeSpec := { name := "crcAll", fn := fun _ => fun
  | [d1, d2] => { results := [.lit (.bool false)], args := [d1, d2] }
  | _ => none }
def CrcAllWrongFalsely : Prop := crcAllRow.holds Try.pinned (OpenSpec.ofChange crcAllWrong)

/-- 'incipitlaw9.CrcSpoilt': WHATEVER THE INPUT: true; the input reads as it did. -/
def crcSpoiltSpec : ChangeSpec := { name := "crcSpoilt", fn := fun _ => fun
  | [d1, d2, d3] => { results := [.lit (.bool true)], args := [d1, d2, d3] }
  | _ => none }
def crcSpoiltRow : OpenClaim := { program := "ythpeieieibbbgaa", sum := "d142c6c5fbb35b5b90eea6239425f323f5843626736a669cd785fce65af02a38", func := "incipit/incipitlaw9.CrcSpoilt", spec := "crcSpoilt", apart := false }
def CrcSpoiltSaid : Prop := crcSpoiltRow.holds Try.pinned (OpenSpec.ofChange crcSpoiltSpec)

/-- ITS FALSE NEIGHBOUR: 'it returns false'. Refute it at one input. -/
def crcSpoiltWrong : ChangeSpec := { name := "crcSpoilt", fn := fun _ => fun
  | [d1, d2, d3] => { results := [.lit (.bool false)], args := [d1, d2, d3] }
  | _ => none }
def CrcSpoiltWrongFalsely : Prop := crcSpoiltRow.holds Try.pinned (OpenSpec.ofChange crcSpoiltWrong)

/-- 'incipitlaw9.CrcBurst': WHATEVER THE INPUT: true; the input reads as it did. -/
def crcBurstSpec : ChangeSpec := { name := "crcBurst", fn := fun _ => fun
  | [d1, d2, d3] => { results := [.lit (.bool true)], args := [d1, d2, d3] }
  | _ => none }
def crcBurstRow : OpenClaim := { program := "ythpeieieibbbgaa", sum := "d142c6c5fbb35b5b90eea6239425f323f5843626736a669cd785fce65af02a38", func := "incipit/incipitlaw9.CrcBurst", spec := "crcBurst", apart := false }
def CrcBurstSaid : Prop := crcBurstRow.holds Try.pinned (OpenSpec.ofChange crcBurstSpec)

/-- ITS FALSE NEIGHBOUR: 'it returns false'. Refute it at one input. -/
def crcBurstWrong : ChangeSpec := { name := "crcBurst", fn := fun _ => fun
  | [d1, d2, d3] => { results := [.lit (.bool false)], args := [d1, d2, d3] }
  | _ => none }
def CrcBurstWrongFalsely : Prop := crcBurstRow.holds Try.pinned (OpenSpec.ofChange crcBurstWrong)

/-- 'incipitlaw15.FilterMany': WHATEVER THE INPUT: true; the input reads as it did. -/
def filterManySpec : ChangeSpec := { name := "filterMany", fn := fun _ => fun
  | [d] => { results := [.lit (.bool true)], args := [d] }
  | _ => none }
def filterManyRow : OpenClaim := { program := "ythpeieieibbbgaa", sum := "d142c6c5fbb35b5b90eea6239425f323f5843626736a669cd785fce65af02a38", func := "incipit/incipitlaw15.FilterMany", spec := "filterMany", apart := false }
def FilterManySaid : Prop := filterManyRow.holds Try.pinned (OpenSpec.ofChange filterManySpec)

/-- ITS FALSE NEIGHBOUR: 'it returns false'. Refute it at one input. -/
def filterManyWrong : ChangeSpec := { name := "filterMany", fn := fun _ => fun
  | [d] => { results := [.lit (.bool false)], args := [d] }
  | _ => none }
def FilterManyWrongFalsely : Prop := filterManyRow.holds Try.pinned (OpenSpec.ofChange filterManyWrong)

/-- 'incipitlaw8.NumbersAll': WHATEVER THE INPUT: true; the input reads as it did. -/
def numbersAllSpec : ChangeSpec := { name := "numbersAll", fn := fun _ => fun
  | [d1, d2] => { results := [.lit (.bool true)], args := [d1, d2] }
  | _ => none }
def numbersAllRow : OpenClaim := { program := "ythpeieieibbbgaa", sum := "d142c6c5fbb35b5b90eea6239425f323f5843626736a669cd785fce65af02a38", func := "incipit/incipitlaw8.NumbersAll", spec := "numbersAll", apart := false }
def NumbersAllSaid : Prop := numbersAllRow.holds Try.pinned (OpenSpec.ofChange numbersAllSpec)

/-- ITS FALSE NEIGHBOUR: 'it returns false'. Refute it at one input. -/
def numbersAllWrong : ChangeSpec := { name := "numbersAll", fn := fun _ => fun
  | [d1, d2] => { results := [.lit (.bool false)], args := [d1, d2] }
  | _ => none }
def NumbersAllWrongFalsely : Prop := numbersAllRow.holds Try.pinned (OpenSpec.ofChange numbersAllWrong)

/-- 'incipitlaw8.NumbersBytes': WHATEVER THE INPUT: true; the input reads as it did. -/
def numbersBytesSpec : ChangeSpec := { name := "numbersBytes", fn := fun _ => fun
  | [d] => { results := [.lit (.bool true)], args := [d] }
  | _ => none }
def numbersBytesRow : OpenClaim := { program := "ythpeieieibbbgaa", sum := "d142c6c5fbb35b5b90eea6239425f323f5843626736a669cd785fce65af02a38", func := "incipit/incipitlaw8.NumbersBytes", spec := "numbersBytes", apart := false }
def NumbersBytesSaid : Prop := numbersBytesRow.holds Try.pinned (OpenSpec.ofChange numbersBytesSpec)

/-- ITS FALSE NEIGHBOUR: 'it returns false'. Refute it at one input. -/
def numbersBytesWrong : ChangeSpec := { name := "numbersBytes", fn := fun _ => fun
  | [d] => { results := [.lit (.bool false)], args := [d] }
  | _ => none }
def NumbersBytesWrongFalsely : Prop := numbersBytesRow.holds Try.pinned (OpenSpec.ofChange numbersBytesWrong)

/-- 'incipitlaw8.NumbersMany': WHATEVER THE INPUT: true; the input reads as it did. -/
def numbersManySpec : ChangeSpec := { name := "numbersMany", fn := fun _ => fun
  | [d1, d2] => { results := [.lit (.bool true)], args := [d1, d2] }
  | _ => none }
def numbersManyRow : OpenClaim := { program := "ythpeieieibbbgaa", sum := "d142c6c5fbb35b5b90eea6239425f323f5843626736a669cd785fce65af02a38", func := "incipit/incipitlaw8.NumbersMany", spec := "numbersMany", apart := false }
def NumbersManySaid : Prop := numbersManyRow.holds Try.pinned (OpenSpec.ofChange numbersManySpec)

/-- ITS FALSE NEIGHBOUR: 'it returns false'. Refute it at one input. -/
def numbersManyWrong : ChangeSpec := { name := "numbersMany", fn := fun _ => fun
  | [d1, d2] => { results := [.lit (.bool false)], args := [d1, d2] }
  | _ => none }
def NumbersManyWrongFalsely : Prop := numbersManyRow.holds Try.pinned (OpenSpec.ofChange numbersManyWrong)

/-- 'incipitlaw8.NumbersTight': WHATEVER THE INPUT: true; the input reads as it did. -/
def numbersTightSpec : ChangeSpec := { name := "numbersTight", fn := fun _ => fun
  | [d1, d2] => { results := [.lit (.bool true)], args := [d1, d2] }
  | _ => none }
def numbersTightRow : OpenClaim := { program := "ythpeieieibbbgaa", sum := "d142c6c5fbb35b5b90eea6239425f323f5843626736a669cd785fce65af02a38", func := "incipit/incipitlaw8.NumbersTight", spec := "numbersTight", apart := false }
def NumbersTightSaid : Prop := numbersTightRow.holds Try.pinned (OpenSpec.ofChange numbersTightSpec)

/-- ITS FALSE NEIGHBOUR: 'it returns false'. Refute it at one input. -/
def numbersTightWrong : ChangeSpec := { name := "numbersTight", fn := fun _ => fun
  | [d1, d2] => { results := [.lit (.bool false)], args := [d1, d2] }
  | _ => none }
def NumbersTightWrongFalsely : Prop := numbersTightRow.holds Try.pinned (OpenSpec.ofChange numbersTightWrong)

/-- 'incipitlaw2.UcdAll': WHATEVER THE INPUT: true; the input reads as it did. -/
def ucdAllSpec : ChangeSpec := { name := "ucdAll", fn := fun _ => fun
  | [d] => { results := [.lit (.bool true)], args := [d] }
  | _ => none }
def ucdAllRow : OpenClaim := { program := "ythpeieieibbbgaa", sum := "d142c6c5fbb35b5b90eea6239425f323f5843626736a669cd785fce65af02a38", func := "incipit/incipitlaw2.UcdAll", spec := "ucdAll", apart := false }
def UcdAllSaid : Prop := ucdAllRow.holds Try.pinned (OpenSpec.ofChange ucdAllSpec)

/-- ITS FALSE NEIGHBOUR: 'it returns false'. Refute it at one input. -/
def ucdAllWrong : ChangeSpec := { name := "ucdAll", fn := fun _ => fun
  | [d] => { results := [.lit (.bool false)], args := [d] }
  | _ => none }
def UcdAllWrongFalsely : Prop := ucdAllRow.holds Try.pinned (OpenSpec.ofChange ucdAllWrong)

/-- 'incipitlaw2.UcdEnds': WHATEVER THE INPUT: true; the input reads as it did. -/
def ucdEndsSpec : ChangeSpec := { name := "ucdEnds", fn := fun _ => fun
  | [d] => { results := [.lit (.bool true)], args := [d] }
  | _ => none }
def ucdEndsRow : OpenClaim := { program := "ythpeieieibbbgaa", sum := "d142c6c5fbb35b5b90eea6239425f323f5843626736a669cd785fce65af02a38", func := "incipit/incipitlaw2.UcdEnds", spec := "ucdEnds", apart := false }
def UcdEndsSaid : Prop := ucdEndsRow.holds Try.pinned (OpenSpec.ofChange ucdEndsSpec)

/-- ITS FALSE NEIGHBOUR: 'it returns false'. Refute it at one input. -/
def ucdEndsWrong : ChangeSpec := { name := "ucdEnds", fn := fun _ => fun
  | [d] => { results := [.lit (.bool false)], args := [d] }
  | _ => none }
def UcdEndsWrongFalsely : Prop := ucdEndsRow.holds Try.pinned (OpenSpec.ofChange ucdEndsWrong)

/-- 'incipitlaw2.UcdBlock': WHATEVER THE INPUT: true; the input reads as it did. -/
def ucdBlockSpec : ChangeSpec := { name := "ucdBlock", fn := fun _ => fun
  | [d] => { results := [.lit (.bool true)], args := [d] }
  | _ => none }
def ucdBlockRow : OpenClaim := { program := "ythpeieieibbbgaa", sum := "d142c6c5fbb35b5b90eea6239425f323f5843626736a669cd785fce65af02a38", func := "incipit/incipitlaw2.UcdBlock", spec := "ucdBlock", apart := false }
def UcdBlockSaid : Prop := ucdBlockRow.holds Try.pinned (OpenSpec.ofChange ucdBlockSpec)

/-- ITS FALSE NEIGHBOUR: 'it returns false'. Refute it at one input. -/
def ucdBlockWrong : ChangeSpec := { name := "ucdBlock", fn := fun _ => fun
  | [d] => { results := [.lit (.bool false)], args := [d] }
  | _ => none }
def UcdBlockWrongFalsely : Prop := ucdBlockRow.holds Try.pinned (OpenSpec.ofChange ucdBlockWrong)

/- THE SECOND FORM. 'bulk': how many values and letters a reading holds, each counted each time it is reached (what is shared counts as often as it is met; a slice's spare places count too). A statement '..UptoSaid' is the law's where the arguments, and the package variables that the reading takes, are together of bulk at most 1048576: NARROWER than '..Said'. Prove '..Said' where nothing that the law and all that it calls make is longer than what came in: it says more and counts as full. Else prove '..UptoSaid'. A law counts once. -/
mutual
def uptoBulk {H : Type} : DataW H → Nat
  | .lit (.string bytes) => bytes.length + 1
  | .lit _ => 1
  | .nil => 1
  | .ptr d => uptoBulk d + 1
  | .slice elems spare => uptoBulkAll elems + uptoBulkAll spare + 1
  | .agg parts => uptoBulkAll parts + 1
  | .iface _ d => uptoBulk d + 1
  | .map entries => uptoBulkEntries entries + 1
  | .held _ => 1
def uptoBulkAll {H : Type} : List (DataW H) → Nat
  | [] => 0
  | d :: r => uptoBulk d + uptoBulkAll r
def uptoBulkEntries {H : Type} : List (Lit × DataW H) → Nat
  | [] => 0
  | x :: r => uptoBulkEntry x + uptoBulkEntries r
def uptoBulkEntry {H : Type} : Lit × DataW H → Nat
  | (.string bytes, d) => bytes.length + uptoBulk d + 1
  | (_, d) => uptoBulk d + 1
 end
def uptoSmall : (H : Type) → List (DataW H) → Bool := fun _ ds => decide (uptoBulkAll ds ≤ 1048576)
def OpenSpec.upto (s : _root_.Go.ChangeSpec) : _root_.Go.OpenSpec := { _root_.Go.OpenSpec.ofChange s with cond := some uptoSmall }

/-- 'incipitlaw0.Names', WHERE WHAT IT READS IS OF BULK AT MOST 1048576: true; the input reads as it did. -/
def namesUptoRow : OpenClaim := { program := "ythpeieieibbbgaa", sum := "d142c6c5fbb35b5b90eea6239425f323f5843626736a669cd785fce65af02a38", func := "incipit/incipitlaw0.Names", spec := "names", apart := false, narrowed := true }
def NamesUptoSaid : Prop := namesUptoRow.holds Try.pinned (OpenSpec.upto namesSpec)

/-- 'incipitlaw9.CrcAll', WHERE WHAT IT READS IS OF BULK AT MOST 1048576: true; the input reads as it did. -/
def crcAllUptoRow : OpenClaim := { program := "ythpeieieibbbgaa", sum := "d142c6c5fbb35b5b90eea6239425f323f5843626736a669cd785fce65af02a38", func := "incipit/incipitlaw9.CrcAll", spec := "crcAll", apart := false, narrowed := true }
def CrcAllUptoSaid : Prop := crcAllUptoRow.holds Try.pinned (OpenSpec.upto crcAllSpec)

/-- 'incipitlaw9.CrcSpoilt', WHERE WHAT IT READS IS OF BULK AT MOST 1048576: true; the input reads as it did. -/
def crcSpoiltUptoRow : OpenClaim := { program := "ythpeieieibbbgaa", sum := "d142c6c5fbb35b5b90eea6239425f323f5843626736a669cd785fce65af02a38", func := "incipit/incipitlaw9.CrcSpoilt", spec := "crcSpoilt", apart := false, narrowed := true }
def CrcSpoiltUptoSaid : Prop := crcSpoiltUptoRow.holds Try.pinned (OpenSpec.upto crcSpoiltSpec)

/-- 'incipitlaw9.CrcBurst', WHERE WHAT IT READS IS OF BULK AT MOST 1048576: true; the input reads as it did. -/
def crcBurstUptoRow : OpenClaim := { program := "ythpeieieibbbgaa", sum := "d142c6c5fbb35b5b90eea6239425f323f5843626736a669cd785fce65af02a38", func := "incipit/incipitlaw9.CrcBurst", spec := "crcBurst", apart := false, narrowed := true }
def CrcBurstUptoSaid : Prop := crcBurstUptoRow.holds Try.pinned (OpenSpec.upto crcBurstSpec)

/-- 'incipitlaw15.FilterMany', WHERE WHAT IT READS IS OF BULK AT MOST 1048576: true; the input reads as it did. -/
def filterManyUptoRow : OpenClaim := { program := "ythpeieieibbbgaa", sum := "d142c6c5fbb35b5b90eea6239425f323f5843626736a669cd785fce65af02a38", func := "incipit/incipitlaw15.FilterMany", spec := "filterMany", apart := false, narrowed := true }
def FilterManyUptoSaid : Prop := filterManyUptoRow.holds Try.pinned (OpenSpec.upto filterManySpec)

/-- 'incipitlaw8.NumbersAll', WHERE WHAT IT READS IS OF BULK AT MOST 1048576: true; the input reads as it did. -/
def numbersAllUptoRow : OpenClaim := { program := "ythpeieieibbbgaa", sum := "d142c6c5fbb35b5b90eea6239425f323f5843626736a669cd785fce65af02a38", func := "incipit/incipitlaw8.NumbersAll", spec := "numbersAll", apart := false, narrowed := true }
def NumbersAllUptoSaid : Prop := numbersAllUptoRow.holds Try.pinned (OpenSpec.upto numbersAllSpec)

/-- 'incipitlaw8.NumbersBytes', WHERE WHAT IT READS IS OF BULK AT MOST 1048576: true; the input reads as it did. -/
def numbersBytesUptoRow : OpenClaim := { program := "ythpeieieibbbgaa", sum := "d142c6c5fbb35b5b90eea6239425f323f5843626736a669cd785fce65af02a38", func := "incipit/incipitlaw8.NumbersBytes", spec := "numbersBytes", apart := false, narrowed := true }
def NumbersBytesUptoSaid : Prop := numbersBytesUptoRow.holds Try.pinned (OpenSpec.upto numbersBytesSpec)

/-- 'incipitlaw8.NumbersMany', WHERE WHAT IT READS IS OF BULK AT MOST 1048576: true; the input reads as it did. -/
def numbersManyUptoRow : OpenClaim := { program := "ythpeieieibbbgaa", sum := "d142c6c5fbb35b5b90eea6239425f323f5843626736a669cd785fce65af02a38", func := "incipit/incipitlaw8.NumbersMany", spec := "numbersMany", apart := false, narrowed := true }
def NumbersManyUptoSaid : Prop := numbersManyUptoRow.holds Try.pinned (OpenSpec.upto numbersManySpec)

/-- 'incipitlaw8.NumbersTight', WHERE WHAT IT READS IS OF BULK AT MOST 1048576: true; the input reads as it did. -/
def numbersTightUptoRow : OpenClaim := { program := "ythpeieieibbbgaa", sum := "d142c6c5fbb35b5b90eea6239425f323f5843626736a669cd785fce65af02a38", func := "incipit/incipitlaw8.NumbersTight", spec := "numbersTight", apart := false, narrowed := true }
def NumbersTightUptoSaid : Prop := numbersTightUptoRow.holds Try.pinned (OpenSpec.upto numbersTightSpec)

/-- 'incipitlaw2.UcdAll', WHERE WHAT IT READS IS OF BULK AT MOST 1048576: true; the input reads as it did. -/
def ucdAllUptoRow : OpenClaim := { program := "ythpeieieibbbgaa", sum := "d142c6c5fbb35b5b90eea6239425f323f5843626736a669cd785fce65af02a38", func := "incipit/incipitlaw2.UcdAll", spec := "ucdAll", apart := false, narrowed := true }
def UcdAllUptoSaid : Prop := ucdAllUptoRow.holds Try.pinned (OpenSpec.upto ucdAllSpec)

/-- 'incipitlaw2.UcdEnds', WHERE WHAT IT READS IS OF BULK AT MOST 1048576: true; the input reads as it did. -/
def ucdEndsUptoRow : OpenClaim := { program := "ythpeieieibbbgaa", sum := "d142c6c5fbb35b5b90eea6239425f323f5843626736a669cd785fce65af02a38", func := "incipit/incipitlaw2.UcdEnds", spec := "ucdEnds", apart := false, narrowed := true }
def UcdEndsUptoSaid : Prop := ucdEndsUptoRow.holds Try.pinned (OpenSpec.upto ucdEndsSpec)

/-- 'incipitlaw2.UcdBlock', WHERE WHAT IT READS IS OF BULK AT MOST 1048576: true; the input reads as it did. -/
def ucdBlockUptoRow : OpenClaim := { program := "ythpeieieibbbgaa", sum := "d142c6c5fbb35b5b90eea6239425f323f5843626736a669cd785fce65af02a38", func := "incipit/incipitlaw2.UcdBlock", spec := "ucdBlock", apart := false, narrowed := true }
def UcdBlockUptoSaid : Prop := ucdBlockUptoRow.holds Try.pinned (OpenSpec.upto ucdBlockSpec)

end Rows
end Go.Proofs.Ythpeieieibbbgaa
