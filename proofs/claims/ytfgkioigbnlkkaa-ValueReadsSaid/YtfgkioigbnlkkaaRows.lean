/-
  No cell of these rows narrows 'for every input' (looked for: loops, veiled, ifaces, maps, wideKeys, modest, calm, conditions, laid).
  DERIVED. THE GIVEN ROWS OF THIS SEAT. 6 by the template 'for every input the law returns true; each argument reads behind the call as it read before'; 0 by the template 'total and deterministic' (their statements: YtfgkioigbnlkkaaTotals.lean).
  GIVEN WITH THE SEED: the statements are not yours to turn. If you find one false, say at which input.
  Laid BY PROGRAM, IN A SANDBOX (cutbox-rows.mjs): the forced cells as the released guide's own fill.sh prints them over the translation 8594c40904f6f204… (all of the seat's roots in one cut). By AI agents, Wed Nov 11 2026. No macro, syntax, notation, axiom, sorry.
-/
import Derived.Test.YtfgkioigbnlkkaaChecked
import GoSem.Claim
import GoSem.ClaimJoined
import GoSem.ClaimMapViews
import Derived.JoinedTies
import Derived.KernelRfl
namespace Go.Proofs.Ytfgkioigbnlkkaa
/- THE CELL 'sum', in the pinned program and in every row, IS THE sha256 OF THE DUMP (.gsa) THAT YtfgkioigbnlkkaaProg.lean LOADS. Nothing in Lean hashes anything: it is a label: what it is worth is what the hold of that sum in a sandbox is worth. -/
noncomputable def Try.pinned : Pinned := { name := "ytfgkioigbnlkkaa", sum := "8594c40904f6f204b9b1438172e0a9f365bb54550aba0acef3b74898a83e9af9", checked := Try.checked }
namespace Rows
def none {H : Type} : Left H := { results := [], args := [] }

/-- 'lapidarylaw05.ValuePuts': WHATEVER THE INPUT: true; the input reads as it did. -/
def valuePutsSpec : ChangeSpec := { name := "valuePuts", fn := fun _ => fun
  | [d] => { results := [.lit (.bool true)], args := [d] }
  | _ => none }
def valuePutsRow : OpenClaim := { program := "ytfgkioigbnlkkaa", sum := "8594c40904f6f204b9b1438172e0a9f365bb54550aba0acef3b74898a83e9af9", func := "lapidary/lapidarylaw05.ValuePuts", spec := "valuePuts", unfollowed := true, recurses := true, apart := false }
def ValuePutsSaid : Prop := valuePutsRow.holds Try.pinned (OpenSpec.ofChange valuePutsSpec)

/-- ITS FALSE NEIGHBOUR: 'it returns false'. Refute it at one input. -/
def valuePutsWrong : ChangeSpec := { name := "valuePuts", fn := fun _ => fun
  | [d] => { results := [.lit (.bool false)], args := [d] }
  | _ => none }
def ValuePutsWrongFalsely : Prop := valuePutsRow.holds Try.pinned (OpenSpec.ofChange valuePutsWrong)

/-- 'lapidarylaw05.ValueGets': WHATEVER THE INPUT: true; the input reads as it did. -/
def valueGetsSpec : ChangeSpec := { name := "valueGets", fn := fun _ => fun
  | [d] => { results := [.lit (.bool true)], args := [d] }
  | _ => none }
def valueGetsRow : OpenClaim := { program := "ytfgkioigbnlkkaa", sum := "8594c40904f6f204b9b1438172e0a9f365bb54550aba0acef3b74898a83e9af9", func := "lapidary/lapidarylaw05.ValueGets", spec := "valueGets", unfollowed := true, recurses := true, apart := false }
def ValueGetsSaid : Prop := valueGetsRow.holds Try.pinned (OpenSpec.ofChange valueGetsSpec)

/-- ITS FALSE NEIGHBOUR: 'it returns false'. Refute it at one input. -/
def valueGetsWrong : ChangeSpec := { name := "valueGets", fn := fun _ => fun
  | [d] => { results := [.lit (.bool false)], args := [d] }
  | _ => none }
def ValueGetsWrongFalsely : Prop := valueGetsRow.holds Try.pinned (OpenSpec.ofChange valueGetsWrong)

/-- 'lapidarylaw05.ValueOne': WHATEVER THE INPUT: true; the input reads as it did. -/
def valueOneSpec : ChangeSpec := { name := "valueOne", fn := fun _ => fun
  | [d1, d2] => { results := [.lit (.bool true)], args := [d1, d2] }
  | _ => none }
def valueOneRow : OpenClaim := { program := "ytfgkioigbnlkkaa", sum := "8594c40904f6f204b9b1438172e0a9f365bb54550aba0acef3b74898a83e9af9", func := "lapidary/lapidarylaw05.ValueOne", spec := "valueOne", unfollowed := true, recurses := true, apart := false }
def ValueOneSaid : Prop := valueOneRow.holds Try.pinned (OpenSpec.ofChange valueOneSpec)

/-- ITS FALSE NEIGHBOUR: 'it returns false'. Refute it at one input. -/
def valueOneWrong : ChangeSpec := { name := "valueOne", fn := fun _ => fun
  | [d1, d2] => { results := [.lit (.bool false)], args := [d1, d2] }
  | _ => none }
def ValueOneWrongFalsely : Prop := valueOneRow.holds Try.pinned (OpenSpec.ofChange valueOneWrong)

/-- 'lapidarylaw05.ValueTells': WHATEVER THE INPUT: true; the input reads as it did. -/
def valueTellsSpec : ChangeSpec := { name := "valueTells", fn := fun _ => fun
  | [d1, d2, d3] => { results := [.lit (.bool true)], args := [d1, d2, d3] }
  | _ => none }
def valueTellsRow : OpenClaim := { program := "ytfgkioigbnlkkaa", sum := "8594c40904f6f204b9b1438172e0a9f365bb54550aba0acef3b74898a83e9af9", func := "lapidary/lapidarylaw05.ValueTells", spec := "valueTells", unfollowed := true, recurses := true, apart := false }
def ValueTellsSaid : Prop := valueTellsRow.holds Try.pinned (OpenSpec.ofChange valueTellsSpec)

/-- ITS FALSE NEIGHBOUR: 'it returns false'. Refute it at one input. -/
def valueTellsWrong : ChangeSpec := { name := "valueTells", fn := fun _ => fun
  | [d1, d2, d3] => { results := [.lit (.bool false)], args := [d1, d2, d3] }
  | _ => none }
def ValueTellsWrongFalsely : Prop := valueTellsRow.holds Try.pinned (OpenSpec.ofChange valueTellsWrong)

/-- 'lapidarylaw05.ValueRecords': WHATEVER THE INPUT: true; the input reads as it did. -/
def valueRecordsSpec : ChangeSpec := { name := "valueRecords", fn := fun _ => fun
  | [d] => { results := [.lit (.bool true)], args := [d] }
  | _ => none }
def valueRecordsRow : OpenClaim := { program := "ytfgkioigbnlkkaa", sum := "8594c40904f6f204b9b1438172e0a9f365bb54550aba0acef3b74898a83e9af9", func := "lapidary/lapidarylaw05.ValueRecords", spec := "valueRecords", unfollowed := true, recurses := true, apart := false }
def ValueRecordsSaid : Prop := valueRecordsRow.holds Try.pinned (OpenSpec.ofChange valueRecordsSpec)

/-- ITS FALSE NEIGHBOUR: 'it returns false'. Refute it at one input. -/
def valueRecordsWrong : ChangeSpec := { name := "valueRecords", fn := fun _ => fun
  | [d] => { results := [.lit (.bool false)], args := [d] }
  | _ => none }
def ValueRecordsWrongFalsely : Prop := valueRecordsRow.holds Try.pinned (OpenSpec.ofChange valueRecordsWrong)

/-- 'lapidarylaw05.ValueReads': WHATEVER THE INPUT: true; the input reads as it did. -/
def valueReadsSpec : ChangeSpec := { name := "valueReads", fn := fun _ => fun
  | [d] => { results := [.lit (.bool true)], args := [d] }
  | _ => none }
def valueReadsRow : OpenClaim := { program := "ytfgkioigbnlkkaa", sum := "8594c40904f6f204b9b1438172e0a9f365bb54550aba0acef3b74898a83e9af9", func := "lapidary/lapidarylaw05.ValueReads", spec := "valueReads", unfollowed := true, recurses := true, apart := false }
def ValueReadsSaid : Prop := valueReadsRow.holds Try.pinned (OpenSpec.ofChange valueReadsSpec)

/-- ITS FALSE NEIGHBOUR: 'it returns false'. Refute it at one input. -/
def valueReadsWrong : ChangeSpec := { name := "valueReads", fn := fun _ => fun
  | [d] => { results := [.lit (.bool false)], args := [d] }
  | _ => none }
def ValueReadsWrongFalsely : Prop := valueReadsRow.holds Try.pinned (OpenSpec.ofChange valueReadsWrong)

/- THE SECOND FORM. 'bulk': how many values and letters a reading holds, each counted each time it is reached (what is shared counts as often as it is met; a slice's spare places count too). A statement '..UptoSaid' is the law's where the arguments, and the package variables that the reading takes, are together of bulk at most 1048576: NARROWER than '..Said'. Prove '..Said' where nothing that the law and all that it calls make is longer than what came in: it says more and counts as full. Else prove '..UptoSaid'. A law counts once. -/
mutual
def uptoBulk {H : Type} : DataW H → Nat
  | .lit (.string bytes) => bytes.length + 1
  | .lit _ => 1
  | .nil => 1
  | .ptr d => uptoBulk d + 1
  | .slice elems spare => uptoBulkAll elems + uptoBulkAll spare + 1
  | .agg parts => uptoBulkAll parts + 1
  | .iface _ d => uptoBulk d + 1
  | .map entries => uptoBulkEntries entries + 1
  | .held _ => 1
def uptoBulkAll {H : Type} : List (DataW H) → Nat
  | [] => 0
  | d :: r => uptoBulk d + uptoBulkAll r
def uptoBulkEntries {H : Type} : List (Lit × DataW H) → Nat
  | [] => 0
  | x :: r => uptoBulkEntry x + uptoBulkEntries r
def uptoBulkEntry {H : Type} : Lit × DataW H → Nat
  | (.string bytes, d) => bytes.length + uptoBulk d + 1
  | (_, d) => uptoBulk d + 1
 end
def uptoSmall : (H : Type) → List (DataW H) → Bool := fun _ ds => decide (uptoBulkAll ds ≤ 1048576)
def OpenSpec.upto (s : _root_.Go.ChangeSpec) : _root_.Go.OpenSpec := { _root_.Go.OpenSpec.ofChange s with cond := some uptoSmall }

/-- 'lapidarylaw05.ValuePuts', WHERE WHAT IT READS IS OF BULK AT MOST 1048576: true; the input reads as it did. -/
def valuePutsUptoRow : OpenClaim := { program := "ytfgkioigbnlkkaa", sum := "8594c40904f6f204b9b1438172e0a9f365bb54550aba0acef3b74898a83e9af9", func := "lapidary/lapidarylaw05.ValuePuts", spec := "valuePuts", unfollowed := true, recurses := true, apart := false, narrowed := true }
def ValuePutsUptoSaid : Prop := valuePutsUptoRow.holds Try.pinned (OpenSpec.upto valuePutsSpec)

/-- 'lapidarylaw05.ValueGets', WHERE WHAT IT READS IS OF BULK AT MOST 1048576: true; the input reads as it did. -/
def valueGetsUptoRow : OpenClaim := { program := "ytfgkioigbnlkkaa", sum := "8594c40904f6f204b9b1438172e0a9f365bb54550aba0acef3b74898a83e9af9", func := "lapidary/lapidarylaw05.ValueGets", spec := "valueGets", unfollowed := true, recurses := true, apart := false, narrowed := true }
def ValueGetsUptoSaid : Prop := valueGetsUptoRow.holds Try.pinned (OpenSpec.upto valueGetsSpec)

/-- 'lapidarylaw05.ValueOne', WHERE WHAT IT READS IS OF BULK AT MOST 1048576: true; the input reads as it did. -/
def valueOneUptoRow : OpenClaim := { program := "ytfgkioigbnlkkaa", sum := "8594c40904f6f204b9b1438172e0a9f365bb54550aba0acef3b74898a83e9af9", func := "lapidary/lapidarylaw05.ValueOne", spec := "valueOne", unfollowed := true, recurses := true, apart := false, narrowed := true }
def ValueOneUptoSaid : Prop := valueOneUptoRow.holds Try.pinned (OpenSpec.upto valueOneSpec)

/-- 'lapidarylaw05.ValueTells', WHERE WHAT IT READS IS OF BULK AT MOST 1048576: true; the input reads as it did. -/
def valueTellsUptoRow : OpenClaim := { program := "ytfgkioigbnlkkaa", sum := "8594c40904f6f204b9b1438172e0a9f365bb54550aba0acef3b74898a83e9af9", func := "lapidary/lapidarylaw05.ValueTells", spec := "valueTells", unfollowed := true, recurses := true, apart := false, narrowed := true }
def ValueTellsUptoSaid : Prop := valueTellsUptoRow.holds Try.pinned (OpenSpec.upto valueTellsSpec)

/-- 'lapidarylaw05.ValueRecords', WHERE WHAT IT READS IS OF BULK AT MOST 1048576: true; the input reads as it did. -/
def valueRecordsUptoRow : OpenClaim := { program := "ytfgkioigbnlkkaa", sum := "8594c40904f6f204b9b1438172e0a9f365bb54550aba0acef3b74898a83e9af9", func := "lapidary/lapidarylaw05.ValueRecords", spec := "valueRecords", unfollowed := true, recurses := true, apart := false, narrowed := true }
def ValueRecordsUptoSaid : Prop := valueRecordsUptoRow.holds Try.pinned (OpenSpec.upto valueRecordsSpec)

/-- 'lapidarylaw05.ValueReads', WHERE WHAT IT READS IS OF BULK AT MOST 1048576: true; the input reads as it did. -/
def valueReadsUptoRow : OpenClaim := { program := "ytfgkioigbnlkkaa", sum := "8594c40904f6f204b9b1438172e0a9f365bb54550aba0acef3b74898a83e9af9", func := "lapidary/lapidarylaw05.ValueReads", spec := "valueReads", unfollowed := true, recurses := true, apart := false, narrowed := true }
def ValueReadsUptoSaid : Prop := valueReadsUptoRow.holds Try.pinned (OpenSpec.upto valueReadsSpec)

end Rows
end Go.Proofs.Ytfgkioigbnlkkaa
