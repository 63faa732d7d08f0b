/-
  No cell of these rows narrows 'for every input' (looked for: loops, veiled, ifaces, maps, wideKeys, modest, calm, conditions, laid).
  DERIVED. THE GIVEN ROWS OF THIS SEAT. 6 by the template 'for every input the law returns true; each argument reads behind the call as it read before'; 0 by the template 'total and deterministic' (their statements: YtmcmjnflahfbkaaTotals.lean).
  GIVEN WITH THE SEED: the statements are not yours to turn. If you find one false, say at which input.
  Laid BY PROGRAM, IN A SANDBOX (cutbox-rows.mjs): the forced cells as the released guide's own fill.sh prints them over the translation 6e53aec14aa082be… (all of the seat's roots in one cut). By AI agents, Wed Nov 11 2026. No macro, syntax, notation, axiom, sorry.
-/
import Derived.Test.YtmcmjnflahfbkaaChecked
import GoSem.Claim
import GoSem.ClaimJoined
import GoSem.ClaimMapViews
import Derived.JoinedTies
import Derived.KernelRfl
namespace Go.Proofs.Ytmcmjnflahfbkaa
/- THE CELL 'sum', in the pinned program and in every row, IS THE sha256 OF THE DUMP (.gsa) THAT YtmcmjnflahfbkaaProg.lean LOADS. Nothing in Lean hashes anything: it is a label: what it is worth is what the hold of that sum in a sandbox is worth. -/
noncomputable def Try.pinned : Pinned := { name := "ytmcmjnflahfbkaa", sum := "6e53aec14aa082be792bf70e4fc931625bf52f7cbebb79feb32f6f382ae2ab81", checked := Try.checked }
namespace Rows
def none {H : Type} : Left H := { results := [], args := [] }

/-- 'lapidarylaw17.ValidAlone': WHATEVER THE INPUT: true; the input reads as it did. -/
def validAloneSpec : ChangeSpec := { name := "validAlone", fn := fun _ => fun
  | [d1, d2] => { results := [.lit (.bool true)], args := [d1, d2] }
  | _ => none }
def validAloneRow : OpenClaim := { program := "ytmcmjnflahfbkaa", sum := "6e53aec14aa082be792bf70e4fc931625bf52f7cbebb79feb32f6f382ae2ab81", func := "lapidary/lapidarylaw17.ValidAlone", spec := "validAlone", unfollowed := true, recurses := true, apart := false }
def ValidAloneSaid : Prop := validAloneRow.holds Try.pinned (OpenSpec.ofChange validAloneSpec)

/-- ITS FALSE NEIGHBOUR: 'it returns false'. Refute it at one input. -/
def validAloneWrong : ChangeSpec := { name := "validAlone", fn := fun _ => fun
  | [d1, d2] => { results := [.lit (.bool false)], args := [d1, d2] }
  | _ => none }
def ValidAloneWrongFalsely : Prop := validAloneRow.holds Try.pinned (OpenSpec.ofChange validAloneWrong)

/-- 'lapidarylaw17.ValidMore': WHATEVER THE INPUT: true; the input reads as it did. -/
def validMoreSpec : ChangeSpec := { name := "validMore", fn := fun _ => fun
  | [d1, d2, d3, d4, d5] => { results := [.lit (.bool true)], args := [d1, d2, d3, d4, d5] }
  | _ => none }
def validMoreRow : OpenClaim := { program := "ytmcmjnflahfbkaa", sum := "6e53aec14aa082be792bf70e4fc931625bf52f7cbebb79feb32f6f382ae2ab81", func := "lapidary/lapidarylaw17.ValidMore", spec := "validMore", unfollowed := true, recurses := true, apart := false }
def ValidMoreSaid : Prop := validMoreRow.holds Try.pinned (OpenSpec.ofChange validMoreSpec)

/-- ITS FALSE NEIGHBOUR: 'it returns false'. Refute it at one input. -/
def validMoreWrong : ChangeSpec := { name := "validMore", fn := fun _ => fun
  | [d1, d2, d3, d4, d5] => { results := [.lit (.bool false)], args := [d1, d2, d3, d4, d5] }
  | _ => none }
def ValidMoreWrongFalsely : Prop := validMoreRow.holds Try.pinned (OpenSpec.ofChange validMoreWrong)

/-- 'lapidarylaw17.ValidParts': WHATEVER THE INPUT: true; the input reads as it did. -/
def validPartsSpec : ChangeSpec := { name := "validParts", fn := fun _ => fun
  | [d1, d2] => { results := [.lit (.bool true)], args := [d1, d2] }
  | _ => none }
def validPartsRow : OpenClaim := { program := "ytmcmjnflahfbkaa", sum := "6e53aec14aa082be792bf70e4fc931625bf52f7cbebb79feb32f6f382ae2ab81", func := "lapidary/lapidarylaw17.ValidParts", spec := "validParts", unfollowed := true, recurses := true, apart := false }
def ValidPartsSaid : Prop := validPartsRow.holds Try.pinned (OpenSpec.ofChange validPartsSpec)

/-- ITS FALSE NEIGHBOUR: 'it returns false'. Refute it at one input. -/
def validPartsWrong : ChangeSpec := { name := "validParts", fn := fun _ => fun
  | [d1, d2] => { results := [.lit (.bool false)], args := [d1, d2] }
  | _ => none }
def ValidPartsWrongFalsely : Prop := validPartsRow.holds Try.pinned (OpenSpec.ofChange validPartsWrong)

/-- 'lapidarylaw17.ValidChecks': WHATEVER THE INPUT: true; the input reads as it did. -/
def validChecksSpec : ChangeSpec := { name := "validChecks", fn := fun _ => fun
  | [d1, d2] => { results := [.lit (.bool true)], args := [d1, d2] }
  | _ => none }
def validChecksRow : OpenClaim := { program := "ytmcmjnflahfbkaa", sum := "6e53aec14aa082be792bf70e4fc931625bf52f7cbebb79feb32f6f382ae2ab81", func := "lapidary/lapidarylaw17.ValidChecks", spec := "validChecks", unfollowed := true, recurses := true, apart := false }
def ValidChecksSaid : Prop := validChecksRow.holds Try.pinned (OpenSpec.ofChange validChecksSpec)

/-- ITS FALSE NEIGHBOUR: 'it returns false'. Refute it at one input. -/
def validChecksWrong : ChangeSpec := { name := "validChecks", fn := fun _ => fun
  | [d1, d2] => { results := [.lit (.bool false)], args := [d1, d2] }
  | _ => none }
def ValidChecksWrongFalsely : Prop := validChecksRow.holds Try.pinned (OpenSpec.ofChange validChecksWrong)

/-- 'lapidarylaw17.ValidAll': WHATEVER THE INPUT: true; the input reads as it did. -/
def validAllSpec : ChangeSpec := { name := "validAll", fn := fun _ => fun
  | [d] => { results := [.lit (.bool true)], args := [d] }
  | _ => none }
def validAllRow : OpenClaim := { program := "ytmcmjnflahfbkaa", sum := "6e53aec14aa082be792bf70e4fc931625bf52f7cbebb79feb32f6f382ae2ab81", func := "lapidary/lapidarylaw17.ValidAll", spec := "validAll", unfollowed := true, recurses := true, apart := false }
def ValidAllSaid : Prop := validAllRow.holds Try.pinned (OpenSpec.ofChange validAllSpec)

/-- ITS FALSE NEIGHBOUR: 'it returns false'. Refute it at one input. -/
def validAllWrong : ChangeSpec := { name := "validAll", fn := fun _ => fun
  | [d] => { results := [.lit (.bool false)], args := [d] }
  | _ => none }
def ValidAllWrongFalsely : Prop := validAllRow.holds Try.pinned (OpenSpec.ofChange validAllWrong)

/-- 'lapidarylaw17.ValidSame': WHATEVER THE INPUT: true; the input reads as it did. -/
def validSameSpec : ChangeSpec := { name := "validSame", fn := fun _ => fun
  | [d1, d2] => { results := [.lit (.bool true)], args := [d1, d2] }
  | _ => none }
def validSameRow : OpenClaim := { program := "ytmcmjnflahfbkaa", sum := "6e53aec14aa082be792bf70e4fc931625bf52f7cbebb79feb32f6f382ae2ab81", func := "lapidary/lapidarylaw17.ValidSame", spec := "validSame", unfollowed := true, recurses := true, apart := false }
def ValidSameSaid : Prop := validSameRow.holds Try.pinned (OpenSpec.ofChange validSameSpec)

/-- ITS FALSE NEIGHBOUR: 'it returns false'. Refute it at one input. -/
def validSameWrong : ChangeSpec := { name := "validSame", fn := fun _ => fun
  | [d1, d2] => { results := [.lit (.bool false)], args := [d1, d2] }
  | _ => none }
def ValidSameWrongFalsely : Prop := validSameRow.holds Try.pinned (OpenSpec.ofChange validSameWrong)

/- THE SECOND FORM. 'bulk': how many values and letters a reading holds, each counted each time it is reached (what is shared counts as often as it is met; a slice's spare places count too). A statement '..UptoSaid' is the law's where the arguments, and the package variables that the reading takes, are together of bulk at most 1048576: NARROWER than '..Said'. Prove '..Said' where nothing that the law and all that it calls make is longer than what came in: it says more and counts as full. Else prove '..UptoSaid'. A law counts once. -/
mutual
def uptoBulk {H : Type} : DataW H → Nat
  | .lit (.string bytes) => bytes.length + 1
  | .lit _ => 1
  | .nil => 1
  | .ptr d => uptoBulk d + 1
  | .slice elems spare => uptoBulkAll elems + uptoBulkAll spare + 1
  | .agg parts => uptoBulkAll parts + 1
  | .iface _ d => uptoBulk d + 1
  | .map entries => uptoBulkEntries entries + 1
  | .held _ => 1
def uptoBulkAll {H : Type} : List (DataW H) → Nat
  | [] => 0
  | d :: r => uptoBulk d + uptoBulkAll r
def uptoBulkEntries {H : Type} : List (Lit × DataW H) → Nat
  | [] => 0
  | x :: r => uptoBulkEntry x + uptoBulkEntries r
def uptoBulkEntry {H : Type} : Lit × DataW H → Nat
  | (.string bytes, d) => bytes.length + uptoBulk d + 1
  | (_, d) => uptoBulk d + 1
 end
def uptoSmall : (H : Type) → List (DataW H) → Bool := fun _ ds => decide (uptoBulkAll ds ≤ 1048576)
def OpenSpec.upto (s : _root_.Go.ChangeSpec) : _root_.Go.OpenSpec := { _root_.Go.OpenSpec.ofChange s with cond := some uptoSmall }

/-- 'lapidarylaw17.ValidAlone', WHERE WHAT IT READS IS OF BULK AT MOST 1048576: true; the input reads as it did. -/
def validAloneUptoRow : OpenClaim := { program := "ytmcmjnflahfbkaa", sum := "6e53aec14aa082be792bf70e4fc931625bf52f7cbebb79feb32f6f382ae2ab81", func := "lapidary/lapidarylaw17.ValidAlone", spec := "validAlone", unfollowed := true, recurses := true, apart := false, narrowed := true }
def ValidAloneUptoSaid : Prop := validAloneUptoRow.holds Try.pinned (OpenSpec.upto validAloneSpec)

/-- 'lapidarylaw17.ValidMore', WHERE WHAT IT READS IS OF BULK AT MOST 1048576: true; the input reads as it did. -/
def validMoreUptoRow : OpenClaim := { program := "ytmcmjnflahfbkaa", sum := "6e53aec14aa082be792bf70e4fc931625bf52f7cbebb79feb32f6f382ae2ab81", func := "lapidary/lapidarylaw17.ValidMore", spec := "validMore", unfollowed := true, recurses := true, apart := false, narrowed := true }
def ValidMoreUptoSaid : Prop := validMoreUptoRow.holds Try.pinned (OpenSpec.upto validMoreSpec)

/-- 'lapidarylaw17.ValidParts', WHERE WHAT IT READS IS OF BULK AT MOST 1048576: true; the input reads as it did. -/
def validPartsUptoRow : OpenClaim := { program := "ytmcmjnflahfbkaa", sum := "6e53aec14aa082be792bf70e4fc931625bf52f7cbebb79feb32f6f382ae2ab81", func := "lapidary/lapidarylaw17.ValidParts", spec := "validParts", unfollowed := true, recurses := true, apart := false, narrowed := true }
def ValidPartsUptoSaid : Prop := validPartsUptoRow.holds Try.pinned (OpenSpec.upto validPartsSpec)

/-- 'lapidarylaw17.ValidChecks', WHERE WHAT IT READS IS OF BULK AT MOST 1048576: true; the input reads as it did. -/
def validChecksUptoRow : OpenClaim := { program := "ytmcmjnflahfbkaa", sum := "6e53aec14aa082be792bf70e4fc931625bf52f7cbebb79feb32f6f382ae2ab81", func := "lapidary/lapidarylaw17.ValidChecks", spec := "validChecks", unfollowed := true, recurses := true, apart := false, narrowed := true }
def ValidChecksUptoSaid : Prop := validChecksUptoRow.holds Try.pinned (OpenSpec.upto validChecksSpec)

/-- 'lapidarylaw17.ValidAll', WHERE WHAT IT READS IS OF BULK AT MOST 1048576: true; the input reads as it did. -/
def validAllUptoRow : OpenClaim := { program := "ytmcmjnflahfbkaa", sum := "6e53aec14aa082be792bf70e4fc931625bf52f7cbebb79feb32f6f382ae2ab81", func := "lapidary/lapidarylaw17.ValidAll", spec := "validAll", unfollowed := true, recurses := true, apart := false, narrowed := true }
def ValidAllUptoSaid : Prop := validAllUptoRow.holds Try.pinned (OpenSpec.upto validAllSpec)

/-- 'lapidarylaw17.ValidSame', WHERE WHAT IT READS IS OF BULK AT MOST 1048576: true; the input reads as it did. -/
def validSameUptoRow : OpenClaim := { program := "ytmcmjnflahfbkaa", sum := "6e53aec14aa082be792bf70e4fc931625bf52f7cbebb79feb32f6f382ae2ab81", func := "lapidary/lapidarylaw17.ValidSame", spec := "validSame", unfollowed := true, recurses := true, apart := false, narrowed := true }
def ValidSameUptoSaid : Prop := validSameUptoRow.holds Try.pinned (OpenSpec.upto validSameSpec)

end Rows
end Go.Proofs.Ytmcmjnflahfbkaa
