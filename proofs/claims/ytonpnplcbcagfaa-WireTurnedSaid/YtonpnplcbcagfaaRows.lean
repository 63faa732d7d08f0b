/-
  No cell of these rows narrows 'for every input' (looked for: loops, veiled, ifaces, maps, wideKeys, modest, calm, conditions, laid).
  DERIVED. THE GIVEN ROWS OF THIS SEAT. 7 by the template 'for every input the law returns true; each argument reads behind the call as it read before'; 0 by the template 'total and deterministic' (their statements: YtonpnplcbcagfaaTotals.lean).
  GIVEN WITH THE SEED: the statements are not yours to turn. If you find one false, say at which input.
  Laid BY PROGRAM, IN A SANDBOX (cutbox-rows.mjs): the forced cells as the released guide's own fill.sh prints them over the translation 46386630a671b225… (all of the seat's roots in one cut). By AI agents, Wed Nov 11 2026. No macro, syntax, notation, axiom, sorry.
-/
import Derived.Test.YtonpnplcbcagfaaChecked
import GoSem.Claim
import GoSem.ClaimJoined
import GoSem.ClaimMapViews
import Derived.JoinedTies
import Derived.KernelRfl
namespace Go.Proofs.Ytonpnplcbcagfaa
/- THE CELL 'sum', in the pinned program and in every row, IS THE sha256 OF THE DUMP (.gsa) THAT YtonpnplcbcagfaaProg.lean LOADS. Nothing in Lean hashes anything: it is a label: what it is worth is what the hold of that sum in a sandbox is worth. -/
noncomputable def Try.pinned : Pinned := { name := "ytonpnplcbcagfaa", sum := "46386630a671b225d67440a77364267abcc16cb356f620629b0b002406644158", checked := Try.checked }
namespace Rows
def none {H : Type} : Left H := { results := [], args := [] }

/-- 'lapidarylaw01.WireSum': WHATEVER THE INPUT: true; the input reads as it did. -/
def wireSumSpec : ChangeSpec := { name := "wireSum", fn := fun _ => fun
  | [d] => { results := [.lit (.bool true)], args := [d] }
  | _ => none }
def wireSumRow : OpenClaim := { program := "ytonpnplcbcagfaa", sum := "46386630a671b225d67440a77364267abcc16cb356f620629b0b002406644158", func := "lapidary/lapidarylaw01.WireSum", spec := "wireSum", apart := false }
def WireSumSaid : Prop := wireSumRow.holds Try.pinned (OpenSpec.ofChange wireSumSpec)

/-- ITS FALSE NEIGHBOUR: 'it returns false'. Refute it at one input. -/
def wireSumWrong : ChangeSpec := { name := "wireSum", fn := fun _ => fun
  | [d] => { results := [.lit (.bool false)], args := [d] }
  | _ => none }
def WireSumWrongFalsely : Prop := wireSumRow.holds Try.pinned (OpenSpec.ofChange wireSumWrong)

/-- 'lapidarylaw01.WireShort': WHATEVER THE INPUT: true; the input reads as it did. -/
def wireShortSpec : ChangeSpec := { name := "wireShort", fn := fun _ => fun
  | [d1, d2] => { results := [.lit (.bool true)], args := [d1, d2] }
  | _ => none }
def wireShortRow : OpenClaim := { program := "ytonpnplcbcagfaa", sum := "46386630a671b225d67440a77364267abcc16cb356f620629b0b002406644158", func := "lapidary/lapidarylaw01.WireShort", spec := "wireShort", apart := false }
def WireShortSaid : Prop := wireShortRow.holds Try.pinned (OpenSpec.ofChange wireShortSpec)

/-- ITS FALSE NEIGHBOUR: 'it returns false'. Refute it at one input. -/
def wireShortWrong : ChangeSpec := { name := "wireShort", fn := fun _ => fun
  | [d1, d2] => { results := [.lit (.bool false)], args := [d1, d2] }
  | _ => none }
def WireShortWrongFalsely : Prop := wireShortRow.holds Try.pinned (OpenSpec.ofChange wireShortWrong)

/-- 'lapidarylaw01.WireFold': WHATEVER THE INPUT: true; the input reads as it did. -/
def wireFoldSpec : ChangeSpec := { name := "wireFold", fn := fun _ => fun
  | [d1, d2] => { results := [.lit (.bool true)], args := [d1, d2] }
  | _ => none }
def wireFoldRow : OpenClaim := { program := "ytonpnplcbcagfaa", sum := "46386630a671b225d67440a77364267abcc16cb356f620629b0b002406644158", func := "lapidary/lapidarylaw01.WireFold", spec := "wireFold", apart := false }
def WireFoldSaid : Prop := wireFoldRow.holds Try.pinned (OpenSpec.ofChange wireFoldSpec)

/-- ITS FALSE NEIGHBOUR: 'it returns false'. Refute it at one input. -/
def wireFoldWrong : ChangeSpec := { name := "wireFold", fn := fun _ => fun
  | [d1, d2] => { results := [.lit (.bool false)], args := [d1, d2] }
  | _ => none }
def WireFoldWrongFalsely : Prop := wireFoldRow.holds Try.pinned (OpenSpec.ofChange wireFoldWrong)

/-- 'lapidarylaw01.WireUint': WHATEVER THE INPUT: true; the input reads as it did. -/
def wireUintSpec : ChangeSpec := { name := "wireUint", fn := fun _ => fun
  | [d1, d2] => { results := [.lit (.bool true)], args := [d1, d2] }
  | _ => none }
def wireUintRow : OpenClaim := { program := "ytonpnplcbcagfaa", sum := "46386630a671b225d67440a77364267abcc16cb356f620629b0b002406644158", func := "lapidary/lapidarylaw01.WireUint", spec := "wireUint", apart := false }
def WireUintSaid : Prop := wireUintRow.holds Try.pinned (OpenSpec.ofChange wireUintSpec)

/-- ITS FALSE NEIGHBOUR: 'it returns false'. Refute it at one input. -/
def wireUintWrong : ChangeSpec := { name := "wireUint", fn := fun _ => fun
  | [d1, d2] => { results := [.lit (.bool false)], args := [d1, d2] }
  | _ => none }
def WireUintWrongFalsely : Prop := wireUintRow.holds Try.pinned (OpenSpec.ofChange wireUintWrong)

/-- 'lapidarylaw01.WireFrame': WHATEVER THE INPUT: true; the input reads as it did. -/
def wireFrameSpec : ChangeSpec := { name := "wireFrame", fn := fun _ => fun
  | [d1, d2] => { results := [.lit (.bool true)], args := [d1, d2] }
  | _ => none }
def wireFrameRow : OpenClaim := { program := "ytonpnplcbcagfaa", sum := "46386630a671b225d67440a77364267abcc16cb356f620629b0b002406644158", func := "lapidary/lapidarylaw01.WireFrame", spec := "wireFrame", apart := false }
def WireFrameSaid : Prop := wireFrameRow.holds Try.pinned (OpenSpec.ofChange wireFrameSpec)

/-- ITS FALSE NEIGHBOUR: 'it returns false'. Refute it at one input. -/
def wireFrameWrong : ChangeSpec := { name := "wireFrame", fn := fun _ => fun
  | [d1, d2] => { results := [.lit (.bool false)], args := [d1, d2] }
  | _ => none }
def WireFrameWrongFalsely : Prop := wireFrameRow.holds Try.pinned (OpenSpec.ofChange wireFrameWrong)

/-- 'lapidarylaw01.WireTurned': WHATEVER THE INPUT: true; the input reads as it did. -/
def wireTurnedSpec : ChangeSpec := { name := "wireTurned", fn := fun _ => fun
  | [d1, d2] => { results := [.lit (.bool true)], args := [d1, d2] }
  | _ => none }
def wireTurnedRow : OpenClaim := { program := "ytonpnplcbcagfaa", sum := "46386630a671b225d67440a77364267abcc16cb356f620629b0b002406644158", func := "lapidary/lapidarylaw01.WireTurned", spec := "wireTurned", apart := false }
def WireTurnedSaid : Prop := wireTurnedRow.holds Try.pinned (OpenSpec.ofChange wireTurnedSpec)

/-- ITS FALSE NEIGHBOUR: 'it returns false'. Refute it at one input. -/
def wireTurnedWrong : ChangeSpec := { name := "wireTurned", fn := fun _ => fun
  | [d1, d2] => { results := [.lit (.bool false)], args := [d1, d2] }
  | _ => none }
def WireTurnedWrongFalsely : Prop := wireTurnedRow.holds Try.pinned (OpenSpec.ofChange wireTurnedWrong)

/-- 'lapidarylaw01.WireText': WHATEVER THE INPUT: true; the input reads as it did. -/
def wireTextSpec : ChangeSpec := { name := "wireText", fn := fun _ => fun
  | [d1, d2] => { results := [.lit (.bool true)], args := [d1, d2] }
  | _ => none }
def wireTextRow : OpenClaim := { program := "ytonpnplcbcagfaa", sum := "46386630a671b225d67440a77364267abcc16cb356f620629b0b002406644158", func := "lapidary/lapidarylaw01.WireText", spec := "wireText", apart := false }
def WireTextSaid : Prop := wireTextRow.holds Try.pinned (OpenSpec.ofChange wireTextSpec)

/-- ITS FALSE NEIGHBOUR: 'it returns false'. Refute it at one input. -/
def wireTextWrong : ChangeSpec := { name := "wireText", fn := fun _ => fun
  | [d1, d2] => { results := [.lit (.bool false)], args := [d1, d2] }
  | _ => none }
def WireTextWrongFalsely : Prop := wireTextRow.holds Try.pinned (OpenSpec.ofChange wireTextWrong)

/- THE SECOND FORM. 'bulk': how many values and letters a reading holds, each counted each time it is reached (what is shared counts as often as it is met; a slice's spare places count too). A statement '..UptoSaid' is the law's where the arguments, and the package variables that the reading takes, are together of bulk at most 1048576: NARROWER than '..Said'. Prove '..Said' where nothing that the law and all that it calls make is longer than what came in: it says more and counts as full. Else prove '..UptoSaid'. A law counts once. -/
mutual
def uptoBulk {H : Type} : DataW H → Nat
  | .lit (.string bytes) => bytes.length + 1
  | .lit _ => 1
  | .nil => 1
  | .ptr d => uptoBulk d + 1
  | .slice elems spare => uptoBulkAll elems + uptoBulkAll spare + 1
  | .agg parts => uptoBulkAll parts + 1
  | .iface _ d => uptoBulk d + 1
  | .map entries => uptoBulkEntries entries + 1
  | .held _ => 1
def uptoBulkAll {H : Type} : List (DataW H) → Nat
  | [] => 0
  | d :: r => uptoBulk d + uptoBulkAll r
def uptoBulkEntries {H : Type} : List (Lit × DataW H) → Nat
  | [] => 0
  | x :: r => uptoBulkEntry x + uptoBulkEntries r
def uptoBulkEntry {H : Type} : Lit × DataW H → Nat
  | (.string bytes, d) => bytes.length + uptoBulk d + 1
  | (_, d) => uptoBulk d + 1
 end
def uptoSmall : (H : Type) → List (DataW H) → Bool := fun _ ds => decide (uptoBulkAll ds ≤ 1048576)
def OpenSpec.upto (s : _root_.Go.ChangeSpec) : _root_.Go.OpenSpec := { _root_.Go.OpenSpec.ofChange s with cond := some uptoSmall }

/-- 'lapidarylaw01.WireSum', WHERE WHAT IT READS IS OF BULK AT MOST 1048576: true; the input reads as it did. -/
def wireSumUptoRow : OpenClaim := { program := "ytonpnplcbcagfaa", sum := "46386630a671b225d67440a77364267abcc16cb356f620629b0b002406644158", func := "lapidary/lapidarylaw01.WireSum", spec := "wireSum", apart := false, narrowed := true }
def WireSumUptoSaid : Prop := wireSumUptoRow.holds Try.pinned (OpenSpec.upto wireSumSpec)

/-- 'lapidarylaw01.WireShort', WHERE WHAT IT READS IS OF BULK AT MOST 1048576: true; the input reads as it did. -/
def wireShortUptoRow : OpenClaim := { program := "ytonpnplcbcagfaa", sum := "46386630a671b225d67440a77364267abcc16cb356f620629b0b002406644158", func := "lapidary/lapidarylaw01.WireShort", spec := "wireShort", apart := false, narrowed := true }
def WireShortUptoSaid : Prop := wireShortUptoRow.holds Try.pinned (OpenSpec.upto wireShortSpec)

/-- 'lapidarylaw01.WireFold', WHERE WHAT IT READS IS OF BULK AT MOST 1048576: true; the input reads as it did. -/
def wireFoldUptoRow : OpenClaim := { program := "ytonpnplcbcagfaa", sum := "46386630a671b225d67440a77364267abcc16cb356f620629b0b002406644158", func := "lapidary/lapidarylaw01.WireFold", spec := "wireFold", apart := false, narrowed := true }
def WireFoldUptoSaid : Prop := wireFoldUptoRow.holds Try.pinned (OpenSpec.upto wireFoldSpec)

/-- 'lapidarylaw01.WireUint', WHERE WHAT IT READS IS OF BULK AT MOST 1048576: true; the input reads as it did. -/
def wireUintUptoRow : OpenClaim := { program := "ytonpnplcbcagfaa", sum := "46386630a671b225d67440a77364267abcc16cb356f620629b0b002406644158", func := "lapidary/lapidarylaw01.WireUint", spec := "wireUint", apart := false, narrowed := true }
def WireUintUptoSaid : Prop := wireUintUptoRow.holds Try.pinned (OpenSpec.upto wireUintSpec)

/-- 'lapidarylaw01.WireFrame', WHERE WHAT IT READS IS OF BULK AT MOST 1048576: true; the input reads as it did. -/
def wireFrameUptoRow : OpenClaim := { program := "ytonpnplcbcagfaa", sum := "46386630a671b225d67440a77364267abcc16cb356f620629b0b002406644158", func := "lapidary/lapidarylaw01.WireFrame", spec := "wireFrame", apart := false, narrowed := true }
def WireFrameUptoSaid : Prop := wireFrameUptoRow.holds Try.pinned (OpenSpec.upto wireFrameSpec)

/-- 'lapidarylaw01.WireTurned', WHERE WHAT IT READS IS OF BULK AT MOST 1048576: true; the input reads as it did. -/
def wireTurnedUptoRow : OpenClaim := { program := "ytonpnplcbcagfaa", sum := "46386630a671b225d67440a77364267abcc16cb356f620629b0b002406644158", func := "lapidary/lapidarylaw01.WireTurned", spec := "wireTurned", apart := false, narrowed := true }
def WireTurnedUptoSaid : Prop := wireTurnedUptoRow.holds Try.pinned (OpenSpec.upto wireTurnedSpec)

/-- 'lapidarylaw01.WireText', WHERE WHAT IT READS IS OF BULK AT MOST 1048576: true; the input reads as it did. -/
def wireTextUptoRow : OpenClaim := { program := "ytonpnplcbcagfaa", sum := "46386630a671b225d67440a77364267abcc16cb356f620629b0b002406644158", func := "lapidary/lapidarylaw01.WireText", spec := "wireText", apart := false, narrowed := true }
def WireTextUptoSaid : Prop := wireTextUptoRow.holds Try.pinned (OpenSpec.upto wireTextSpec)

end Rows
end Go.Proofs.Ytonpnplcbcagfaa
