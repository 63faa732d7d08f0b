/-
  No cell of these rows narrows 'for every input' (looked for: loops, veiled, ifaces, maps, wideKeys, modest, calm, conditions, laid).
  DERIVED. THE GIVEN ROWS OF THIS SEAT. 5 by the template 'for every input the law returns true; each argument reads behind the call as it read before'; 0 by the template 'total and deterministic' (their statements: YtoajigghkjnffaaTotals.lean).
  GIVEN WITH THE SEED: the statements are not yours to turn. If you find one false, say at which input.
  Laid BY PROGRAM, IN A SANDBOX (cutbox-rows.mjs): the forced cells as the released guide's own fill.sh prints them over the translation 2b9989700b4d6be7… (all of the seat's roots in one cut). By AI agents, Wed Nov 11 2026. No macro, syntax, notation, axiom, sorry.
-/
import Derived.Test.YtoajigghkjnffaaChecked
import GoSem.Claim
import GoSem.ClaimJoined
import GoSem.ClaimMapViews
import Derived.JoinedTies
import Derived.KernelRfl
namespace Go.Proofs.Ytoajigghkjnffaa
/- THE CELL 'sum', in the pinned program and in every row, IS THE sha256 OF THE DUMP (.gsa) THAT YtoajigghkjnffaaProg.lean LOADS. Nothing in Lean hashes anything: it is a label: what it is worth is what the hold of that sum in a sandbox is worth. -/
noncomputable def Try.pinned : Pinned := { name := "ytoajigghkjnffaa", sum := "2b9989700b4d6be70075e132823709334a05a50821178682efb383ece063d575", checked := Try.checked }
namespace Rows
def none {H : Type} : Left H := { results := [], args := [] }

/-- 'lapidarylaw12.ViewRight': WHATEVER THE INPUT: true; the input reads as it did. -/
def viewRightSpec : ChangeSpec := { name := "viewRight", fn := fun _ => fun
  | [d1, d2] => { results := [.lit (.bool true)], args := [d1, d2] }
  | _ => none }
def viewRightRow : OpenClaim := { program := "ytoajigghkjnffaa", sum := "2b9989700b4d6be70075e132823709334a05a50821178682efb383ece063d575", func := "lapidary/lapidarylaw12.ViewRight", spec := "viewRight", unfollowed := true, recurses := true, apart := false }
def ViewRightSaid : Prop := viewRightRow.holds Try.pinned (OpenSpec.ofChange viewRightSpec)

/-- ITS FALSE NEIGHBOUR: 'it returns false'. Refute it at one input. -/
def viewRightWrong : ChangeSpec := { name := "viewRight", fn := fun _ => fun
  | [d1, d2] => { results := [.lit (.bool false)], args := [d1, d2] }
  | _ => none }
def ViewRightWrongFalsely : Prop := viewRightRow.holds Try.pinned (OpenSpec.ofChange viewRightWrong)

/-- 'lapidarylaw12.ViewLast': WHATEVER THE INPUT: true; the input reads as it did. -/
def viewLastSpec : ChangeSpec := { name := "viewLast", fn := fun _ => fun
  | [d1, d2, d3, d4] => { results := [.lit (.bool true)], args := [d1, d2, d3, d4] }
  | _ => none }
def viewLastRow : OpenClaim := { program := "ytoajigghkjnffaa", sum := "2b9989700b4d6be70075e132823709334a05a50821178682efb383ece063d575", func := "lapidary/lapidarylaw12.ViewLast", spec := "viewLast", unfollowed := true, recurses := true, apart := false }
def ViewLastSaid : Prop := viewLastRow.holds Try.pinned (OpenSpec.ofChange viewLastSpec)

/-- ITS FALSE NEIGHBOUR: 'it returns false'. Refute it at one input. -/
def viewLastWrong : ChangeSpec := { name := "viewLast", fn := fun _ => fun
  | [d1, d2, d3, d4] => { results := [.lit (.bool false)], args := [d1, d2, d3, d4] }
  | _ => none }
def ViewLastWrongFalsely : Prop := viewLastRow.holds Try.pinned (OpenSpec.ofChange viewLastWrong)

/-- 'lapidarylaw12.ViewAlone': WHATEVER THE INPUT: true; the input reads as it did. -/
def viewAloneSpec : ChangeSpec := { name := "viewAlone", fn := fun _ => fun
  | [d1, d2, d3] => { results := [.lit (.bool true)], args := [d1, d2, d3] }
  | _ => none }
def viewAloneRow : OpenClaim := { program := "ytoajigghkjnffaa", sum := "2b9989700b4d6be70075e132823709334a05a50821178682efb383ece063d575", func := "lapidary/lapidarylaw12.ViewAlone", spec := "viewAlone", unfollowed := true, recurses := true, apart := false }
def ViewAloneSaid : Prop := viewAloneRow.holds Try.pinned (OpenSpec.ofChange viewAloneSpec)

/-- ITS FALSE NEIGHBOUR: 'it returns false'. Refute it at one input. -/
def viewAloneWrong : ChangeSpec := { name := "viewAlone", fn := fun _ => fun
  | [d1, d2, d3] => { results := [.lit (.bool false)], args := [d1, d2, d3] }
  | _ => none }
def ViewAloneWrongFalsely : Prop := viewAloneRow.holds Try.pinned (OpenSpec.ofChange viewAloneWrong)

/-- 'lapidarylaw12.ViewCopies': WHATEVER THE INPUT: true; the input reads as it did. -/
def viewCopiesSpec : ChangeSpec := { name := "viewCopies", fn := fun _ => fun
  | [d1, d2, d3, d4] => { results := [.lit (.bool true)], args := [d1, d2, d3, d4] }
  | _ => none }
def viewCopiesRow : OpenClaim := { program := "ytoajigghkjnffaa", sum := "2b9989700b4d6be70075e132823709334a05a50821178682efb383ece063d575", func := "lapidary/lapidarylaw12.ViewCopies", spec := "viewCopies", inPlace := ["maps.clone"], unfollowed := true, recurses := true, apart := false }
def ViewCopiesSaid : Prop := viewCopiesRow.holds Try.pinned (OpenSpec.ofChange viewCopiesSpec)

/-- ITS FALSE NEIGHBOUR: 'it returns false'. Refute it at one input. -/
def viewCopiesWrong : ChangeSpec := { name := "viewCopies", fn := fun _ => fun
  | [d1, d2, d3, d4] => { results := [.lit (.bool false)], args := [d1, d2, d3, d4] }
  | _ => none }
def ViewCopiesWrongFalsely : Prop := viewCopiesRow.holds Try.pinned (OpenSpec.ofChange viewCopiesWrong)

/-- 'lapidarylaw12.ViewNil': WHATEVER THE INPUT: true; the input reads as it did. -/
def viewNilSpec : ChangeSpec := { name := "viewNil", fn := fun _ => fun
  | [d1, d2] => { results := [.lit (.bool true)], args := [d1, d2] }
  | _ => none }
def viewNilRow : OpenClaim := { program := "ytoajigghkjnffaa", sum := "2b9989700b4d6be70075e132823709334a05a50821178682efb383ece063d575", func := "lapidary/lapidarylaw12.ViewNil", spec := "viewNil", inPlace := ["maps.clone"], unfollowed := true, recurses := true, apart := false }
def ViewNilSaid : Prop := viewNilRow.holds Try.pinned (OpenSpec.ofChange viewNilSpec)

/-- ITS FALSE NEIGHBOUR: 'it returns false'. Refute it at one input. -/
def viewNilWrong : ChangeSpec := { name := "viewNil", fn := fun _ => fun
  | [d1, d2] => { results := [.lit (.bool false)], args := [d1, d2] }
  | _ => none }
def ViewNilWrongFalsely : Prop := viewNilRow.holds Try.pinned (OpenSpec.ofChange viewNilWrong)

/- THE SECOND FORM. 'bulk': how many values and letters a reading holds, each counted each time it is reached (what is shared counts as often as it is met; a slice's spare places count too). A statement '..UptoSaid' is the law's where the arguments, and the package variables that the reading takes, are together of bulk at most 1048576: NARROWER than '..Said'. Prove '..Said' where nothing that the law and all that it calls make is longer than what came in: it says more and counts as full. Else prove '..UptoSaid'. A law counts once. -/
mutual
def uptoBulk {H : Type} : DataW H → Nat
  | .lit (.string bytes) => bytes.length + 1
  | .lit _ => 1
  | .nil => 1
  | .ptr d => uptoBulk d + 1
  | .slice elems spare => uptoBulkAll elems + uptoBulkAll spare + 1
  | .agg parts => uptoBulkAll parts + 1
  | .iface _ d => uptoBulk d + 1
  | .map entries => uptoBulkEntries entries + 1
  | .held _ => 1
def uptoBulkAll {H : Type} : List (DataW H) → Nat
  | [] => 0
  | d :: r => uptoBulk d + uptoBulkAll r
def uptoBulkEntries {H : Type} : List (Lit × DataW H) → Nat
  | [] => 0
  | x :: r => uptoBulkEntry x + uptoBulkEntries r
def uptoBulkEntry {H : Type} : Lit × DataW H → Nat
  | (.string bytes, d) => bytes.length + uptoBulk d + 1
  | (_, d) => uptoBulk d + 1
 end
def uptoSmall : (H : Type) → List (DataW H) → Bool := fun _ ds => decide (uptoBulkAll ds ≤ 1048576)
def OpenSpec.upto (s : _root_.Go.ChangeSpec) : _root_.Go.OpenSpec := { _root_.Go.OpenSpec.ofChange s with cond := some uptoSmall }

/-- 'lapidarylaw12.ViewRight', WHERE WHAT IT READS IS OF BULK AT MOST 1048576: true; the input reads as it did. -/
def viewRightUptoRow : OpenClaim := { program := "ytoajigghkjnffaa", sum := "2b9989700b4d6be70075e132823709334a05a50821178682efb383ece063d575", func := "lapidary/lapidarylaw12.ViewRight", spec := "viewRight", unfollowed := true, recurses := true, apart := false, narrowed := true }
def ViewRightUptoSaid : Prop := viewRightUptoRow.holds Try.pinned (OpenSpec.upto viewRightSpec)

/-- 'lapidarylaw12.ViewLast', WHERE WHAT IT READS IS OF BULK AT MOST 1048576: true; the input reads as it did. -/
def viewLastUptoRow : OpenClaim := { program := "ytoajigghkjnffaa", sum := "2b9989700b4d6be70075e132823709334a05a50821178682efb383ece063d575", func := "lapidary/lapidarylaw12.ViewLast", spec := "viewLast", unfollowed := true, recurses := true, apart := false, narrowed := true }
def ViewLastUptoSaid : Prop := viewLastUptoRow.holds Try.pinned (OpenSpec.upto viewLastSpec)

/-- 'lapidarylaw12.ViewAlone', WHERE WHAT IT READS IS OF BULK AT MOST 1048576: true; the input reads as it did. -/
def viewAloneUptoRow : OpenClaim := { program := "ytoajigghkjnffaa", sum := "2b9989700b4d6be70075e132823709334a05a50821178682efb383ece063d575", func := "lapidary/lapidarylaw12.ViewAlone", spec := "viewAlone", unfollowed := true, recurses := true, apart := false, narrowed := true }
def ViewAloneUptoSaid : Prop := viewAloneUptoRow.holds Try.pinned (OpenSpec.upto viewAloneSpec)

/-- 'lapidarylaw12.ViewCopies', WHERE WHAT IT READS IS OF BULK AT MOST 1048576: true; the input reads as it did. -/
def viewCopiesUptoRow : OpenClaim := { program := "ytoajigghkjnffaa", sum := "2b9989700b4d6be70075e132823709334a05a50821178682efb383ece063d575", func := "lapidary/lapidarylaw12.ViewCopies", spec := "viewCopies", inPlace := ["maps.clone"], unfollowed := true, recurses := true, apart := false, narrowed := true }
def ViewCopiesUptoSaid : Prop := viewCopiesUptoRow.holds Try.pinned (OpenSpec.upto viewCopiesSpec)

/-- 'lapidarylaw12.ViewNil', WHERE WHAT IT READS IS OF BULK AT MOST 1048576: true; the input reads as it did. -/
def viewNilUptoRow : OpenClaim := { program := "ytoajigghkjnffaa", sum := "2b9989700b4d6be70075e132823709334a05a50821178682efb383ece063d575", func := "lapidary/lapidarylaw12.ViewNil", spec := "viewNil", inPlace := ["maps.clone"], unfollowed := true, recurses := true, apart := false, narrowed := true }
def ViewNilUptoSaid : Prop := viewNilUptoRow.holds Try.pinned (OpenSpec.upto viewNilSpec)

end Rows
end Go.Proofs.Ytoajigghkjnffaa
