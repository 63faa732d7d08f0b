/-
  NARROWER THAN 'FOR EVERY INPUT', by the rows' own cells (each row's printed sentence says how): RingSectors: laid · RingSeqs: laid · RingFull: laid · RingKeeps: laid · RingAgain: laid · RingNil: laid.
  DERIVED. THE GIVEN ROWS OF THIS SEAT. 6 by the template 'for every input the law returns true; each argument reads behind the call as it read before'; 0 by the template 'total and deterministic' (their statements: YtannkgglgmbkdaaDoorTotals.lean).
  GIVEN WITH THE SEED: the statements are not yours to turn. If you find one false, say at which input.
  Laid BY PROGRAM, IN A SANDBOX (cutbox-rows.mjs): the forced cells as the released guide's own fill.sh prints them over the translation 9a0f69b134ba67a3… (all of the seat's roots in one cut). By AI agents, Wed Nov 11 2026. No macro, syntax, notation, axiom, sorry.
-/
import Derived.Test.YtannkgglgmbkdaaDoorChecked
import GoSem.Claim
import GoSem.ClaimJoined
import GoSem.ClaimMapViews
import Derived.JoinedTies
import Derived.KernelRfl
namespace Go.Proofs.YtannkgglgmbkdaaDoor
/- THE CELL 'sum', in the pinned program and in every row, IS THE sha256 OF THE DUMP (.gsa) THAT YtannkgglgmbkdaaDoorProg.lean LOADS. Nothing in Lean hashes anything: it is a label: what it is worth is what the hold of that sum in a sandbox is worth. -/
noncomputable def Tryd.pinned : Pinned := { name := "ytannkgglgmbkdaadoor", sum := "9a0f69b134ba67a358d59176cc74ca14b345bea0d2b50aaf2ea48e0bb2b19a4a", checked := Tryd.checked }
namespace Rows
def none {H : Type} : Left H := { results := [], args := [] }

/- WHAT THE LISTED PACKAGE-LEVEL VARIABLES READ AS WHEN THE CALL BEGINS. Each datum BY PROGRAM (the guide's laid-datum.mjs) off the statement by which the dump's own 'gosem.cut.vars' lays the variable. In a bare row this is a premise. The card (YtannkgglgmbkdaaDoorCards.lean) ties it to the program's text. -/
def laid_bytes_ErrTooLarge {H : Type} : DataW H := .iface "*errors.errorString" (.ptr (.agg [.lit (.string [98, 121, 116, 101, 115, 46, 66, 117, 102, 102, 101, 114, 58, 32, 116, 111, 111, 32, 108, 97, 114, 103, 101])]))

/-- 'lapidarylaw04.RingSectors': WHATEVER THE INPUT: true; the input reads as it did. -/
def ringSectorsSpec : ChangeSpec := { name := "ringSectors", fn := fun _ => fun
  | [d] => { results := [.lit (.bool true)], args := [d] }
  | _ => none }
def ringSectorsRow : OpenClaim := { program := "ytannkgglgmbkdaadoor", sum := "9a0f69b134ba67a358d59176cc74ca14b345bea0d2b50aaf2ea48e0bb2b19a4a", func := "lapidary/lapidarylaw04.RingSectors", spec := "ringSectors", named := ["bytes.ErrTooLarge"], apart := false, laid := [("bytes.ErrTooLarge", laid_bytes_ErrTooLarge)] }
def RingSectorsSaid : Prop := ringSectorsRow.holds Tryd.pinned (OpenSpec.ofChange ringSectorsSpec)

/-- ITS FALSE NEIGHBOUR: 'it returns false'. Refute it at one input. -/
def ringSectorsWrong : ChangeSpec := { name := "ringSectors", fn := fun _ => fun
  | [d] => { results := [.lit (.bool false)], args := [d] }
  | _ => none }
def RingSectorsWrongFalsely : Prop := ringSectorsRow.holds Tryd.pinned (OpenSpec.ofChange ringSectorsWrong)

/-- 'lapidarylaw04.RingSeqs': WHATEVER THE INPUT: true; the input reads as it did. -/
def ringSeqsSpec : ChangeSpec := { name := "ringSeqs", fn := fun _ => fun
  | [d] => { results := [.lit (.bool true)], args := [d] }
  | _ => none }
def ringSeqsRow : OpenClaim := { program := "ytannkgglgmbkdaadoor", sum := "9a0f69b134ba67a358d59176cc74ca14b345bea0d2b50aaf2ea48e0bb2b19a4a", func := "lapidary/lapidarylaw04.RingSeqs", spec := "ringSeqs", named := ["bytes.ErrTooLarge"], apart := false, laid := [("bytes.ErrTooLarge", laid_bytes_ErrTooLarge)] }
def RingSeqsSaid : Prop := ringSeqsRow.holds Tryd.pinned (OpenSpec.ofChange ringSeqsSpec)

/-- ITS FALSE NEIGHBOUR: 'it returns false'. Refute it at one input. -/
def ringSeqsWrong : ChangeSpec := { name := "ringSeqs", fn := fun _ => fun
  | [d] => { results := [.lit (.bool false)], args := [d] }
  | _ => none }
def RingSeqsWrongFalsely : Prop := ringSeqsRow.holds Tryd.pinned (OpenSpec.ofChange ringSeqsWrong)

/-- 'lapidarylaw04.RingFull': WHATEVER THE INPUT: true; the input reads as it did. -/
def ringFullSpec : ChangeSpec := { name := "ringFull", fn := fun _ => fun
  | [d1, d2] => { results := [.lit (.bool true)], args := [d1, d2] }
  | _ => none }
def ringFullRow : OpenClaim := { program := "ytannkgglgmbkdaadoor", sum := "9a0f69b134ba67a358d59176cc74ca14b345bea0d2b50aaf2ea48e0bb2b19a4a", func := "lapidary/lapidarylaw04.RingFull", spec := "ringFull", named := ["bytes.ErrTooLarge"], apart := false, laid := [("bytes.ErrTooLarge", laid_bytes_ErrTooLarge)] }
def RingFullSaid : Prop := ringFullRow.holds Tryd.pinned (OpenSpec.ofChange ringFullSpec)

/-- ITS FALSE NEIGHBOUR: 'it returns false'. Refute it at one input. -/
def ringFullWrong : ChangeSpec := { name := "ringFull", fn := fun _ => fun
  | [d1, d2] => { results := [.lit (.bool false)], args := [d1, d2] }
  | _ => none }
def RingFullWrongFalsely : Prop := ringFullRow.holds Tryd.pinned (OpenSpec.ofChange ringFullWrong)

/-- 'lapidarylaw04.RingKeeps': WHATEVER THE INPUT: true; the input reads as it did. -/
def ringKeepsSpec : ChangeSpec := { name := "ringKeeps", fn := fun _ => fun
  | [d1, d2] => { results := [.lit (.bool true)], args := [d1, d2] }
  | _ => none }
def ringKeepsRow : OpenClaim := { program := "ytannkgglgmbkdaadoor", sum := "9a0f69b134ba67a358d59176cc74ca14b345bea0d2b50aaf2ea48e0bb2b19a4a", func := "lapidary/lapidarylaw04.RingKeeps", spec := "ringKeeps", named := ["bytes.ErrTooLarge"], apart := false, laid := [("bytes.ErrTooLarge", laid_bytes_ErrTooLarge)] }
def RingKeepsSaid : Prop := ringKeepsRow.holds Tryd.pinned (OpenSpec.ofChange ringKeepsSpec)

/-- ITS FALSE NEIGHBOUR: 'it returns false'. Refute it at one input. -/
def ringKeepsWrong : ChangeSpec := { name := "ringKeeps", fn := fun _ => fun
  | [d1, d2] => { results := [.lit (.bool false)], args := [d1, d2] }
  | _ => none }
def RingKeepsWrongFalsely : Prop := ringKeepsRow.holds Tryd.pinned (OpenSpec.ofChange ringKeepsWrong)

/-- 'lapidarylaw04.RingAgain': WHATEVER THE INPUT: true; the input reads as it did. -/
def ringAgainSpec : ChangeSpec := { name := "ringAgain", fn := fun _ => fun
  | [d1, d2, d3] => { results := [.lit (.bool true)], args := [d1, d2, d3] }
  | _ => none }
def ringAgainRow : OpenClaim := { program := "ytannkgglgmbkdaadoor", sum := "9a0f69b134ba67a358d59176cc74ca14b345bea0d2b50aaf2ea48e0bb2b19a4a", func := "lapidary/lapidarylaw04.RingAgain", spec := "ringAgain", named := ["bytes.ErrTooLarge"], apart := false, laid := [("bytes.ErrTooLarge", laid_bytes_ErrTooLarge)] }
def RingAgainSaid : Prop := ringAgainRow.holds Tryd.pinned (OpenSpec.ofChange ringAgainSpec)

/-- ITS FALSE NEIGHBOUR: 'it returns false'. Refute it at one input. -/
def ringAgainWrong : ChangeSpec := { name := "ringAgain", fn := fun _ => fun
  | [d1, d2, d3] => { results := [.lit (.bool false)], args := [d1, d2, d3] }
  | _ => none }
def RingAgainWrongFalsely : Prop := ringAgainRow.holds Tryd.pinned (OpenSpec.ofChange ringAgainWrong)

/-- 'lapidarylaw04.RingNil': WHATEVER THE INPUT: true; the input reads as it did. -/
def ringNilSpec : ChangeSpec := { name := "ringNil", fn := fun _ => fun
  | [d] => { results := [.lit (.bool true)], args := [d] }
  | _ => none }
def ringNilRow : OpenClaim := { program := "ytannkgglgmbkdaadoor", sum := "9a0f69b134ba67a358d59176cc74ca14b345bea0d2b50aaf2ea48e0bb2b19a4a", func := "lapidary/lapidarylaw04.RingNil", spec := "ringNil", named := ["bytes.ErrTooLarge"], apart := false, laid := [("bytes.ErrTooLarge", laid_bytes_ErrTooLarge)] }
def RingNilSaid : Prop := ringNilRow.holds Tryd.pinned (OpenSpec.ofChange ringNilSpec)

/-- ITS FALSE NEIGHBOUR: 'it returns false'. Refute it at one input. -/
def ringNilWrong : ChangeSpec := { name := "ringNil", fn := fun _ => fun
  | [d] => { results := [.lit (.bool false)], args := [d] }
  | _ => none }
def RingNilWrongFalsely : Prop := ringNilRow.holds Tryd.pinned (OpenSpec.ofChange ringNilWrong)

/- THE SECOND FORM. 'bulk': how many values and letters a reading holds, each counted each time it is reached (what is shared counts as often as it is met; a slice's spare places count too). A statement '..UptoSaid' is the law's where the arguments, and the package variables that the reading takes, are together of bulk at most 1048576: NARROWER than '..Said'. Prove '..Said' where nothing that the law and all that it calls make is longer than what came in: it says more and counts as full. Else prove '..UptoSaid'. A law counts once. -/
mutual
def uptoBulk {H : Type} : DataW H → Nat
  | .lit (.string bytes) => bytes.length + 1
  | .lit _ => 1
  | .nil => 1
  | .ptr d => uptoBulk d + 1
  | .slice elems spare => uptoBulkAll elems + uptoBulkAll spare + 1
  | .agg parts => uptoBulkAll parts + 1
  | .iface _ d => uptoBulk d + 1
  | .map entries => uptoBulkEntries entries + 1
  | .held _ => 1
def uptoBulkAll {H : Type} : List (DataW H) → Nat
  | [] => 0
  | d :: r => uptoBulk d + uptoBulkAll r
def uptoBulkEntries {H : Type} : List (Lit × DataW H) → Nat
  | [] => 0
  | x :: r => uptoBulkEntry x + uptoBulkEntries r
def uptoBulkEntry {H : Type} : Lit × DataW H → Nat
  | (.string bytes, d) => bytes.length + uptoBulk d + 1
  | (_, d) => uptoBulk d + 1
 end
def uptoSmall : (H : Type) → List (DataW H) → Bool := fun _ ds => decide (uptoBulkAll ds ≤ 1048576)
def OpenSpec.upto (s : _root_.Go.ChangeSpec) : _root_.Go.OpenSpec := { _root_.Go.OpenSpec.ofChange s with cond := some uptoSmall }

/-- 'lapidarylaw04.RingSectors', WHERE WHAT IT READS IS OF BULK AT MOST 1048576: true; the input reads as it did. -/
def ringSectorsUptoRow : OpenClaim := { program := "ytannkgglgmbkdaadoor", sum := "9a0f69b134ba67a358d59176cc74ca14b345bea0d2b50aaf2ea48e0bb2b19a4a", func := "lapidary/lapidarylaw04.RingSectors", spec := "ringSectors", named := ["bytes.ErrTooLarge"], apart := false, laid := [("bytes.ErrTooLarge", laid_bytes_ErrTooLarge)], narrowed := true }
def RingSectorsUptoSaid : Prop := ringSectorsUptoRow.holds Tryd.pinned (OpenSpec.upto ringSectorsSpec)

/-- 'lapidarylaw04.RingSeqs', WHERE WHAT IT READS IS OF BULK AT MOST 1048576: true; the input reads as it did. -/
def ringSeqsUptoRow : OpenClaim := { program := "ytannkgglgmbkdaadoor", sum := "9a0f69b134ba67a358d59176cc74ca14b345bea0d2b50aaf2ea48e0bb2b19a4a", func := "lapidary/lapidarylaw04.RingSeqs", spec := "ringSeqs", named := ["bytes.ErrTooLarge"], apart := false, laid := [("bytes.ErrTooLarge", laid_bytes_ErrTooLarge)], narrowed := true }
def RingSeqsUptoSaid : Prop := ringSeqsUptoRow.holds Tryd.pinned (OpenSpec.upto ringSeqsSpec)

/-- 'lapidarylaw04.RingFull', WHERE WHAT IT READS IS OF BULK AT MOST 1048576: true; the input reads as it did. -/
def ringFullUptoRow : OpenClaim := { program := "ytannkgglgmbkdaadoor", sum := "9a0f69b134ba67a358d59176cc74ca14b345bea0d2b50aaf2ea48e0bb2b19a4a", func := "lapidary/lapidarylaw04.RingFull", spec := "ringFull", named := ["bytes.ErrTooLarge"], apart := false, laid := [("bytes.ErrTooLarge", laid_bytes_ErrTooLarge)], narrowed := true }
def RingFullUptoSaid : Prop := ringFullUptoRow.holds Tryd.pinned (OpenSpec.upto ringFullSpec)

/-- 'lapidarylaw04.RingKeeps', WHERE WHAT IT READS IS OF BULK AT MOST 1048576: true; the input reads as it did. -/
def ringKeepsUptoRow : OpenClaim := { program := "ytannkgglgmbkdaadoor", sum := "9a0f69b134ba67a358d59176cc74ca14b345bea0d2b50aaf2ea48e0bb2b19a4a", func := "lapidary/lapidarylaw04.RingKeeps", spec := "ringKeeps", named := ["bytes.ErrTooLarge"], apart := false, laid := [("bytes.ErrTooLarge", laid_bytes_ErrTooLarge)], narrowed := true }
def RingKeepsUptoSaid : Prop := ringKeepsUptoRow.holds Tryd.pinned (OpenSpec.upto ringKeepsSpec)

/-- 'lapidarylaw04.RingAgain', WHERE WHAT IT READS IS OF BULK AT MOST 1048576: true; the input reads as it did. -/
def ringAgainUptoRow : OpenClaim := { program := "ytannkgglgmbkdaadoor", sum := "9a0f69b134ba67a358d59176cc74ca14b345bea0d2b50aaf2ea48e0bb2b19a4a", func := "lapidary/lapidarylaw04.RingAgain", spec := "ringAgain", named := ["bytes.ErrTooLarge"], apart := false, laid := [("bytes.ErrTooLarge", laid_bytes_ErrTooLarge)], narrowed := true }
def RingAgainUptoSaid : Prop := ringAgainUptoRow.holds Tryd.pinned (OpenSpec.upto ringAgainSpec)

/-- 'lapidarylaw04.RingNil', WHERE WHAT IT READS IS OF BULK AT MOST 1048576: true; the input reads as it did. -/
def ringNilUptoRow : OpenClaim := { program := "ytannkgglgmbkdaadoor", sum := "9a0f69b134ba67a358d59176cc74ca14b345bea0d2b50aaf2ea48e0bb2b19a4a", func := "lapidary/lapidarylaw04.RingNil", spec := "ringNil", named := ["bytes.ErrTooLarge"], apart := false, laid := [("bytes.ErrTooLarge", laid_bytes_ErrTooLarge)], narrowed := true }
def RingNilUptoSaid : Prop := ringNilUptoRow.holds Tryd.pinned (OpenSpec.upto ringNilSpec)

end Rows
end Go.Proofs.YtannkgglgmbkdaaDoor
