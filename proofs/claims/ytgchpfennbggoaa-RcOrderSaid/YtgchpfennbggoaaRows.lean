/-
  No cell of these rows narrows 'for every input' (looked for: loops, veiled, ifaces, maps, wideKeys, modest, calm, conditions, laid).
  DERIVED. THE GIVEN ROWS OF THIS SEAT. 4 by the template 'for every input the law returns true; each argument reads behind the call as it read before'; 0 by the template 'total and deterministic' (their statements: YtgchpfennbggoaaTotals.lean).
  GIVEN WITH THE SEED: the statements are not yours to turn. If you find one false, say at which input.
  Laid BY PROGRAM, IN A SANDBOX (cutbox-rows.mjs): the forced cells as the released guide's own fill.sh prints them over the translation 11499d8d15d7d8f3… (all of the seat's roots in one cut). By AI agents, Wed Nov 11 2026. No macro, syntax, notation, axiom, sorry.
-/
import Derived.Test.YtgchpfennbggoaaChecked
import GoSem.Claim
import GoSem.ClaimJoined
import GoSem.ClaimMapViews
import Derived.JoinedTies
import Derived.KernelRfl
namespace Go.Proofs.Ytgchpfennbggoaa
/- THE CELL 'sum', in the pinned program and in every row, IS THE sha256 OF THE DUMP (.gsa) THAT YtgchpfennbggoaaProg.lean LOADS. Nothing in Lean hashes anything: it is a label: what it is worth is what the hold of that sum in a sandbox is worth. -/
noncomputable def Try.pinned : Pinned := { name := "ytgchpfennbggoaa", sum := "11499d8d15d7d8f31279d71bfbcc21d02746e46e3c0bc2f93b63a0aef0fdeea5", checked := Try.checked }
namespace Rows
def none {H : Type} : Left H := { results := [], args := [] }

/-- 'lapidarylaw16.RcOrder': WHATEVER THE INPUT: true; the input reads as it did. -/
def rcOrderSpec : ChangeSpec := { name := "rcOrder", fn := fun _ => fun
  | [d1, d2, d3] => { results := [.lit (.bool true)], args := [d1, d2, d3] }
  | _ => none }
def rcOrderRow : OpenClaim := { program := "ytgchpfennbggoaa", sum := "11499d8d15d7d8f31279d71bfbcc21d02746e46e3c0bc2f93b63a0aef0fdeea5", func := "lapidary/lapidarylaw16.RcOrder", spec := "rcOrder", inPlace := ["slices.overlaps[lapidary/api.Val]"], unfollowed := true, recurses := true, apart := false }
def RcOrderSaid : Prop := rcOrderRow.holds Try.pinned (OpenSpec.ofChange rcOrderSpec)

/-- ITS FALSE NEIGHBOUR: 'it returns false'. Refute it at one input. -/
def rcOrderWrong : ChangeSpec := { name := "rcOrder", fn := fun _ => fun
  | [d1, d2, d3] => { results := [.lit (.bool false)], args := [d1, d2, d3] }
  | _ => none }
def RcOrderWrongFalsely : Prop := rcOrderRow.holds Try.pinned (OpenSpec.ofChange rcOrderWrong)

/-- 'lapidarylaw16.RcSum': WHATEVER THE INPUT: true; the input reads as it did. -/
def rcSumSpec : ChangeSpec := { name := "rcSum", fn := fun _ => fun
  | [d1, d2] => { results := [.lit (.bool true)], args := [d1, d2] }
  | _ => none }
def rcSumRow : OpenClaim := { program := "ytgchpfennbggoaa", sum := "11499d8d15d7d8f31279d71bfbcc21d02746e46e3c0bc2f93b63a0aef0fdeea5", func := "lapidary/lapidarylaw16.RcSum", spec := "rcSum", inPlace := ["slices.overlaps[lapidary/api.Val]"], unfollowed := true, recurses := true, apart := false }
def RcSumSaid : Prop := rcSumRow.holds Try.pinned (OpenSpec.ofChange rcSumSpec)

/-- ITS FALSE NEIGHBOUR: 'it returns false'. Refute it at one input. -/
def rcSumWrong : ChangeSpec := { name := "rcSum", fn := fun _ => fun
  | [d1, d2] => { results := [.lit (.bool false)], args := [d1, d2] }
  | _ => none }
def RcSumWrongFalsely : Prop := rcSumRow.holds Try.pinned (OpenSpec.ofChange rcSumWrong)

/-- 'lapidarylaw16.RcBags': WHATEVER THE INPUT: true; the input reads as it did. -/
def rcBagsSpec : ChangeSpec := { name := "rcBags", fn := fun _ => fun
  | [d1, d2, d3] => { results := [.lit (.bool true)], args := [d1, d2, d3] }
  | _ => none }
def rcBagsRow : OpenClaim := { program := "ytgchpfennbggoaa", sum := "11499d8d15d7d8f31279d71bfbcc21d02746e46e3c0bc2f93b63a0aef0fdeea5", func := "lapidary/lapidarylaw16.RcBags", spec := "rcBags", inPlace := ["slices.overlaps[lapidary/api.Val]"], unfollowed := true, recurses := true, apart := false }
def RcBagsSaid : Prop := rcBagsRow.holds Try.pinned (OpenSpec.ofChange rcBagsSpec)

/-- ITS FALSE NEIGHBOUR: 'it returns false'. Refute it at one input. -/
def rcBagsWrong : ChangeSpec := { name := "rcBags", fn := fun _ => fun
  | [d1, d2, d3] => { results := [.lit (.bool false)], args := [d1, d2, d3] }
  | _ => none }
def RcBagsWrongFalsely : Prop := rcBagsRow.holds Try.pinned (OpenSpec.ofChange rcBagsWrong)

/-- 'lapidarylaw16.RcAll': WHATEVER THE INPUT: true; the input reads as it did. -/
def rcAllSpec : ChangeSpec := { name := "rcAll", fn := fun _ => fun
  | [d1, d2] => { results := [.lit (.bool true)], args := [d1, d2] }
  | _ => none }
def rcAllRow : OpenClaim := { program := "ytgchpfennbggoaa", sum := "11499d8d15d7d8f31279d71bfbcc21d02746e46e3c0bc2f93b63a0aef0fdeea5", func := "lapidary/lapidarylaw16.RcAll", spec := "rcAll", inPlace := ["slices.overlaps[lapidary/api.Val]"], unfollowed := true, recurses := true, apart := false }
def RcAllSaid : Prop := rcAllRow.holds Try.pinned (OpenSpec.ofChange rcAllSpec)

/-- ITS FALSE NEIGHBOUR: 'it returns false'. Refute it at one input. -/
def rcAllWrong : ChangeSpec := { name := "rcAll", fn := fun _ => fun
  | [d1, d2] => { results := [.lit (.bool false)], args := [d1, d2] }
  | _ => none }
def RcAllWrongFalsely : Prop := rcAllRow.holds Try.pinned (OpenSpec.ofChange rcAllWrong)

/- THE SECOND FORM. 'bulk': how many values and letters a reading holds, each counted each time it is reached (what is shared counts as often as it is met; a slice's spare places count too). A statement '..UptoSaid' is the law's where the arguments, and the package variables that the reading takes, are together of bulk at most 1048576: NARROWER than '..Said'. Prove '..Said' where nothing that the law and all that it calls make is longer than what came in: it says more and counts as full. Else prove '..UptoSaid'. A law counts once. -/
mutual
def uptoBulk {H : Type} : DataW H → Nat
  | .lit (.string bytes) => bytes.length + 1
  | .lit _ => 1
  | .nil => 1
  | .ptr d => uptoBulk d + 1
  | .slice elems spare => uptoBulkAll elems + uptoBulkAll spare + 1
  | .agg parts => uptoBulkAll parts + 1
  | .iface _ d => uptoBulk d + 1
  | .map entries => uptoBulkEntries entries + 1
  | .held _ => 1
def uptoBulkAll {H : Type} : List (DataW H) → Nat
  | [] => 0
  | d :: r => uptoBulk d + uptoBulkAll r
def uptoBulkEntries {H : Type} : List (Lit × DataW H) → Nat
  | [] => 0
  | x :: r => uptoBulkEntry x + uptoBulkEntries r
def uptoBulkEntry {H : Type} : Lit × DataW H → Nat
  | (.string bytes, d) => bytes.length + uptoBulk d + 1
  | (_, d) => uptoBulk d + 1
 end
def uptoSmall : (H : Type) → List (DataW H) → Bool := fun _ ds => decide (uptoBulkAll ds ≤ 1048576)
def OpenSpec.upto (s : _root_.Go.ChangeSpec) : _root_.Go.OpenSpec := { _root_.Go.OpenSpec.ofChange s with cond := some uptoSmall }

/-- 'lapidarylaw16.RcOrder', WHERE WHAT IT READS IS OF BULK AT MOST 1048576: true; the input reads as it did. -/
def rcOrderUptoRow : OpenClaim := { program := "ytgchpfennbggoaa", sum := "11499d8d15d7d8f31279d71bfbcc21d02746e46e3c0bc2f93b63a0aef0fdeea5", func := "lapidary/lapidarylaw16.RcOrder", spec := "rcOrder", inPlace := ["slices.overlaps[lapidary/api.Val]"], unfollowed := true, recurses := true, apart := false, narrowed := true }
def RcOrderUptoSaid : Prop := rcOrderUptoRow.holds Try.pinned (OpenSpec.upto rcOrderSpec)

/-- 'lapidarylaw16.RcSum', WHERE WHAT IT READS IS OF BULK AT MOST 1048576: true; the input reads as it did. -/
def rcSumUptoRow : OpenClaim := { program := "ytgchpfennbggoaa", sum := "11499d8d15d7d8f31279d71bfbcc21d02746e46e3c0bc2f93b63a0aef0fdeea5", func := "lapidary/lapidarylaw16.RcSum", spec := "rcSum", inPlace := ["slices.overlaps[lapidary/api.Val]"], unfollowed := true, recurses := true, apart := false, narrowed := true }
def RcSumUptoSaid : Prop := rcSumUptoRow.holds Try.pinned (OpenSpec.upto rcSumSpec)

/-- 'lapidarylaw16.RcBags', WHERE WHAT IT READS IS OF BULK AT MOST 1048576: true; the input reads as it did. -/
def rcBagsUptoRow : OpenClaim := { program := "ytgchpfennbggoaa", sum := "11499d8d15d7d8f31279d71bfbcc21d02746e46e3c0bc2f93b63a0aef0fdeea5", func := "lapidary/lapidarylaw16.RcBags", spec := "rcBags", inPlace := ["slices.overlaps[lapidary/api.Val]"], unfollowed := true, recurses := true, apart := false, narrowed := true }
def RcBagsUptoSaid : Prop := rcBagsUptoRow.holds Try.pinned (OpenSpec.upto rcBagsSpec)

/-- 'lapidarylaw16.RcAll', WHERE WHAT IT READS IS OF BULK AT MOST 1048576: true; the input reads as it did. -/
def rcAllUptoRow : OpenClaim := { program := "ytgchpfennbggoaa", sum := "11499d8d15d7d8f31279d71bfbcc21d02746e46e3c0bc2f93b63a0aef0fdeea5", func := "lapidary/lapidarylaw16.RcAll", spec := "rcAll", inPlace := ["slices.overlaps[lapidary/api.Val]"], unfollowed := true, recurses := true, apart := false, narrowed := true }
def RcAllUptoSaid : Prop := rcAllUptoRow.holds Try.pinned (OpenSpec.upto rcAllSpec)

end Rows
end Go.Proofs.Ytgchpfennbggoaa
