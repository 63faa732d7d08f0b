/- Values and objects as plain data. No condition. -/
import Derived.Test.YtifcnjebepipnaaLap
namespace Go.Proofs.Ytifcnjebepipnaa
set_option linter.unusedVariables false
set_option linter.unusedSimpArgs false
open Go.RowKit

/-- A value. -/
structure VL where
  k : Int
  n : Int
deriving DecidableEq
structure ObjM where
  cls : Int
  slots : List VL
  bytes : List UInt8
deriving DecidableEq
def oopB (n : Int) : Bool := decide (1 ≤ n) && decide (n ≤ 4096)
def rightV (v : VL) : Bool :=
  if v.k = 0 ∨ v.k = 1 ∨ v.k = 2 then v.n == 0
  else if v.k = 3 then decide (-1152921504606846976 ≤ v.n) && decide (v.n < 1152921504606846976)
  else if v.k = 4 then oopB v.n else false
def rightO (o : ObjM) : Bool := oopB o.cls && decide (o.slots.length ≤ 256) && decide (o.bytes.length ≤ 1024) && o.slots.all rightV
end Go.Proofs.Ytifcnjebepipnaa
