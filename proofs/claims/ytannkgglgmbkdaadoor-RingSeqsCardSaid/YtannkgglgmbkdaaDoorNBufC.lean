/- bytes.Buffer's Write and Bytes at this seat. No condition but size. -/
import Derived.Test.YtannkgglgmbkdaaDoorNBuf
import Derived.Test.YtannkgglgmbkdaaDoorNHeadOf
namespace Go.Proofs.YtannkgglgmbkdaaDoor
set_option linter.unusedVariables false
set_option linter.unusedSimpArgs false
open Go.RowKit

theorem bufwrite_calls (B b : Nat) (bs cs : List Value) (a : Addr) (n c : Nat) (w : World) (h : Lib.IsBuffer 104 5 B b bs w) (hBw : B ≤ w.heap.size) (h1 : ∀ v ∈ bs, v.oneCell' = true)
    (hn : cs.length = n) (haB : a.block < B) (hsrc : ∀ j v, cs[j]? = some v → w.cell? (a.add j) = some v) (h1c : ∀ v ∈ cs, v.oneCell' = true) (hlim : bs.length + n ≤ 140737488355328) :
    Calls Tryd.prog 49 #[.pointer (some ⟨b, 0, none⟩), .slice (some a) n c] w fun e w' => e = .returned (.tuple #[.int .i64 n, .nilIface]) ∧ Lib.IsBuffer 104 5 B b (bs ++ cs) w' ∧ Below B w w' :=
  Any.Buffer_Write layBufWrite B b bs cs a n c w h hBw h1 hn haB hsrc h1c hlim
theorem bufbytes_calls (B b : Nat) (bs : List Value) (w : World) (h : Lib.IsBuffer 104 5 B b bs w) :
    Calls Tryd.prog 50 #[.pointer (some ⟨b, 0, none⟩)] w fun e w' => ∃ v, e = .returned v ∧ w'.ownsRow B 5 1 v bs.length bs ∧ ∃ n, w' = w.drewN n :=
  Any.Buffer_Bytes layBufBytes B b bs w h
end Go.Proofs.YtannkgglgmbkdaaDoor
