/- counter: an object of one number. No condition. -/
import Derived.Test.YtgchpfennbggoaaRcReplay
namespace Go.Proofs.Ytgchpfennbggoaa
set_option linter.unusedVariables false
set_option linter.unusedSimpArgs false
open Go.RowKit

set_option maxHeartbeats 1000000 in
theorem counter_calls (n : Int) (w : World) :
    Calls Try.prog 12 #[.int .i64 n] w fun e w' => ∃ cs, e = .returned (.agg cs.toArray) ∧ ObjC w' (fun b => w.heap.size ≤ b) cs ⟨13, [⟨3, n⟩], []⟩ ∧ Fr No w w' := by
  go_enter Try.func12, Try.ntmps12
  have hb0 : Blk (w.alloc (.cells #[.int .i64 0, .slice none 0 0, .slice none 0 0] 25)) w.heap.size 25 #[.int .i64 0, .slice none 0 0, .slice none 0 0] := Blk.new w _ _
  have hf0 : Fr No w (w.alloc (.cells #[.int .i64 0, .slice none 0 0, .slice none 0 0] 25)) := (Fr.refl No w).alloc _
  go_wp2_with fail
  have hf1 : Fr No w ((w.alloc (.cells #[.int .i64 13, .slice (some ⟨w.heap.size + 1, 0, none⟩) 1 1, .slice none 0 0] 25)).alloc (.cells #[.int .i64 3, .int .i64 n] 30)) := ((Fr.refl No w).alloc _).alloc _
  have hb1 : Blk ((w.alloc (.cells #[.int .i64 13, .slice (some ⟨w.heap.size + 1, 0, none⟩) 1 1, .slice none 0 0] 25)).alloc (.cells #[.int .i64 3, .int .i64 n] 30)) w.heap.size 25 #[.int .i64 13, .slice (some ⟨w.heap.size + 1, 0, none⟩) 1 1, .slice none 0 0] := (Blk.new w _ _).alloc _
  have hb2 : Blk ((w.alloc (.cells #[.int .i64 13, .slice (some ⟨w.heap.size + 1, 0, none⟩) 1 1, .slice none 0 0] 25)).alloc (.cells #[.int .i64 3, .int .i64 n] 30)) (w.heap.size + 1) 30 #[.int .i64 3, .int .i64 n] := Blk.newAt (by simp)
  refine bodyPost_ret (results_blk ag_obj rfl _ _ _ _ _ rfl hb1 rfl) rfl ?_
  refine ⟨_, rfl, ⟨some ⟨w.heap.size + 1, 0, none⟩, 1, none, 0, rfl, ⟨rfl, by simp, fun _ => ⟨_, rfl, by simp, hb2.all⟩⟩, ⟨rfl, by simp, fun h => (Nat.not_lt_zero _ h).elim⟩⟩, hf1⟩
end Go.Proofs.Ytgchpfennbggoaa
