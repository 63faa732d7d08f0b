/- disk.New, Fail, Pending, Size. No condition but size. -/
import Derived.Test.YtannkgglgmbkdaaDoorDFull
namespace Go.Proofs.YtannkgglgmbkdaaDoor
set_option linter.unusedVariables false
set_option linter.unusedSimpArgs false
open Go.RowKit

def zeros (n : Nat) : List Sec := List.replicate n zsec
def zeroM (n : Nat) : DiskM := ⟨zeros n, zeros n, [], false, 0⟩
theorem zeros_len (n : Nat) : Len128 (zeros n) := fun s hs => by obtain rfl := List.eq_of_mem_replicate hs; exact zsec_len
theorem secs_zeros (n : Nat) : secs (zeros n) = U8 (List.replicate (n * 128) 0) := by
  rw [secs_flat, zeros, zsec, List.flatten_replicate_replicate]
theorem SecAt.zeros {w : World} {g n : Nat} (h : Blk w g 88 (madeCells (U8 zsec).toArray (n * 128))) (hn : n ≤ 4096) : SecAt w g n (zeros n) := by
  rw [made_sec] at h
  refine ⟨zeros_len n, by simp [Proofs.YtannkgglgmbkdaaDoor.zeros], Nat.le_trans hn (by decide), _, h, by simp [U8_length], fun j u hu => ?_⟩
  rw [secs_zeros] at hu
  simpa using hu
theorem DiskP.start {w : World} {X : Nat → Prop} {H gs gn n : Nat} (hb : Blk w H 87 #[.slice (some ⟨gs, 0, none⟩) n n, .slice (some ⟨gn, 0, none⟩) n n, .slice none 0 0, .bool false, .int .i64 0]) (hs : SecAt w gs n (zeros n)) (hn : SecAt w gn n (zeros n))
    (hne : gs ≠ gn ∧ gs ≠ H ∧ gn ≠ H) (hX : X H ∧ X gs ∧ X gn) (h4 : n ≤ 4096) : DiskP w X H gs n gn n none 0 (zeroM n) := by
  have hl : (zeros n).length = n := by simp [zeros]
  refine ⟨?_, hs, hn, World.ownsRow_nil _ _ _ _, hne, fun b hb => by simp [Value.ownBlock] at hb, hX, rfl, by show (zeros n).length ≤ 4096; omega, fun p hp => by cases hp⟩
  show Blk w H _ #[.slice _ (zeros n).length n, .slice _ (zeros n).length n, _, _, _]
  rw [hl]; exact hb

set_option maxHeartbeats 2000000 in
set_option maxRecDepth 100000 in
theorem new_calls (n : Nat) (h1 : 1 ≤ n) (h2 : n ≤ 4096) (w : World) :
    Calls Tryd.prog 26 #[.int .i64 (n : Int)] w fun e w' => ∃ H, w.heap.size ≤ H ∧ e = .returned (.tuple #[.pointer (some ⟨H, 0, none⟩), .int .i64 0]) ∧ DiskAt w' (fun b => w.heap.size ≤ b) H (zeroM n) ∧ Fr No w w' := by
  have e1 : decide ((n : Int) < 1) = false := by simp; omega
  have e2 : decide ((4096 : Int) < n) = false := by simp; omega
  have e3 : 0 < n := h1
  have e4 : ¬ (4096 < n) := by omega
  go_enter Tryd.func26, Tryd.ntmps26
  go_wp2_with fail
  refine T_begin No [0, 2, 1, 3, 4, 5, 6, 7] [1, 3, 5, 1001] (by kernel_rfl) (by kernel_rfl) ?_
  simp only [pickOps, List.filterMap_cons, List.filterMap_nil, List.getElem?_cons_zero, List.getElem?_cons_succ, Act.put]
  repeat (first | (refine T_skip (by rfl) (by rfl) (fun _ _ _ h => h) ?_; try simp only [Act.put, List.setIfInBounds_toArray, List.set_cons_zero, List.set_cons_succ]) | (refine T_pass (by rfl) (by rfl) ?_; try simp only [Act.put, List.setIfInBounds_toArray, List.set_cons_zero, List.set_cons_succ]) | (refine T_load (by assumption) (by rfl) (by rfl) (fun _ _ _ _ h => h) rfl rfl (by assumption) (by first | exact (fun hn => hn) | assumption) ?_; try simp only [Act.put, List.setIfInBounds_toArray, List.set_cons_zero, List.set_cons_succ]) | (refine T_nil (by rfl) (by rfl) (fun _ _ _ _ h => h) rfl rfl ?_; try simp only [Act.put, List.setIfInBounds_toArray, List.set_cons_zero, List.set_cons_succ]) | (refine T_quietN (by rfl) (by rfl) (by rfl) (by rfl) (fun _ _ _ _ h => h) (fun K hK => ?_); go_big_quiet_op; refine hK _ ?_; clear hK K) | (refine T_two (by rfl) (by rfl) (by rfl) (by rfl) (fun _ _ _ _ h => h) (fun K hK => ?_); go_big_quiet_op; refine ⟨_, fun _ _ => rfl, ?_⟩; refine hK _ ?_; clear hK K; try simp only [Act.put, List.setIfInBounds_toArray, List.set_cons_zero, List.set_cons_succ]) | fail)
  refine T_fork (ord2 := [0, 2, 3, 1, 4, 5, 6, 7]) (calls2 := [1, 3, 5, 1003]) (i := 1) (j := 3) (by kernel_rfl) rfl rfl rfl (by kernel_rfl) rfl rfl rfl (by rfl) (by rfl) (fun K hK => ?_) (fun K hK => ?_)
  · refine wp_make so_sec (n := n) (c := n) (Nat.le_refl _) (by omega) rfl rfl rfl ?_
    (refine hK.out _ _ (((Fr.refl _ _).alloc _)) ?_; clear hK K; try simp only [Act.put, List.setIfInBounds_toArray, List.set_cons_zero, List.set_cons_succ])
    refine T_call (by rfl) (by rfl) (fun K hK => ?_)
    refine wp_make so_sec (n := n) (c := n) (Nat.le_refl _) (by omega) rfl rfl rfl ?_
    (refine hK.out _ _ (((Fr.refl _ _).alloc _)) ?_; clear hK K; try simp only [Act.put, List.setIfInBounds_toArray, List.set_cons_zero, List.set_cons_succ])
    repeat (first | (refine T_skip (by rfl) (by rfl) (fun _ _ _ h => h) ?_; try simp only [Act.put, List.setIfInBounds_toArray, List.set_cons_zero, List.set_cons_succ]) | (refine T_pass (by rfl) (by rfl) ?_; try simp only [Act.put, List.setIfInBounds_toArray, List.set_cons_zero, List.set_cons_succ]) | (refine T_load (by assumption) (by rfl) (by rfl) (fun _ _ _ _ h => h) rfl rfl (by assumption) (by first | exact (fun hn => hn) | assumption) ?_; try simp only [Act.put, List.setIfInBounds_toArray, List.set_cons_zero, List.set_cons_succ]) | (refine T_nil (by rfl) (by rfl) (fun _ _ _ _ h => h) rfl rfl ?_; try simp only [Act.put, List.setIfInBounds_toArray, List.set_cons_zero, List.set_cons_succ]) | (refine T_quietN (by rfl) (by rfl) (by rfl) (by rfl) (fun _ _ _ _ h => h) (fun K hK => ?_); go_big_quiet_op; refine hK _ ?_; clear hK K) | (refine T_two (by rfl) (by rfl) (by rfl) (by rfl) (fun _ _ _ _ h => h) (fun K hK => ?_); go_big_quiet_op; refine ⟨_, fun _ _ => rfl, ?_⟩; refine hK _ ?_; clear hK K; try simp only [Act.put, List.setIfInBounds_toArray, List.set_cons_zero, List.set_cons_succ]) | fail)
    (refine T_call (by rfl) (by rfl) (fun K hK => ?_); go_wp2_with fail)
    (refine hK.out _ _ (((Fr.refl _ _).alloc _)) ?_; clear hK K; try simp only [Act.put, List.setIfInBounds_toArray, List.set_cons_zero, List.set_cons_succ])
    repeat (first | (refine T_skip (by rfl) (by rfl) (fun _ _ _ h => h) ?_; try simp only [Act.put, List.setIfInBounds_toArray, List.set_cons_zero, List.set_cons_succ]) | (refine T_pass (by rfl) (by rfl) ?_; try simp only [Act.put, List.setIfInBounds_toArray, List.set_cons_zero, List.set_cons_succ]) | (refine T_load (by assumption) (by rfl) (by rfl) (fun _ _ _ _ h => h) rfl rfl (by assumption) (by first | exact (fun hn => hn) | assumption) ?_; try simp only [Act.put, List.setIfInBounds_toArray, List.set_cons_zero, List.set_cons_succ]) | (refine T_nil (by rfl) (by rfl) (fun _ _ _ _ h => h) rfl rfl ?_; try simp only [Act.put, List.setIfInBounds_toArray, List.set_cons_zero, List.set_cons_succ]) | (refine T_quietN (by rfl) (by rfl) (by rfl) (by rfl) (fun _ _ _ _ h => h) (fun K hK => ?_); go_big_quiet_op; refine hK _ ?_; clear hK K) | (refine T_two (by rfl) (by rfl) (by rfl) (by rfl) (fun _ _ _ _ h => h) (fun K hK => ?_); go_big_quiet_op; refine ⟨_, fun _ _ => rfl, ?_⟩; refine hK _ ?_; clear hK K; try simp only [Act.put, List.setIfInBounds_toArray, List.set_cons_zero, List.set_cons_succ]) | fail)
    refine T_done ?_
    go_wp2
    go_ret2
    have hB1 := Blk.new w 88 (madeCells (U8 zsec).toArray (n * 128))
    have hB2 : Blk ((w.alloc (.cells (madeCells (U8 zsec).toArray (n * 128)) 88)).alloc (.cells (madeCells (U8 zsec).toArray (n * 128)) 88)) (w.heap.size + 1) 88 (madeCells (U8 zsec).toArray (n * 128)) := Blk.newAt (by simp)
    refine ⟨w.heap.size + 1 + 1, by omega, by simp, ⟨w.heap.size, n, (w.heap.size + 1), n, none, 0, ?_⟩, ((((Fr.refl No w).alloc _).alloc _).alloc _).drew⟩
    exact DiskP.start (Blk.drew (Blk.newAt (by simp))) (SecAt.zeros (Blk.drew <| (hB1.alloc _).alloc _) h2) (SecAt.zeros (Blk.drew <| hB2.alloc _) h2) (by omega) ⟨by omega, by omega, by omega⟩ h2
  · refine wp_make so_sec (n := n) (c := n) (Nat.le_refl _) (by omega) rfl rfl rfl ?_
    (refine hK.out _ _ (((Fr.refl _ _).alloc _)) ?_; clear hK K; try simp only [Act.put, List.setIfInBounds_toArray, List.set_cons_zero, List.set_cons_succ])
    refine T_call (by rfl) (by rfl) (fun K hK => ?_)
    refine wp_make so_sec (n := n) (c := n) (Nat.le_refl _) (by omega) rfl rfl rfl ?_
    (refine hK.out _ _ (((Fr.refl _ _).alloc _)) ?_; clear hK K; try simp only [Act.put, List.setIfInBounds_toArray, List.set_cons_zero, List.set_cons_succ])
    repeat (first | (refine T_skip (by rfl) (by rfl) (fun _ _ _ h => h) ?_; try simp only [Act.put, List.setIfInBounds_toArray, List.set_cons_zero, List.set_cons_succ]) | (refine T_pass (by rfl) (by rfl) ?_; try simp only [Act.put, List.setIfInBounds_toArray, List.set_cons_zero, List.set_cons_succ]) | (refine T_load (by assumption) (by rfl) (by rfl) (fun _ _ _ _ h => h) rfl rfl (by assumption) (by first | exact (fun hn => hn) | assumption) ?_; try simp only [Act.put, List.setIfInBounds_toArray, List.set_cons_zero, List.set_cons_succ]) | (refine T_nil (by rfl) (by rfl) (fun _ _ _ _ h => h) rfl rfl ?_; try simp only [Act.put, List.setIfInBounds_toArray, List.set_cons_zero, List.set_cons_succ]) | (refine T_quietN (by rfl) (by rfl) (by rfl) (by rfl) (fun _ _ _ _ h => h) (fun K hK => ?_); go_big_quiet_op; refine hK _ ?_; clear hK K) | (refine T_two (by rfl) (by rfl) (by rfl) (by rfl) (fun _ _ _ _ h => h) (fun K hK => ?_); go_big_quiet_op; refine ⟨_, fun _ _ => rfl, ?_⟩; refine hK _ ?_; clear hK K; try simp only [Act.put, List.setIfInBounds_toArray, List.set_cons_zero, List.set_cons_succ]) | fail)
    (refine T_call (by rfl) (by rfl) (fun K hK => ?_); go_wp2_with fail)
    (refine hK.out _ _ (((Fr.refl _ _).alloc _)) ?_; clear hK K; try simp only [Act.put, List.setIfInBounds_toArray, List.set_cons_zero, List.set_cons_succ])
    repeat (first | (refine T_skip (by rfl) (by rfl) (fun _ _ _ h => h) ?_; try simp only [Act.put, List.setIfInBounds_toArray, List.set_cons_zero, List.set_cons_succ]) | (refine T_pass (by rfl) (by rfl) ?_; try simp only [Act.put, List.setIfInBounds_toArray, List.set_cons_zero, List.set_cons_succ]) | (refine T_load (by assumption) (by rfl) (by rfl) (fun _ _ _ _ h => h) rfl rfl (by assumption) (by first | exact (fun hn => hn) | assumption) ?_; try simp only [Act.put, List.setIfInBounds_toArray, List.set_cons_zero, List.set_cons_succ]) | (refine T_nil (by rfl) (by rfl) (fun _ _ _ _ h => h) rfl rfl ?_; try simp only [Act.put, List.setIfInBounds_toArray, List.set_cons_zero, List.set_cons_succ]) | (refine T_quietN (by rfl) (by rfl) (by rfl) (by rfl) (fun _ _ _ _ h => h) (fun K hK => ?_); go_big_quiet_op; refine hK _ ?_; clear hK K) | (refine T_two (by rfl) (by rfl) (by rfl) (by rfl) (fun _ _ _ _ h => h) (fun K hK => ?_); go_big_quiet_op; refine ⟨_, fun _ _ => rfl, ?_⟩; refine hK _ ?_; clear hK K; try simp only [Act.put, List.setIfInBounds_toArray, List.set_cons_zero, List.set_cons_succ]) | fail)
    refine T_done ?_
    go_wp2
    go_ret2
    have hB1 := Blk.new w 88 (madeCells (U8 zsec).toArray (n * 128))
    have hB2 : Blk ((w.alloc (.cells (madeCells (U8 zsec).toArray (n * 128)) 88)).alloc (.cells (madeCells (U8 zsec).toArray (n * 128)) 88)) (w.heap.size + 1) 88 (madeCells (U8 zsec).toArray (n * 128)) := Blk.newAt (by simp)
    refine ⟨w.heap.size + 1 + 1, by omega, by simp, ⟨(w.heap.size + 1), n, w.heap.size, n, none, 0, ?_⟩, ((((Fr.refl No w).alloc _).alloc _).alloc _).drew⟩
    exact DiskP.start (Blk.drew (Blk.newAt (by simp))) (SecAt.zeros (Blk.drew <| hB2.alloc _) h2) (SecAt.zeros (Blk.drew <| (hB1.alloc _).alloc _) h2) (by omega) ⟨by omega, by omega, by omega⟩ h2
end Go.Proofs.YtannkgglgmbkdaaDoor
