/- The reference's Same at objects alike. No condition but size. -/
import Derived.Test.YtgchpfennbggoaaOCopy
namespace Go.Proofs.Ytgchpfennbggoaa
set_option linter.unusedVariables false
set_option linter.unusedSimpArgs false
open Go.RowKit

set_option maxHeartbeats 2000000 in
set_option maxRecDepth 100000 in
theorem same_calls (S T : Nat → Prop) (cs cs2 : List Value) (o : ObjM) (w : World) (h : ObjC w S cs o) (h2 : ObjC w T cs2 o) :
    Calls Try.prog 11 #[.agg cs.toArray, .agg cs2.toArray] w fun e w' => e = .returned (.bool true) ∧ Fr No w w' := by
  obtain ⟨A, c, D, d, rfl, hs, hb⟩ := h
  obtain ⟨A2, c2, D2, d2, rfl, hs2, hb2⟩ := h2
  have g2 := plain_lval
  have hle1 := hs.le
  have hle2 := RdB.le hb
  go_enter Try.func11, Try.ntmps11
  have hf1 : Fr No w ((w.alloc (.cells #[.int .i64 o.cls, .slice A o.slots.length c, .slice D o.bytes.length d] 25)).alloc (.cells #[.int .i64 o.cls, .slice A2 o.slots.length c2, .slice D2 o.bytes.length d2] 25)) := ((Fr.refl No w).alloc _).alloc _
  have hbx : Blk ((w.alloc (.cells #[.int .i64 o.cls, .slice A o.slots.length c, .slice D o.bytes.length d] 25)).alloc (.cells #[.int .i64 o.cls, .slice A2 o.slots.length c2, .slice D2 o.bytes.length d2] 25)) w.heap.size 25 #[.int .i64 o.cls, .slice A o.slots.length c, .slice D o.bytes.length d] := (Blk.new w _ _).alloc _
  have hby : Blk ((w.alloc (.cells #[.int .i64 o.cls, .slice A o.slots.length c, .slice D o.bytes.length d] 25)).alloc (.cells #[.int .i64 o.cls, .slice A2 o.slots.length c2, .slice D2 o.bytes.length d2] 25)) (w.heap.size + 1) 25 #[.int .i64 o.cls, .slice A2 o.slots.length c2, .slice D2 o.bytes.length d2] := Blk.newAt (by simp)
  go_wp2_with (first
    | (refine wpList_str Try.underlying23 Try.underlying5 Try.underlying9 rfl (.tmp 22) rfl rfl rfl (Rd.fr0 hb hf1) ?_)
    | (refine wpList_str Try.underlying23 Try.underlying5 Try.underlying9 rfl (.tmp 25) rfl rfl rfl (Rd.fr0 hb2 hf1) ?_)
    | fail)
  generalize hw1 : ((w.alloc (.cells #[.int .i64 o.cls, .slice A o.slots.length c, .slice D o.bytes.length d] 25)).alloc (.cells #[.int .i64 o.cls, .slice A2 o.slots.length c2, .slice D2 o.bytes.length d2] 25)) = w1 at *
  clear hw1
  have hs1 := Rd.fr0 hs hf1
  have hs21 := Rd.fr0 hs2 hf1
  have hl1 := hby.lt
  go_loopw [5] (fun i wr => ∃ k : Nat, k ≤ o.slots.length ∧ i = .int .i64 (k : Int) ∧ Fr No w1 wr) (fun i _ => o.slots.length - (intOf i).toNat)
  case atStart => exact ⟨0, by omega, rfl, Fr.refl _ _⟩
  case round =>
    obtain ⟨k, hk, rfl, hf⟩ := hrel
    have q1 := (hbx.fr0 hf).cell 1
    have y1 := (hby.fr0 hf).cell 1
    simp only [List.getElem?_toArray, List.getElem?_cons_zero, List.getElem?_cons_succ] at q1 y1
    by_cases hlt : k < o.slots.length
    · have ek : decide ((k : Int) < o.slots.length) = true := by simpa using (by omega : (k : Int) < o.slots.length)
      obtain ⟨g, of, rfl, _, _, _, hv⟩ := RdV.at_ (Rd.fr0 hs1 hf) hlt
      obtain ⟨g', of', rfl, _, _, _, hv'⟩ := RdV.at_ (Rd.fr0 hs21 hf) hlt
      generalize o.slots[k] = x at *
      go_wp2_with fail
      (refine T_begin No [0, 1, 2, 3, 4, 5, 6, 7, 8, 9, 10] [] (by kernel_rfl) (by kernel_rfl) ?_; simp only [pickOps, List.filterMap_cons, List.filterMap_nil, List.getElem?_cons_zero, List.getElem?_cons_succ, Act.put])
      repeat (first | (refine T_skip (by rfl) (by rfl) (fun _ _ _ h => h) ?_; try simp only [Act.put, List.setIfInBounds_toArray, List.set_cons_zero, List.set_cons_succ]) | (refine T_pass (by rfl) (by rfl) ?_; try simp only [Act.put, List.setIfInBounds_toArray, List.set_cons_zero, List.set_cons_succ]) | (refine T_load (by assumption) (by rfl) (by rfl) (fun _ _ _ _ h => h) rfl rfl (by assumption) (by first | exact (fun hn => hn) | assumption) ?_; try simp only [Act.put, List.setIfInBounds_toArray, List.set_cons_zero, List.set_cons_succ]) | (refine T_nil (by rfl) (by rfl) (fun _ _ _ _ h => h) rfl rfl ?_; try simp only [Act.put, List.setIfInBounds_toArray, List.set_cons_zero, List.set_cons_succ]) | (refine T_quietN (by rfl) (by rfl) (by rfl) (by rfl) (fun _ _ _ _ h => h) (fun K hK => ?_); go_big_quiet_op; refine hK _ ?_; clear hK K) | (refine T_two (by rfl) (by rfl) (by rfl) (by rfl) (fun _ _ _ _ h => h) (fun K hK => ?_); go_big_quiet_op; refine ⟨_, fun _ _ => rfl, ?_⟩; refine hK _ ?_; clear hK K; try simp only [Act.put, List.setIfInBounds_toArray, List.set_cons_zero, List.set_cons_succ]) | fail)
      refine T_loadA (cs := vcells x) ag_val (by rfl) (by rfl) (fun _ _ _ _ h => h) rfl rfl rfl hv (fun hn => hn) ?_
      try simp only [Act.put, List.setIfInBounds_toArray, List.set_cons_zero, List.set_cons_succ]
      repeat (first | (refine T_skip (by rfl) (by rfl) (fun _ _ _ h => h) ?_; try simp only [Act.put, List.setIfInBounds_toArray, List.set_cons_zero, List.set_cons_succ]) | (refine T_pass (by rfl) (by rfl) ?_; try simp only [Act.put, List.setIfInBounds_toArray, List.set_cons_zero, List.set_cons_succ]) | (refine T_load (by assumption) (by rfl) (by rfl) (fun _ _ _ _ h => h) rfl rfl (by assumption) (by first | exact (fun hn => hn) | assumption) ?_; try simp only [Act.put, List.setIfInBounds_toArray, List.set_cons_zero, List.set_cons_succ]) | (refine T_nil (by rfl) (by rfl) (fun _ _ _ _ h => h) rfl rfl ?_; try simp only [Act.put, List.setIfInBounds_toArray, List.set_cons_zero, List.set_cons_succ]) | (refine T_quietN (by rfl) (by rfl) (by rfl) (by rfl) (fun _ _ _ _ h => h) (fun K hK => ?_); go_big_quiet_op; refine hK _ ?_; clear hK K) | (refine T_two (by rfl) (by rfl) (by rfl) (by rfl) (fun _ _ _ _ h => h) (fun K hK => ?_); go_big_quiet_op; refine ⟨_, fun _ _ => rfl, ?_⟩; refine hK _ ?_; clear hK K; try simp only [Act.put, List.setIfInBounds_toArray, List.set_cons_zero, List.set_cons_succ]) | fail)
      refine T_loadA (cs := vcells x) ag_val (by rfl) (by rfl) (fun _ _ _ _ h => h) rfl rfl rfl hv' (fun hn => hn) ?_
      try simp only [Act.put, List.setIfInBounds_toArray, List.set_cons_zero, List.set_cons_succ]
      unfold vcells
      repeat (first | (refine T_skip (by rfl) (by rfl) (fun _ _ _ h => h) ?_; try simp only [Act.put, List.setIfInBounds_toArray, List.set_cons_zero, List.set_cons_succ]) | (refine T_pass (by rfl) (by rfl) ?_; try simp only [Act.put, List.setIfInBounds_toArray, List.set_cons_zero, List.set_cons_succ]) | (refine T_load (by assumption) (by rfl) (by rfl) (fun _ _ _ _ h => h) rfl rfl (by assumption) (by first | exact (fun hn => hn) | assumption) ?_; try simp only [Act.put, List.setIfInBounds_toArray, List.set_cons_zero, List.set_cons_succ]) | (refine T_nil (by rfl) (by rfl) (fun _ _ _ _ h => h) rfl rfl ?_; try simp only [Act.put, List.setIfInBounds_toArray, List.set_cons_zero, List.set_cons_succ]) | (refine T_quietN (by rfl) (by rfl) (by rfl) (by rfl) (fun _ _ _ _ h => h) (fun K hK => ?_); go_big_quiet_op; refine hK _ ?_; clear hK K) | (refine T_two (by rfl) (by rfl) (by rfl) (by rfl) (fun _ _ _ _ h => h) (fun K hK => ?_); go_big_quiet_op; refine ⟨_, fun _ _ => rfl, ?_⟩; refine hK _ ?_; clear hK K; try simp only [Act.put, List.setIfInBounds_toArray, List.set_cons_zero, List.set_cons_succ]) | fail)
      refine T_done ?_
      go_wp2
      go_roundw
      case rel => exact ⟨k + 1, by omega, by go_num, hf.drew⟩
      case measure => simp [intOf]; omega
    · obtain rfl : k = o.slots.length := by omega
      have ek : decide ((o.slots.length : Int) < o.slots.length) = false := by simp
      go_wp2
      go_ret
      exact ⟨rfl, hf1.tr hf⟩
end Go.Proofs.Ytgchpfennbggoaa
