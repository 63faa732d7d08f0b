/- The law's known. No condition. -/
import Derived.Test.YthhncjeabamceaaDCopy
namespace Go.Proofs.Ythhncjeabamceaa
set_option linter.unusedVariables false
set_option linter.unusedSimpArgs false
open Go.RowKit

theorem T_eqStr {S : Nat → Prop} {ops : Array Oper} {Q : Exit → Act → World → Prop} {ms : List Nat} {ord calls : List Nat} {k : Nat} {l : List Oper} {o : Oper} {a : Act} {w : World} {s t : ByteArray} (hst : s = t) {x y : Operand} {ty : TypeId}
    (hc : calls.contains (ord.getD k 0) = false) (hw : Region.wanted o (yielded ops a.tmps) = true) (hQ : ∀ v c a w, Q (.panic c) (a.put o.dst v) w → Q (.panic c) a w)
    (ho : o.op = .binOp .eql 9 x y ty) (hx : a.eval x = .string s) (hy : a.eval y = .string t)
    (h : wpT Try.prog S ops Q ms ord calls (k + 1) l (a.put o.dst (.bool true)) w) (hxm : calls.contains (ord.getD k 0 + 1000) = false := by rfl) : wpT Try.prog S ops Q ms ord calls k (o :: l) a w := by
  subst hst
  refine T_take hc hw (hQ _) (fun w' hf => ?_) h hxm
  unfold execOp
  simp [ho, hx, hy, eqGuard, binOp, Op.stringOp]
theorem T_addStr {S : Nat → Prop} {ops : Array Oper} {Q : Exit → Act → World → Prop} {ms : List Nat} {ord calls : List Nat} {k : Nat} {l : List Oper} {o : Oper} {a : Act} {w : World} {s t : List UInt8} (hsz : s.length + t.length ≤ 9223372036854775807) {x y : Operand} {ty : TypeId}
    (hc : calls.contains (ord.getD k 0) = false) (hw : Region.wanted o (yielded ops a.tmps) = true) (hQ : ∀ v c a w, Q (.panic c) (a.put o.dst v) w → Q (.panic c) a w)
    (ho : o.op = .binOp .add 9 x y ty) (hx : a.eval x = .string ⟨s.toArray⟩) (hy : a.eval y = .string ⟨t.toArray⟩)
    (h : wpT Try.prog S ops Q ms ord calls (k + 1) l (a.put o.dst (.string ⟨(s ++ t).toArray⟩)) w) (hxm : calls.contains (ord.getD k 0 + 1000) = false := by rfl) : wpT Try.prog S ops Q ms ord calls k (o :: l) a w := by
  refine T_take hc hw (hQ _) (fun w' hf => ?_) h hxm
  have e : (ByteArray.mk s.toArray ++ ByteArray.mk t.toArray) = ByteArray.mk (s ++ t).toArray := by apply ByteArray.ext; simp
  unfold execOp
  have hz : ((ByteArray.mk s.toArray).size : Int) + ((ByteArray.mk t.toArray).size : Int) ≤ 9223372036854775807 := by
    have e1 : (ByteArray.mk s.toArray).size = s.length := by simp [ByteArray.size]
    have e2 : (ByteArray.mk t.toArray).size = t.length := by simp [ByteArray.size]
    rw [e1, e2]; omega
  simp [ho, hx, hy, eqGuard, binOp, Op.stringOp, e, hz]
/-- A sector of one byte. -/
def fsec (b : UInt8) : Sec := List.replicate 128 b
theorem fsec_len (b : UInt8) : (fsec b).length = 128 := by simp [fsec]
theorem fsecs_len (n : Nat) (b : UInt8) : Len128 (List.replicate n (fsec b)) := fun s hs => by obtain rfl := List.eq_of_mem_replicate hs; exact fsec_len b
theorem fsecs_flat (n : Nat) (b : UInt8) : (List.replicate n (fsec b)).flatten = List.replicate (n * 128) b := by rw [fsec, List.flatten_replicate_replicate]
theorem known_puts : putsM (zeroM 4) 1 (List.replicate 2 (fsec 7)) = (⟨zeros 4, [zsec, fsec 7, fsec 7, zsec], [(1, fsec 7), (2, fsec 7)], false, 0⟩, true) := rfl
theorem known_crash : crashM ⟨zeros 4, [zsec, fsec 7, fsec 7, zsec], [(1, fsec 7), (2, fsec 7)], false, 0⟩ [true] = ⟨[zsec, fsec 7, zsec, zsec], [zsec, fsec 7, zsec, zsec], [], false, 0⟩ := rfl

set_option maxHeartbeats 4000000 in
set_option maxRecDepth 100000 in
theorem known_calls (w : World) : Calls Try.prog 16 #[] w fun e w' => e = .returned (.bool true) ∧ Fr No w w' := by
  go_enter Try.func16, Try.ntmps16
  go_wp2_with fail
  refine (new_calls 4 (by decide) (by decide) _).mono ?_
  rintro e w1 ⟨H, hH, rfl, hd1, hf1⟩
  have hd1 : DiskAt w1 (fun b => w.heap.size ≤ b ∧ b < w1.heap.size) H (zeroM 4) := hd1.mono (fun b hlt hb => ⟨hb, hlt⟩)
  go_wp2_with fail
  refine (full_calls 2 7 _ (by decide)).mono ?_
  rintro e w2 ⟨rfl, hb2, hf2⟩
  have hs1 := hf1.size
  have hs2 := hf2.size
  have hrd2 : Rd w2 (fun b => ¬ (w.heap.size ≤ b ∧ b < w1.heap.size)) 1 (some ⟨w1.heap.size, 0, none⟩) (2 * 128) (U8 (List.replicate 2 (fsec 7)).flatten) := by
    rw [fsecs_flat]
    exact (full_rd hb2 (by decide)).mono (fun b _ hb => by subst hb; omega) (by decide)
  go_wp2_with fail
  refine (write_calls w2 (fun b => w.heap.size ≤ b ∧ b < w1.heap.size) (fun b => w.heap.size ≤ b) H (zeroM 4) 1 (List.replicate 2 (fsec 7)) (some ⟨w1.heap.size, 0, none⟩) (2 * 128) (hd1.fr0 hf2) hrd2 (fsecs_len 2 7) (Nat.le_refl _) (by decide) (by decide) (by decide) (by decide) (by decide) (fun b hb => hb.1) (fun b hb => by omega)).mono ?_
  intro e w3 hret
  rw [known_puts] at hret
  obtain ⟨rfl, hd3, hf3⟩ := hret
  have hF3 : Fr No w w3 := (hf1.tr hf2).trans hf3 (fun b hb hT => by omega)
  have hs3 := hf3.size
  simp only [if_true]
  go_wp2_with fail
  refine (pending_calls w3 _ H _ hd3).mono ?_
  rintro e _ ⟨rfl, rfl⟩
  go_wp2_with fail
  have hd4 : DiskAt (w3.alloc (.cells #[.bool true] 4)) (fun b => w.heap.size ≤ b ∧ b < w3.heap.size) H _ := (hd3.mono (fun b hlt hb => ⟨hb, hlt⟩)).fr0 ((Fr.refl No w3).alloc _)
  have hF4 : Fr No w (w3.alloc (.cells #[.bool true] 4)) := hF3.alloc _
  refine (crash_calls _ (fun b => w.heap.size ≤ b ∧ b < w3.heap.size) (fun b => b = w3.heap.size) H _ [true] (some ⟨w3.heap.size, 0, none⟩) 1 hd4 ((Blk.new w3 4 #[.bool true]).rd (size := 1) (n := 1) (by rfl) (by decide)) (fun b hb => by omega) (by decide)).mono ?_
  rintro e w5 ⟨rfl, hd5, hf5⟩
  rw [known_crash] at hd5
  have hF5 : Fr No w w5 := hF4.trans hf5 (fun b hb hT => by omega)
  go_wp2_with fail
  refine (read_calls w5 _ H _ 1 2 hd5 (by decide) rfl).mono ?_
  rintro e w6 ⟨rfl, hb6, hf6⟩
  have hF6 := hF5.tr hf6
  have hd6 := hd5.fr0 hf6
  have hbytes : (([zsec, fsec 7, zsec, zsec].drop 1).take 2).flatten = List.replicate (1 * 128) 7 ++ List.replicate (1 * 128) 0 := by rfl
  rw [hbytes] at hb6
  have hrd6 : RdB w6 (fun b => b = w5.heap.size) (some ⟨w5.heap.size, 0, none⟩) (List.replicate (1 * 128) 7 ++ List.replicate (1 * 128) 0) := by
    have := hb6.rd (size := 1) (n := 256) (by rw [List.size_toArray, U8_length]; rfl) (by decide)
    exact this
  go_wp2_with fail
  (refine T_begin No [0, 1, 2, 3, 4, 5, 6, 7, 8, 9, 10, 11, 12, 13, 14, 15, 16, 17, 18, 19, 20, 21, 22, 23, 24, 25] [13, 15, 22] (by kernel_rfl) (by kernel_rfl) ?_; simp only [pickOps, List.filterMap_cons, List.filterMap_nil, List.getElem?_cons_zero, List.getElem?_cons_succ, Act.put])
  repeat (first | (refine T_skip (by rfl) (by rfl) (fun _ _ _ h => h) ?_; try simp only [Act.put, List.setIfInBounds_toArray, List.set_cons_zero, List.set_cons_succ]) | (refine T_pass (by rfl) (by rfl) ?_; try simp only [Act.put, List.setIfInBounds_toArray, List.set_cons_zero, List.set_cons_succ]) | (refine T_load (by assumption) (by rfl) (by rfl) (fun _ _ _ _ h => h) rfl rfl (by assumption) (by first | exact (fun hn => hn) | assumption) ?_; try simp only [Act.put, List.setIfInBounds_toArray, List.set_cons_zero, List.set_cons_succ]) | (refine T_nil (by rfl) (by rfl) (fun _ _ _ _ h => h) rfl rfl ?_; try simp only [Act.put, List.setIfInBounds_toArray, List.set_cons_zero, List.set_cons_succ]) | (refine T_quietN (by rfl) (by rfl) (by rfl) (by rfl) (fun _ _ _ _ h => h) (fun K hK => ?_); go_big_quiet_op; refine hK _ ?_; clear hK K) | (refine T_two (by rfl) (by rfl) (by rfl) (by rfl) (fun _ _ _ _ h => h) (fun K hK => ?_); go_big_quiet_op; refine ⟨_, fun _ _ => rfl, ?_⟩; refine hK _ ?_; clear hK K; try simp only [Act.put, List.setIfInBounds_toArray, List.set_cons_zero, List.set_cons_succ]) | fail)
  (refine T_str Try.underlying31 Try.underlying5 Try.underlying9 (Rd.drew hrd6) (fun _ _ hn => hn) (by rfl) (by rfl) (fun _ _ _ _ h => h) rfl (by rfl) rfl ?_; try simp only [Act.put, List.setIfInBounds_toArray, List.set_cons_zero, List.set_cons_succ])
  (refine T_call (by rfl) (by rfl) (fun K hK => ?_); go_wp2_with fail)
  refine (full_calls 1 7 _ (by decide)).mono ?_
  rintro e w7 ⟨rfl, hb7, hf7⟩
  have hrd7 : RdB w7 (fun b => b = w6.heap.size) (some ⟨w6.heap.size, 0, none⟩) (List.replicate (1 * 128) 7) := hb7.rd (size := 1) (n := 128) (by rw [List.size_toArray, U8_length]; rfl) (by decide)
  (refine hK.out _ _ (hf7) ?_; clear hK K; try simp only [Act.put, List.setIfInBounds_toArray, List.set_cons_zero, List.set_cons_succ])
  (refine T_str Try.underlying31 Try.underlying5 Try.underlying9 (hrd7) (fun _ _ hn => hn) (by rfl) (by rfl) (fun _ _ _ _ h => h) rfl (by rfl) rfl ?_; try simp only [Act.put, List.setIfInBounds_toArray, List.set_cons_zero, List.set_cons_succ])
  (refine T_call (by rfl) (by rfl) (fun K hK => ?_); go_wp2_with fail)
  refine (full_calls 1 0 _ (by decide)).mono ?_
  rintro e w8 ⟨rfl, hb8, hf8⟩
  have hrd8 : RdB w8 (fun b => b = w7.heap.size) (some ⟨w7.heap.size, 0, none⟩) (List.replicate (1 * 128) 0) := hb8.rd (size := 1) (n := 128) (by rw [List.size_toArray, U8_length]; rfl) (by decide)
  (refine hK.out _ _ (hf8) ?_; clear hK K; try simp only [Act.put, List.setIfInBounds_toArray, List.set_cons_zero, List.set_cons_succ])
  (refine T_str Try.underlying31 Try.underlying5 Try.underlying9 (hrd8) (fun _ _ hn => hn) (by rfl) (by rfl) (fun _ _ _ _ h => h) rfl (by rfl) rfl ?_; try simp only [Act.put, List.setIfInBounds_toArray, List.set_cons_zero, List.set_cons_succ])
  refine T_addStr (by simp) (by rfl) (by rfl) (fun _ _ _ _ h => h) rfl rfl rfl ?_
  try simp only [Act.put, List.setIfInBounds_toArray, List.set_cons_zero, List.set_cons_succ]
  refine T_eqStr rfl (by rfl) (by rfl) (fun _ _ _ _ h => h) rfl rfl rfl ?_
  try simp only [Act.put, List.setIfInBounds_toArray, List.set_cons_zero, List.set_cons_succ]
  repeat (first | (refine T_skip (by rfl) (by rfl) (fun _ _ _ h => h) ?_; try simp only [Act.put, List.setIfInBounds_toArray, List.set_cons_zero, List.set_cons_succ]) | (refine T_pass (by rfl) (by rfl) ?_; try simp only [Act.put, List.setIfInBounds_toArray, List.set_cons_zero, List.set_cons_succ]) | (refine T_load (by assumption) (by rfl) (by rfl) (fun _ _ _ _ h => h) rfl rfl (by assumption) (by first | exact (fun hn => hn) | assumption) ?_; try simp only [Act.put, List.setIfInBounds_toArray, List.set_cons_zero, List.set_cons_succ]) | (refine T_nil (by rfl) (by rfl) (fun _ _ _ _ h => h) rfl rfl ?_; try simp only [Act.put, List.setIfInBounds_toArray, List.set_cons_zero, List.set_cons_succ]) | (refine T_quietN (by rfl) (by rfl) (by rfl) (by rfl) (fun _ _ _ _ h => h) (fun K hK => ?_); go_big_quiet_op; refine hK _ ?_; clear hK K) | (refine T_two (by rfl) (by rfl) (by rfl) (by rfl) (fun _ _ _ _ h => h) (fun K hK => ?_); go_big_quiet_op; refine ⟨_, fun _ _ => rfl, ?_⟩; refine hK _ ?_; clear hK K; try simp only [Act.put, List.setIfInBounds_toArray, List.set_cons_zero, List.set_cons_succ]) | fail)
  have hf68 : Fr No w6 w8 := ((Fr.refl No w6).drew.tr hf7).tr hf8
  (refine T_call (by rfl) (by rfl) (fun K hK => ?_); go_wp2_with fail)
  refine (size_calls w8 _ H _ (hd6.fr0 hf68)).mono ?_
  rintro e _ ⟨rfl, rfl⟩
  (refine hK.out _ _ ((Fr.refl _ _)) ?_; clear hK K; try simp only [Act.put, List.setIfInBounds_toArray, List.set_cons_zero, List.set_cons_succ])
  repeat (first | (refine T_skip (by rfl) (by rfl) (fun _ _ _ h => h) ?_; try simp only [Act.put, List.setIfInBounds_toArray, List.set_cons_zero, List.set_cons_succ]) | (refine T_pass (by rfl) (by rfl) ?_; try simp only [Act.put, List.setIfInBounds_toArray, List.set_cons_zero, List.set_cons_succ]) | (refine T_load (by assumption) (by rfl) (by rfl) (fun _ _ _ _ h => h) rfl rfl (by assumption) (by first | exact (fun hn => hn) | assumption) ?_; try simp only [Act.put, List.setIfInBounds_toArray, List.set_cons_zero, List.set_cons_succ]) | (refine T_nil (by rfl) (by rfl) (fun _ _ _ _ h => h) rfl rfl ?_; try simp only [Act.put, List.setIfInBounds_toArray, List.set_cons_zero, List.set_cons_succ]) | (refine T_quietN (by rfl) (by rfl) (by rfl) (by rfl) (fun _ _ _ _ h => h) (fun K hK => ?_); go_big_quiet_op; refine hK _ ?_; clear hK K) | (refine T_two (by rfl) (by rfl) (by rfl) (by rfl) (fun _ _ _ _ h => h) (fun K hK => ?_); go_big_quiet_op; refine ⟨_, fun _ _ => rfl, ?_⟩; refine hK _ ?_; clear hK K; try simp only [Act.put, List.setIfInBounds_toArray, List.set_cons_zero, List.set_cons_succ]) | fail)
  refine T_done ?_
  go_wp2
  go_ret
  exact ⟨rfl, hF6.tr hf68⟩
end Go.Proofs.Ythhncjeabamceaa
