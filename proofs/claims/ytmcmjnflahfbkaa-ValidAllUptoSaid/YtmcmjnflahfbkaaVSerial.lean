/- valid.Serial, the reference's Serial. No condition but room. -/
import Derived.Test.YtmcmjnflahfbkaaVBulk
namespace Go.Proofs.Ytmcmjnflahfbkaa
set_option linter.unusedVariables false
set_option linter.unusedSimpArgs false
open Go.RowKit Go.Maps

def betw (t : Txn) : Int → Bool := fun c => decide (t.base < c) && decide (c < t.commit)
theorem pass_betw (t : Txn) : pass t.base t.commit false = betw t := by funext c; simp [pass, betw]
/-- The first that does not stand alone, from the i-th on. -/
def serM (all : List Txn) : List Txn → Nat → Nat × Int × Bool
  | [], i => (i, 0, true)
  | t :: r, i => match minL (clashes all t (betw t)) with
    | some m => (i, m, false)
    | none => serM all r (i + 1)
theorem serM_hit {all r : List Txn} {t : Txn} {i : Nat} {m : Int} (h : minL (clashes all t (betw t)) = some m) : serM all (t :: r) i = (i, m, false) := by rw [serM, h]
theorem serM_miss {all r : List Txn} {t : Txn} {i : Nat} (h : minL (clashes all t (betw t)) = none) : serM all (t :: r) i = serM all r (i + 1) := by rw [serM, h]
def RetS (w w' : World) (e : Ending) (r : Nat × Int × Bool) : Prop := e = .returned (.tuple #[.int .i64 r.1, .int .i64 r.2.1, .bool r.2.2]) ∧ Fr No w w'

set_option maxHeartbeats 2000000 in
theorem serial_calls (S : Nat → Prop) (A : Option Addr) (c : Nat) (ts : List Txn) (w : World) (h : RdT w S A ts) (ok : ∀ d ∈ ts, TxnOk d) (hb : bulkT ts ≤ 2097152) :
    Calls Try.prog 15 #[.slice A ts.length c] w fun e w' => RetS w w' e (serM ts ts 0) := by
  have hle := h.le
  have OK := Lib.hid ok
  have HB := Lib.hid hb
  clear ok hb
  go_enter Try.func15, Try.ntmps15
  go_wp2
  go_loopw [11] (fun i wr => ∃ k : Nat, k ≤ ts.length ∧ i = .int .i64 k ∧ serM ts (ts.drop k) k = serM ts ts 0 ∧ Fr No w wr) (fun i _ => ts.length - (intOf i).toNat)
  case atStart => exact ⟨0, by omega, rfl, rfl, Fr.refl _ _⟩
  case round =>
    obtain ⟨k, hk, rfl, hs, hf⟩ := hrel
    by_cases hlt : k < ts.length
    · obtain ⟨g, of, Ar, cr, Aw, cw, rfl, _, hk4, htc⟩ := (h.fr0 hf).atC hlt
      have hdm := List.getElem_mem hlt
      have hdr : ts.drop k = ts[k] :: ts.drop (k + 1) := List.drop_eq_getElem_cons hlt
      rw [hdr] at hs
      have HS := Lib.hid hs
      have okd := OK.out _ hdm
      have HRm := Lib.hid (room_any (p := betw ts[k]) OK.out okd HB.out)
      clear hdm hdr hs
      generalize ts[k] = d at *
      have ek : decide ((k : Int) < ts.length) = true := by simpa using (by omega : (k : Int) < ts.length)
      have hb3 := Blk.new wr 32 #[.int .i64 d.base, .int .i64 d.commit, .slice Ar d.reads.length cr, .slice Aw d.writes.length cw]
      have hf3 : Fr No wr (wr.alloc (.cells #[.int .i64 d.base, .int .i64 d.commit, .slice Ar d.reads.length cr, .slice Aw d.writes.length cw] 32)) := (Fr.refl No wr).alloc _
      go_wp2_with (first
        | (refine wpList_ldA ag_vtxn rfl _ rfl ⟨g, of + k * 4, none⟩ [.int .i64 d.base, .int .i64 d.commit, .slice Ar d.reads.length cr, .slice Aw d.writes.length cw] rfl rfl hk4 ?_)
        | (refine wpList_ldA ag_vtxn rfl _ rfl ⟨wr.heap.size, 0, none⟩ [.int .i64 d.base, .int .i64 d.commit, .slice Ar d.reads.length cr, .slice Aw d.writes.length cw] rfl rfl hb3.all ?_)
        | fail)
      refine (least_between S _ c ts [.int .i64 d.base, .int .i64 d.commit, .slice Ar d.reads.length cr, .slice Aw d.writes.length cw] d d.base d.commit (betw d) rfl _ (h.fr0 (hf.tr hf3)) (htc.fr0 hf3) HRm.out.1 HRm.out.2.1 HRm.out.2.2.1 HRm.out.2.2.2).mono ?_
      rintro e w4 ⟨rfl, hf4⟩
      generalize hq : minL (clashes ts d (betw d)) = q
      have HQ := Lib.hid hq
      clear hq
      rcases q with _ | m
      · simp only [iv_none, Option.isSome_none]
        have HN := Lib.hid ((serM_miss HQ.out).symm.trans HS.out)
        go_wp2
        go_roundw
        case rel => exact ⟨k + 1, by omega, by go_num, HN.out, hf.tr (hf3.tr hf4)⟩
        case measure => simp [intOf]; omega
      · simp only [iv_some, Option.isSome_some]
        have HN := Lib.hid ((serM_hit HQ.out).symm.trans HS.out)
        go_wp2
        go_ret3
        rw [← HN.out]
        exact ⟨rfl, hf.tr (hf3.tr hf4)⟩
    · obtain rfl : k = ts.length := by omega
      rw [List.drop_length] at hs
      have HS := Lib.hid hs
      clear hs
      have ek : decide ((ts.length : Int) < ts.length) = false := by simp
      go_wp2
      go_ret3
      rw [← HS.out]
      exact ⟨rfl, hf⟩
set_option maxHeartbeats 2000000 in
theorem refserial_calls (S : Nat → Prop) (A : Option Addr) (c : Nat) (ts : List Txn) (w : World) (h : RdT w S A ts) :
    Calls Try.prog 16 #[.slice A ts.length c] w fun e w' => RetS w w' e (serM ts ts 0) := by
  have hle := h.le
  have g1 := plain_i64
  go_enter Try.func16, Try.ntmps16
  go_wp2
  go_loopw [5] (fun i wr => ∃ k : Nat, k ≤ ts.length ∧ i = .int .i64 k ∧ serM ts (ts.drop k) k = serM ts ts 0 ∧ Fr No w wr) (fun i _ => ts.length - (intOf i).toNat)
  case atStart => exact ⟨0, by omega, rfl, rfl, Fr.refl _ _⟩
  case round =>
    obtain ⟨k, hk, rfl, hs, hf⟩ := hrel
    by_cases hlt : k < ts.length
    · obtain ⟨g, of, Ar, cr, Aw, cw, rfl, _, hk4, htc⟩ := (h.fr0 hf).atC hlt
      have hq1 : wr.cell? ⟨g, of + k * 4 + 1, none⟩ = some (.int .i64 ts[k].commit) := by have := hk4 1 _ rfl; rwa [Addr.add_lit] at this
      have hdr : ts.drop k = ts[k] :: ts.drop (k + 1) := List.drop_eq_getElem_cons hlt
      rw [hdr] at hs
      have HS := Lib.hid hs
      clear hdr hs
      generalize ts[k] = d at *
      have ek : decide ((k : Int) < ts.length) = true := by simpa using (by omega : (k : Int) < ts.length)
      go_wp2_with fail
      have hfd : Fr No wr wr.drew := (Fr.refl No wr).drew
      (refine T_begin No [0, 1, 2, 3, 4, 5, 6, 7, 8, 9, 10, 11, 12, 13, 14, 15] [10] (by kernel_rfl) (by kernel_rfl) ?_; simp only [pickOps, List.filterMap_cons, List.filterMap_nil, List.getElem?_cons_zero, List.getElem?_cons_succ, Act.put])
      repeat (first | (refine T_skip (by rfl) (by rfl) (fun _ _ _ h => h) ?_; try simp only [Act.put, List.setIfInBounds_toArray, List.set_cons_zero, List.set_cons_succ]) | (refine T_pass (by rfl) (by rfl) ?_; try simp only [Act.put, List.setIfInBounds_toArray, List.set_cons_zero, List.set_cons_succ]) | (refine T_load (by assumption) (by rfl) (by rfl) (fun _ _ _ _ h => h) rfl rfl (by assumption) (by first | exact (fun hn => hn) | assumption) ?_; try simp only [Act.put, List.setIfInBounds_toArray, List.set_cons_zero, List.set_cons_succ]) | (refine T_nil (by rfl) (by rfl) (fun _ _ _ _ h => h) rfl rfl ?_; try simp only [Act.put, List.setIfInBounds_toArray, List.set_cons_zero, List.set_cons_succ]) | (refine T_quiet (by rfl) (by rfl) (by rfl) (fun _ _ _ _ h => h) (fun K hK => ?_); go_big_quiet_op; refine hK _ ?_; clear hK K) | (refine T_two (by rfl) (by rfl) (by rfl) (by rfl) (fun _ _ _ _ h => h) (fun K hK => ?_); go_big_quiet_op; refine ⟨_, fun _ _ => rfl, ?_⟩; refine hK _ ?_; clear hK K; try simp only [Act.put, List.setIfInBounds_toArray, List.set_cons_zero, List.set_cons_succ]) | fail)
      refine T_loadA ag_txn (by rfl) (by rfl) (fun _ _ _ _ h => h) rfl rfl rfl hk4 (fun hn => hn) ?_
      try simp only [Act.put, List.setIfInBounds_toArray, List.set_cons_zero, List.set_cons_succ]
      repeat (first | (refine T_skip (by rfl) (by rfl) (fun _ _ _ h => h) ?_; try simp only [Act.put, List.setIfInBounds_toArray, List.set_cons_zero, List.set_cons_succ]) | (refine T_pass (by rfl) (by rfl) ?_; try simp only [Act.put, List.setIfInBounds_toArray, List.set_cons_zero, List.set_cons_succ]) | (refine T_load (by assumption) (by rfl) (by rfl) (fun _ _ _ _ h => h) rfl rfl (by assumption) (by first | exact (fun hn => hn) | assumption) ?_; try simp only [Act.put, List.setIfInBounds_toArray, List.set_cons_zero, List.set_cons_succ]) | (refine T_nil (by rfl) (by rfl) (fun _ _ _ _ h => h) rfl rfl ?_; try simp only [Act.put, List.setIfInBounds_toArray, List.set_cons_zero, List.set_cons_succ]) | (refine T_quiet (by rfl) (by rfl) (by rfl) (fun _ _ _ _ h => h) (fun K hK => ?_); go_big_quiet_op; refine hK _ ?_; clear hK K) | (refine T_two (by rfl) (by rfl) (by rfl) (by rfl) (fun _ _ _ _ h => h) (fun K hK => ?_); go_big_quiet_op; refine ⟨_, fun _ _ => rfl, ?_⟩; refine hK _ ?_; clear hK K; try simp only [Act.put, List.setIfInBounds_toArray, List.set_cons_zero, List.set_cons_succ]) | fail)
      (refine T_call (by rfl) (by rfl) (fun K hK => ?_); go_wp2_with fail)
      refine (within_calls S _ c ts [.int .i64 d.base, .int .i64 d.commit, .slice Ar d.reads.length cr, .slice Aw d.writes.length cw] d d.commit false _ (h.fr0 hf.drew) (htc.fr0 hfd)).mono ?_
      rintro e w4 ⟨rfl, hf4⟩
      rw [pass_betw]
      generalize hq : minL (clashes ts d (betw d)) = q
      have HQ := Lib.hid hq
      clear hq
      (refine hK.out _ _ (hf4) ?_; clear hK K; try simp only [Act.put, List.setIfInBounds_toArray, List.set_cons_zero, List.set_cons_succ])
      repeat (first | (refine T_skip (by rfl) (by rfl) (fun _ _ _ h => h) ?_; try simp only [Act.put, List.setIfInBounds_toArray, List.set_cons_zero, List.set_cons_succ]) | (refine T_pass (by rfl) (by rfl) ?_; try simp only [Act.put, List.setIfInBounds_toArray, List.set_cons_zero, List.set_cons_succ]) | (refine T_load (by assumption) (by rfl) (by rfl) (fun _ _ _ _ h => h) rfl rfl (by assumption) (by first | exact (fun hn => hn) | assumption) ?_; try simp only [Act.put, List.setIfInBounds_toArray, List.set_cons_zero, List.set_cons_succ]) | (refine T_nil (by rfl) (by rfl) (fun _ _ _ _ h => h) rfl rfl ?_; try simp only [Act.put, List.setIfInBounds_toArray, List.set_cons_zero, List.set_cons_succ]) | (refine T_quiet (by rfl) (by rfl) (by rfl) (fun _ _ _ _ h => h) (fun K hK => ?_); go_big_quiet_op; refine hK _ ?_; clear hK K) | (refine T_two (by rfl) (by rfl) (by rfl) (by rfl) (fun _ _ _ _ h => h) (fun K hK => ?_); go_big_quiet_op; refine ⟨_, fun _ _ => rfl, ?_⟩; refine hK _ ?_; clear hK K; try simp only [Act.put, List.setIfInBounds_toArray, List.set_cons_zero, List.set_cons_succ]) | fail)
      refine T_done ?_
      rcases q with _ | m
      · simp only [iv_none, Option.isSome_none]
        have HN := Lib.hid ((serM_miss HQ.out).symm.trans HS.out)
        go_wp2
        go_roundw
        case rel => exact ⟨k + 1, by omega, by go_num, HN.out, hf.drew.tr hf4⟩
        case measure => simp [intOf]; omega
      · simp only [iv_some, Option.isSome_some]
        have HN := Lib.hid ((serM_hit HQ.out).symm.trans HS.out)
        go_wp2
        go_ret3
        rw [← HN.out]
        exact ⟨rfl, hf.drew.tr hf4⟩
    · obtain rfl : k = ts.length := by omega
      rw [List.drop_length] at hs
      have HS := Lib.hid hs
      clear hs
      have ek : decide ((ts.length : Int) < ts.length) = false := by simp
      go_wp2
      go_ret3
      rw [← HS.out]
      exact ⟨rfl, hf⟩
end Go.Proofs.Ytmcmjnflahfbkaa
