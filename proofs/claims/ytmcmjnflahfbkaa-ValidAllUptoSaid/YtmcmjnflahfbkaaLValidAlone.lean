/- The walk of lapidarylaw17.ValidAlone. No condition but room for what came in. -/
import Derived.Test.YtmcmjnflahfbkaaVKnown
namespace Go.Proofs.Ytmcmjnflahfbkaa
set_option linter.unusedVariables false
set_option linter.unusedSimpArgs false
open Go.RowKit Go.Maps

theorem clashes_none {ts : List Txn} {t : Txn} {p : Int → Bool} (h : ∀ d ∈ ts, p d.commit = false) : clashes ts t p = [] := by
  unfold clashes
  rw [List.filter_eq_nil_iff.2 (fun d hd => by simp [h d hd])]
  rfl
/-- What came in is well made, and no longer than can be. -/
def TxnOk (d : Txn) : Prop := Wf d.reads ∧ Wf d.writes ∧ d.reads.length * 8 ≤ 140737488351232 ∧ d.writes.length * 8 ≤ 140737488351232

set_option maxHeartbeats 1000000 in
theorem law_ValidAlone (W : World) (a0 : Option Addr) (cap0 : Nat) (ts : List Txn) (h0 : RdT W (fun b => b < W.heap.size) a0 ts) (ok0 : ∀ d ∈ ts, TxnOk d) (h64 : ts.length * 64 ≤ 140737488351232)
    (cs : List Value) (t : Txn) (h1 : TxnC W (fun b => b < W.heap.size) cs t) (ok1 : TxnOk t) :
    Calls Try.prog 3 #[.slice a0 ts.length cap0, .agg cs.toArray] W fun e w' => e = .returned (.bool true) ∧ Fr No W w' := by
  have hle := h0.le
  have htc := h1
  obtain ⟨Ar, cr, Aw, cw, rfl, hr, hw⟩ := h1
  have g1 := plain_i64
  have g2 := plain_li64
  have OK0 := Lib.hid ok0
  have OK1 := Lib.hid ok1
  have H64 := Lib.hid h64
  clear ok0 ok1 h64
  go_enter Try.func3, Try.ntmps3
  go_wp2
  go_loopw [5] (fun i wr => ∃ k : Nat, k ≤ ts.length ∧ i = .int .i64 k ∧ (∀ d ∈ ts.take k, sinceP t.base d.commit = false) ∧
      Blk wr W.heap.size 25 #[.int .i64 t.base, .int .i64 t.commit, .slice Ar t.reads.length cr, .slice Aw t.writes.length cw] ∧ Fr No W wr) (fun i _ => ts.length - (intOf i).toNat)
  case atStart => exact ⟨0, by omega, rfl, by simp, Blk.new _ _ _, (Fr.refl No W).alloc _⟩
  case round =>
    obtain ⟨k, hk, rfl, hp, hb, hf⟩ := hrel
    have HP := Lib.hid hp
    clear hp
    by_cases hlt : k < ts.length
    · obtain ⟨g, of, Br, br, Bw, bw, rfl, _, q0, q1, q2, q3, _, _⟩ := (h0.fr0 hf).at_ hlt
      have htk : ts.take (k + 1) = ts.take k ++ [ts[k]] := by rw [List.take_add_one, List.getElem?_eq_getElem hlt]; rfl
      have HT := Lib.hid htk
      clear htk
      generalize ts[k] = d at *
      have hb0 := hb.cell 0
      simp only [List.getElem?_toArray, List.getElem?_cons_succ, List.getElem?_cons_zero] at hb0
      have ek : decide ((k : Int) < ts.length) = true := by simpa using (by omega : (k : Int) < ts.length)
      by_cases hx : t.base < d.commit
      · have e1 : decide (t.base < d.commit) = true := by simpa using hx
        clear hx
        go_wp2_with fail
        (refine T_begin No [0, 1, 2, 3, 4, 5, 6, 7] [] (by kernel_rfl) (by kernel_rfl) ?_; simp only [pickOps, List.filterMap_cons, List.filterMap_nil, List.getElem?_cons_zero, List.getElem?_cons_succ, Act.put])
        repeat (first | (refine T_skip (by rfl) (by rfl) (fun _ _ _ h => h) ?_; try simp only [Act.put, List.setIfInBounds_toArray, List.set_cons_zero, List.set_cons_succ]) | (refine T_pass (by rfl) (by rfl) ?_; try simp only [Act.put, List.setIfInBounds_toArray, List.set_cons_zero, List.set_cons_succ]) | (refine T_load (by assumption) (by rfl) (by rfl) (fun _ _ _ _ h => h) rfl rfl (by assumption) (by first | exact (fun hn => hn) | assumption) ?_; try simp only [Act.put, List.setIfInBounds_toArray, List.set_cons_zero, List.set_cons_succ]) | (refine T_nil (by rfl) (by rfl) (fun _ _ _ _ h => h) rfl rfl ?_; try simp only [Act.put, List.setIfInBounds_toArray, List.set_cons_zero, List.set_cons_succ]) | (refine T_quiet (by rfl) (by rfl) (by rfl) (fun _ _ _ _ h => h) (fun K hK => ?_); go_big_quiet_op; refine hK _ ?_; clear hK K) | (refine T_two (by rfl) (by rfl) (by rfl) (by rfl) (fun _ _ _ _ h => h) (fun K hK => ?_); go_big_quiet_op; refine ⟨_, fun _ _ => rfl, ?_⟩; refine hK _ ?_; clear hK K; try simp only [Act.put, List.setIfInBounds_toArray, List.set_cons_zero, List.set_cons_succ]) | fail)
        refine T_done ?_
        go_wp2_with fail
        refine (known_calls _).mono ?_
        rintro e w2 ⟨rfl, hf2⟩
        go_wp2
        go_ret
        exact ⟨rfl, hf.drew.tr hf2⟩
      · have e1 : decide (t.base < d.commit) = false := by simpa using hx
        have HX := Lib.hid (show sinceP t.base d.commit = false from e1)
        clear hx
        go_wp2_with fail
        (refine T_begin No [0, 1, 2, 3, 4, 5, 6, 7] [] (by kernel_rfl) (by kernel_rfl) ?_; simp only [pickOps, List.filterMap_cons, List.filterMap_nil, List.getElem?_cons_zero, List.getElem?_cons_succ, Act.put])
        repeat (first | (refine T_skip (by rfl) (by rfl) (fun _ _ _ h => h) ?_; try simp only [Act.put, List.setIfInBounds_toArray, List.set_cons_zero, List.set_cons_succ]) | (refine T_pass (by rfl) (by rfl) ?_; try simp only [Act.put, List.setIfInBounds_toArray, List.set_cons_zero, List.set_cons_succ]) | (refine T_load (by assumption) (by rfl) (by rfl) (fun _ _ _ _ h => h) rfl rfl (by assumption) (by first | exact (fun hn => hn) | assumption) ?_; try simp only [Act.put, List.setIfInBounds_toArray, List.set_cons_zero, List.set_cons_succ]) | (refine T_nil (by rfl) (by rfl) (fun _ _ _ _ h => h) rfl rfl ?_; try simp only [Act.put, List.setIfInBounds_toArray, List.set_cons_zero, List.set_cons_succ]) | (refine T_quiet (by rfl) (by rfl) (by rfl) (fun _ _ _ _ h => h) (fun K hK => ?_); go_big_quiet_op; refine hK _ ?_; clear hK K) | (refine T_two (by rfl) (by rfl) (by rfl) (by rfl) (fun _ _ _ _ h => h) (fun K hK => ?_); go_big_quiet_op; refine ⟨_, fun _ _ => rfl, ?_⟩; refine hK _ ?_; clear hK K; try simp only [Act.put, List.setIfInBounds_toArray, List.set_cons_zero, List.set_cons_succ]) | fail)
        refine T_done ?_
        go_wp2
        go_roundw
        case rel => exact ⟨k + 1, by omega, by go_num, by rw [HT.out]; intro y hy; rcases List.mem_append.1 hy with hy | hy; exact HP.out y hy; obtain rfl := List.mem_singleton.1 hy; exact HX.out, hb.drew, hf.drew⟩
        case measure => simp [intOf]; omega
    · obtain rfl : k = ts.length := by omega
      have hp := HP.out
      rw [List.take_length] at hp
      have HC := Lib.hid (show checkM ts t = none by unfold checkM; rw [clashes_none hp]; rfl)
      have hroom : Room ts t (sinceP t.base) := ⟨⟨OK1.out.1, OK1.out.2.1⟩, fun d hd => (OK0.out d hd).2.1, fun d hd hh => (by rw [hp d hd] at hh; cases hh), by rw [clashes_none hp]; decide⟩
      clear hp HP
      have ek : decide ((ts.length : Int) < ts.length) = false := by simp
      go_wp2_with fail
      have hfd : Fr No W wr.drew := hf.drew
      have hbd := hb.drew
      (refine T_begin No [0, 2, 1, 3, 4, 5, 6, 7, 8, 9] [1, 3, 4] (by kernel_rfl) (by kernel_rfl) ?_; simp only [pickOps, List.filterMap_cons, List.filterMap_nil, List.getElem?_cons_zero, List.getElem?_cons_succ, Act.put])
      repeat (first | (refine T_skip (by rfl) (by rfl) (fun _ _ _ h => h) ?_; try simp only [Act.put, List.setIfInBounds_toArray, List.set_cons_zero, List.set_cons_succ]) | (refine T_pass (by rfl) (by rfl) ?_; try simp only [Act.put, List.setIfInBounds_toArray, List.set_cons_zero, List.set_cons_succ]) | (refine T_load (by assumption) (by rfl) (by rfl) (fun _ _ _ _ h => h) rfl rfl (by assumption) (by first | exact (fun hn => hn) | assumption) ?_; try simp only [Act.put, List.setIfInBounds_toArray, List.set_cons_zero, List.set_cons_succ]) | (refine T_nil (by rfl) (by rfl) (fun _ _ _ _ h => h) rfl rfl ?_; try simp only [Act.put, List.setIfInBounds_toArray, List.set_cons_zero, List.set_cons_succ]) | (refine T_quiet (by rfl) (by rfl) (by rfl) (fun _ _ _ _ h => h) (fun K hK => ?_); go_big_quiet_op; refine hK _ ?_; clear hK K) | (refine T_two (by rfl) (by rfl) (by rfl) (by rfl) (fun _ _ _ _ h => h) (fun K hK => ?_); go_big_quiet_op; refine ⟨_, fun _ _ => rfl, ?_⟩; refine hK _ ?_; clear hK K; try simp only [Act.put, List.setIfInBounds_toArray, List.set_cons_zero, List.set_cons_succ]) | fail)
      refine T_loadA ag_txn (by rfl) (by rfl) (fun _ _ _ _ h => h) rfl rfl rfl (show ∀ j u, _ → wr.cell? _ = some u from hb.all) (fun hn => hn) ?_
      try simp only [Act.put, List.setIfInBounds_toArray, List.set_cons_zero, List.set_cons_succ]
      (refine T_call (by rfl) (by rfl) (fun K hK => ?_); go_wp2_with fail)
      refine (given_reads _ a0 cap0 ts _ (h0.fr0 hfd) (fun b hb => Nat.lt_of_lt_of_le hb hfd.size) (by have := H64.out; omega) (fun d hd => ⟨by have := (OK0.out d hd).2.2.1; omega, by have := (OK0.out d hd).2.2.2; omega⟩)).mono ?_
      rintro e w2 ⟨A2, c2, rfl, _, hgr, hf2⟩
      (refine hK.out _ _ (hf2) ?_; clear hK K; try simp only [Act.put, List.setIfInBounds_toArray, List.set_cons_zero, List.set_cons_succ])
      (refine T_call (by rfl) (by rfl) (fun K hK => ?_); go_wp2_with fail)
      refine (one_reads _ [.int .i64 t.base, .int .i64 t.commit, .slice Ar t.reads.length cr, .slice Aw t.writes.length cw] t _ (htc.fr0 (hfd.tr hf2)) (by have := OK1.out.2.2.1; omega) (by have := OK1.out.2.2.2; omega)).mono ?_
      rintro e w3 ⟨Br, br, Bw, bw, M, rfl, _, _, _, _, htc3, hf3⟩
      (refine hK.out _ _ (hf3) ?_; clear hK K; try simp only [Act.put, List.setIfInBounds_toArray, List.set_cons_zero, List.set_cons_succ])
      (refine T_call (by rfl) (by rfl) (fun K hK => ?_); go_wp2_with fail)
      have hs2 : wr.drew.heap.size ≤ w2.heap.size := hf2.size
      refine (check_calls (fun b => wr.drew.heap.size ≤ b) A2 c2 ts [.int .i64 t.base, .int .i64 t.commit, .slice Br t.reads.length br, .slice Bw t.writes.length bw] t _ (hgr.fr0 hf3) (htc3.mono (fun b _ hb => Nat.le_trans hs2 hb)) hroom).mono ?_
      rintro e w4 ⟨rfl, hf4⟩
      rw [HC.out]
      simp only [iv, errOf, Option.getD_none, Option.isSome_none]
      (refine hK.out _ _ (hf4) ?_; clear hK K; try simp only [Act.put, List.setIfInBounds_toArray, List.set_cons_zero, List.set_cons_succ])
      repeat (first | (refine T_skip (by rfl) (by rfl) (fun _ _ _ h => h) ?_; try simp only [Act.put, List.setIfInBounds_toArray, List.set_cons_zero, List.set_cons_succ]) | (refine T_pass (by rfl) (by rfl) ?_; try simp only [Act.put, List.setIfInBounds_toArray, List.set_cons_zero, List.set_cons_succ]) | (refine T_load (by assumption) (by rfl) (by rfl) (fun _ _ _ _ h => h) rfl rfl (by assumption) (by first | exact (fun hn => hn) | assumption) ?_; try simp only [Act.put, List.setIfInBounds_toArray, List.set_cons_zero, List.set_cons_succ]) | (refine T_nil (by rfl) (by rfl) (fun _ _ _ _ h => h) rfl rfl ?_; try simp only [Act.put, List.setIfInBounds_toArray, List.set_cons_zero, List.set_cons_succ]) | (refine T_quiet (by rfl) (by rfl) (by rfl) (fun _ _ _ _ h => h) (fun K hK => ?_); go_big_quiet_op; refine hK _ ?_; clear hK K) | (refine T_two (by rfl) (by rfl) (by rfl) (by rfl) (fun _ _ _ _ h => h) (fun K hK => ?_); go_big_quiet_op; refine ⟨_, fun _ _ => rfl, ?_⟩; refine hK _ ?_; clear hK K; try simp only [Act.put, List.setIfInBounds_toArray, List.set_cons_zero, List.set_cons_succ]) | fail)
      refine T_done ?_
      go_wp2_with fail
      refine (known_calls _).mono ?_
      rintro e w5 ⟨rfl, hf5⟩
      go_wp2
      go_ret
      exact ⟨rfl, hfd.tr (hf2.tr (hf3.tr (hf4.tr hf5)))⟩
end Go.Proofs.Ytmcmjnflahfbkaa
