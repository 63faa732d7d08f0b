/- The walk of lapidarylaw17.ValidChecks. Condition: what came in is of bulk at most 1048576. -/
import Derived.Test.YtmcmjnflahfbkaaVTaken
namespace Go.Proofs.Ytmcmjnflahfbkaa
set_option linter.unusedVariables false
set_option linter.unusedSimpArgs false
open Go.RowKit Go.Maps

set_option maxHeartbeats 4000000 in
theorem law_ValidChecks (W : World) (a0 : Option Addr) (cap0 : Nat) (ts : List Txn) (h0 : RdT W (fun b => b < W.heap.size) a0 ts) (ok0 : ∀ d ∈ ts, TxnOk d) (hcap : ts.length ≤ cap0) (hmax : cap0 ≤ maxLen)
    (cs : List Value) (t : Txn) (h1 : TxnC W (fun b => b < W.heap.size) cs t) (ok1 : TxnOk t) (hbulk : bulkT ts + (t.reads.length + t.writes.length) ≤ 1048576) :
    Calls Try.prog 6 #[.slice a0 ts.length cap0, .agg cs.toArray] W fun e w' => e = .returned (.bool true) ∧ Fr No W w' := by
  have hle := h0.le
  have hbl := bulkT_len ts
  have htc := h1
  obtain ⟨Ar, cr, Aw, cw, rfl, hr, hw⟩ := h1
  have hlm : ts.length ≤ 1048576 := by omega
  have hroom : Room ts t (sinceP t.base) := room_any ok0 ok1 (by omega)
  have hb2 : bulkT ts ≤ 2097152 := by omega
  have OK0 := Lib.hid ok0
  have OK1 := Lib.hid ok1
  clear hbl hbulk
  go_enter Try.func6, Try.ntmps6
  go_wp2_with fail
  have hX : Fr No W (W.alloc (.cells #[.int .i64 t.base, .int .i64 t.commit, .slice Ar t.reads.length cr, .slice Aw t.writes.length cw] 25)) := (Fr.refl No W).alloc _
  have hbX := Blk.new W 25 #[.int .i64 t.base, .int .i64 t.commit, .slice Ar t.reads.length cr, .slice Aw t.writes.length cw]
  refine (given_reads _ a0 cap0 ts _ (h0.fr0 hX) (fun b hb => Nat.lt_of_lt_of_le hb hX.size) (by omega) (fun d hd => ⟨by have := (OK0.out d hd).2.2.1; omega, by have := (OK0.out d hd).2.2.2; omega⟩)).mono ?_
  rintro e w2 ⟨A2, c2, rfl, _, hgr, hf2⟩
  have hf2' := hX.tr hf2
  have hb2' := hbX.fr0 hf2
  go_wp2_with (first
    | (refine wpList_ldA ag_txn rfl _ rfl ⟨W.heap.size, 0, none⟩ [.int .i64 t.base, .int .i64 t.commit, .slice Ar t.reads.length cr, .slice Aw t.writes.length cw] rfl rfl hb2'.all ?_)
    | fail)
  refine (one_reads _ [.int .i64 t.base, .int .i64 t.commit, .slice Ar t.reads.length cr, .slice Aw t.writes.length cw] t _ (htc.fr0 hf2') (by have := OK1.out.2.2.1; omega) (by have := OK1.out.2.2.2; omega)).mono ?_
  rintro e w3 ⟨Br, br, Bw, bw, M, rfl, _, _, _, _, htc3, hf3⟩
  go_wp2_with fail
  refine (check_calls (fun _ => True) A2 c2 ts [.int .i64 t.base, .int .i64 t.commit, .slice Br t.reads.length br, .slice Bw t.writes.length bw] t _ ((hgr.fr0 hf3).mono (fun _ _ _ => trivial)) (htc3.mono (fun _ _ _ => trivial)) hroom).mono ?_
  rintro e w4 ⟨rfl, hf4⟩
  have hf4' := hf2'.tr (hf3.tr hf4)
  have hb4' := hb2'.fr0 (hf3.tr hf4)
  go_wp2_with (first
    | (refine wpList_ldA ag_txn rfl _ rfl ⟨W.heap.size, 0, none⟩ [.int .i64 t.base, .int .i64 t.commit, .slice Ar t.reads.length cr, .slice Aw t.writes.length cw] rfl rfl hb4'.all ?_)
    | fail)
  refine (refcheck_calls _ a0 cap0 ts [.int .i64 t.base, .int .i64 t.commit, .slice Ar t.reads.length cr, .slice Aw t.writes.length cw] t _ (h0.fr0 hf4') (htc.fr0 hf4')).mono ?_
  rintro e w5 ⟨rfl, hf5⟩
  go_wp2_with fail
  refine (serial_calls _ A2 c2 ts _ (hgr.fr0 (hf3.tr (hf4.tr hf5))) OK0.out hb2).mono ?_
  rintro e w6 ⟨rfl, hf6⟩
  go_wp2_with fail
  have hf6' := hf4'.tr (hf5.tr hf6)
  refine (refserial_calls _ a0 cap0 ts _ (h0.fr0 hf6')).mono ?_
  rintro e w7 ⟨rfl, hf7⟩
  generalize checkM ts t = o
  generalize serM ts ts 0 = r
  obtain ⟨i, x, b⟩ := r
  simp only
  have hf27 := hf3.tr (hf4.tr (hf5.tr (hf6.tr hf7)))
  have hs27 := hf27.size
  go_wp2_with fail
  refine (taken_calls (fun b => (W.alloc (.cells #[.int .i64 t.base, .int .i64 t.commit, .slice Ar t.reads.length cr, .slice Aw t.writes.length cw] 25)).heap.size ≤ b ∧ b < w2.heap.size) A2 c2 ts _ ((hgr.mono (fun b hlt hb => ⟨hb, hlt⟩)).fr0 hf27) (fun b hb => Nat.lt_of_lt_of_le hb.2 hs27) (by omega)).mono ?_
  rintro e w8 ⟨A8, c8, rfl, h8, hf8⟩
  go_wp2_with fail
  have hf8' := hf6'.tr (hf7.tr hf8)
  refine (same_calls _ _ A8 a0 c8 cap0 ts _ h8 (h0.fr0 hf8')).mono ?_
  rintro e w9 ⟨rfl, hf9⟩
  go_wp2_with fail
  refine (known_calls _).mono ?_
  rintro e w10 ⟨rfl, hf10⟩
  go_wp2
  go_ret
  exact ⟨rfl, hf8'.tr (hf9.tr hf10)⟩
end Go.Proofs.Ytmcmjnflahfbkaa
