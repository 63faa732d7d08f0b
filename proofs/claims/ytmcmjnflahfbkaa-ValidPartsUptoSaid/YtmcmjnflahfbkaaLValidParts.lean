/- The walk of lapidarylaw17.ValidParts. Condition: what came in is of bulk at most 1048576. -/
import Derived.Test.YtmcmjnflahfbkaaVBulk
namespace Go.Proofs.Ytmcmjnflahfbkaa
set_option linter.unusedVariables false
set_option linter.unusedSimpArgs false
open Go.RowKit Go.Maps

/-- One of a list, as a list. -/
theorem RdT.one {w : World} {S : Nat → Prop} {A : Option Addr} {ts : List Txn} {k : Nat} (h : RdT w S A ts) (hk : k < ts.length) :
    ∃ g o, A = some ⟨g, o, none⟩ ∧ RdT w S (some ⟨g, o + k * 4, none⟩) [ts[k]] := by
  obtain ⟨g, o, Ar, cr, Aw, cw, hA, hS, hc, ht⟩ := h.atC hk
  exact ⟨g, o, hA, _, ⟨rfl, by simp, fun _ => ⟨_, rfl, hS, hc⟩⟩, _, [], by simp, ht, rfl⟩
theorem clashes_app (a b : List Txn) (t : Txn) (p : Int → Bool) : clashes (a ++ b) t p = clashes a t p ++ clashes b t p := by
  unfold clashes; rw [List.filter_append, List.flatMap_append]
theorem check_app (a b : List Txn) (t : Txn) : checkM (a ++ b) t = omin (checkM a t) (checkM b t) := by
  unfold checkM; rw [clashes_app, minL_append]

set_option maxHeartbeats 4000000 in
theorem law_ValidParts (W : World) (a0 : Option Addr) (cap0 : Nat) (ts : List Txn) (h0 : RdT W (fun b => b < W.heap.size) a0 ts) (ok0 : ∀ d ∈ ts, TxnOk d) (hcap : ts.length ≤ cap0) (hmax : cap0 ≤ maxLen)
    (cs : List Value) (t : Txn) (h1 : TxnC W (fun b => b < W.heap.size) cs t) (ok1 : TxnOk t) (hbulk : bulkT ts + (t.reads.length + t.writes.length) ≤ 1048576) :
    Calls Try.prog 5 #[.slice a0 ts.length cap0, .agg cs.toArray] W fun e w' => e = .returned (.bool true) ∧ Fr No W w' := by
  have hle := h0.le
  have hbl := bulkT_len ts
  have htc := h1
  obtain ⟨Ar, cr, Aw, cw, rfl, hr, hw⟩ := h1
  have OK0 := Lib.hid ok0
  have OK1 := Lib.hid ok1
  have HB := Lib.hid hbulk
  have hlm : ts.length ≤ 1048576 := by omega
  have HR := Lib.hid (room_of ok0 ok1 hbulk)
  have HLT := Lib.hid (fun b (hb : b < W.heap.size) => hb)
  clear ok0 ok1 hbulk hbl
  by_cases h200 : 200 < ts.length
  · have e0 : decide ((200 : Int) < ts.length) = true := by simpa using (by omega : (200 : Int) < ts.length)
    go_enter Try.func5, Try.ntmps5
    go_wp2_with fail
    refine (known_calls _).mono ?_
    rintro e w2 ⟨rfl, hf2⟩
    go_wp2
    go_ret
    exact ⟨rfl, ((Fr.refl No W).alloc _).tr hf2⟩
  have e0 : decide ((200 : Int) < ts.length) = false := by simpa using (by omega : ¬ (200 : Int) < ts.length)
  go_enter Try.func5, Try.ntmps5
  go_wp2_with fail
  have hX : Fr No W (W.alloc (.cells #[.int .i64 t.base, .int .i64 t.commit, .slice Ar t.reads.length cr, .slice Aw t.writes.length cw] 25)) := (Fr.refl No W).alloc _
  have hbX := Blk.new W 25 #[.int .i64 t.base, .int .i64 t.commit, .slice Ar t.reads.length cr, .slice Aw t.writes.length cw]
  have hXd := hX.drew
  (refine T_begin No [0, 2, 1, 3, 4, 5, 6, 7, 8, 9] [1, 3, 4] (by kernel_rfl) (by kernel_rfl) ?_; simp only [pickOps, List.filterMap_cons, List.filterMap_nil, List.getElem?_cons_zero, List.getElem?_cons_succ, Act.put])
  repeat (first | (refine T_skip (by rfl) (by rfl) (fun _ _ _ h => h) ?_; try simp only [Act.put, List.setIfInBounds_toArray, List.set_cons_zero, List.set_cons_succ]) | (refine T_pass (by rfl) (by rfl) ?_; try simp only [Act.put, List.setIfInBounds_toArray, List.set_cons_zero, List.set_cons_succ]) | (refine T_load (by assumption) (by rfl) (by rfl) (fun _ _ _ _ h => h) rfl rfl (by assumption) (fun hn => hn) ?_; try simp only [Act.put, List.setIfInBounds_toArray, List.set_cons_zero, List.set_cons_succ]) | (refine T_quiet (by rfl) (by rfl) (by rfl) (fun _ _ _ _ h => h) (fun K hK => ?_); go_big_quiet_op; refine hK _ ?_; clear hK K) | (refine T_two (by rfl) (by rfl) (by rfl) (by rfl) (fun _ _ _ _ h => h) (fun K hK => ?_); go_big_quiet_op; refine ⟨_, fun _ _ => rfl, ?_⟩; refine hK _ ?_; clear hK K; try simp only [Act.put, List.setIfInBounds_toArray, List.set_cons_zero, List.set_cons_succ]) | fail)
  refine T_loadA ag_txn (by rfl) (by rfl) (fun _ _ _ _ h => h) rfl rfl rfl (show ∀ j u, _ → (W.alloc (.cells #[.int .i64 t.base, .int .i64 t.commit, .slice Ar t.reads.length cr, .slice Aw t.writes.length cw] 25)).cell? _ = some u from Blk.all hbX) (fun hn => hn) ?_
  try simp only [Act.put, List.setIfInBounds_toArray, List.set_cons_zero, List.set_cons_succ]
  (refine T_call (by rfl) (by rfl) (fun K hK => ?_); go_wp2_with fail)
  refine (given_reads _ a0 cap0 ts _ (h0.fr0 hXd) (fun b hb => Nat.lt_of_lt_of_le hb hXd.size) (by omega) (fun d hd => ⟨by have := (OK0.out d hd).2.2.1; omega, by have := (OK0.out d hd).2.2.2; omega⟩)).mono ?_
  rintro e w2a ⟨A2a, c2a, rfl, _, hgra, hf2a⟩
  (refine hK.out _ _ (hf2a) ?_; clear hK K; try simp only [Act.put, List.setIfInBounds_toArray, List.set_cons_zero, List.set_cons_succ])
  (refine T_call (by rfl) (by rfl) (fun K hK => ?_); go_wp2_with fail)
  refine (one_reads _ [.int .i64 t.base, .int .i64 t.commit, .slice Ar t.reads.length cr, .slice Aw t.writes.length cw] t _ (htc.fr0 (hXd.tr hf2a)) (by have := OK1.out.2.2.1; omega) (by have := OK1.out.2.2.2; omega)).mono ?_
  rintro e w3a ⟨Bra, bra, Bwa, bwa, Ma, rfl, _, _, _, _, htc3a, hf3a⟩
  (refine hK.out _ _ (hf3a) ?_; clear hK K; try simp only [Act.put, List.setIfInBounds_toArray, List.set_cons_zero, List.set_cons_succ])
  (refine T_call (by rfl) (by rfl) (fun K hK => ?_); go_wp2_with fail)
  have hs2a : (W.alloc (.cells #[.int .i64 t.base, .int .i64 t.commit, .slice Ar t.reads.length cr, .slice Aw t.writes.length cw] 25)).drew.heap.size ≤ w2a.heap.size := hf2a.size
  refine (check_calls (fun b => (W.alloc (.cells #[.int .i64 t.base, .int .i64 t.commit, .slice Ar t.reads.length cr, .slice Aw t.writes.length cw] 25)).drew.heap.size ≤ b) A2a c2a ts [.int .i64 t.base, .int .i64 t.commit, .slice Bra t.reads.length bra, .slice Bwa t.writes.length bwa] t _ (hgra.fr0 hf3a) (htc3a.mono (fun b _ hb => Nat.le_trans hs2a hb)) (HR.out ts (fun d hd => hd) (Nat.le_refl _))).mono ?_
  rintro e w4a ⟨rfl, hf4a⟩
  generalize hq : checkM ts t = q
  have HQ := Lib.hid hq
  clear hq
  (refine hK.out _ _ (hf4a) ?_; clear hK K; try simp only [Act.put, List.setIfInBounds_toArray, List.set_cons_zero, List.set_cons_succ])
  repeat (first | (refine T_skip (by rfl) (by rfl) (fun _ _ _ h => h) ?_; try simp only [Act.put, List.setIfInBounds_toArray, List.set_cons_zero, List.set_cons_succ]) | (refine T_pass (by rfl) (by rfl) ?_; try simp only [Act.put, List.setIfInBounds_toArray, List.set_cons_zero, List.set_cons_succ]) | (refine T_load (by assumption) (by rfl) (by rfl) (fun _ _ _ _ h => h) rfl rfl (by assumption) (fun hn => hn) ?_; try simp only [Act.put, List.setIfInBounds_toArray, List.set_cons_zero, List.set_cons_succ]) | (refine T_quiet (by rfl) (by rfl) (by rfl) (fun _ _ _ _ h => h) (fun K hK => ?_); go_big_quiet_op; refine hK _ ?_; clear hK K) | (refine T_two (by rfl) (by rfl) (by rfl) (by rfl) (fun _ _ _ _ h => h) (fun K hK => ?_); go_big_quiet_op; refine ⟨_, fun _ _ => rfl, ?_⟩; refine hK _ ?_; clear hK K; try simp only [Act.put, List.setIfInBounds_toArray, List.set_cons_zero, List.set_cons_succ]) | fail)
  refine T_done ?_
  have hf24a := hf2a.tr (hf3a.tr hf4a)
  have hfA := hXd.tr hf24a
  have hbA := hbX.fr0 ((Fr.refl No _).drew.tr hf24a)
  go_wp2_with fail
  go_loopw [7, 8, 9] (fun b s i wr => ∃ (k : Nat) (o : Option Int), k ≤ ts.length ∧ i = .int .i64 k ∧ b = .int .i64 (iv o) ∧ s = .bool o.isSome ∧ o = checkM (ts.take k) t ∧
      Blk wr W.heap.size 25 #[.int .i64 t.base, .int .i64 t.commit, .slice Ar t.reads.length cr, .slice Aw t.writes.length cw] ∧ Fr No W wr) (fun _ _ i _ => ts.length - (intOf i).toNat)
  case atStart => exact ⟨0, none, by omega, rfl, rfl, rfl, rfl, hbA, hfA⟩
  case round =>
    obtain ⟨k, o, hk, rfl, rfl, rfl, ho, hb, hf⟩ := hrel
    have HO := Lib.hid ho
    clear ho
    by_cases hlt : k < ts.length
    · obtain ⟨g, of, rfl, hone⟩ := (h0.fr0 hf.drew).one hlt
      have htk : ts.take (k + 1) = ts.take k ++ [ts[k]] := by rw [List.take_add_one, List.getElem?_eq_getElem hlt]; rfl
      have HT := Lib.hid htk
      have hdm := List.getElem_mem hlt
      have hok := OK0.out _ hdm
      have hbd := bulkT_mem hdm
      have HRd := Lib.hid (HR.out [ts[k]] (fun d hd => by obtain rfl := List.mem_singleton.1 hd; exact hdm) (by rw [bulkT_one]; exact hbd))
      clear htk hdm hbd
      have HOk := Lib.hid hok
      clear hok
      generalize ts[k] = d at *
      have ek : decide ((k : Int) < ts.length) = true := by simpa using (by omega : (k : Int) < ts.length)
      have hkc : ¬ cap0 = k := by omega
      have hkc1 : k + 1 ≤ cap0 := by omega
      have hfd := hf.drew
      go_wp2_with fail
      (refine T_begin No [0, 1, 2, 3, 4, 6, 5, 7, 8, 9, 10, 11, 12, 13] [5, 7, 8] (by kernel_rfl) (by kernel_rfl) ?_; simp only [pickOps, List.filterMap_cons, List.filterMap_nil, List.getElem?_cons_zero, List.getElem?_cons_succ, Act.put])
      repeat (first | (refine T_skip (by rfl) (by rfl) (fun _ _ _ h => h) ?_; try simp only [Act.put, List.setIfInBounds_toArray, List.set_cons_zero, List.set_cons_succ]) | (refine T_pass (by rfl) (by rfl) ?_; try simp only [Act.put, List.setIfInBounds_toArray, List.set_cons_zero, List.set_cons_succ]) | (refine T_load (by assumption) (by rfl) (by rfl) (fun _ _ _ _ h => h) rfl rfl (by assumption) (fun hn => hn) ?_; try simp only [Act.put, List.setIfInBounds_toArray, List.set_cons_zero, List.set_cons_succ]) | (refine T_quiet (by rfl) (by rfl) (by rfl) (fun _ _ _ _ h => h) (fun K hK => ?_); go_big_quiet_op; refine hK _ ?_; clear hK K) | (refine T_two (by rfl) (by rfl) (by rfl) (by rfl) (fun _ _ _ _ h => h) (fun K hK => ?_); go_big_quiet_op; refine ⟨_, fun _ _ => rfl, ?_⟩; refine hK _ ?_; clear hK K; try simp only [Act.put, List.setIfInBounds_toArray, List.set_cons_zero, List.set_cons_succ]) | fail)
      refine T_loadA ag_txn (by rfl) (by rfl) (fun _ _ _ _ h => h) rfl rfl rfl (show ∀ j u, _ → (wr).cell? _ = some u from Blk.all hb) (fun hn => hn) ?_
      try simp only [Act.put, List.setIfInBounds_toArray, List.set_cons_zero, List.set_cons_succ]
      (refine T_call (by rfl) (by rfl) (fun K hK => ?_); go_wp2_with fail)
      refine (given_reads _ (some ⟨g, of + k * 4, none⟩) (cap0 - k) [d] _ hone (fun b hb => Nat.lt_of_lt_of_le hb hfd.size) (by simp) (fun x hx => by obtain rfl := List.mem_singleton.1 hx; exact ⟨by have := HOk.out.2.2.1; omega, by have := HOk.out.2.2.2; omega⟩)).mono ?_
      rintro e w2b ⟨A2b, c2b, rfl, _, hgrb, hf2b⟩
      (refine hK.out _ _ (hf2b) ?_; clear hK K; try simp only [Act.put, List.setIfInBounds_toArray, List.set_cons_zero, List.set_cons_succ])
      (refine T_call (by rfl) (by rfl) (fun K hK => ?_); go_wp2_with fail)
      refine (one_reads _ [.int .i64 t.base, .int .i64 t.commit, .slice Ar t.reads.length cr, .slice Aw t.writes.length cw] t _ (htc.fr0 (hfd.tr hf2b)) (by have := OK1.out.2.2.1; omega) (by have := OK1.out.2.2.2; omega)).mono ?_
      rintro e w3b ⟨Brb, brb, Bwb, bwb, Mb, rfl, _, _, _, _, htc3b, hf3b⟩
      (refine hK.out _ _ (hf3b) ?_; clear hK K; try simp only [Act.put, List.setIfInBounds_toArray, List.set_cons_zero, List.set_cons_succ])
      (refine T_call (by rfl) (by rfl) (fun K hK => ?_); go_wp2_with fail)
      have hs2b : (wr).drew.heap.size ≤ w2b.heap.size := hf2b.size
      refine (check_calls (fun b => (wr).drew.heap.size ≤ b) A2b c2b [d] [.int .i64 t.base, .int .i64 t.commit, .slice Brb t.reads.length brb, .slice Bwb t.writes.length bwb] t _ (hgrb.fr0 hf3b) (htc3b.mono (fun b _ hb => Nat.le_trans hs2b hb)) HRd.out).mono ?_
      rintro e w4b ⟨rfl, hf4b⟩
      generalize hq2 : checkM [d] t = r
      have HQ2 := Lib.hid hq2
      clear hq2
      (refine hK.out _ _ (hf4b) ?_; clear hK K; try simp only [Act.put, List.setIfInBounds_toArray, List.set_cons_zero, List.set_cons_succ])
      repeat (first | (refine T_skip (by rfl) (by rfl) (fun _ _ _ h => h) ?_; try simp only [Act.put, List.setIfInBounds_toArray, List.set_cons_zero, List.set_cons_succ]) | (refine T_pass (by rfl) (by rfl) ?_; try simp only [Act.put, List.setIfInBounds_toArray, List.set_cons_zero, List.set_cons_succ]) | (refine T_load (by assumption) (by rfl) (by rfl) (fun _ _ _ _ h => h) rfl rfl (by assumption) (fun hn => hn) ?_; try simp only [Act.put, List.setIfInBounds_toArray, List.set_cons_zero, List.set_cons_succ]) | (refine T_quiet (by rfl) (by rfl) (by rfl) (fun _ _ _ _ h => h) (fun K hK => ?_); go_big_quiet_op; refine hK _ ?_; clear hK K) | (refine T_two (by rfl) (by rfl) (by rfl) (by rfl) (fun _ _ _ _ h => h) (fun K hK => ?_); go_big_quiet_op; refine ⟨_, fun _ _ => rfl, ?_⟩; refine hK _ ?_; clear hK K; try simp only [Act.put, List.setIfInBounds_toArray, List.set_cons_zero, List.set_cons_succ]) | fail)
      refine T_done ?_
      have hf24b := hf2b.tr (hf3b.tr hf4b)
      have hfB := hfd.tr hf24b
      have hbB := hb.fr0 ((Fr.refl No wr).drew.tr hf24b)
      have HN := Lib.hid (show omin o r = checkM (ts.take (k + 1)) t by rw [HT.out, check_app, ← HO.out, HQ2.out])
      rcases r with _ | x
      · simp only [iv_none, errOf_none, Option.isSome_none]
        go_wp2
        go_roundw
        case rel => exact ⟨k + 1, o, by omega, by go_num, rfl, rfl, by rw [← HN.out, omin_none], hbB, hfB⟩
        case measure => simp [intOf]; omega
      · simp only [iv_some, errOf_some, Option.isSome_some]
        rcases o with _ | y
        · simp only [iv_none, Option.isSome_none]
          go_wp2
          go_roundw
          case rel => exact ⟨k + 1, some x, by omega, by go_num, rfl, rfl, by rw [← HN.out]; rfl, hbB, hfB⟩
          case measure => simp [intOf]; omega
        · simp only [iv_some, Option.isSome_some]
          by_cases hxy : x < y
          · have e9 : decide (x < y) = true := by simpa using hxy
            have HMin := Lib.hid (show min y x = x by omega)
            clear hxy
            go_wp2
            go_roundw
            case rel => exact ⟨k + 1, some x, by omega, by go_num, rfl, rfl, by rw [← HN.out]; simp [omin, HMin.out], hbB, hfB⟩
            case measure => simp [intOf]; omega
          · have e9 : decide (x < y) = false := by simpa using hxy
            have HMin := Lib.hid (show min y x = y by omega)
            clear hxy
            go_wp2
            go_roundw
            case rel => exact ⟨k + 1, some y, by omega, by go_num, rfl, rfl, by rw [← HN.out]; simp [omin, HMin.out], hbB, hfB⟩
            case measure => simp [intOf]; omega
    · obtain rfl : k = ts.length := by omega
      have ho := HO.out
      rw [List.take_length, HQ.out] at ho
      subst ho
      have ek : decide ((ts.length : Int) < ts.length) = false := by simp
      rcases o with _ | x
      · simp only [iv_none, errOf_none, Option.isSome_none]
        go_wp2_with fail
        refine (known_calls _).mono ?_
        rintro e w5 ⟨rfl, hf5⟩
        go_wp2
        go_ret
        exact ⟨rfl, hf.tr hf5⟩
      · simp only [iv_some, errOf_some, Option.isSome_some]
        go_wp2_with fail
        refine (known_calls _).mono ?_
        rintro e w5 ⟨rfl, hf5⟩
        go_wp2
        go_ret
        exact ⟨rfl, hf.tr hf5⟩
end Go.Proofs.Ytmcmjnflahfbkaa
