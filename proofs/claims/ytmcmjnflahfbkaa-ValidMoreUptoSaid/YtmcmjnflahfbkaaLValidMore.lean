/- The walk of lapidarylaw17.ValidMore. Condition: what came in is of bulk at most 1048576. -/
import Derived.Test.YtmcmjnflahfbkaaVMore
namespace Go.Proofs.Ytmcmjnflahfbkaa
set_option linter.unusedVariables false
set_option linter.unusedSimpArgs false
open Go.RowKit Go.Maps

set_option maxHeartbeats 4000000 in
theorem law_ValidMore (W : World) (a0 : Option Addr) (cap0 : Nat) (ts : List Txn) (h0 : RdT W (fun b => b < W.heap.size) a0 ts) (ok0 : ∀ d ∈ ts, TxnOk d) (hcap : ts.length ≤ cap0) (hmax : cap0 ≤ maxLen)
    (a1 : Option Addr) (cap1 : Nat) (us : List Txn) (h1 : RdT W (fun b => b < W.heap.size) a1 us) (okU : ∀ d ∈ us, TxnOk d) (hcap1 : us.length ≤ cap1) (hmax1 : cap1 ≤ maxLen)
    (cs : List Value) (t : Txn) (h2 : TxnC W (fun b => b < W.heap.size) cs t) (ok1 : TxnOk t)
    (a3 : Option Addr) (cap3 : Nat) (rl : List Int) (h3 : RdI W (fun b => b < W.heap.size) a3 rl) (wf3 : Wf rl) (h38 : rl.length * 8 ≤ 140737488351232)
    (at_ : Int) (wat : (Lit.int .i64 at_).wf = true) (hbulk : bulkT ts + bulkT us + (t.reads.length + t.writes.length) + rl.length ≤ 1048576) :
    Calls Try.prog 4 #[.slice a0 ts.length cap0, .slice a1 us.length cap1, .agg cs.toArray, .slice a3 rl.length cap3, .int .i64 at_] W fun e w' => e = .returned (.bool true) ∧ Fr No W w' := by
  have hle := h0.le
  have hbl := bulkT_len ts
  have hblu := bulkT_len us
  have htc := h2
  obtain ⟨Ar, cr, Aw, cw, rfl, hr, hw⟩ := h2
  have OK0 := Lib.hid ok0
  have OKU := Lib.hid okU
  have OK1 := Lib.hid ok1
  have HB := Lib.hid hbulk
  have hlm : ts.length ≤ 1048576 := by omega
  have hlu : us.length ≤ 1048576 := by omega
  have hlr : rl.length ≤ 1048576 := by omega
  have HR := Lib.hid (room_of (n := bulkT us + (t.reads.length + t.writes.length) + rl.length) ok0 ok1 (by omega))
  have hat : -9223372036854775808 ≤ at_ ∧ at_ ≤ 9223372036854775807 := by simpa [Lit.wf, IntKind.min, IntKind.max, IntKind.signed, IntKind.bits] using wat
  clear ok0 okU hbulk hbl hblu
  go_enter Try.func4, Try.ntmps4
  go_wp2_with fail
  have hX : Fr No W (W.alloc (.cells #[.int .i64 t.base, .int .i64 t.commit, .slice Ar t.reads.length cr, .slice Aw t.writes.length cw] 25)) := (Fr.refl No W).alloc _
  have hbX := Blk.new W 25 #[.int .i64 t.base, .int .i64 t.commit, .slice Ar t.reads.length cr, .slice Aw t.writes.length cw]
  have hXd := hX.drew
  (refine T_begin No [0, 2, 1, 3, 4, 5, 6, 7, 8, 9] [1, 3, 4] (by kernel_rfl) (by kernel_rfl) ?_; simp only [pickOps, List.filterMap_cons, List.filterMap_nil, List.getElem?_cons_zero, List.getElem?_cons_succ, Act.put])
  repeat (first | (refine T_skip (by rfl) (by rfl) (fun _ _ _ h => h) ?_; try simp only [Act.put, List.setIfInBounds_toArray, List.set_cons_zero, List.set_cons_succ]) | (refine T_pass (by rfl) (by rfl) ?_; try simp only [Act.put, List.setIfInBounds_toArray, List.set_cons_zero, List.set_cons_succ]) | (refine T_load (by assumption) (by rfl) (by rfl) (fun _ _ _ _ h => h) rfl rfl (by assumption) (fun hn => hn) ?_; try simp only [Act.put, List.setIfInBounds_toArray, List.set_cons_zero, List.set_cons_succ]) | (refine T_quiet (by rfl) (by rfl) (by rfl) (fun _ _ _ _ h => h) (fun K hK => ?_); go_big_quiet_op; refine hK _ ?_; clear hK K) | (refine T_two (by rfl) (by rfl) (by rfl) (by rfl) (fun _ _ _ _ h => h) (fun K hK => ?_); go_big_quiet_op; refine ⟨_, fun _ _ => rfl, ?_⟩; refine hK _ ?_; clear hK K; try simp only [Act.put, List.setIfInBounds_toArray, List.set_cons_zero, List.set_cons_succ]) | fail)
  refine T_loadA ag_txn (by rfl) (by rfl) (fun _ _ _ _ h => h) rfl rfl rfl (show ∀ j u, _ → (W.alloc (.cells #[.int .i64 t.base, .int .i64 t.commit, .slice Ar t.reads.length cr, .slice Aw t.writes.length cw] 25)).cell? _ = some u from Blk.all hbX) (fun hn => hn) ?_
  try simp only [Act.put, List.setIfInBounds_toArray, List.set_cons_zero, List.set_cons_succ]
  (refine T_call (by rfl) (by rfl) (fun K hK => ?_); go_wp2_with fail)
  refine (given_reads _ a0 cap0 ts _ (h0.fr0 hXd) (fun b hb => Nat.lt_of_lt_of_le hb hXd.size) (by omega) (fun d hd => ⟨by have := (OK0.out d hd).2.2.1; omega, by have := (OK0.out d hd).2.2.2; omega⟩)).mono ?_
  rintro e w2a ⟨A2a, c2a, rfl, _, hgra, hf2a⟩
  (refine hK.out _ _ (hf2a) ?_; clear hK K; try simp only [Act.put, List.setIfInBounds_toArray, List.set_cons_zero, List.set_cons_succ])
  (refine T_call (by rfl) (by rfl) (fun K hK => ?_); go_wp2_with fail)
  refine (one_reads _ [.int .i64 t.base, .int .i64 t.commit, .slice Ar t.reads.length cr, .slice Aw t.writes.length cw] t _ (htc.fr0 (hXd.tr hf2a)) (by have := OK1.out.2.2.1; omega) (by have := OK1.out.2.2.2; omega)).mono ?_
  rintro e w3a ⟨Bra, bra, Bwa, bwa, Ma, rfl, _, _, _, _, htc3a, hf3a⟩
  (refine hK.out _ _ (hf3a) ?_; clear hK K; try simp only [Act.put, List.setIfInBounds_toArray, List.set_cons_zero, List.set_cons_succ])
  (refine T_call (by rfl) (by rfl) (fun K hK => ?_); go_wp2_with fail)
  have hs2a : (W.alloc (.cells #[.int .i64 t.base, .int .i64 t.commit, .slice Ar t.reads.length cr, .slice Aw t.writes.length cw] 25)).drew.heap.size ≤ w2a.heap.size := hf2a.size
  refine (check_calls (fun b => (W.alloc (.cells #[.int .i64 t.base, .int .i64 t.commit, .slice Ar t.reads.length cr, .slice Aw t.writes.length cw] 25)).drew.heap.size ≤ b) A2a c2a ts [.int .i64 t.base, .int .i64 t.commit, .slice Bra t.reads.length bra, .slice Bwa t.writes.length bwa] t _ (hgra.fr0 hf3a) (htc3a.mono (fun b _ hb => Nat.le_trans hs2a hb)) (HR.out ts (fun d hd => hd) (Nat.le_refl _))).mono ?_
  rintro e w4a ⟨rfl, hf4a⟩
  generalize hq : checkM ts t = q
  have HQ := Lib.hid hq
  clear hq
  (refine hK.out _ _ (hf4a) ?_; clear hK K; try simp only [Act.put, List.setIfInBounds_toArray, List.set_cons_zero, List.set_cons_succ])
  repeat (first | (refine T_skip (by rfl) (by rfl) (fun _ _ _ h => h) ?_; try simp only [Act.put, List.setIfInBounds_toArray, List.set_cons_zero, List.set_cons_succ]) | (refine T_pass (by rfl) (by rfl) ?_; try simp only [Act.put, List.setIfInBounds_toArray, List.set_cons_zero, List.set_cons_succ]) | (refine T_load (by assumption) (by rfl) (by rfl) (fun _ _ _ _ h => h) rfl rfl (by assumption) (fun hn => hn) ?_; try simp only [Act.put, List.setIfInBounds_toArray, List.set_cons_zero, List.set_cons_succ]) | (refine T_quiet (by rfl) (by rfl) (by rfl) (fun _ _ _ _ h => h) (fun K hK => ?_); go_big_quiet_op; refine hK _ ?_; clear hK K) | (refine T_two (by rfl) (by rfl) (by rfl) (by rfl) (fun _ _ _ _ h => h) (fun K hK => ?_); go_big_quiet_op; refine ⟨_, fun _ _ => rfl, ?_⟩; refine hK _ ?_; clear hK K; try simp only [Act.put, List.setIfInBounds_toArray, List.set_cons_zero, List.set_cons_succ]) | fail)
  refine T_done ?_
  have hf24a := hf2a.tr (hf3a.tr hf4a)
  have hfA := hXd.tr hf24a
  have hbA := hbX.fr0 ((Fr.refl No _).drew.tr hf24a)
  rcases q with _ | n
  · simp only [iv_none, errOf_none]
    go_wp2_with fail
    refine (known_calls _).mono ?_
    rintro e w5 ⟨rfl, hf5⟩
    go_wp2
    go_ret
    exact ⟨rfl, hfA.tr hf5⟩
  · simp only [iv_some, errOf_some]
    go_wp2_with fail
    refine (count_calls at_ (ts.length + 1) _ hat.1 hat.2 (by omega) (by omega)).mono ?_
    rintro e _ ⟨rfl, rfl⟩
    obtain ⟨r1, r2⟩ := countZ_range at_ (ts.length + 1) (by omega)
    obtain ⟨k, hp⟩ := Int.eq_ofNat_of_zero_le r1
    rw [hp] at r2 ⊢
    clear r1 hp
    have hk : k ≤ ts.length := by omega
    obtain ⟨xs, hrd, hxs⟩ := h0.fr0 hfA
    obtain ⟨ys, hrdu, hys⟩ := h1.fr0 hfA
    obtain ⟨hx1, hx2⟩ := hxs.cut k hk
    have hrt := Rd.take hrd hk
    have hrc := Rd.cut hrd (cap := cap0) hk hcap
    have hkc : k ≤ cap0 := by omega
    have hn0 : 0 + k = (ts.take k).length := by rw [List.length_take]; omega
    have HM := Lib.hid (check_more (us := us) (reads := rl) (k := k) HQ.out)
    have HNL := Lib.hid (show k + us.length + (ts.length - k) = (ts.take k ++ us ++ ts.drop k).length by simp; omega)
    have HBT := Lib.hid (show bulkT (ts.take k ++ us ++ ts.drop k) = bulkT ts + bulkT us by
      have := congrArg bulkT (List.take_append_drop k ts)
      rw [bulkT_app] at this
      rw [bulkT_app, bulkT_app]; omega)
    by_cases hck : cap0 = k
    · rw [if_pos hck] at hrc
      go_wp2_with (first
  | (at_builtin; refine wpList_app so_rtxn (World.ownsRow_nil w4a w4a.heap.size _ _) hrt (hx1.one) (by omega) (Nat.le_refl _) rfl rfl rfl rfl ?_; intro v5 w5 hown5 hg5 hat5; have hf5 : Fr No w4a w5 := (Fr.refl No w4a).grown hg5 (by simp [Value.ownBlock]))
  | (at_builtin; refine wpList_app so_rtxn hown5 (Rd.fr0 hrdu hf5) (hys.one) (by omega) hf5.size rfl rfl rfl rfl ?_; intro v6 w6 hown6 hg6 hat6; have hf6 : Fr No w4a w6 := hf5.grown hg6 (fun b hb => .inl (hown5.lt b hb).1))
  | (at_builtin; refine wpList_app so_rtxn hown6 (Rd.fr0 hrc hf6) (hx2.one) (by omega) hf6.size rfl rfl rfl rfl ?_; intro v7 w7 hown7 hg7 hat7; have hf7 : Fr No w4a w7 := hf6.grown hg7 (fun b hb => .inl (hown6.lt b hb).1); rw [show 0 + k + us.length + (ts.length - k) = (ts.take k ++ us ++ ts.drop k).length by rw [← HNL.out, Nat.zero_add]] at hown7; obtain ⟨A7, c7, rfl, hc7, hc7m, hA7⟩ := own_form hown7)
  | (refine wpList_ldA ag_txn rfl _ rfl ⟨W.heap.size, 0, none⟩ [.int .i64 t.base, .int .i64 t.commit, .slice Ar t.reads.length cr, .slice Aw t.writes.length cw] rfl rfl (Blk.all (hbA.fr0 hf7)) ?_)
  | fail)
      have hfB := hfA.tr hf7
      have hall : RdT w7 (fun b => b < w7.heap.size) A7 (ts.take k ++ us ++ ts.drop k) := by
        refine ⟨_, (own_rd hown7 (by rw [← HNL.out]; omega)).mono (fun b hb _ => hb) (by decide), ?_⟩
        have hs7 := hfB.size
        exact TxnsC.mono (fun b hb _ => hb) (TxnsC.keep hf7 (fun _ _ hn => hn) ((hx1.append hys).append hx2))
      refine (one_reads _ [.int .i64 t.base, .int .i64 t.commit, .slice Ar t.reads.length cr, .slice Aw t.writes.length cw] t _ (htc.fr0 hfB) (by have := OK1.out.2.2.1; omega) (by have := OK1.out.2.2.2; omega)).mono ?_
      rintro e w8 ⟨Cr, kr, Cw, kw, M8, rfl, ⟨hM8, hM8'⟩, hown8r, hlt8, hown8w, _, hf8⟩
      have hfD := hfB.tr hf8
      have hs7 := hf7.size
      have hs8 := hf8.size
      have hsm : t.reads.length + t.writes.length + rl.length ≤ 1048576 := by have := HB.out; omega
      have hn9 : (t.reads.length + rl.length) * 8 ≤ 140737488355328 := by omega
      have hn10 : (t.writes.length + rl.length) * 8 ≤ 211106232532992 := by omega
      have hB9 : w7.heap.size ≤ (w8.alloc (.cells (vX t Cr t.reads.length kr Cw t.writes.length kw) 32)).heap.size := by simp; omega
      have hr9 : RdI (w8.alloc (.cells (vX t Cr t.reads.length kr Cw t.writes.length kw) 32)) _ a3 rl := Rd.fr0 h3 (hfD.alloc _)
      go_wp2_with (first
  | (at_builtin; refine wpList_app_at so_i64 (own_fr0 hown8r ((Fr.refl No w8).alloc _)) hr9 (I64_one _) hn9 hB9 rfl rfl rfl rfl ?_; intro v9 w9 hown9 hg9 hat9; obtain ⟨A9, c9, rfl, hown9, hlt9, hb9, q92, q93, z92, z93, hf9, hs9, hown9w⟩ := more9 hown8r hown8w hlt8 hM8 hM8' hown9 hg9 hat9; have hr10 : RdI (w9.setCell ⟨w8.heap.size, 2, none⟩ (.slice A9 (t.reads.length + rl.length) c9)) _ a3 rl := Rd.fr0 h3 ((hfD.trans hf9 (fun b hb hT => by have := hfB.size; omega)).set (.inl hfD.size) _); have hB10 : M8 ≤ (w9.setCell ⟨w8.heap.size, 2, none⟩ (.slice A9 (t.reads.length + rl.length) c9)).heap.size := Nat.le_trans hM8' (Nat.le_trans (Nat.le_of_lt hs9) ((Fr.refl (fun _ => True) w9).set (.inr trivial) _).size))
  | (at_builtin; refine wpList_app so_i64 hown9w hr10 (I64_one _) hn10 hB10 rfl rfl rfl rfl ?_; intro v10 w10 hown10 hg10 hat10; obtain ⟨A10, c10, rfl, q103, z103, hb11, htc11, hf11⟩ := more10 hown9 hlt9 hb9 hM8 hM8' hf9 hown8w hsm hown10 hg10)
  | fail)
      have hf7c : Fr (fun b => w7.heap.size ≤ b) w7 (w10.setCell ⟨w8.heap.size, 3, none⟩ (.slice A10 (t.writes.length + rl.length) c10)) := (hf8.mono (fun _ _ hn => hn.elim)).trans hf11 (fun _ _ hT => hT)
      have hfE : Fr No W (w10.setCell ⟨w8.heap.size, 3, none⟩ (.slice A10 (t.writes.length + rl.length) c10)) := hfB.trans hf7c (fun b hb hT => by have := hfB.size; omega)
      have hs11 := hf7c.size
      have hall11 := hall.fr hf7c (fun b hb hT => by omega)
      clear hf7c hf11
      have hN := HNL.out
      have hlen : (ts.take k ++ us ++ ts.drop k).length = k + (us.length + (ts.length - k)) := by rw [← hN]; omega
      have hgiv := given_reads _ A7 c7 _ _ (RdT.fr0 hall11 ((Fr.refl No _).drew)) (fun b hb => Nat.lt_of_lt_of_le hb hs11) (by rw [hlen]; omega) (fun d hd => by
        have hd' : TxnOk d := by
          simp only [List.mem_append] at hd
          rcases hd with (hd | hd) | hd
          · exact OK0.out d (List.mem_of_mem_take hd)
          · exact OKU.out d hd
          · exact OK0.out d (List.mem_of_mem_drop hd)
        exact ⟨by have := hd'.2.2.1; omega, by have := hd'.2.2.2; omega⟩)
      have hroomU : Room (ts.take k ++ us ++ ts.drop k) ⟨t.base, t.commit, t.reads ++ rl, t.writes ++ rl⟩ (sinceP t.base) := by
        refine room_any (fun d hd => ?_) ⟨?_, ?_, ?_, ?_⟩ (by have := HBT.out; have := HB.out; omega)
        · simp only [List.mem_append] at hd
          rcases hd with (hd | hd) | hd
          · exact OK0.out d (List.mem_of_mem_take hd)
          · exact OKU.out d hd
          · exact OK0.out d (List.mem_of_mem_drop hd)
        · intro x hx; rcases List.mem_append.1 hx with hx | hx; exact OK1.out.1 x hx; exact wf3 x hx
        · intro x hx; rcases List.mem_append.1 hx with hx | hx; exact OK1.out.2.1 x hx; exact wf3 x hx
        · rw [List.length_append]; omega
        · rw [List.length_append]; omega
      obtain ⟨m, hm1, hm2⟩ := HM.out
      have hcheck := fun (A12 : Option Addr) (c12 : Nat) (w12 : World) (h12 : RdT w12 (fun b => w7.heap.size ≤ b) A12 (ts.take k ++ us ++ ts.drop k)) (h13 : TxnC w12 (fun b => w7.heap.size ≤ b) (vX t A9 (t.reads.length + rl.length) c9 A10 (t.writes.length + rl.length) c10).toList ⟨t.base, t.commit, t.reads ++ rl, t.writes ++ rl⟩) => check_calls (fun b => w7.heap.size ≤ b) A12 c12 _ _ _ w12 h12 h13 hroomU
      rw [hlen] at hgiv
      simp only [hlen, hm1] at hcheck
      have HG := hgiv
      have e13 : decide (m ≤ n) = true := by simpa using hm2
      generalize ts.take k ++ us ++ ts.drop k = ALL at *
      clear hlen hN hm1 HM HNL HBT
      generalize hw11 : w10.setCell ⟨w8.heap.size, 3, none⟩ (.slice A10 (t.writes.length + rl.length) c10) = w11 at *
      (refine T_begin No [0, 2, 1, 3, 4, 5, 6, 7, 8] [1, 3] (by kernel_rfl) (by kernel_rfl) ?_; simp only [pickOps, List.filterMap_cons, List.filterMap_nil, List.getElem?_cons_zero, List.getElem?_cons_succ, Act.put])
      repeat (first | (refine T_skip (by rfl) (by rfl) (fun _ _ _ h => h) ?_; try simp only [Act.put, List.setIfInBounds_toArray, List.set_cons_zero, List.set_cons_succ]) | (refine T_pass (by rfl) (by rfl) ?_; try simp only [Act.put, List.setIfInBounds_toArray, List.set_cons_zero, List.set_cons_succ]) | (refine T_load (by assumption) (by rfl) (by rfl) (fun _ _ _ _ h => h) rfl rfl (by assumption) (fun hn => hn) ?_; try simp only [Act.put, List.setIfInBounds_toArray, List.set_cons_zero, List.set_cons_succ]) | (refine T_quiet (by rfl) (by rfl) (by rfl) (fun _ _ _ _ h => h) (fun K hK => ?_); go_big_quiet_op; refine hK _ ?_; clear hK K) | (refine T_two (by rfl) (by rfl) (by rfl) (by rfl) (fun _ _ _ _ h => h) (fun K hK => ?_); go_big_quiet_op; refine ⟨_, fun _ _ => rfl, ?_⟩; refine hK _ ?_; clear hK K; try simp only [Act.put, List.setIfInBounds_toArray, List.set_cons_zero, List.set_cons_succ]) | fail)
      refine T_loadA ag_vtxn (by rfl) (by rfl) (fun _ _ _ _ h => h) rfl rfl rfl (show ∀ j u, _ → w11.cell? _ = some u from Blk.all hb11) (fun hn => hn) ?_
      try simp only [Act.put, List.setIfInBounds_toArray, List.set_cons_zero, List.set_cons_succ]
      (refine T_call (by rfl) (by rfl) (fun K hK => ?_); go_wp2_with fail)
      refine hgiv.mono ?_
      rintro e w12 ⟨A12, c12, rfl, _, hgr12, hf12⟩
      (refine hK.out _ _ (hf12) ?_; clear hK K; try simp only [Act.put, List.setIfInBounds_toArray, List.set_cons_zero, List.set_cons_succ])
      (refine T_call (by rfl) (by rfl) (fun K hK => ?_); go_wp2_with fail)
      refine (hcheck A12 c12 _ (hgr12.mono (fun b _ hb => Nat.le_trans hs11 hb)) (htc11.fr0 ((Fr.refl No w11).drew.tr hf12))).mono ?_
      rintro e w13 ⟨rfl, hf13⟩
      simp only [iv_some, errOf_some]
      (refine hK.out _ _ (hf13) ?_; clear hK K; try simp only [Act.put, List.setIfInBounds_toArray, List.set_cons_zero, List.set_cons_succ])
      repeat (first | (refine T_skip (by rfl) (by rfl) (fun _ _ _ h => h) ?_; try simp only [Act.put, List.setIfInBounds_toArray, List.set_cons_zero, List.set_cons_succ]) | (refine T_pass (by rfl) (by rfl) ?_; try simp only [Act.put, List.setIfInBounds_toArray, List.set_cons_zero, List.set_cons_succ]) | (refine T_load (by assumption) (by rfl) (by rfl) (fun _ _ _ _ h => h) rfl rfl (by assumption) (fun hn => hn) ?_; try simp only [Act.put, List.setIfInBounds_toArray, List.set_cons_zero, List.set_cons_succ]) | (refine T_quiet (by rfl) (by rfl) (by rfl) (fun _ _ _ _ h => h) (fun K hK => ?_); go_big_quiet_op; refine hK _ ?_; clear hK K) | (refine T_two (by rfl) (by rfl) (by rfl) (by rfl) (fun _ _ _ _ h => h) (fun K hK => ?_); go_big_quiet_op; refine ⟨_, fun _ _ => rfl, ?_⟩; refine hK _ ?_; clear hK K; try simp only [Act.put, List.setIfInBounds_toArray, List.set_cons_zero, List.set_cons_succ]) | fail)
      refine T_done ?_
      have hfF := hfE.drew.tr (hf12.tr hf13)
      go_wp2_with fail
      refine (known_calls _).mono ?_
      rintro e w14 ⟨rfl, hf14⟩
      go_wp2
      go_ret
      exact ⟨rfl, hfF.tr hf14⟩
    · rw [if_neg hck] at hrc
      go_wp2_with (first
  | (at_builtin; refine wpList_app so_rtxn (World.ownsRow_nil w4a w4a.heap.size _ _) hrt (hx1.one) (by omega) (Nat.le_refl _) rfl rfl rfl rfl ?_; intro v5 w5 hown5 hg5 hat5; have hf5 : Fr No w4a w5 := (Fr.refl No w4a).grown hg5 (by simp [Value.ownBlock]))
  | (at_builtin; refine wpList_app so_rtxn hown5 (Rd.fr0 hrdu hf5) (hys.one) (by omega) hf5.size rfl rfl rfl rfl ?_; intro v6 w6 hown6 hg6 hat6; have hf6 : Fr No w4a w6 := hf5.grown hg6 (fun b hb => .inl (hown5.lt b hb).1))
  | (at_builtin; refine wpList_app so_rtxn hown6 (Rd.fr0 hrc hf6) (hx2.one) (by omega) hf6.size rfl rfl rfl rfl ?_; intro v7 w7 hown7 hg7 hat7; have hf7 : Fr No w4a w7 := hf6.grown hg7 (fun b hb => .inl (hown6.lt b hb).1); rw [show 0 + k + us.length + (ts.length - k) = (ts.take k ++ us ++ ts.drop k).length by rw [← HNL.out, Nat.zero_add]] at hown7; obtain ⟨A7, c7, rfl, hc7, hc7m, hA7⟩ := own_form hown7)
  | (refine wpList_ldA ag_txn rfl _ rfl ⟨W.heap.size, 0, none⟩ [.int .i64 t.base, .int .i64 t.commit, .slice Ar t.reads.length cr, .slice Aw t.writes.length cw] rfl rfl (Blk.all (hbA.fr0 hf7)) ?_)
  | fail)
      have hfB := hfA.tr hf7
      have hall : RdT w7 (fun b => b < w7.heap.size) A7 (ts.take k ++ us ++ ts.drop k) := by
        refine ⟨_, (own_rd hown7 (by rw [← HNL.out]; omega)).mono (fun b hb _ => hb) (by decide), ?_⟩
        have hs7 := hfB.size
        exact TxnsC.mono (fun b hb _ => hb) (TxnsC.keep hf7 (fun _ _ hn => hn) ((hx1.append hys).append hx2))
      refine (one_reads _ [.int .i64 t.base, .int .i64 t.commit, .slice Ar t.reads.length cr, .slice Aw t.writes.length cw] t _ (htc.fr0 hfB) (by have := OK1.out.2.2.1; omega) (by have := OK1.out.2.2.2; omega)).mono ?_
      rintro e w8 ⟨Cr, kr, Cw, kw, M8, rfl, ⟨hM8, hM8'⟩, hown8r, hlt8, hown8w, _, hf8⟩
      have hfD := hfB.tr hf8
      have hs7 := hf7.size
      have hs8 := hf8.size
      have hsm : t.reads.length + t.writes.length + rl.length ≤ 1048576 := by have := HB.out; omega
      have hn9 : (t.reads.length + rl.length) * 8 ≤ 140737488355328 := by omega
      have hn10 : (t.writes.length + rl.length) * 8 ≤ 211106232532992 := by omega
      have hB9 : w7.heap.size ≤ (w8.alloc (.cells (vX t Cr t.reads.length kr Cw t.writes.length kw) 32)).heap.size := by simp; omega
      have hr9 : RdI (w8.alloc (.cells (vX t Cr t.reads.length kr Cw t.writes.length kw) 32)) _ a3 rl := Rd.fr0 h3 (hfD.alloc _)
      go_wp2_with (first
  | (at_builtin; refine wpList_app_at so_i64 (own_fr0 hown8r ((Fr.refl No w8).alloc _)) hr9 (I64_one _) hn9 hB9 rfl rfl rfl rfl ?_; intro v9 w9 hown9 hg9 hat9; obtain ⟨A9, c9, rfl, hown9, hlt9, hb9, q92, q93, z92, z93, hf9, hs9, hown9w⟩ := more9 hown8r hown8w hlt8 hM8 hM8' hown9 hg9 hat9; have hr10 : RdI (w9.setCell ⟨w8.heap.size, 2, none⟩ (.slice A9 (t.reads.length + rl.length) c9)) _ a3 rl := Rd.fr0 h3 ((hfD.trans hf9 (fun b hb hT => by have := hfB.size; omega)).set (.inl hfD.size) _); have hB10 : M8 ≤ (w9.setCell ⟨w8.heap.size, 2, none⟩ (.slice A9 (t.reads.length + rl.length) c9)).heap.size := Nat.le_trans hM8' (Nat.le_trans (Nat.le_of_lt hs9) ((Fr.refl (fun _ => True) w9).set (.inr trivial) _).size))
  | (at_builtin; refine wpList_app so_i64 hown9w hr10 (I64_one _) hn10 hB10 rfl rfl rfl rfl ?_; intro v10 w10 hown10 hg10 hat10; obtain ⟨A10, c10, rfl, q103, z103, hb11, htc11, hf11⟩ := more10 hown9 hlt9 hb9 hM8 hM8' hf9 hown8w hsm hown10 hg10)
  | fail)
      have hf7c : Fr (fun b => w7.heap.size ≤ b) w7 (w10.setCell ⟨w8.heap.size, 3, none⟩ (.slice A10 (t.writes.length + rl.length) c10)) := (hf8.mono (fun _ _ hn => hn.elim)).trans hf11 (fun _ _ hT => hT)
      have hfE : Fr No W (w10.setCell ⟨w8.heap.size, 3, none⟩ (.slice A10 (t.writes.length + rl.length) c10)) := hfB.trans hf7c (fun b hb hT => by have := hfB.size; omega)
      have hs11 := hf7c.size
      have hall11 := hall.fr hf7c (fun b hb hT => by omega)
      clear hf7c hf11
      have hN := HNL.out
      have hlen : (ts.take k ++ us ++ ts.drop k).length = k + (us.length + (ts.length - k)) := by rw [← hN]; omega
      have hgiv := given_reads _ A7 c7 _ _ (RdT.fr0 hall11 ((Fr.refl No _).drew)) (fun b hb => Nat.lt_of_lt_of_le hb hs11) (by rw [hlen]; omega) (fun d hd => by
        have hd' : TxnOk d := by
          simp only [List.mem_append] at hd
          rcases hd with (hd | hd) | hd
          · exact OK0.out d (List.mem_of_mem_take hd)
          · exact OKU.out d hd
          · exact OK0.out d (List.mem_of_mem_drop hd)
        exact ⟨by have := hd'.2.2.1; omega, by have := hd'.2.2.2; omega⟩)
      have hroomU : Room (ts.take k ++ us ++ ts.drop k) ⟨t.base, t.commit, t.reads ++ rl, t.writes ++ rl⟩ (sinceP t.base) := by
        refine room_any (fun d hd => ?_) ⟨?_, ?_, ?_, ?_⟩ (by have := HBT.out; have := HB.out; omega)
        · simp only [List.mem_append] at hd
          rcases hd with (hd | hd) | hd
          · exact OK0.out d (List.mem_of_mem_take hd)
          · exact OKU.out d hd
          · exact OK0.out d (List.mem_of_mem_drop hd)
        · intro x hx; rcases List.mem_append.1 hx with hx | hx; exact OK1.out.1 x hx; exact wf3 x hx
        · intro x hx; rcases List.mem_append.1 hx with hx | hx; exact OK1.out.2.1 x hx; exact wf3 x hx
        · rw [List.length_append]; omega
        · rw [List.length_append]; omega
      obtain ⟨m, hm1, hm2⟩ := HM.out
      have hcheck := fun (A12 : Option Addr) (c12 : Nat) (w12 : World) (h12 : RdT w12 (fun b => w7.heap.size ≤ b) A12 (ts.take k ++ us ++ ts.drop k)) (h13 : TxnC w12 (fun b => w7.heap.size ≤ b) (vX t A9 (t.reads.length + rl.length) c9 A10 (t.writes.length + rl.length) c10).toList ⟨t.base, t.commit, t.reads ++ rl, t.writes ++ rl⟩) => check_calls (fun b => w7.heap.size ≤ b) A12 c12 _ _ _ w12 h12 h13 hroomU
      rw [hlen] at hgiv
      simp only [hlen, hm1] at hcheck
      have HG := hgiv
      have e13 : decide (m ≤ n) = true := by simpa using hm2
      generalize ts.take k ++ us ++ ts.drop k = ALL at *
      clear hlen hN hm1 HM HNL HBT
      generalize hw11 : w10.setCell ⟨w8.heap.size, 3, none⟩ (.slice A10 (t.writes.length + rl.length) c10) = w11 at *
      (refine T_begin No [0, 2, 1, 3, 4, 5, 6, 7, 8] [1, 3] (by kernel_rfl) (by kernel_rfl) ?_; simp only [pickOps, List.filterMap_cons, List.filterMap_nil, List.getElem?_cons_zero, List.getElem?_cons_succ, Act.put])
      repeat (first | (refine T_skip (by rfl) (by rfl) (fun _ _ _ h => h) ?_; try simp only [Act.put, List.setIfInBounds_toArray, List.set_cons_zero, List.set_cons_succ]) | (refine T_pass (by rfl) (by rfl) ?_; try simp only [Act.put, List.setIfInBounds_toArray, List.set_cons_zero, List.set_cons_succ]) | (refine T_load (by assumption) (by rfl) (by rfl) (fun _ _ _ _ h => h) rfl rfl (by assumption) (fun hn => hn) ?_; try simp only [Act.put, List.setIfInBounds_toArray, List.set_cons_zero, List.set_cons_succ]) | (refine T_quiet (by rfl) (by rfl) (by rfl) (fun _ _ _ _ h => h) (fun K hK => ?_); go_big_quiet_op; refine hK _ ?_; clear hK K) | (refine T_two (by rfl) (by rfl) (by rfl) (by rfl) (fun _ _ _ _ h => h) (fun K hK => ?_); go_big_quiet_op; refine ⟨_, fun _ _ => rfl, ?_⟩; refine hK _ ?_; clear hK K; try simp only [Act.put, List.setIfInBounds_toArray, List.set_cons_zero, List.set_cons_succ]) | fail)
      refine T_loadA ag_vtxn (by rfl) (by rfl) (fun _ _ _ _ h => h) rfl rfl rfl (show ∀ j u, _ → w11.cell? _ = some u from Blk.all hb11) (fun hn => hn) ?_
      try simp only [Act.put, List.setIfInBounds_toArray, List.set_cons_zero, List.set_cons_succ]
      (refine T_call (by rfl) (by rfl) (fun K hK => ?_); go_wp2_with fail)
      refine hgiv.mono ?_
      rintro e w12 ⟨A12, c12, rfl, _, hgr12, hf12⟩
      (refine hK.out _ _ (hf12) ?_; clear hK K; try simp only [Act.put, List.setIfInBounds_toArray, List.set_cons_zero, List.set_cons_succ])
      (refine T_call (by rfl) (by rfl) (fun K hK => ?_); go_wp2_with fail)
      refine (hcheck A12 c12 _ (hgr12.mono (fun b _ hb => Nat.le_trans hs11 hb)) (htc11.fr0 ((Fr.refl No w11).drew.tr hf12))).mono ?_
      rintro e w13 ⟨rfl, hf13⟩
      simp only [iv_some, errOf_some]
      (refine hK.out _ _ (hf13) ?_; clear hK K; try simp only [Act.put, List.setIfInBounds_toArray, List.set_cons_zero, List.set_cons_succ])
      repeat (first | (refine T_skip (by rfl) (by rfl) (fun _ _ _ h => h) ?_; try simp only [Act.put, List.setIfInBounds_toArray, List.set_cons_zero, List.set_cons_succ]) | (refine T_pass (by rfl) (by rfl) ?_; try simp only [Act.put, List.setIfInBounds_toArray, List.set_cons_zero, List.set_cons_succ]) | (refine T_load (by assumption) (by rfl) (by rfl) (fun _ _ _ _ h => h) rfl rfl (by assumption) (fun hn => hn) ?_; try simp only [Act.put, List.setIfInBounds_toArray, List.set_cons_zero, List.set_cons_succ]) | (refine T_quiet (by rfl) (by rfl) (by rfl) (fun _ _ _ _ h => h) (fun K hK => ?_); go_big_quiet_op; refine hK _ ?_; clear hK K) | (refine T_two (by rfl) (by rfl) (by rfl) (by rfl) (fun _ _ _ _ h => h) (fun K hK => ?_); go_big_quiet_op; refine ⟨_, fun _ _ => rfl, ?_⟩; refine hK _ ?_; clear hK K; try simp only [Act.put, List.setIfInBounds_toArray, List.set_cons_zero, List.set_cons_succ]) | fail)
      refine T_done ?_
      have hfF := hfE.drew.tr (hf12.tr hf13)
      go_wp2_with fail
      refine (known_calls _).mono ?_
      rintro e w14 ⟨rfl, hf14⟩
      go_wp2
      go_ret
      exact ⟨rfl, hfF.tr hf14⟩
end Go.Proofs.Ytmcmjnflahfbkaa
