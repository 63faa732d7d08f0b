/- The walk of lapidarylaw17.ValidSame. Condition: what came in is of bulk at most 1048576. -/
import Derived.Test.YtmcmjnflahfbkaaVHist
import Derived.Test.YtmcmjnflahfbkaaVBulk
import Derived.Test.YtmcmjnflahfbkaaVKnown
namespace Go.Proofs.Ytmcmjnflahfbkaa
set_option linter.unusedVariables false
set_option linter.unusedSimpArgs false
open Go.RowKit Go.Maps

/-- The k-th session's cells; its commit's cell. -/
theorem RdT.atB {w : World} {S : Nat → Prop} {A : Option Addr} {ts : List Txn} {k : Nat} (h : RdT w S A ts) (hk : k < ts.length) :
    ∃ g o Ar cr Aw cw, A = some ⟨g, o, none⟩ ∧ S g ∧ (∀ j u, [Value.int .i64 ts[k].base, .int .i64 ts[k].commit, .slice Ar ts[k].reads.length cr, .slice Aw ts[k].writes.length cw][j]? = some u → w.cell? ((⟨g, o + k * 4, none⟩ : Addr).add j) = some u) ∧
      w.cell? ⟨g, o + k * 4 + 1, none⟩ = some (.int .i64 ts[k].commit) ∧
      TxnC w S [Value.int .i64 ts[k].base, .int .i64 ts[k].commit, .slice Ar ts[k].reads.length cr, .slice Aw ts[k].writes.length cw] ts[k] := by
  obtain ⟨g, o, Ar, cr, Aw, cw, hA, hS, h4, ht⟩ := h.atC hk
  refine ⟨g, o, Ar, cr, Aw, cw, hA, hS, h4, ?_, ht⟩
  have h1 := h4 1 _ rfl
  rw [Addr.add_lit] at h1
  exact h1
theorem bulkT_sub : ∀ {ks ts : List Txn}, ks.Sublist ts → bulkT ks ≤ bulkT ts
  | _, _, .slnil => Nat.le_refl _
  | _, _, .cons a h => by have := bulkT_sub h; rw [bulkT_cons]; omega
  | _, _, .cons_cons a h => by have := bulkT_sub h; rw [bulkT_cons, bulkT_cons]; omega
theorem keptOf_ok {d : Txn} (h : TxnOk d) : TxnOk (keptOf d) := ⟨(fun x hx => by cases hx), h.2.1, by simp [keptOf], h.2.2.2⟩
theorem bulkT_kept (ks : List Txn) : bulkT (ks.map keptOf) ≤ bulkT ks := by
  induction ks with
  | nil => exact Nat.le_refl _
  | cons d ks ih => rw [List.map_cons, bulkT_cons, bulkT_cons]; simp only [keptOf, List.length_nil]; omega

set_option maxHeartbeats 4000000 in
theorem law_ValidSame (W : World) (a0 : Option Addr) (cap0 : Nat) (ts : List Txn) (h0 : RdT W (fun b => b < W.heap.size) a0 ts) (ok0 : ∀ d ∈ ts, TxnOk d) (hcap : ts.length ≤ cap0) (hmax : cap0 ≤ maxLen)
    (cs : List Value) (t : Txn) (h1 : TxnC W (fun b => b < W.heap.size) cs t) (ok1 : TxnOk t) (hbulk : bulkT ts + (t.reads.length + t.writes.length) ≤ 1048576) :
    Calls Try.prog 8 #[.slice a0 ts.length cap0, .agg cs.toArray] W fun e w' => e = .returned (.bool true) ∧ Fr No W w' := by
  have hle := h0.le
  have hbl := bulkT_len ts
  have htc := h1
  obtain ⟨Ar, cr, Aw, cw, rfl, hr, hw⟩ := h1
  have hlm : ts.length ≤ 1048576 := by omega
  have OK0 := Lib.hid ok0
  have OK1 := Lib.hid ok1
  have HB := Lib.hid hbulk
  clear ok0 ok1 hbl hbulk
  go_enter Try.func8, Try.ntmps8
  go_wp2_with fail
  have hX : Fr No W (W.alloc (.cells #[.int .i64 t.base, .int .i64 t.commit, .slice Ar t.reads.length cr, .slice Aw t.writes.length cw] 25)) := (Fr.refl No W).alloc _
  have hbX := Blk.new W 25 #[.int .i64 t.base, .int .i64 t.commit, .slice Ar t.reads.length cr, .slice Aw t.writes.length cw]
  refine (new_calls (fun _ => True) _).mono ?_
  rintro e w2 ⟨rfl, hH, hf2⟩
  have hsX : (W.alloc (.cells #[.int .i64 t.base, .int .i64 t.commit, .slice Ar t.reads.length cr, .slice Aw t.writes.length cw] 25)).heap.size = W.heap.size + 1 := by simp
  rw [hsX] at hH ⊢
  have hF := hX.tr hf2
  have hbX2 := hbX.fr0 hf2
  clear hX hf2 hbX
  go_wp2_with fail
  go_loopw [6, 7] (fun v i wr => ∃ (k : Nat) (ks : List Txn) (any : Bool) (last : Int) (xs : List Value), k ≤ ts.length ∧ k ≤ 50 ∧ ks.length ≤ k ∧ i = .int .i64 k ∧ ks.Sublist (ts.take k) ∧
    wr.ownsRow (W.heap.size + 1 + 1) 25 4 v ks.length xs ∧ TxnsC wr (fun b => b < W.heap.size) xs ks ∧
    HistAt wr (W.heap.size + 1 + 1) (W.heap.size + 1) (fun b => v.ownBlock ≠ some b) (ks.map keptOf) any last ∧ Fr No W wr ∧
    Blk wr W.heap.size 25 #[.int .i64 t.base, .int .i64 t.commit, .slice Ar t.reads.length cr, .slice Aw t.writes.length cw]) (fun _ i _ => ts.length - (intOf i).toNat)
  case atStart => exact ⟨0, [], false, 0, [], by omega, by omega, by simp, rfl, List.nil_sublist _, World.ownsRow_nil _ _ _ _, rfl, hH.mono (fun b _ _ => by simp [Value.ownBlock]), hF, hbX2⟩
  case round =>
    obtain ⟨k, ks, any, last, xs, hk, hk50, hksl, rfl, hsub, hown, hxs, hhist, hf, hbX⟩ := hrel
    have hHlt : W.heap.size + 1 < wr.heap.size := by obtain ⟨_, _, _, hb, _⟩ := hhist; exact hb.lt
    obtain ⟨A0, c0, rfl, hc0, _, hA0⟩ := own_form hown
    have HSub := Lib.hid hsub
    clear hsub
    by_cases hlt : k < ts.length ∧ k < 50
    · obtain ⟨hlt, hlt5⟩ := hlt
      obtain ⟨g, of, Br, br, Bw, bw, rfl, hgS, hk4, hp1, htd⟩ := (h0.fr0 hf).atB hlt
      have htk : ts.take (k + 1) = ts.take k ++ [ts[k]] := by rw [List.take_add_one, List.getElem?_eq_getElem hlt]; rfl
      have HT := Lib.hid htk
      have okd := OK0.out _ (List.getElem_mem hlt)
      have hbd := bulkT_mem (List.getElem_mem hlt)
      have hwl : ts[k].writes.length ≤ 1048576 := by have := HB.out; omega
      have OKD := Lib.hid okd
      clear htk okd hbd
      generalize ts[k] = d at *
      have ek : decide ((k : Int) < ts.length) = true := by simpa using (by omega : (k : Int) < ts.length)
      have ek5 : decide ((k : Int) < 50) = true := by simpa using (by omega : (k : Int) < 50)
      by_cases hpos : 0 < d.commit
      · have ep : decide (0 < d.commit) = true := by simpa using hpos
        go_wp2_with (first
          | (refine wpList_ldA ag_txn rfl _ rfl ⟨g, of + k * 4, none⟩ [.int .i64 d.base, .int .i64 d.commit, .slice Br d.reads.length br, .slice Bw d.writes.length bw] rfl rfl hk4 ?_)
          | fail)
        refine (one_reads _ [.int .i64 d.base, .int .i64 d.commit, .slice Br d.reads.length br, .slice Bw d.writes.length bw] d wr htd (by have := OKD.out.2.2.1; omega) (by have := OKD.out.2.2.2; omega)).mono ?_
        rintro e w3 ⟨Cr, c3r, Cw, c3w, M, rfl, _, _, _, _, htd3, hf3⟩
        have hs3 := hf3.size
        have hv0 : ∀ b, (Value.slice A0 ks.length c0).ownBlock = some b → W.heap.size + 1 + 1 ≤ b ∧ b < wr.heap.size := fun b hb => hown.lt b hb
        go_wp2_with fail
        refine (add_calls (fun b => wr.heap.size ≤ b) w3 (W.heap.size + 1 + 1) (W.heap.size + 1) (fun b => (Value.slice A0 ks.length c0).ownBlock ≠ some b) (ks.map keptOf) any last [.int .i64 d.base, .int .i64 d.commit, .slice Cr d.reads.length c3r, .slice Cw d.writes.length c3w] d
          (hhist.fr hf3 (fun hn => hn) (fun _ _ _ hn => hn)) htd3 (fun b hb => by omega) (by omega) (fun b hb h3 => by have := (hv0 b h3).2; omega) hpos (by rw [List.length_map]; omega) hwl).mono ?_
        have hhist3 := hhist.fr hf3 (fun hn => hn) (fun _ _ _ hn => hn)
        have hv0' : ∀ b, (Value.slice A0 ks.length c0).ownBlock = some b → ¬ (b = W.heap.size + 1 ∨ (W.heap.size + 1 + 1 ≤ b ∧ (Value.slice A0 ks.length c0).ownBlock ≠ some b)) := by
          rintro b hb (h3 | ⟨_, h3⟩)
          · have := (hv0 b hb).1; omega
          · exact h3 hb
        have hlow : ∀ b, b < W.heap.size + 1 → ¬ (b = W.heap.size + 1 ∨ (W.heap.size + 1 + 1 ≤ b ∧ (Value.slice A0 ks.length c0).ownBlock ≠ some b)) := by
          rintro b hb (h3 | ⟨h3, _⟩) <;> omega
        have HLow := Lib.hid hlow
        have HV0' := Lib.hid hv0'
        have HV0 := Lib.hid hv0
        clear hlow hv0' hv0
        rintro e w4 (⟨hany, hlast, rfl, hhist4, hf4⟩ | ⟨hna, rfl, hhist4, hf4⟩)
        · clear hlast
          go_wp2
          go_roundw
          case rel =>
            exact ⟨k + 1, ks, any, last, xs, by omega, by omega, by omega, by go_num, by rw [HT.out]; exact HSub.out.trans (List.sublist_append_left _ _), own_fr (own_fr0 hown hf3) hf4 HV0'.out, TxnsC.keep hf4 (fun b hb => HLow.out b (by omega)) (TxnsC.keep hf3 (fun _ _ hn => hn) hxs), hhist4,
              (hf.tr hf3).trans hf4 (fun b hb hT => HLow.out b (by omega) hT), (hbX.fr0 hf3).fr hf4 (HLow.out _ (by omega))⟩
          case measure => simp [intOf]; omega
        · clear hna
          have hk44 : ∀ j u, [Value.int .i64 d.base, .int .i64 d.commit, .slice Br d.reads.length br, .slice Bw d.writes.length bw][j]? = some u → w4.cell? ((⟨g, of + k * 4, none⟩ : Addr).add j) = some u := fun j u hu => hf4.cell_some (hf3.cell_some (hk4 j u hu) (fun hn => hn)) (by rw [block_of_add]; exact HLow.out g (by omega))
          have hown4 := own_fr (own_fr0 hown hf3) hf4 HV0'.out
          have hs4 := hf4.size
          go_wp2_with (first
            | (refine wpList_ldA ag_txn rfl _ rfl ⟨g, of + k * 4, none⟩ [.int .i64 d.base, .int .i64 d.commit, .slice Br d.reads.length br, .slice Bw d.writes.length bw] rfl rfl hk44 ?_)
            | (at_builtin; refine wpList_app_at so_rtxn (own_fr0 hown4 ((Fr.refl No w4).alloc (.cells #[.int .i64 d.base, .int .i64 d.commit, .slice Br d.reads.length br, .slice Bw d.writes.length bw] 25))) ((Blk.new w4 _ _).rd (size := 4) (n := 1) (by rfl) (by decide)) (by intro u hu; simp at hu; rcases hu with rfl | rfl | rfl | rfl <;> rfl) (by omega) (by simp; omega) rfl rfl rfl rfl ?_; intro v5 w5 hown5 hg5 hat5)
            | fail)
          have hg5b : Fr (fun b => (Value.slice A0 ks.length c0).ownBlock = some b) w4 w5 := ((Fr.refl _ w4).alloc _).grown hg5 (fun q hq => .inr hq)
          go_roundw
          case rel =>
            refine ⟨k + 1, ks ++ [d], true, d.commit, xs ++ [.int .i64 d.base, .int .i64 d.commit, .slice Br d.reads.length br, .slice Bw d.writes.length bw], by omega, by omega, by simp; omega, by go_num, by rw [HT.out]; exact HSub.out.append (List.Sublist.refl _), ?_, ?_, ?_, ?_, ?_⟩
            · rw [List.length_append]; exact hown5
            · refine TxnsC.snoc (TxnsC.keep hg5b (fun b hb hT => by have := (HV0.out b hT).1; omega) (TxnsC.keep hf4 (fun b hb => HLow.out b (by omega)) (TxnsC.keep hf3 (fun _ _ hn => hn) hxs))) ?_
              exact ((htd.keep hf3 (fun _ _ hn => hn)).keep hf4 (fun b hb => HLow.out b (by omega))).keep hg5b (fun b hb hT => by have := (HV0.out b hT).1; omega)
            · rw [List.map_append]
              refine HistAt.mono (X := fun b => (Value.slice A0 ks.length c0).ownBlock ≠ some b ∧ b < w4.heap.size) ((hhist4.mono (fun b hb hx => ⟨hx, hb⟩)).fr hg5b ?_ (fun b _ hx hT => hx.1 hT)) (fun b hb hx h5 => ?_)
              · intro hT; have := (HV0.out _ hT).1; omega
              · rcases hat5 with h3 | h3
                · exact hx.1 (h3 ▸ h5)
                · rw [h3] at h5; simp at h5; have := hx.2; omega
            · exact ((hf.tr hf3).trans hf4 (fun b hb hT => HLow.out b (by omega) hT)).trans hg5b (fun b hb hT => by have := (HV0.out b hT).1; omega)
            · exact ((hbX.fr0 hf3).fr hf4 (HLow.out _ (by omega))).fr hg5b (fun hT => by have := (HV0.out _ hT).1; omega)
          case measure => simp [intOf]; omega
      · have ep : decide (0 < d.commit) = false := by simpa using hpos
        go_wp2
        go_roundw
        case rel => exact ⟨k + 1, ks, any, last, xs, by omega, by omega, by omega, by go_num, by rw [HT.out]; exact HSub.out.trans (List.sublist_append_left _ _), hown, hxs, hhist, hf, hbX⟩
        case measure => simp [intOf]; omega
    · have hex : k = ts.length ∨ (k < ts.length ∧ k = 50) := by
        by_cases h5 : k < ts.length
        · exact .inr ⟨h5, by omega⟩
        · exact .inl (by omega)
      have hsub := HSub.out.trans (List.take_sublist k ts)
      have hbk := bulkT_sub hsub
      have okk : ∀ d ∈ ks, TxnOk d := fun d hd => OK0.out d (hsub.subset hd)
      have hroom1 : Room ks t (sinceP t.base) := room_any okk OK1.out (by have := HB.out; omega)
      have hroom2 : Room (ks.map keptOf) t (sinceP t.base) := room_any (fun d hd => by obtain ⟨d', hd', rfl⟩ := List.mem_map.1 hd; exact keptOf_ok (okk d' hd')) OK1.out (by have := HB.out; have := bulkT_kept ks; omega)
      have hq := check_kept ks t
      have HQ := Lib.hid hq
      have OKK := Lib.hid okk
      have hp0 := hbX.cell 0
      simp only [List.getElem?_toArray, List.getElem?_cons_zero] at hp0
      have hrdk : RdT wr (fun b => b < W.heap.size ∨ A0.map (·.block) = some b) A0 ks := ⟨xs, (own_rd hown (by omega)).mono (fun b _ hb => .inr hb) (by decide), hxs.mono (fun b _ hb => .inl hb)⟩
      clear hsub hbk hq okk hlt
      by_cases hneg : t.base < 0
      · have en : decide (t.base < 0) = true := by simpa using hneg
        rcases hex with rfl | ⟨e1, rfl⟩
        all_goals
          go_wp2_with fail
          refine (known_calls _).mono ?_
          rintro e w5 ⟨rfl, hf5⟩
          go_wp2
          go_ret
          exact ⟨rfl, hf.tr hf5⟩
      · have en : decide (t.base < 0) = false := by simpa using hneg
        rcases hex with rfl | ⟨e1, rfl⟩
        all_goals
          go_wp2_with (first
            | (refine wpList_ldA ag_txn rfl _ rfl ⟨W.heap.size, 0, none⟩ [.int .i64 t.base, .int .i64 t.commit, .slice Ar t.reads.length cr, .slice Aw t.writes.length cw] rfl rfl hbX.all ?_)
            | fail)
          refine (one_reads _ [.int .i64 t.base, .int .i64 t.commit, .slice Ar t.reads.length cr, .slice Aw t.writes.length cw] t _ (htc.fr0 hf) (by have := OK1.out.2.2.1; omega) (by have := OK1.out.2.2.2; omega)).mono ?_
          rintro e w3 ⟨Cr, c3r, Cw, c3w, M, rfl, _, _, _, _, htd3, hf3⟩
          have hs3 := hf3.size
          go_wp2_with fail
          refine (hcheck_calls _ w3 (W.heap.size + 1 + 1) (W.heap.size + 1) _ (ks.map keptOf) any last [.int .i64 t.base, .int .i64 t.commit, .slice Cr t.reads.length c3r, .slice Cw t.writes.length c3w] t (hhist.fr hf3 (fun hn => hn) (fun _ _ _ hn => hn)) htd3 (by omega) hroom2 (by rw [List.length_map]; omega)).mono ?_
          rintro e w4 ⟨rfl, hf4⟩
          rw [HQ.out]
          generalize hqq : checkM ks t = q
          have HQQ := Lib.hid hqq
          clear hqq
          have hfA := hf.tr (hf3.tr hf4)
          have hf34 := hf3.tr hf4
          have hs4 := hf4.size
          have hbX4 := hbX.fr0 hf34
          go_wp2_with fail
          (refine T_begin No [0, 2, 1, 3, 4, 5, 6, 7, 8, 9] [1, 3, 4] (by kernel_rfl) (by kernel_rfl) ?_; simp only [pickOps, List.filterMap_cons, List.filterMap_nil, List.getElem?_cons_zero, List.getElem?_cons_succ, Act.put])
          repeat (first | (refine T_skip (by rfl) (by rfl) (fun _ _ _ h => h) ?_; try simp only [Act.put, List.setIfInBounds_toArray, List.set_cons_zero, List.set_cons_succ]) | (refine T_pass (by rfl) (by rfl) ?_; try simp only [Act.put, List.setIfInBounds_toArray, List.set_cons_zero, List.set_cons_succ]) | (refine T_load (by assumption) (by rfl) (by rfl) (fun _ _ _ _ h => h) rfl rfl (by assumption) (by first | exact (fun hn => hn) | assumption) ?_; try simp only [Act.put, List.setIfInBounds_toArray, List.set_cons_zero, List.set_cons_succ]) | (refine T_nil (by rfl) (by rfl) (fun _ _ _ _ h => h) rfl rfl ?_; try simp only [Act.put, List.setIfInBounds_toArray, List.set_cons_zero, List.set_cons_succ]) | (refine T_quiet (by rfl) (by rfl) (by rfl) (fun _ _ _ _ h => h) (fun K hK => ?_); go_big_quiet_op; refine hK _ ?_; clear hK K) | (refine T_two (by rfl) (by rfl) (by rfl) (by rfl) (fun _ _ _ _ h => h) (fun K hK => ?_); go_big_quiet_op; refine ⟨_, fun _ _ => rfl, ?_⟩; refine hK _ ?_; clear hK K; try simp only [Act.put, List.setIfInBounds_toArray, List.set_cons_zero, List.set_cons_succ]) | fail)
          refine T_loadA ag_txn (by rfl) (by rfl) (fun _ _ _ _ h => h) rfl rfl rfl (show ∀ j u, _ → w4.cell? _ = some u from Blk.all hbX4) (fun hn => hn) ?_
          try simp only [Act.put, List.setIfInBounds_toArray, List.set_cons_zero, List.set_cons_succ]
          (refine T_call (by rfl) (by rfl) (fun K hK => ?_); go_wp2_with fail)
          refine (given_reads _ A0 c0 ks _ (hrdk.fr0 hf34.drew) (fun b hb => ?_) (by omega) (fun d hd => ⟨by have := (OKK.out d hd).2.2.1; omega, by have := (OKK.out d hd).2.2.2; omega⟩)).mono ?_
          · show b < w4.heap.size
            rcases hb with hb | hb
            · omega
            · have := (hown.lt b ((hA0 b).2 hb)).2; omega
          rintro e w5 ⟨A5, c5, rfl, _, hgr5, hf5⟩
          (refine hK.out _ _ (hf5) ?_; clear hK K; try simp only [Act.put, List.setIfInBounds_toArray, List.set_cons_zero, List.set_cons_succ])
          (refine T_call (by rfl) (by rfl) (fun K hK => ?_); go_wp2_with fail)
          have hfB : Fr No W w5 := hfA.drew.tr hf5
          refine (one_reads _ [.int .i64 t.base, .int .i64 t.commit, .slice Ar t.reads.length cr, .slice Aw t.writes.length cw] t _ (htc.fr0 hfB) (by have := OK1.out.2.2.1; omega) (by have := OK1.out.2.2.2; omega)).mono ?_
          rintro e w6 ⟨Dr, d6r, Dw, d6w, M6, rfl, _, _, _, _, htd6, hf6⟩
          (refine hK.out _ _ (hf6) ?_; clear hK K; try simp only [Act.put, List.setIfInBounds_toArray, List.set_cons_zero, List.set_cons_succ])
          (refine T_call (by rfl) (by rfl) (fun K hK => ?_); go_wp2_with fail)
          refine (check_calls (fun b => True) A5 c5 ks [.int .i64 t.base, .int .i64 t.commit, .slice Dr t.reads.length d6r, .slice Dw t.writes.length d6w] t _ ((hgr5.fr0 hf6).mono (fun _ _ _ => trivial)) (htd6.mono (fun _ _ _ => trivial)) hroom1).mono ?_
          rintro e w7 ⟨rfl, hf7⟩
          rw [HQQ.out]
          (refine hK.out _ _ (hf7) ?_; clear hK K; try simp only [Act.put, List.setIfInBounds_toArray, List.set_cons_zero, List.set_cons_succ])
          repeat (first | (refine T_skip (by rfl) (by rfl) (fun _ _ _ h => h) ?_; try simp only [Act.put, List.setIfInBounds_toArray, List.set_cons_zero, List.set_cons_succ]) | (refine T_pass (by rfl) (by rfl) ?_; try simp only [Act.put, List.setIfInBounds_toArray, List.set_cons_zero, List.set_cons_succ]) | (refine T_load (by assumption) (by rfl) (by rfl) (fun _ _ _ _ h => h) rfl rfl (by assumption) (by first | exact (fun hn => hn) | assumption) ?_; try simp only [Act.put, List.setIfInBounds_toArray, List.set_cons_zero, List.set_cons_succ]) | (refine T_nil (by rfl) (by rfl) (fun _ _ _ _ h => h) rfl rfl ?_; try simp only [Act.put, List.setIfInBounds_toArray, List.set_cons_zero, List.set_cons_succ]) | (refine T_quiet (by rfl) (by rfl) (by rfl) (fun _ _ _ _ h => h) (fun K hK => ?_); go_big_quiet_op; refine hK _ ?_; clear hK K) | (refine T_two (by rfl) (by rfl) (by rfl) (by rfl) (fun _ _ _ _ h => h) (fun K hK => ?_); go_big_quiet_op; refine ⟨_, fun _ _ => rfl, ?_⟩; refine hK _ ?_; clear hK K; try simp only [Act.put, List.setIfInBounds_toArray, List.set_cons_zero, List.set_cons_succ]) | fail)
          refine T_done ?_
          have hf57 : Fr No w4 w7 := (Fr.refl No w4).drew.tr (hf5.tr (hf6.tr hf7))
          go_wp2_with fail
          refine (len_calls w7 (W.heap.size + 1 + 1) (W.heap.size + 1) _ (ks.map keptOf) any last (hhist.fr (hf34.tr hf57) (fun hn => hn) (fun _ _ _ hn => hn))).mono ?_
          rintro e _ ⟨rfl, rfl⟩
          rw [List.length_map]
          go_wp2_with fail
          refine (known_calls _).mono ?_
          rintro e w8 ⟨rfl, hf8⟩
          go_wp2
          go_ret
          exact ⟨rfl, hfA.tr (hf57.tr hf8)⟩
end Go.Proofs.Ytmcmjnflahfbkaa
