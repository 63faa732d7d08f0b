/- Lists of sessions in memory; the reference's within. No condition. -/
import Derived.Test.YtmcmjnflahfbkaaVRef
namespace Go.Proofs.Ytmcmjnflahfbkaa
set_option linter.unusedVariables false
set_option linter.unusedSimpArgs false
open Go.RowKit

/-- Cells, four by four, that read as sessions. -/
def TxnsC (w : World) (S : Nat → Prop) : List Value → List Txn → Prop
  | xs, [] => xs = []
  | xs, t :: ts => ∃ cs rest, xs = cs ++ rest ∧ TxnC w S cs t ∧ TxnsC w S rest ts
/-- A slice of sessions. -/
def RdT (w : World) (S : Nat → Prop) (A : Option Addr) (ts : List Txn) : Prop := ∃ xs, Rd w S 4 A ts.length xs ∧ TxnsC w S xs ts
theorem TxnC.len {w : World} {S : Nat → Prop} {cs : List Value} {t : Txn} (h : TxnC w S cs t) : cs.length = 4 := by
  obtain ⟨_, _, _, _, rfl, _, _⟩ := h; rfl
theorem TxnC.keep {w w' : World} {S T : Nat → Prop} {cs : List Value} {t : Txn} (h : TxnC w S cs t) (hf : Fr T w w') (hd : ∀ b, S b → ¬ T b) : TxnC w' S cs t := by
  obtain ⟨Ar, cr, Aw, cw, e, hr, hw⟩ := h; exact ⟨Ar, cr, Aw, cw, e, Rd.fr hr hf hd, Rd.fr hw hf hd⟩
theorem TxnsC.keep {w w' : World} {S T : Nat → Prop} (hf : Fr T w w') (hd : ∀ b, S b → ¬ T b) : ∀ {ts : List Txn} {xs : List Value}, TxnsC w S xs ts → TxnsC w' S xs ts
  | [], _, h => h
  | t :: ts, _, ⟨cs, rest, e, hc, hr⟩ => ⟨cs, rest, e, hc.keep hf hd, TxnsC.keep hf hd hr⟩
theorem RdT.fr {w w' : World} {S T : Nat → Prop} {A : Option Addr} {ts : List Txn} (h : RdT w S A ts) (hf : Fr T w w') (hd : ∀ b, S b → ¬ T b) : RdT w' S A ts := by
  obtain ⟨xs, h1, h2⟩ := h; exact ⟨xs, h1.fr hf hd, h2.keep hf hd⟩
theorem RdT.fr0 {w w' : World} {S : Nat → Prop} {A : Option Addr} {ts : List Txn} (h : RdT w S A ts) (hf : Fr No w w') : RdT w' S A ts := h.fr hf (fun _ _ hn => hn)
theorem ag_txn : AggOf Try.prog 25 4 := ⟨⟨_, Try.underlying25, rfl⟩, by kernel_rfl⟩
theorem TxnC.fr0 {w w' : World} {S : Nat → Prop} {cs : List Value} {t : Txn} (h : TxnC w S cs t) (hf : Fr No w w') : TxnC w' S cs t := h.keep hf (fun _ _ hn => hn)
theorem TxnC.mono {w : World} {S T : Nat → Prop} {cs : List Value} {t : Txn} (h : TxnC w S cs t) (hS : ∀ b, b < w.heap.size → S b → T b) : TxnC w T cs t := by
  obtain ⟨Ar, cr, Aw, cw, e, hr, hw⟩ := h; exact ⟨Ar, cr, Aw, cw, e, Rd.mono hr hS (by decide), Rd.mono hw hS (by decide)⟩
theorem TxnsC.mono {w : World} {S T : Nat → Prop} (hS : ∀ b, b < w.heap.size → S b → T b) : ∀ {ts : List Txn} {xs : List Value}, TxnsC w S xs ts → TxnsC w T xs ts
  | [], _, h => h
  | t :: ts, _, ⟨cs, rest, e, hc, hr⟩ => ⟨cs, rest, e, hc.mono hS, TxnsC.mono hS hr⟩
theorem RdT.mono {w : World} {S T : Nat → Prop} {A : Option Addr} {ts : List Txn} (h : RdT w S A ts) (hS : ∀ b, b < w.heap.size → S b → T b) : RdT w T A ts := by
  obtain ⟨xs, h1, h2⟩ := h; exact ⟨xs, h1.mono hS (by decide), h2.mono hS⟩
theorem TxnsC.at_ {w : World} {S : Nat → Prop} : ∀ {ts : List Txn} {xs : List Value} {k : Nat} (_ : TxnsC w S xs ts) (hk : k < ts.length), ∃ cs, TxnC w S cs ts[k] ∧ ∀ j u, cs[j]? = some u → xs[k * 4 + j]? = some u
  | [], _, _, _, hk => absurd hk (by simp)
  | t :: ts, xs, 0, ⟨cs, rest, e, hc, hr⟩, _ => ⟨cs, hc, fun j u hu => by
      subst e
      rw [Nat.zero_mul, Nat.zero_add, List.getElem?_append_left (List.getElem?_eq_some_iff.1 hu).1]; exact hu⟩
  | t :: ts, xs, k + 1, ⟨cs, rest, e, hc, hr⟩, hk => by
      obtain ⟨cs', hc', hj⟩ := TxnsC.at_ (k := k) hr (by simpa using hk)
      refine ⟨cs', by simpa using hc', fun j u hu => ?_⟩
      subst e
      rw [List.getElem?_append_right (by rw [hc.len]; omega), hc.len, show (k + 1) * 4 + j - 4 = k * 4 + j by omega]
      exact hj j u hu
/-- The k-th session's four cells. -/
theorem RdT.at_ {w : World} {S : Nat → Prop} {A : Option Addr} {ts : List Txn} {k : Nat} (h : RdT w S A ts) (hk : k < ts.length) :
    ∃ g o Ar cr Aw cw, A = some ⟨g, o, none⟩ ∧ S g ∧ w.cell? ⟨g, o + k * 4, none⟩ = some (.int .i64 ts[k].base) ∧ w.cell? ⟨g, o + k * 4 + 1, none⟩ = some (.int .i64 ts[k].commit) ∧
      w.cell? ⟨g, o + k * 4 + 2, none⟩ = some (.slice Ar ts[k].reads.length cr) ∧ w.cell? ⟨g, o + k * 4 + 3, none⟩ = some (.slice Aw ts[k].writes.length cw) ∧ RdI w S Ar ts[k].reads ∧ RdI w S Aw ts[k].writes := by
  obtain ⟨xs, h1, h2⟩ := h
  obtain ⟨ad, hA, hS, hc⟩ := h1.2.2 (by omega)
  obtain ⟨cs, ⟨Ar, cr, Aw, cw, rfl, hr, hw⟩, hj⟩ := h2.at_ hk
  have hc0 := hc _ _ (hj 0 _ rfl)
  have hsp : ad.spot = none := by
    have hl : 0 < xs.length := by rw [h1.1]; omega
    have := hc 0 _ (List.getElem?_eq_getElem hl)
    have := World.cell?_spot this
    simpa [Addr.add] using this
  obtain ⟨g, o, sp⟩ := ad
  simp only at hsp
  subst hsp
  have key : ∀ j u, [Value.int .i64 ts[k].base, .int .i64 ts[k].commit, .slice Ar ts[k].reads.length cr, .slice Aw ts[k].writes.length cw][j]? = some u → w.cell? ⟨g, o + k * 4 + j, none⟩ = some u := by
    intro j u hu
    have := hc _ u (hj j u hu)
    rwa [Addr.add_lit, ← Nat.add_assoc] at this
  exact ⟨g, o, Ar, cr, Aw, cw, hA, hS, key 0 _ rfl, key 1 _ rfl, key 2 _ rfl, key 3 _ rfl, hr, hw⟩
theorem RdT.le {w : World} {S : Nat → Prop} {A : Option Addr} {ts : List Txn} (h : RdT w S A ts) : ts.length ≤ 211106232532992 := by
  obtain ⟨xs, h1, _⟩ := h; exact h1.le

/-- Within: above one number, and below another one, if there is an end. -/
def pass (base e : Int) (all : Bool) (c : Int) : Bool := decide (base < c) && (all || decide (c < e))
/-- All that stands in the way. -/
def clashes (ts : List Txn) (t : Txn) (p : Int → Bool) : List Int := (ts.filter (fun d => p d.commit)).flatMap (fun d => d.writes.filter (mine t))
theorem clashes_hit {ts : List Txn} {t d : Txn} {p : Int → Bool} (h : p d.commit = true) : clashes (ts ++ [d]) t p = clashes ts t p ++ d.writes.filter (mine t) := by
  unfold clashes; rw [List.filter_append]; simp [h]
theorem clashes_miss {ts : List Txn} {t d : Txn} {p : Int → Bool} (h : p d.commit = false) : clashes (ts ++ [d]) t p = clashes ts t p := by
  unfold clashes; rw [List.filter_append]; simp [h]

set_option maxHeartbeats 2000000 in
theorem within_calls (S : Nat → Prop) (A : Option Addr) (c : Nat) (ts : List Txn) (cs : List Value) (t : Txn) (e : Int) (all : Bool) (w : World) (h : RdT w S A ts) (ht : TxnC w S cs t) :
    Calls Try.prog 27 #[.slice A ts.length c, .agg cs.toArray, .int .i64 e, .bool all] w fun r w' =>
      r = .returned (.tuple #[.int .i64 (iv (minL (clashes ts t (pass t.base e all)))), .bool (minL (clashes ts t (pass t.base e all))).isSome]) ∧ Fr No w w' := by
  have hle := h.le
  have htc := ht
  obtain ⟨Ar, cr, Aw, cw, rfl, hr, hw⟩ := ht
  have g1 := plain_i64
  have g2 := plain_li64
  go_enter Try.func27, Try.ntmps27
  go_wp2
  go_loopw [10, 11, 12] (fun b s i wr => ∃ (k : Nat) (o : Option Int), k ≤ ts.length ∧ i = .int .i64 k ∧ b = .int .i64 (iv o) ∧ s = .bool o.isSome ∧ o = minL (clashes (ts.take k) t (pass t.base e all)) ∧
      Blk wr w.heap.size 25 #[.int .i64 t.base, .int .i64 t.commit, .slice Ar t.reads.length cr, .slice Aw t.writes.length cw] ∧ Fr No w wr) (fun _ _ i _ => ts.length - (intOf i).toNat)
  case atStart => exact ⟨0, none, by omega, rfl, rfl, rfl, rfl, Blk.new _ _ _, (Fr.refl No w).alloc _⟩
  case round =>
    obtain ⟨k, o, hk, rfl, rfl, rfl, ho, hb, hf⟩ := hrel
    have HO := Lib.hid ho
    clear ho
    by_cases hlt : k < ts.length
    · obtain ⟨g, of, Br, br, Bw, bw, rfl, _, hk0, hk1, hk2, hk3, hdr, hdw⟩ := (h.fr0 hf).at_ hlt
      have htk : ts.take (k + 1) = ts.take k ++ [ts[k]] := by rw [List.take_add_one, List.getElem?_eq_getElem hlt]; rfl
      have HT := Lib.hid htk
      clear htk
      generalize ts[k] = d at *
      have hb0 := hb.cell 0
      simp only [List.getElem?_toArray, List.getElem?_cons_succ, List.getElem?_cons_zero] at hb0
      have hd2 : Fr No wr wr.drew.drew := (Fr.refl No wr).drew.drew
      by_cases h1 : d.commit ≤ t.base
      · have e1 : decide (d.commit ≤ t.base) = true := by simpa using h1
        have HP := Lib.hid (show pass t.base e all d.commit = false by unfold pass; rw [show decide (t.base < d.commit) = false by simpa using h1]; rfl)
        clear h1
        go_wp2_with fail
        (refine T_begin No [0, 1, 2, 3, 4, 5, 6, 7, 8, 9, 10, 11, 12, 13, 14, 15, 16, 17, 18, 19, 20] [] (by kernel_rfl) (by kernel_rfl) ?_; simp only [pickOps, List.filterMap_cons, List.filterMap_nil, List.getElem?_cons_zero, List.getElem?_cons_succ, Act.put])
        repeat (first | (refine T_skip (by rfl) (by rfl) (fun _ _ _ h => h) ?_; try simp only [Act.put, List.setIfInBounds_toArray, List.set_cons_zero, List.set_cons_succ]) | (refine T_pass (by rfl) (by rfl) ?_; try simp only [Act.put, List.setIfInBounds_toArray, List.set_cons_zero, List.set_cons_succ]) | (refine T_load (by assumption) (by rfl) (by rfl) (fun _ _ _ _ h => h) rfl rfl (by assumption) (by first | exact (fun hn => hn) | assumption) ?_; try simp only [Act.put, List.setIfInBounds_toArray, List.set_cons_zero, List.set_cons_succ]) | (refine T_nil (by rfl) (by rfl) (fun _ _ _ _ h => h) rfl rfl ?_; try simp only [Act.put, List.setIfInBounds_toArray, List.set_cons_zero, List.set_cons_succ]) | (refine T_quiet (by rfl) (by rfl) (by rfl) (fun _ _ _ _ h => h) (fun K hK => ?_); go_big_quiet_op; refine hK _ ?_; clear hK K) | (refine T_two (by rfl) (by rfl) (by rfl) (by rfl) (fun _ _ _ _ h => h) (fun K hK => ?_); go_big_quiet_op; refine ⟨_, fun _ _ => rfl, ?_⟩; refine hK _ ?_; clear hK K; try simp only [Act.put, List.setIfInBounds_toArray, List.set_cons_zero, List.set_cons_succ]) | fail)
        refine T_done ?_
        go_wp2
        go_roundw
        case rel => exact ⟨k + 1, o, by omega, by go_num, rfl, rfl, by rw [HT.out, clashes_miss HP.out]; exact HO.out, hb.drew, hf.drew⟩
        case measure => simp [intOf]; omega
      · have e1 : decide (d.commit ≤ t.base) = false := by simpa using h1
        have e1' : decide (t.base < d.commit) = true := by simpa using h1
        cases all with
        | true =>
          have HP := Lib.hid (show pass t.base e true d.commit = true by unfold pass; rw [e1']; rfl)
          clear h1 e1'
          go_wp2_with fail
          (refine T_begin No [0, 1, 2, 3, 4, 5, 6, 7, 8, 9, 10, 11, 12, 13, 14, 15, 16, 17, 18, 19, 20] [] (by kernel_rfl) (by kernel_rfl) ?_; simp only [pickOps, List.filterMap_cons, List.filterMap_nil, List.getElem?_cons_zero, List.getElem?_cons_succ, Act.put])
          repeat (first | (refine T_skip (by rfl) (by rfl) (fun _ _ _ h => h) ?_; try simp only [Act.put, List.setIfInBounds_toArray, List.set_cons_zero, List.set_cons_succ]) | (refine T_pass (by rfl) (by rfl) ?_; try simp only [Act.put, List.setIfInBounds_toArray, List.set_cons_zero, List.set_cons_succ]) | (refine T_load (by assumption) (by rfl) (by rfl) (fun _ _ _ _ h => h) rfl rfl (by assumption) (by first | exact (fun hn => hn) | assumption) ?_; try simp only [Act.put, List.setIfInBounds_toArray, List.set_cons_zero, List.set_cons_succ]) | (refine T_nil (by rfl) (by rfl) (fun _ _ _ _ h => h) rfl rfl ?_; try simp only [Act.put, List.setIfInBounds_toArray, List.set_cons_zero, List.set_cons_succ]) | (refine T_quiet (by rfl) (by rfl) (by rfl) (fun _ _ _ _ h => h) (fun K hK => ?_); go_big_quiet_op; refine hK _ ?_; clear hK K) | (refine T_two (by rfl) (by rfl) (by rfl) (by rfl) (fun _ _ _ _ h => h) (fun K hK => ?_); go_big_quiet_op; refine ⟨_, fun _ _ => rfl, ?_⟩; refine hK _ ?_; clear hK K; try simp only [Act.put, List.setIfInBounds_toArray, List.set_cons_zero, List.set_cons_succ]) | fail)
          refine T_done ?_
          go_wp2_with fail
          (refine T_begin No [0, 1, 2, 3, 4, 5, 6, 7, 8, 9, 10, 11] [6] (by kernel_rfl) (by kernel_rfl) ?_; simp only [pickOps, List.filterMap_cons, List.filterMap_nil, List.getElem?_cons_zero, List.getElem?_cons_succ, Act.put])
          repeat (first | (refine T_skip (by rfl) (by rfl) (fun _ _ _ h => h) ?_; try simp only [Act.put, List.setIfInBounds_toArray, List.set_cons_zero, List.set_cons_succ]) | (refine T_pass (by rfl) (by rfl) ?_; try simp only [Act.put, List.setIfInBounds_toArray, List.set_cons_zero, List.set_cons_succ]) | (refine T_load (by assumption) (by rfl) (by rfl) (fun _ _ _ _ h => h) rfl rfl (by assumption) (by first | exact (fun hn => hn) | assumption) ?_; try simp only [Act.put, List.setIfInBounds_toArray, List.set_cons_zero, List.set_cons_succ]) | (refine T_nil (by rfl) (by rfl) (fun _ _ _ _ h => h) rfl rfl ?_; try simp only [Act.put, List.setIfInBounds_toArray, List.set_cons_zero, List.set_cons_succ]) | (refine T_quiet (by rfl) (by rfl) (by rfl) (fun _ _ _ _ h => h) (fun K hK => ?_); go_big_quiet_op; refine hK _ ?_; clear hK K) | (refine T_two (by rfl) (by rfl) (by rfl) (by rfl) (fun _ _ _ _ h => h) (fun K hK => ?_); go_big_quiet_op; refine ⟨_, fun _ _ => rfl, ?_⟩; refine hK _ ?_; clear hK K; try simp only [Act.put, List.setIfInBounds_toArray, List.set_cons_zero, List.set_cons_succ]) | fail)
          refine T_loadA ag_txn (by rfl) (by rfl) (fun _ _ _ _ h => h) rfl rfl rfl (show ∀ j u, _ → wr.cell? _ = some u from hb.all) (fun hn => hn) ?_
          try simp only [Act.put, List.setIfInBounds_toArray, List.set_cons_zero, List.set_cons_succ]
          (refine T_call (by rfl) (by rfl) (fun K hK => ?_); go_wp2_with fail)
          refine (clash_calls S Bw bw d.writes _ t _ (Rd.fr0 hdw hd2) (htc.fr0 (hf.tr hd2))).mono ?_
          rintro r w2 ⟨rfl, hf2⟩
          (refine hK.out _ _ (hf2) ?_; clear hK K; try simp only [Act.put, List.setIfInBounds_toArray, List.set_cons_zero, List.set_cons_succ])
          repeat (first | (refine T_skip (by rfl) (by rfl) (fun _ _ _ h => h) ?_; try simp only [Act.put, List.setIfInBounds_toArray, List.set_cons_zero, List.set_cons_succ]) | (refine T_pass (by rfl) (by rfl) ?_; try simp only [Act.put, List.setIfInBounds_toArray, List.set_cons_zero, List.set_cons_succ]) | (refine T_load (by assumption) (by rfl) (by rfl) (fun _ _ _ _ h => h) rfl rfl (by assumption) (by first | exact (fun hn => hn) | assumption) ?_; try simp only [Act.put, List.setIfInBounds_toArray, List.set_cons_zero, List.set_cons_succ]) | (refine T_nil (by rfl) (by rfl) (fun _ _ _ _ h => h) rfl rfl ?_; try simp only [Act.put, List.setIfInBounds_toArray, List.set_cons_zero, List.set_cons_succ]) | (refine T_quiet (by rfl) (by rfl) (by rfl) (fun _ _ _ _ h => h) (fun K hK => ?_); go_big_quiet_op; refine hK _ ?_; clear hK K) | (refine T_two (by rfl) (by rfl) (by rfl) (by rfl) (fun _ _ _ _ h => h) (fun K hK => ?_); go_big_quiet_op; refine ⟨_, fun _ _ => rfl, ?_⟩; refine hK _ ?_; clear hK K; try simp only [Act.put, List.setIfInBounds_toArray, List.set_cons_zero, List.set_cons_succ]) | fail)
          refine T_done ?_
          have hf3 := hf.tr (hd2.tr hf2)
          have hb3 := hb.fr0 (hd2.tr hf2)
          generalize hq : minL (d.writes.filter (mine t)) = q
          have HQ := Lib.hid hq
          clear hq
          rcases q with _ | x
          · simp only [iv, Option.getD_none, Option.isSome_none]
            rcases o with _ | y
            · simp only [iv, Option.getD_none, Option.isSome_none]
              go_wp2
              go_roundw
              case rel => exact ⟨k + 1, none, by omega, by go_num, rfl, rfl, by rw [HT.out, clashes_hit HP.out, minL_append, ← HO.out, HQ.out]; simp [omin], hb3, hf3⟩
              case measure => simp [intOf]; omega
            · simp only [iv, Option.getD_some, Option.isSome_some]
              go_wp2
              go_roundw
              case rel => exact ⟨k + 1, some y, by omega, by go_num, rfl, rfl, by rw [HT.out, clashes_hit HP.out, minL_append, ← HO.out, HQ.out]; simp [omin], hb3, hf3⟩
              case measure => simp [intOf]; omega
          · simp only [iv, Option.getD_some, Option.isSome_some]
            rcases o with _ | y
            · simp only [iv, Option.getD_none, Option.isSome_none]
              go_wp2
              go_roundw
              case rel => exact ⟨k + 1, some x, by omega, by go_num, rfl, rfl, by rw [HT.out, clashes_hit HP.out, minL_append, ← HO.out, HQ.out]; simp [omin], hb3, hf3⟩
              case measure => simp [intOf]; omega
            · simp only [iv, Option.getD_some, Option.isSome_some]
              by_cases hxy : x < y
              · have e9 : decide (x < y) = true := by simpa using hxy
                have hm : min y x = x := by omega
                have HMin := Lib.hid hm
                clear hm hxy
                go_wp2
                go_roundw
                case rel => exact ⟨k + 1, some x, by omega, by go_num, rfl, rfl, by rw [HT.out, clashes_hit HP.out, minL_append, ← HO.out, HQ.out]; simp [omin, HMin.out], hb3, hf3⟩
                case measure => simp [intOf]; omega
              · have e9 : decide (x < y) = false := by simpa using hxy
                have hm : min y x = y := by omega
                have HMin := Lib.hid hm
                clear hm hxy
                go_wp2
                go_roundw
                case rel => exact ⟨k + 1, some y, by omega, by go_num, rfl, rfl, by rw [HT.out, clashes_hit HP.out, minL_append, ← HO.out, HQ.out]; simp [omin, HMin.out], hb3, hf3⟩
                case measure => simp [intOf]; omega
        | false =>
          by_cases h2 : e ≤ d.commit
          · have e2 : decide (e ≤ d.commit) = true := by simpa using h2
            have HP := Lib.hid (show pass t.base e false d.commit = false by unfold pass; rw [e1', show decide (d.commit < e) = false by simpa using h2]; rfl)
            clear h1 h2 e1'
            go_wp2_with fail
            (refine T_begin No [0, 1, 2, 3, 4, 5, 6, 7, 8, 9, 10, 11, 12, 13, 14, 15, 16, 17, 18, 19, 20] [] (by kernel_rfl) (by kernel_rfl) ?_; simp only [pickOps, List.filterMap_cons, List.filterMap_nil, List.getElem?_cons_zero, List.getElem?_cons_succ, Act.put])
            repeat (first | (refine T_skip (by rfl) (by rfl) (fun _ _ _ h => h) ?_; try simp only [Act.put, List.setIfInBounds_toArray, List.set_cons_zero, List.set_cons_succ]) | (refine T_pass (by rfl) (by rfl) ?_; try simp only [Act.put, List.setIfInBounds_toArray, List.set_cons_zero, List.set_cons_succ]) | (refine T_load (by assumption) (by rfl) (by rfl) (fun _ _ _ _ h => h) rfl rfl (by assumption) (by first | exact (fun hn => hn) | assumption) ?_; try simp only [Act.put, List.setIfInBounds_toArray, List.set_cons_zero, List.set_cons_succ]) | (refine T_nil (by rfl) (by rfl) (fun _ _ _ _ h => h) rfl rfl ?_; try simp only [Act.put, List.setIfInBounds_toArray, List.set_cons_zero, List.set_cons_succ]) | (refine T_quiet (by rfl) (by rfl) (by rfl) (fun _ _ _ _ h => h) (fun K hK => ?_); go_big_quiet_op; refine hK _ ?_; clear hK K) | (refine T_two (by rfl) (by rfl) (by rfl) (by rfl) (fun _ _ _ _ h => h) (fun K hK => ?_); go_big_quiet_op; refine ⟨_, fun _ _ => rfl, ?_⟩; refine hK _ ?_; clear hK K; try simp only [Act.put, List.setIfInBounds_toArray, List.set_cons_zero, List.set_cons_succ]) | fail)
            refine T_done ?_
            go_wp2
            go_roundw
            case rel => exact ⟨k + 1, o, by omega, by go_num, rfl, rfl, by rw [HT.out, clashes_miss HP.out]; exact HO.out, hb.drew, hf.drew⟩
            case measure => simp [intOf]; omega
          · have e2 : decide (e ≤ d.commit) = false := by simpa using h2
            have HP := Lib.hid (show pass t.base e false d.commit = true by unfold pass; rw [e1', show decide (d.commit < e) = true by simpa using h2]; rfl)
            clear h1 h2 e1'
            go_wp2_with fail
            (refine T_begin No [0, 1, 2, 3, 4, 5, 6, 7, 8, 9, 10, 11, 12, 13, 14, 15, 16, 17, 18, 19, 20] [] (by kernel_rfl) (by kernel_rfl) ?_; simp only [pickOps, List.filterMap_cons, List.filterMap_nil, List.getElem?_cons_zero, List.getElem?_cons_succ, Act.put])
            repeat (first | (refine T_skip (by rfl) (by rfl) (fun _ _ _ h => h) ?_; try simp only [Act.put, List.setIfInBounds_toArray, List.set_cons_zero, List.set_cons_succ]) | (refine T_pass (by rfl) (by rfl) ?_; try simp only [Act.put, List.setIfInBounds_toArray, List.set_cons_zero, List.set_cons_succ]) | (refine T_load (by assumption) (by rfl) (by rfl) (fun _ _ _ _ h => h) rfl rfl (by assumption) (by first | exact (fun hn => hn) | assumption) ?_; try simp only [Act.put, List.setIfInBounds_toArray, List.set_cons_zero, List.set_cons_succ]) | (refine T_nil (by rfl) (by rfl) (fun _ _ _ _ h => h) rfl rfl ?_; try simp only [Act.put, List.setIfInBounds_toArray, List.set_cons_zero, List.set_cons_succ]) | (refine T_quiet (by rfl) (by rfl) (by rfl) (fun _ _ _ _ h => h) (fun K hK => ?_); go_big_quiet_op; refine hK _ ?_; clear hK K) | (refine T_two (by rfl) (by rfl) (by rfl) (by rfl) (fun _ _ _ _ h => h) (fun K hK => ?_); go_big_quiet_op; refine ⟨_, fun _ _ => rfl, ?_⟩; refine hK _ ?_; clear hK K; try simp only [Act.put, List.setIfInBounds_toArray, List.set_cons_zero, List.set_cons_succ]) | fail)
            refine T_done ?_
            go_wp2_with fail
            (refine T_begin No [0, 1, 2, 3, 4, 5, 6, 7, 8, 9, 10, 11] [6] (by kernel_rfl) (by kernel_rfl) ?_; simp only [pickOps, List.filterMap_cons, List.filterMap_nil, List.getElem?_cons_zero, List.getElem?_cons_succ, Act.put])
            repeat (first | (refine T_skip (by rfl) (by rfl) (fun _ _ _ h => h) ?_; try simp only [Act.put, List.setIfInBounds_toArray, List.set_cons_zero, List.set_cons_succ]) | (refine T_pass (by rfl) (by rfl) ?_; try simp only [Act.put, List.setIfInBounds_toArray, List.set_cons_zero, List.set_cons_succ]) | (refine T_load (by assumption) (by rfl) (by rfl) (fun _ _ _ _ h => h) rfl rfl (by assumption) (by first | exact (fun hn => hn) | assumption) ?_; try simp only [Act.put, List.setIfInBounds_toArray, List.set_cons_zero, List.set_cons_succ]) | (refine T_nil (by rfl) (by rfl) (fun _ _ _ _ h => h) rfl rfl ?_; try simp only [Act.put, List.setIfInBounds_toArray, List.set_cons_zero, List.set_cons_succ]) | (refine T_quiet (by rfl) (by rfl) (by rfl) (fun _ _ _ _ h => h) (fun K hK => ?_); go_big_quiet_op; refine hK _ ?_; clear hK K) | (refine T_two (by rfl) (by rfl) (by rfl) (by rfl) (fun _ _ _ _ h => h) (fun K hK => ?_); go_big_quiet_op; refine ⟨_, fun _ _ => rfl, ?_⟩; refine hK _ ?_; clear hK K; try simp only [Act.put, List.setIfInBounds_toArray, List.set_cons_zero, List.set_cons_succ]) | fail)
            refine T_loadA ag_txn (by rfl) (by rfl) (fun _ _ _ _ h => h) rfl rfl rfl (show ∀ j u, _ → wr.cell? _ = some u from hb.all) (fun hn => hn) ?_
            try simp only [Act.put, List.setIfInBounds_toArray, List.set_cons_zero, List.set_cons_succ]
            (refine T_call (by rfl) (by rfl) (fun K hK => ?_); go_wp2_with fail)
            refine (clash_calls S Bw bw d.writes _ t _ (Rd.fr0 hdw hd2) (htc.fr0 (hf.tr hd2))).mono ?_
            rintro r w2 ⟨rfl, hf2⟩
            (refine hK.out _ _ (hf2) ?_; clear hK K; try simp only [Act.put, List.setIfInBounds_toArray, List.set_cons_zero, List.set_cons_succ])
            repeat (first | (refine T_skip (by rfl) (by rfl) (fun _ _ _ h => h) ?_; try simp only [Act.put, List.setIfInBounds_toArray, List.set_cons_zero, List.set_cons_succ]) | (refine T_pass (by rfl) (by rfl) ?_; try simp only [Act.put, List.setIfInBounds_toArray, List.set_cons_zero, List.set_cons_succ]) | (refine T_load (by assumption) (by rfl) (by rfl) (fun _ _ _ _ h => h) rfl rfl (by assumption) (by first | exact (fun hn => hn) | assumption) ?_; try simp only [Act.put, List.setIfInBounds_toArray, List.set_cons_zero, List.set_cons_succ]) | (refine T_nil (by rfl) (by rfl) (fun _ _ _ _ h => h) rfl rfl ?_; try simp only [Act.put, List.setIfInBounds_toArray, List.set_cons_zero, List.set_cons_succ]) | (refine T_quiet (by rfl) (by rfl) (by rfl) (fun _ _ _ _ h => h) (fun K hK => ?_); go_big_quiet_op; refine hK _ ?_; clear hK K) | (refine T_two (by rfl) (by rfl) (by rfl) (by rfl) (fun _ _ _ _ h => h) (fun K hK => ?_); go_big_quiet_op; refine ⟨_, fun _ _ => rfl, ?_⟩; refine hK _ ?_; clear hK K; try simp only [Act.put, List.setIfInBounds_toArray, List.set_cons_zero, List.set_cons_succ]) | fail)
            refine T_done ?_
            have hf3 := hf.tr (hd2.tr hf2)
            have hb3 := hb.fr0 (hd2.tr hf2)
            generalize hq : minL (d.writes.filter (mine t)) = q
            have HQ := Lib.hid hq
            clear hq
            rcases q with _ | x
            · simp only [iv, Option.getD_none, Option.isSome_none]
              rcases o with _ | y
              · simp only [iv, Option.getD_none, Option.isSome_none]
                go_wp2
                go_roundw
                case rel => exact ⟨k + 1, none, by omega, by go_num, rfl, rfl, by rw [HT.out, clashes_hit HP.out, minL_append, ← HO.out, HQ.out]; simp [omin], hb3, hf3⟩
                case measure => simp [intOf]; omega
              · simp only [iv, Option.getD_some, Option.isSome_some]
                go_wp2
                go_roundw
                case rel => exact ⟨k + 1, some y, by omega, by go_num, rfl, rfl, by rw [HT.out, clashes_hit HP.out, minL_append, ← HO.out, HQ.out]; simp [omin], hb3, hf3⟩
                case measure => simp [intOf]; omega
            · simp only [iv, Option.getD_some, Option.isSome_some]
              rcases o with _ | y
              · simp only [iv, Option.getD_none, Option.isSome_none]
                go_wp2
                go_roundw
                case rel => exact ⟨k + 1, some x, by omega, by go_num, rfl, rfl, by rw [HT.out, clashes_hit HP.out, minL_append, ← HO.out, HQ.out]; simp [omin], hb3, hf3⟩
                case measure => simp [intOf]; omega
              · simp only [iv, Option.getD_some, Option.isSome_some]
                by_cases hxy : x < y
                · have e9 : decide (x < y) = true := by simpa using hxy
                  have hm : min y x = x := by omega
                  have HMin := Lib.hid hm
                  clear hm hxy
                  go_wp2
                  go_roundw
                  case rel => exact ⟨k + 1, some x, by omega, by go_num, rfl, rfl, by rw [HT.out, clashes_hit HP.out, minL_append, ← HO.out, HQ.out]; simp [omin, HMin.out], hb3, hf3⟩
                  case measure => simp [intOf]; omega
                · have e9 : decide (x < y) = false := by simpa using hxy
                  have hm : min y x = y := by omega
                  have HMin := Lib.hid hm
                  clear hm hxy
                  go_wp2
                  go_roundw
                  case rel => exact ⟨k + 1, some y, by omega, by go_num, rfl, rfl, by rw [HT.out, clashes_hit HP.out, minL_append, ← HO.out, HQ.out]; simp [omin, HMin.out], hb3, hf3⟩
                  case measure => simp [intOf]; omega
    · obtain rfl : k = ts.length := by omega
      have ho := HO.out
      rw [List.take_length] at ho
      have HO' := Lib.hid ho.symm
      clear ho
      go_wp2
      go_ret2
      rw [HO'.out]
      exact ⟨rfl, hf⟩
end Go.Proofs.Ytmcmjnflahfbkaa
