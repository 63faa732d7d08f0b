/- valid.All and the reference's All. No condition but room. -/
import Derived.Test.YtmcmjnflahfbkaaPAll
import Derived.Test.YtmcmjnflahfbkaaVHist
namespace Go.Proofs.Ytmcmjnflahfbkaa
set_option linter.unusedVariables false
set_option linter.unusedSimpArgs false
open Go.RowKit Go.Maps

theorem wpList_max {P : Program} {w : World} {ops : Array Oper} {rest : List Oper} {o : Oper} {a : Act} {Q : Exit → Act → World → Prop} {t : TypeId} {kd : IntKind} (u v m : Int) (hm : m = max u v)
    (hw : Region.wanted o (yielded ops a.tmps) = true) {x y : Operand} (ho : o.op = .call { callee := .builtin .max, args := #[x, y], argTypes := #[t, t] }) (hx : a.eval x = .int kd u) (hy : a.eval y = .int kd v)
    (h : wpList P ops Q rest (a.put o.dst (.int kd m)) w) : wpList P ops Q (o :: rest) a w := by
  have hrun : ∀ ty, (Builtin.max_ #[t, t] ty #[.int kd u, .int kd v]).run P w = .ok (.int kd m) w := by
    intro ty
    subst hm
    have e : (if u < v then v else u) = max u v := by rw [Int.max_def]; split <;> split <;> omega
    simp [Builtin.max_, Builtin.max2, e]
  refine BigFrame.wpList_want hw fun K hK => ?_
  unfold Oper.wp execOp
  simp only [ho, resolve, invoke, builtin, Sem.run_bind, Sem.run_pure, Result.andThen_ok, List.map_toArray, List.map_cons, List.map_nil, hx, hy, hrun]
  exact hK _ _ h
/-- So many elements that may be written, in a row of S. -/
def RowW (w : World) (S : Nat → Prop) (A : Option Addr) (n : Nat) : Prop :=
  0 < n → ∃ g cur t, A = some ⟨g, 0, none⟩ ∧ S g ∧ w.heap[g]? = some (.cells cur t (0, 0)) ∧ n ≤ cur.size
theorem RowW.mono {w : World} {S T : Nat → Prop} {A : Option Addr} {n : Nat} (h : RowW w S A n) (hS : ∀ b, b < w.heap.size → S b → T b) : RowW w T A n := fun hn => by
  obtain ⟨g, cur, t, e, hs, hb, hl⟩ := h hn
  exact ⟨g, cur, t, e, hS g (Array.getElem?_eq_some_iff.1 hb).1 hs, hb, hl⟩
theorem RowW.keep {w w' : World} {S T : Nat → Prop} {A : Option Addr} {n : Nat} (h : RowW w S A n) (hf : Fr T w w') (hd : ∀ b, S b → ¬ T b) : RowW w' S A n := fun hn => by
  obtain ⟨g, cur, t, e, hs, hb, hl⟩ := h hn
  exact ⟨g, cur, t, e, hs, (hf.block g (Array.getElem?_eq_some_iff.1 hb).1 (hd g hs)).trans hb, hl⟩
theorem RowW.lt {w : World} {S : Nat → Prop} {A : Option Addr} {n : Nat} (h : RowW w S A n) : RowW w (fun b => S b ∧ b < w.heap.size) A n := fun hn => by
  obtain ⟨g, cur, t, e, hs, hb, hl⟩ := h hn
  exact ⟨g, cur, t, e, ⟨hs, (Array.getElem?_eq_some_iff.1 hb).1⟩, hb, hl⟩
theorem RowW.set {w : World} {S : Nat → Prop} {A : Option Addr} {n : Nat} (h : RowW w S A n) (q i : Nat) (u : Value) : RowW (w.setCell ⟨q, i, none⟩ u) S A n := fun hn => by
  obtain ⟨g, cur, t, e, hs, hb, hl⟩ := h hn
  by_cases hq : g = q
  · subst hq
    exact ⟨g, _, t, e, hs, Blk.put hb i u, by simpa using hl⟩
  · exact ⟨g, cur, t, e, hs, Blk.far hb (p := ⟨q, i, none⟩) hq u, hl⟩
theorem RowW.of_own {w : World} {base n c : Nat} {e : TypeId} {A : Option Addr} {xs : List Value} (h : w.ownsRow base e 1 (.slice A n c) n xs) : RowW w (fun b => A.map (·.block) = some b) A n := fun hn => by
  rcases h.2 with ⟨_, h0⟩ | ⟨g, cap, cur, e, h1, h2, h3, h4, h5, h6⟩
  · omega
  · injection e with e1 e2 e3
    subst e1
    exact ⟨g, cur, _, rfl, rfl, h2, by omega⟩
/-- Cells, four by four: each fourth one is a slice that may be written. -/
def AllW (w : World) (S : Nat → Prop) (xs : List Value) : Prop := ∀ k, k * 4 + 3 < xs.length → ∃ A n c, xs[k * 4 + 3]? = some (.slice A n c) ∧ n ≤ 1048576 ∧ RowW w S A n
theorem AllW.mono {w : World} {S T : Nat → Prop} {xs : List Value} (h : AllW w S xs) (hS : ∀ b, b < w.heap.size → S b → T b) : AllW w T xs := fun k hk => by
  obtain ⟨A, n, c, e, hn, hr⟩ := h k hk; exact ⟨A, n, c, e, hn, hr.mono hS⟩
theorem AllW.keep {w w' : World} {S T : Nat → Prop} {xs : List Value} (h : AllW w S xs) (hf : Fr T w w') (hd : ∀ b, S b → ¬ T b) : AllW w' S xs := fun k hk => by
  obtain ⟨A, n, c, e, hn, hr⟩ := h k hk; exact ⟨A, n, c, e, hn, hr.keep hf hd⟩
theorem AllW.set {w : World} {S : Nat → Prop} {xs : List Value} (h : AllW w S xs) (q i : Nat) (u : Value) : AllW (w.setCell ⟨q, i, none⟩ u) S xs := fun k hk => by
  obtain ⟨A, n, c, e, hn, hr⟩ := h k hk; exact ⟨A, n, c, e, hn, hr.set q i u⟩
theorem AllW.snoc {w : World} {S : Nat → Prop} {xs : List Value} {a b c : Value} {A : Option Addr} {n cp m : Nat} (hl : xs.length = m * 4) (h : AllW w S xs) (hn : n ≤ 1048576) (hr : RowW w S A n) : AllW w S (xs ++ [a, b, c, .slice A n cp]) := fun k hk => by
  rw [List.length_append, hl] at hk
  simp only [List.length_cons, List.length_nil] at hk
  rcases Nat.lt_or_ge k m with hkm | hkm
  · rw [List.getElem?_append_left (by omega)]
    exact h k (by omega)
  · obtain rfl : k = m := by omega
    rw [List.getElem?_append_right (by omega), hl, show k * 4 + 3 - k * 4 = 3 by omega]
    exact ⟨A, n, cp, rfl, hn, hr⟩

theorem stepA_no {s : List Txn × Int} {t : Txn} (h : accM s.1 t = false) : stepA s t = s := by unfold stepA; rw [if_neg (by rw [h]; exact Bool.false_ne_true)]
theorem stepA_yes {s : List Txn × Int} {t : Txn} {M : Int} (h : accM s.1 t = true) (hM : M = max s.2 t.base) : stepA s t = (s.1 ++ [⟨t.base, M + 1, t.reads, t.writes⟩], M + 1) := by
  subst hM; unfold stepA; rw [if_pos h]; rfl

theorem TxnC.rds {w : World} {S : Nat → Prop} {d : Txn} {b c : Int} {n m : Nat} {Ar Aw : Option Addr} {cr cw : Nat} (h : TxnC w S [.int .i64 b, .int .i64 c, .slice Ar n cr, .slice Aw m cw] d) : RdI w S Ar d.reads ∧ RdI w S Aw d.writes := by
  obtain ⟨_, _, _, _, e, hr, hw⟩ := h
  simp only [List.cons.injEq, Value.slice.injEq] at e
  obtain ⟨_, _, ⟨rfl, _, _⟩, ⟨rfl, _, _⟩, _⟩ := e
  exact ⟨hr, hw⟩
set_option maxHeartbeats 4000000 in
theorem all_calls (A : Option Addr) (c : Nat) (ts : List Txn) (w : World) (h : RdT w (fun b => b < w.heap.size) A ts) (ok : ∀ d ∈ ts, TxnOk d) (hb : bulkT ts ≤ 1048576) (hl : ts.length ≤ 100) :
    Calls Try.prog 19 #[.slice A ts.length c] w fun e w' => ∃ A' c' xs, e = .returned (.slice A' (allS ts).1.length c') ∧ w'.ownsRow w.heap.size 32 4 (.slice A' (allS ts).1.length c') (allS ts).1.length xs ∧
      TxnsC w' (fun b => w.heap.size ≤ b ∧ (Value.slice A' (allS ts).1.length c').ownBlock ≠ some b) xs (allS ts).1 ∧ AllW w' (fun b => w.heap.size ≤ b ∧ (Value.slice A' (allS ts).1.length c').ownBlock ≠ some b) xs ∧ Fr No w w' := by
  have hle := h.le
  have OK := Lib.hid ok
  have HB := Lib.hid hb
  clear ok hb
  have g1 := plain_i64
  have g4 := plain_li64
  go_enter Try.func19, Try.ntmps19
  go_wp2
  go_loopw [3, 4, 11] (fun v la i wr => ∃ (k : Nat) (s : List Txn × Int) (xs : List Value), k ≤ ts.length ∧ i = .int .i64 k ∧ la = .int .i64 s.2 ∧ s = allS (ts.take k) ∧ BndA ts k s ∧
    wr.ownsRow w.heap.size 32 4 v s.1.length xs ∧ TxnsC wr (fun b => w.heap.size ≤ b ∧ v.ownBlock ≠ some b) xs s.1 ∧ AllW wr (fun b => w.heap.size ≤ b ∧ v.ownBlock ≠ some b) xs ∧ Fr No w wr) (fun _ _ i _ => ts.length - (intOf i).toNat)
  case atStart => exact ⟨0, ([], 0), [], by omega, rfl, rfl, rfl, bnd_start ts, World.ownsRow_nil _ _ _ _, rfl, fun k hk => by simp at hk, Fr.refl _ _⟩
  case round =>
    obtain ⟨k, s, xs, hk, rfl, rfl, hs, hbnd, hown, hx, hall, hf⟩ := hrel
    obtain ⟨A0, c0, rfl, hc0, _, hA0⟩ := own_form hown
    by_cases hlt : k < ts.length
    · obtain ⟨g, of, Ar, cr, Aw, cw, rfl, _, hk4, htc⟩ := (h.fr0 hf).atC hlt
      have htk : ts.take (k + 1) = ts.take k ++ [ts[k]] := by rw [List.take_add_one, List.getElem?_eq_getElem hlt]; rfl
      have hs' : stepA s ts[k] = allS (ts.take (k + 1)) := by rw [htk, allS_snoc, hs]
      have HS := Lib.hid hs'
      have hbn := bnd_step hlt OK.out hbnd
      have HBN := Lib.hid hbn
      have okd := OK.out _ (List.getElem_mem hlt)
      have hbd := bulkT_mem (List.getElem_mem hlt)
      have hwl : ts[k].writes.length ≤ 1048576 ∧ ts[k].reads.length ≤ 1048576 := by have := HB.out; omega
      obtain ⟨⟨i0, i1, i2⟩, b1, b2, b3, b4⟩ := hbnd
      have htb : bulkT (ts.take k) ≤ bulkT ts := by
        have := congrArg bulkT (List.take_append_drop k ts)
        rw [bulkT_app] at this; omega
      have hroom : Room s.1 ts[k] (sinceP ts[k].base) := room_any b4 okd (by have := HB.out; omega)
      clear htk hs hs' hbn okd hbd i1 i2 b3 b4 htb
      generalize ts[k] = d at *
      obtain ⟨ds, la⟩ := s
      try dsimp only at *
      have ek : decide ((k : Int) < ts.length) = true := by simpa using (by omega : (k : Int) < ts.length)
      have hbT := Blk.new wr 32 #[.int .i64 d.base, .int .i64 d.commit, .slice Ar d.reads.length cr, .slice Aw d.writes.length cw]
      have hf3 : Fr No wr (wr.alloc (.cells #[.int .i64 d.base, .int .i64 d.commit, .slice Ar d.reads.length cr, .slice Aw d.writes.length cw] 32)) := (Fr.refl No wr).alloc _
      go_wp2_with (first
        | (refine wpList_ldA ag_vtxn rfl _ rfl ⟨g, of + k * 4, none⟩ [.int .i64 d.base, .int .i64 d.commit, .slice Ar d.reads.length cr, .slice Aw d.writes.length cw] rfl rfl hk4 ?_)
        | (refine wpList_ldA ag_vtxn rfl _ rfl ⟨wr.heap.size, 0, none⟩ [.int .i64 d.base, .int .i64 d.commit, .slice Ar d.reads.length cr, .slice Aw d.writes.length cw] rfl rfl hbT.all ?_)
        | fail)
      have hrd : RdT wr (fun _ => True) A0 ds := ⟨xs, (own_rd hown (by omega)).mono (fun _ _ _ => trivial) (by decide), hx.mono (fun _ _ _ => trivial)⟩
      refine (check_calls (fun _ => True) A0 c0 ds [.int .i64 d.base, .int .i64 d.commit, .slice Ar d.reads.length cr, .slice Aw d.writes.length cw] d _ (hrd.fr0 hf3) ((htc.mono (fun _ _ _ => trivial)).fr0 hf3) hroom).mono ?_
      rintro e w4 ⟨rfl, hf4⟩
      generalize hq : checkM ds d = q
      have HQ := Lib.hid hq
      clear hq
      have p0 := hf4.cell_some (hbT.cell 0) (fun hn => hn)
      have p2 := hf4.cell_some (hbT.cell 2) (fun hn => hn)
      have p3 := hf4.cell_some (hbT.cell 3) (fun hn => hn)
      have hf34 := hf3.tr hf4
      rcases q with _ | m
      · simp only [iv_none, errOf_none]
        by_cases hb0 : d.base < 0 ∨ 1099511627776 < d.base
        · have HA := Lib.hid (stepA_no (s := (ds, la)) (t := d) (by
            simp only [accM, Bool.and_eq_false_iff, decide_eq_false_iff_not]; rcases hb0 with hb0 | hb0
            · exact .inr (.inl (by omega))
            · exact .inr (.inr (by omega))))
          rcases hb0 with hb0 | hb0
          · have e1 : decide (d.base < 0) = true := by simpa using hb0
            go_wp2
            go_roundw
            case rel => exact ⟨k + 1, (ds, la), xs, by omega, by go_num, rfl, by rw [← HS.out, HA.out], by have := HBN.out; rw [HA.out] at this; exact this, own_fr0 hown hf34, TxnsC.keep hf34 (fun _ _ hn => hn) hx, hall.keep hf34 (fun _ _ hn => hn), hf.tr hf34⟩
            case measure => simp [intOf]; omega
          · have e1 : decide (d.base < 0) = false := by simp; omega
            have e2 : decide (1099511627776 < d.base) = true := by simpa using hb0
            go_wp2
            go_roundw
            case rel => exact ⟨k + 1, (ds, la), xs, by omega, by go_num, rfl, by rw [← HS.out, HA.out], by have := HBN.out; rw [HA.out] at this; exact this, own_fr0 hown hf34, TxnsC.keep hf34 (fun _ _ hn => hn) hx, hall.keep hf34 (fun _ _ hn => hn), hf.tr hf34⟩
            case measure => simp [intOf]; omega
        · have hb1 : 0 ≤ d.base := by omega
          have hb2 : d.base ≤ 1099511627776 := by omega
          have e1 : decide (d.base < 0) = false := by simp; omega
          have e2 : decide (1099511627776 < d.base) = false := by simp; omega
          have hacc : accM ds d = true := by simp only [accM, HQ.out]; simp [hb1, hb2]
          obtain ⟨M, hM⟩ : ∃ M, M = max la d.base := ⟨_, rfl⟩
          have HA := Lib.hid (stepA_yes (s := (ds, la)) hacc hM)
          have hM0 : 0 ≤ M := by omega
          have hM1 : M ≤ 2199023255552 := by omega
          have HM := Lib.hid hM
          clear hacc hM hb0
          go_wp2_with (first
            | (refine wpList_max (t := 2) la d.base M HM.out rfl rfl rfl rfl ?_)
            | fail)
          have hv0 : ∀ b, (Value.slice A0 ds.length c0).ownBlock = some b → w.heap.size ≤ b ∧ b < wr.heap.size := fun b hb => hown.lt b hb
          have hs34 := hf34.size
          have hs3 : wr.heap.size < w4.heap.size := by have := hf4.size; simp at this; omega
          have hST : ¬ ((Value.slice A0 ds.length c0).ownBlock = some wr.heap.size) := fun hh => by have := (hv0 _ hh).2; omega
          have HV0 := Lib.hid hv0
          clear hv0
          (refine T_begin (fun b => (Value.slice A0 ds.length c0).ownBlock = some b) [0, 1, 2, 3, 4, 5, 7, 8, 6, 9, 10, 11, 12, 13] [6, 9, 11, 12] (by kernel_rfl) (by kernel_rfl) ?_; simp only [pickOps, List.filterMap_cons, List.filterMap_nil, List.getElem?_cons_zero, List.getElem?_cons_succ, Act.put])
          repeat (first | (refine T_skip (by rfl) (by rfl) (fun _ _ _ h => h) ?_; try simp only [Act.put, List.setIfInBounds_toArray, List.set_cons_zero, List.set_cons_succ]) | (refine T_pass (by rfl) (by rfl) ?_; try simp only [Act.put, List.setIfInBounds_toArray, List.set_cons_zero, List.set_cons_succ]) | (refine T_load (by assumption) (by rfl) (by rfl) (fun _ _ _ _ h => h) rfl rfl (by assumption) (by first | exact (fun hn => hn) | assumption) ?_; try simp only [Act.put, List.setIfInBounds_toArray, List.set_cons_zero, List.set_cons_succ]) | (refine T_nil (by rfl) (by rfl) (fun _ _ _ _ h => h) rfl rfl ?_; try simp only [Act.put, List.setIfInBounds_toArray, List.set_cons_zero, List.set_cons_succ]) | (refine T_quiet (by rfl) (by rfl) (by rfl) (fun _ _ _ _ h => h) (fun K hK => ?_); go_big_quiet_op; refine hK _ ?_; clear hK K) | (refine T_two (by rfl) (by rfl) (by rfl) (by rfl) (fun _ _ _ _ h => h) (fun K hK => ?_); go_big_quiet_op; refine ⟨_, fun _ _ => rfl, ?_⟩; refine hK _ ?_; clear hK K; try simp only [Act.put, List.setIfInBounds_toArray, List.set_cons_zero, List.set_cons_succ]) | fail)
          (refine T_call (by rfl) (by rfl) (fun K hK => ?_); go_wp2_with fail)
          refine Calls.mono (clone_calls (fun b => b < w.heap.size) Ar cr d.reads _ (Rd.fr0 htc.rds.1 hf34.drew) (by omega)) ?_
          rintro e w5 ⟨vr, rfl, hownr, hf5⟩
          have hf5' : Fr No w4 w5 := ⟨hf5.os, hf5.tape, hf5.output, hf5.size, hf5.block⟩
          replace hownr : w5.ownsRow w4.heap.size 2 1 vr d.reads.length (I64 d.reads) := hownr
          obtain ⟨A5, c5, rfl, hc5, _, hA5⟩ := own_form hownr
          (refine hK.out _ _ ((hf5.mono (fun _ _ hn => hn.elim))) ?_; clear hK K; try simp only [Act.put, List.setIfInBounds_toArray, List.set_cons_zero, List.set_cons_succ])
          clear hf5
          repeat (first | (refine T_skip (by rfl) (by rfl) (fun _ _ _ h => h) ?_; try simp only [Act.put, List.setIfInBounds_toArray, List.set_cons_zero, List.set_cons_succ]) | (refine T_pass (by rfl) (by rfl) ?_; try simp only [Act.put, List.setIfInBounds_toArray, List.set_cons_zero, List.set_cons_succ]) | (refine T_load (by assumption) (by rfl) (by rfl) (fun _ _ _ _ h => h) rfl rfl (by assumption) (by first | exact (fun hn => hn) | assumption) ?_; try simp only [Act.put, List.setIfInBounds_toArray, List.set_cons_zero, List.set_cons_succ]) | (refine T_nil (by rfl) (by rfl) (fun _ _ _ _ h => h) rfl rfl ?_; try simp only [Act.put, List.setIfInBounds_toArray, List.set_cons_zero, List.set_cons_succ]) | (refine T_quiet (by rfl) (by rfl) (by rfl) (fun _ _ _ _ h => h) (fun K hK => ?_); go_big_quiet_op; refine hK _ ?_; clear hK K) | (refine T_two (by rfl) (by rfl) (by rfl) (by rfl) (fun _ _ _ _ h => h) (fun K hK => ?_); go_big_quiet_op; refine ⟨_, fun _ _ => rfl, ?_⟩; refine hK _ ?_; clear hK K; try simp only [Act.put, List.setIfInBounds_toArray, List.set_cons_zero, List.set_cons_succ]) | fail)
          (refine T_call (by rfl) (by rfl) (fun K hK => ?_); go_wp2_with fail)
          refine Calls.mono (clone_calls (fun b => b < w.heap.size) Aw cw d.writes _ (Rd.fr0 htc.rds.2 (hf34.tr hf5')) (by omega)) ?_
          rintro e w6 ⟨vw, rfl, hownw, hf6⟩
          obtain ⟨A6, c6, rfl, hc6, _, hA6⟩ := own_form hownw
          (refine hK.out _ _ ((hf6.mono (fun _ _ hn => hn.elim))) ?_; clear hK K; try simp only [Act.put, List.setIfInBounds_toArray, List.set_cons_zero, List.set_cons_succ])
          repeat (first | (refine T_skip (by rfl) (by rfl) (fun _ _ _ h => h) ?_; try simp only [Act.put, List.setIfInBounds_toArray, List.set_cons_zero, List.set_cons_succ]) | (refine T_pass (by rfl) (by rfl) ?_; try simp only [Act.put, List.setIfInBounds_toArray, List.set_cons_zero, List.set_cons_succ]) | (refine T_load (by assumption) (by rfl) (by rfl) (fun _ _ _ _ h => h) rfl rfl (by assumption) (by first | exact (fun hn => hn) | assumption) ?_; try simp only [Act.put, List.setIfInBounds_toArray, List.set_cons_zero, List.set_cons_succ]) | (refine T_nil (by rfl) (by rfl) (fun _ _ _ _ h => h) rfl rfl ?_; try simp only [Act.put, List.setIfInBounds_toArray, List.set_cons_zero, List.set_cons_succ]) | (refine T_quiet (by rfl) (by rfl) (by rfl) (fun _ _ _ _ h => h) (fun K hK => ?_); go_big_quiet_op; refine hK _ ?_; clear hK K) | (refine T_two (by rfl) (by rfl) (by rfl) (by rfl) (fun _ _ _ _ h => h) (fun K hK => ?_); go_big_quiet_op; refine ⟨_, fun _ _ => rfl, ?_⟩; refine hK _ ?_; clear hK K; try simp only [Act.put, List.setIfInBounds_toArray, List.set_cons_zero, List.set_cons_succ]) | fail)
          (refine T_call (by rfl) (by rfl) (fun K hK => ?_); go_wp2_with fail)
          (refine hK.out _ _ (((Fr.refl _ w6).alloc _)) ?_; clear hK K; try simp only [Act.put, List.setIfInBounds_toArray, List.set_cons_zero, List.set_cons_succ])
          have hs5 := hf5'.size
          have hs6 := hf6.size
          have hown6 := own_fr0 (own_fr0 (own_fr0 hown hf34) hf5') hf6
          refine T_call (by rfl) (by rfl) (fun K hK => ?_)
          refine wp_app_at so_vtxn (own_fr0 hown6 ((Fr.refl No w6).alloc (.cells #[.int .i64 d.base, .int .i64 (M + 1), .slice A5 d.reads.length c5, .slice A6 d.writes.length c6] 32))) ((Blk.new w6 _ _).rd (size := 4) (n := 1) (by rfl) (by decide)) (by intro u hu; simp at hu; rcases hu with rfl | rfl | rfl | rfl <;> rfl) (by omega) (by have := hf.size; simp; omega) rfl rfl rfl ?_
          intro v7 w7 hown7 hg7 hat7
          refine hK.out _ _ ((Fr.refl _ _).grown hg7 (fun q hq => .inr hq)) ?_
          clear hK K
          simp only [Act.put, List.setIfInBounds_toArray, List.set_cons_zero, List.set_cons_succ]
          repeat (first | (refine T_skip (by rfl) (by rfl) (fun _ _ _ h => h) ?_; try simp only [Act.put, List.setIfInBounds_toArray, List.set_cons_zero, List.set_cons_succ]) | (refine T_pass (by rfl) (by rfl) ?_; try simp only [Act.put, List.setIfInBounds_toArray, List.set_cons_zero, List.set_cons_succ]) | (refine T_load (by assumption) (by rfl) (by rfl) (fun _ _ _ _ h => h) rfl rfl (by assumption) (by first | exact (fun hn => hn) | assumption) ?_; try simp only [Act.put, List.setIfInBounds_toArray, List.set_cons_zero, List.set_cons_succ]) | (refine T_nil (by rfl) (by rfl) (fun _ _ _ _ h => h) rfl rfl ?_; try simp only [Act.put, List.setIfInBounds_toArray, List.set_cons_zero, List.set_cons_succ]) | (refine T_quiet (by rfl) (by rfl) (by rfl) (fun _ _ _ _ h => h) (fun K hK => ?_); go_big_quiet_op; refine hK _ ?_; clear hK K) | (refine T_two (by rfl) (by rfl) (by rfl) (by rfl) (fun _ _ _ _ h => h) (fun K hK => ?_); go_big_quiet_op; refine ⟨_, fun _ _ => rfl, ?_⟩; refine hK _ ?_; clear hK K; try simp only [Act.put, List.setIfInBounds_toArray, List.set_cons_zero, List.set_cons_succ]) | fail)
          refine T_done ?_
          have hg7b : Fr (fun b => (Value.slice A0 ds.length c0).ownBlock = some b) w6 w7 := ((Fr.refl _ w6).alloc _).grown hg7 (fun q hq => .inr hq)
          have hsz7 := hg7b.size
          have hf46 : Fr No wr w6 := hf34.tr (hf5'.tr hf6)
          have hv7 : ∀ b, v7.ownBlock = some b → (Value.slice A0 ds.length c0).ownBlock = some b ∨ w6.heap.size < b := by
            intro b hb
            rcases hat7 with h3 | h3
            · exact .inl (h3 ▸ hb)
            · rw [h3] at hb; simp at hb; exact .inr (by omega)
          have hnew : ∀ b, w4.heap.size ≤ b → b < w6.heap.size → v7.ownBlock ≠ some b := by
            intro b hb1 hb2 h3
            rcases hv7 b h3 with h4 | h4
            · have := (HV0.out b h4).2; omega
            · omega
          have hkeep : ∀ b, ((w.heap.size ≤ b ∧ (Value.slice A0 ds.length c0).ownBlock ≠ some b) ∧ b < wr.heap.size) → (w.heap.size ≤ b ∧ v7.ownBlock ≠ some b) := by
            intro b hb
            refine ⟨hb.1.1, fun h3 => ?_⟩
            rcases hv7 b h3 with h4 | h4
            · exact hb.1.2 h4
            · have := hf46.size; omega
          go_wp2
          go_roundw
          case rel =>
            refine ⟨k + 1, (ds ++ [⟨d.base, M + 1, d.reads, d.writes⟩], M + 1), xs ++ [.int .i64 d.base, .int .i64 (M + 1), .slice A5 d.reads.length c5, .slice A6 d.writes.length c6], by omega, by go_num, rfl, by rw [← HS.out, HA.out], by have := HBN.out; rw [HA.out] at this; exact this, ?_, ?_, ?_, ?_⟩
            · show w7.ownsRow _ _ 4 v7 (ds ++ [_]).length _
              rw [List.length_append]; exact hown7
            · refine TxnsC.snoc (TxnsC.mono (S := fun b => (w.heap.size ≤ b ∧ (Value.slice A0 ds.length c0).ownBlock ≠ some b) ∧ b < wr.heap.size) (fun b _ hb => hkeep b hb) (TxnsC.keep hg7b (fun b hb hT => hb.1.2 hT) (TxnsC.keep hf46 (fun _ _ hn => hn) (hx.mono (fun b hlt hb => ⟨hb, hlt⟩))))) ⟨A5, c5, A6, c6, rfl, ?_, ?_⟩
              · exact Rd.mono (Rd.fr (Rd.fr0 ((own_rd hownr (by omega)).lt (by decide)) hf6) hg7b (fun b hb hT => by have := (hownr.lt b ((hA5 b).2 hb.1)).1; have := (HV0.out b hT).2; omega)) (fun b _ hb => ⟨by have := (hownr.lt b ((hA5 b).2 hb.1)).1; have := hf.size; omega, hnew b (by have := (hownr.lt b ((hA5 b).2 hb.1)).1; omega) (by have := hb.2; omega)⟩) (by decide)
              · exact Rd.mono (Rd.fr ((own_rd hownw (by omega)).lt (by decide)) hg7b (fun b hb hT => by have := (hownw.lt b ((hA6 b).2 hb.1)).1; have := (HV0.out b hT).2; omega)) (fun b _ hb => ⟨by have := (hownw.lt b ((hA6 b).2 hb.1)).1; have := hf.size; omega, hnew b (by have := (hownw.lt b ((hA6 b).2 hb.1)).1; omega) (by have := hb.2; omega)⟩) (by decide)
            · refine AllW.snoc (m := ds.length) hown.1 (AllW.mono (S := fun b => (w.heap.size ≤ b ∧ (Value.slice A0 ds.length c0).ownBlock ≠ some b) ∧ b < wr.heap.size) (AllW.keep (AllW.keep (hall.mono (fun b hlt hb => ⟨hb, hlt⟩)) hf46 (fun _ _ hn => hn)) hg7b (fun b hb hT => hb.1.2 hT)) (fun b _ hb => hkeep b hb)) hwl.1 ?_
              · exact RowW.mono (RowW.keep ((RowW.of_own hownw).lt) hg7b (fun b hb hT => by have := (hownw.lt b ((hA6 b).2 hb.1)).1; have := (HV0.out b hT).2; omega)) (fun b _ hb => ⟨by have := (hownw.lt b ((hA6 b).2 hb.1)).1; have := hf.size; omega, hnew b (by have := (hownw.lt b ((hA6 b).2 hb.1)).1; omega) (by have := hb.2; omega)⟩)
            · exact (hf.tr hf46).trans hg7b (fun b hb hT => by have := (HV0.out b hT).1; omega)
          case measure => simp [intOf]; omega
      · simp only [iv_some, errOf_some]
        have HA := Lib.hid (stepA_no (s := (ds, la)) (t := d) (by simp only [accM]; rw [HQ.out]; rfl))
        go_wp2
        go_roundw
        case rel => exact ⟨k + 1, (ds, la), xs, by omega, by go_num, rfl, by rw [← HS.out, HA.out], by have := HBN.out; rw [HA.out] at this; exact this, own_fr0 hown hf34, TxnsC.keep hf34 (fun _ _ hn => hn) hx, hall.keep hf34 (fun _ _ hn => hn), hf.tr hf34⟩
        case measure => simp [intOf]; omega
    · obtain rfl : k = ts.length := by omega
      rw [List.take_length] at hs
      have ek : decide ((ts.length : Int) < ts.length) = false := by simp
      have HS := Lib.hid hs
      clear hs
      go_wp2
      go_ret
      have := HS.out
      subst this
      exact ⟨A0, c0, xs, rfl, hown, hx, hall, hf⟩
set_option maxHeartbeats 4000000 in
theorem refall_calls (A : Option Addr) (c : Nat) (ts : List Txn) (w : World) (h : RdT w (fun b => b < w.heap.size) A ts) (ok : ∀ d ∈ ts, TxnOk d) (hb : bulkT ts ≤ 1048576) (hl : ts.length ≤ 100) :
    Calls Try.prog 20 #[.slice A ts.length c] w fun e w' => ∃ A' c', e = .returned (.slice A' (allS ts).1.length c') ∧ RdT w' (fun _ => True) A' (allS ts).1 ∧ Fr No w w' := by
  have hle := h.le
  have OK := Lib.hid ok
  have HB := Lib.hid hb
  clear ok hb
  have g1 := plain_i64
  have g4 := plain_li64
  go_enter Try.func20, Try.ntmps20
  go_wp2
  go_loopw [3, 4, 5] (fun v la i wr => ∃ (k : Nat) (s : List Txn × Int) (xs : List Value), k ≤ ts.length ∧ i = .int .i64 k ∧ la = .int .i64 s.2 ∧ s = allS (ts.take k) ∧ BndA ts k s ∧
    wr.ownsRow w.heap.size 25 4 v s.1.length xs ∧ TxnsC wr (fun b => v.ownBlock ≠ some b) xs s.1 ∧ Fr No w wr) (fun _ _ i _ => ts.length - (intOf i).toNat)
  case atStart => exact ⟨0, ([], 0), [], by omega, rfl, rfl, rfl, bnd_start ts, World.ownsRow_nil _ _ _ _, rfl, Fr.refl _ _⟩
  case round =>
    obtain ⟨k, s, xs, hk, rfl, rfl, hs, hbnd, hown, hx, hf⟩ := hrel
    obtain ⟨A0, c0, rfl, hc0, _, hA0⟩ := own_form hown
    by_cases hlt : k < ts.length
    · obtain ⟨g, of, Ar, cr, Aw, cw, rfl, hgS, hk4, htc⟩ := (h.fr0 hf).atC hlt
      have htk : ts.take (k + 1) = ts.take k ++ [ts[k]] := by rw [List.take_add_one, List.getElem?_eq_getElem hlt]; rfl
      have hs' : stepA s ts[k] = allS (ts.take (k + 1)) := by rw [htk, allS_snoc, hs]
      have HS := Lib.hid hs'
      have hbn := bnd_step hlt OK.out hbnd
      have HBN := Lib.hid hbn
      have okd := OK.out _ (List.getElem_mem hlt)
      have hbd := bulkT_mem (List.getElem_mem hlt)
      have hwl : ts[k].writes.length ≤ 1048576 ∧ ts[k].reads.length ≤ 1048576 := by have := HB.out; omega
      obtain ⟨⟨i0, i1, i2⟩, b1, b2, b3, b4⟩ := hbnd
      clear htk hs hs' hbn okd hbd i1 i2 b3 b4
      generalize ts[k] = d at *
      obtain ⟨ds, la⟩ := s
      try dsimp only at *
      have ek : decide ((k : Int) < ts.length) = true := by simpa using (by omega : (k : Int) < ts.length)
      have hbT := Blk.new wr 25 #[.int .i64 d.base, .int .i64 d.commit, .slice Ar d.reads.length cr, .slice Aw d.writes.length cw]
      have hf3 : Fr No wr (wr.alloc (.cells #[.int .i64 d.base, .int .i64 d.commit, .slice Ar d.reads.length cr, .slice Aw d.writes.length cw] 25)) := (Fr.refl No wr).alloc _
      go_wp2_with (first
        | (refine wpList_ldA ag_txn rfl _ rfl ⟨g, of + k * 4, none⟩ [.int .i64 d.base, .int .i64 d.commit, .slice Ar d.reads.length cr, .slice Aw d.writes.length cw] rfl rfl hk4 ?_)
        | (refine wpList_ldA ag_txn rfl _ rfl ⟨wr.heap.size, 0, none⟩ [.int .i64 d.base, .int .i64 d.commit, .slice Ar d.reads.length cr, .slice Aw d.writes.length cw] rfl rfl hbT.all ?_)
        | fail)
      have hrd : RdT wr (fun _ => True) A0 ds := ⟨xs, (own_rd hown (by omega)).mono (fun _ _ _ => trivial) (by decide), hx.mono (fun _ _ _ => trivial)⟩
      refine (refcheck_calls (fun _ => True) A0 c0 ds [.int .i64 d.base, .int .i64 d.commit, .slice Ar d.reads.length cr, .slice Aw d.writes.length cw] d _ (hrd.fr0 hf3) ((htc.mono (fun _ _ _ => trivial)).fr0 hf3)).mono ?_
      rintro e w4 ⟨rfl, hf4⟩
      generalize hq : checkM ds d = q
      have HQ := Lib.hid hq
      clear hq
      have p0 := hf4.cell_some (hbT.cell 0) (fun hn => hn)
      have p2 := hf4.cell_some (hbT.cell 2) (fun hn => hn)
      have p3 := hf4.cell_some (hbT.cell 3) (fun hn => hn)
      have hf34 := hf3.tr hf4
      rcases q with _ | m
      · simp only [iv_none, errOf_none]
        by_cases hb0 : d.base < 0 ∨ 1099511627776 < d.base
        · have HA := Lib.hid (stepA_no (s := (ds, la)) (t := d) (by
            simp only [accM, Bool.and_eq_false_iff, decide_eq_false_iff_not]; rcases hb0 with hb0 | hb0
            · exact .inr (.inl (by omega))
            · exact .inr (.inr (by omega))))
          rcases hb0 with hb0 | hb0
          · have e1 : decide (d.base < 0) = true := by simpa using hb0
            go_wp2
            go_roundw
            case rel => exact ⟨k + 1, (ds, la), xs, by omega, by go_num, rfl, by rw [← HS.out, HA.out], by have := HBN.out; rw [HA.out] at this; exact this, own_fr0 hown hf34, TxnsC.keep hf34 (fun _ _ hn => hn) hx, hf.tr hf34⟩
            case measure => simp [intOf]; omega
          · have e1 : decide (d.base < 0) = false := by simp; omega
            have e2 : decide (1099511627776 < d.base) = true := by simpa using hb0
            go_wp2
            go_roundw
            case rel => exact ⟨k + 1, (ds, la), xs, by omega, by go_num, rfl, by rw [← HS.out, HA.out], by have := HBN.out; rw [HA.out] at this; exact this, own_fr0 hown hf34, TxnsC.keep hf34 (fun _ _ hn => hn) hx, hf.tr hf34⟩
            case measure => simp [intOf]; omega
        · have hb1 : 0 ≤ d.base := by omega
          have hb2 : d.base ≤ 1099511627776 := by omega
          have e1 : decide (d.base < 0) = false := by simp; omega
          have e2 : decide (1099511627776 < d.base) = false := by simp; omega
          have hacc : accM ds d = true := by simp only [accM, HQ.out]; simp [hb1, hb2]
          obtain ⟨M, hM⟩ : ∃ M, M = max la d.base := ⟨_, rfl⟩
          have HA := Lib.hid (stepA_yes (s := (ds, la)) hacc hM)
          have hM0 : 0 ≤ M := by omega
          have hM1 : M ≤ 2199023255552 := by omega
          have hcs : (decide (la < d.base) = true ∧ d.base = M) ∨ (decide (la < d.base) = false ∧ la = M) := by
            by_cases h3 : la < d.base
            · exact .inl ⟨by simpa using h3, by omega⟩
            · exact .inr ⟨by simpa using h3, by omega⟩
          clear hacc hM hb0
          have hv0 : ∀ b, (Value.slice A0 ds.length c0).ownBlock = some b → w.heap.size ≤ b ∧ b < wr.heap.size := fun b hb => hown.lt b hb
          have hs34 := hf34.size
          have hrr := Rd.fr0 htc.rds.1 hf34
          have hrw := Rd.fr0 htc.rds.2 hf34
          have HV0 := Lib.hid hv0
          clear hv0
          -- the two ways
          rcases hcs with ⟨e3, rfl⟩ | ⟨e3, rfl⟩
          · have hs3 : wr.heap.size < w4.heap.size := by have := hf4.size; simp at this; omega
            have hne : ¬ (wr.heap.size = w4.heap.size) := by omega
            have hne2 : ¬ (w4.heap.size = wr.heap.size) := by omega
            have p2a := ((Fr.refl No w4).alloc (.cells #[.int .i64 d.base, .int .i64 (d.base + 1), .slice none 0 0, .slice none 0 0] 25)).cell_some p2 (fun hn => hn)
            go_wp2_with (first
              | (at_builtin; refine wpList_app so_i64 (World.ownsRow_nil _ (w4.heap.size + 1) _ _) (Rd.fr0 hrr ((Fr.refl No w4).alloc _)) (I64_one _) (by omega) (by simp) rfl rfl rfl rfl ?_; intro v5 w5 hown5 hg5 hat5; rw [Nat.zero_add, List.nil_append] at hown5; obtain ⟨A5, c5, rfl, hc5, hcm5, hA5⟩ := own_form hown5; have hf5 : Fr No w4 w5 := ((Fr.refl No w4).alloc _).grown hg5 (by simp [Value.ownBlock]); have hb5 : Blk w5 w4.heap.size 25 #[.int .i64 d.base, .int .i64 (d.base + 1), .slice none 0 0, .slice none 0 0] := Blk.grown (Blk.new w4 _ _) hg5 (by simp [Value.ownBlock]); have q52 := hb5.cell 2; have q53 := hb5.cell 3; have z52 := hb5.frozen 2; have z53 := hb5.frozen 3; have p35 := hf5.cell_some p3 (fun hn => hn); simp only [List.getElem?_toArray, List.getElem?_cons_succ, List.getElem?_cons_zero] at q52 q53)
              | (at_builtin; refine wpList_app so_i64 (World.ownsRow_nil _ w5.heap.size _ _) (Rd.fr0 hrw (hf5.set (.inl (Nat.le_refl _)) _)) (I64_one _) (by omega) (by simp) rfl rfl rfl rfl ?_; intro v6 w6 hown6 hg6 hat6; rw [Nat.zero_add, List.nil_append] at hown6; obtain ⟨A6, c6, rfl, hc6, hcm6, hA6⟩ := own_form hown6; have hf6 : Fr No w4 w6 := (hf5.set (.inl (Nat.le_refl _)) _).grown hg6 (by simp [Value.ownBlock]); have hb6 : Blk w6 w4.heap.size 25 #[.int .i64 d.base, .int .i64 (d.base + 1), .slice A5 d.reads.length c5, .slice none 0 0] := Blk.grown (Blk.put hb5 2 _) hg6 (by simp [Value.ownBlock]); have q63 := hb6.cell 3; have z63 := hb6.frozen 3; simp only [List.getElem?_toArray, List.getElem?_cons_succ, List.getElem?_cons_zero] at q63)
              | (refine wpList_ldA ag_txn rfl _ rfl ⟨w4.heap.size, 0, none⟩ [.int .i64 d.base, .int .i64 (d.base + 1), .slice A5 d.reads.length c5, .slice A6 d.writes.length c6] rfl rfl (show ∀ j u, _ → (w6.setCell _ _).cell? _ = some u from Blk.all (Blk.put hb6 3 _)) ?_; have hf6s : Fr No w4 (w6.setCell ⟨w4.heap.size, 3, none⟩ (.slice A6 d.writes.length c6)) := hf6.set (.inl (Nat.le_refl _)) _)
              | (at_builtin; refine wpList_app_at so_rtxn (own_fr0 (own_fr0 hown hf34) (hf6s.alloc _)) ((show Blk ((w6.setCell ⟨w4.heap.size, 3, none⟩ (.slice A6 d.writes.length c6)).alloc _) w6.heap.size 25 _ from Blk.newAt (by simp)).rd (size := 4) (n := 1) (by rfl) (by decide)) (by intro u hu; simp at hu; rcases hu with rfl | rfl | rfl | rfl <;> rfl) (by omega) (by have := hf.size; have := (hf6s.alloc (.cells #[.int .i64 d.base, .int .i64 (d.base + 1), .slice A5 d.reads.length c5, .slice A6 d.writes.length c6] 25)).size; omega) rfl rfl rfl rfl ?_; intro v7 w7 hown7 hg7 hat7)
              | fail)
            have hs6 := hf6s.size
            have hg7b : Fr (fun b => (Value.slice A0 ds.length c0).ownBlock = some b) (w6.setCell ⟨w4.heap.size, 3, none⟩ (.slice A6 d.writes.length c6)) w7 := ((Fr.refl _ _).alloc _).grown hg7 (fun q hq => .inr hq)
            have hf46 : Fr No wr (w6.setCell ⟨w4.heap.size, 3, none⟩ (.slice A6 d.writes.length c6)) := hf34.tr hf6s
            have hset6 : Fr (fun b => b = w4.heap.size) w5 w6 := ((Fr.refl (fun b => b = w4.heap.size) w5).set (.inr rfl) _).grown hg6 (by simp [Value.ownBlock])
            have hset7 : Fr (fun b => b = w4.heap.size) w6 (w6.setCell ⟨w4.heap.size, 3, none⟩ (.slice A6 d.writes.length c6)) := (Fr.refl (fun b => b = w4.heap.size) w6).set (.inr rfl) _
            have hs5 := hf5.size
            have hs5s := hb5.lt
            have hs56 := hset6.size
            have hs7 := hset7.size
            have hs46 := hf46.size
            have hv7 : ∀ b, v7.ownBlock = some b → (Value.slice A0 ds.length c0).ownBlock = some b ∨ w6.heap.size ≤ b := by
              intro b hb
              rcases hat7 with h3 | h3
              · exact .inl (h3 ▸ hb)
              · rw [h3] at hb; simp at hb; exact .inr (by omega)
            have hnew : ∀ b, w4.heap.size ≤ b → b < w6.heap.size → v7.ownBlock ≠ some b := by
              intro b hb1 hb2 h3
              rcases hv7 b h3 with h4 | h4
              · have := (HV0.out b h4).2; omega
              · omega
            have hkeep : ∀ b, ((Value.slice A0 ds.length c0).ownBlock ≠ some b ∧ b < wr.heap.size) → v7.ownBlock ≠ some b := by
              intro b hb h3
              rcases hv7 b h3 with h4 | h4
              · exact hb.1 h4
              · have := hb.2; omega
            go_roundw
            case rel =>
              refine ⟨k + 1, (ds ++ [⟨d.base, d.base + 1, d.reads, d.writes⟩], d.base + 1), xs ++ [.int .i64 d.base, .int .i64 (d.base + 1), .slice A5 d.reads.length c5, .slice A6 d.writes.length c6], by omega, by go_num, rfl, by rw [← HS.out, HA.out], by have := HBN.out; rw [HA.out] at this; exact this, ?_, ?_, ?_⟩
              · show w7.ownsRow _ _ 4 v7 (ds ++ [_]).length _
                rw [List.length_append]; exact hown7
              · refine TxnsC.snoc (TxnsC.mono (S := fun b => (Value.slice A0 ds.length c0).ownBlock ≠ some b ∧ b < wr.heap.size) (fun b _ hb => hkeep b hb) (TxnsC.keep hg7b (fun b hb hT => hb.1 hT) (TxnsC.keep hf46 (fun _ _ hn => hn) (hx.mono (fun b hlt hb => ⟨hb, hlt⟩))))) ⟨A5, c5, A6, c6, rfl, ?_, ?_⟩
                · exact Rd.mono (Rd.fr (Rd.fr (Rd.fr ((own_rd hown5 (by omega)).lt (by decide)) hset6 (fun b hb hT => by have := (hown5.lt b ((hA5 b).2 hb.1)).1; omega)) hset7 (fun b hb hT => by have := (hown5.lt b ((hA5 b).2 hb.1)).1; omega)) hg7b (fun b hb hT => by have := (hown5.lt b ((hA5 b).2 hb.1)).1; have := (HV0.out b hT).2; omega)) (fun b _ hb => hnew b (by have := (hown5.lt b ((hA5 b).2 hb.1)).1; omega) (by have := hb.2; omega)) (by decide)
                · exact Rd.mono (Rd.fr (Rd.fr ((own_rd hown6 (by omega)).lt (by decide)) hset7 (fun b hb hT => by have := (hown6.lt b ((hA6 b).2 hb.1)).1; omega)) hg7b (fun b hb hT => by have := (hown6.lt b ((hA6 b).2 hb.1)).1; have := (HV0.out b hT).2; omega)) (fun b _ hb => hnew b (by have := (hown6.lt b ((hA6 b).2 hb.1)).1; omega) (by have := hb.2; omega)) (by decide)
              · exact (hf.tr hf46).trans hg7b (fun b hb hT => by have := (HV0.out b hT).1; omega)
            case measure => simp [intOf]; omega
          · have hs3 : wr.heap.size < w4.heap.size := by have := hf4.size; simp at this; omega
            have hne : ¬ (wr.heap.size = w4.heap.size) := by omega
            have hne2 : ¬ (w4.heap.size = wr.heap.size) := by omega
            have p2a := ((Fr.refl No w4).alloc (.cells #[.int .i64 d.base, .int .i64 (la + 1), .slice none 0 0, .slice none 0 0] 25)).cell_some p2 (fun hn => hn)
            go_wp2_with (first
              | (at_builtin; refine wpList_app so_i64 (World.ownsRow_nil _ (w4.heap.size + 1) _ _) (Rd.fr0 hrr ((Fr.refl No w4).alloc _)) (I64_one _) (by omega) (by simp) rfl rfl rfl rfl ?_; intro v5 w5 hown5 hg5 hat5; rw [Nat.zero_add, List.nil_append] at hown5; obtain ⟨A5, c5, rfl, hc5, hcm5, hA5⟩ := own_form hown5; have hf5 : Fr No w4 w5 := ((Fr.refl No w4).alloc _).grown hg5 (by simp [Value.ownBlock]); have hb5 : Blk w5 w4.heap.size 25 #[.int .i64 d.base, .int .i64 (la + 1), .slice none 0 0, .slice none 0 0] := Blk.grown (Blk.new w4 _ _) hg5 (by simp [Value.ownBlock]); have q52 := hb5.cell 2; have q53 := hb5.cell 3; have z52 := hb5.frozen 2; have z53 := hb5.frozen 3; have p35 := hf5.cell_some p3 (fun hn => hn); simp only [List.getElem?_toArray, List.getElem?_cons_succ, List.getElem?_cons_zero] at q52 q53)
              | (at_builtin; refine wpList_app so_i64 (World.ownsRow_nil _ w5.heap.size _ _) (Rd.fr0 hrw (hf5.set (.inl (Nat.le_refl _)) _)) (I64_one _) (by omega) (by simp) rfl rfl rfl rfl ?_; intro v6 w6 hown6 hg6 hat6; rw [Nat.zero_add, List.nil_append] at hown6; obtain ⟨A6, c6, rfl, hc6, hcm6, hA6⟩ := own_form hown6; have hf6 : Fr No w4 w6 := (hf5.set (.inl (Nat.le_refl _)) _).grown hg6 (by simp [Value.ownBlock]); have hb6 : Blk w6 w4.heap.size 25 #[.int .i64 d.base, .int .i64 (la + 1), .slice A5 d.reads.length c5, .slice none 0 0] := Blk.grown (Blk.put hb5 2 _) hg6 (by simp [Value.ownBlock]); have q63 := hb6.cell 3; have z63 := hb6.frozen 3; simp only [List.getElem?_toArray, List.getElem?_cons_succ, List.getElem?_cons_zero] at q63)
              | (refine wpList_ldA ag_txn rfl _ rfl ⟨w4.heap.size, 0, none⟩ [.int .i64 d.base, .int .i64 (la + 1), .slice A5 d.reads.length c5, .slice A6 d.writes.length c6] rfl rfl (show ∀ j u, _ → (w6.setCell _ _).cell? _ = some u from Blk.all (Blk.put hb6 3 _)) ?_; have hf6s : Fr No w4 (w6.setCell ⟨w4.heap.size, 3, none⟩ (.slice A6 d.writes.length c6)) := hf6.set (.inl (Nat.le_refl _)) _)
              | (at_builtin; refine wpList_app_at so_rtxn (own_fr0 (own_fr0 hown hf34) (hf6s.alloc _)) ((show Blk ((w6.setCell ⟨w4.heap.size, 3, none⟩ (.slice A6 d.writes.length c6)).alloc _) w6.heap.size 25 _ from Blk.newAt (by simp)).rd (size := 4) (n := 1) (by rfl) (by decide)) (by intro u hu; simp at hu; rcases hu with rfl | rfl | rfl | rfl <;> rfl) (by omega) (by have := hf.size; have := (hf6s.alloc (.cells #[.int .i64 d.base, .int .i64 (la + 1), .slice A5 d.reads.length c5, .slice A6 d.writes.length c6] 25)).size; omega) rfl rfl rfl rfl ?_; intro v7 w7 hown7 hg7 hat7)
              | fail)
            have hs6 := hf6s.size
            have hg7b : Fr (fun b => (Value.slice A0 ds.length c0).ownBlock = some b) (w6.setCell ⟨w4.heap.size, 3, none⟩ (.slice A6 d.writes.length c6)) w7 := ((Fr.refl _ _).alloc _).grown hg7 (fun q hq => .inr hq)
            have hf46 : Fr No wr (w6.setCell ⟨w4.heap.size, 3, none⟩ (.slice A6 d.writes.length c6)) := hf34.tr hf6s
            have hset6 : Fr (fun b => b = w4.heap.size) w5 w6 := ((Fr.refl (fun b => b = w4.heap.size) w5).set (.inr rfl) _).grown hg6 (by simp [Value.ownBlock])
            have hset7 : Fr (fun b => b = w4.heap.size) w6 (w6.setCell ⟨w4.heap.size, 3, none⟩ (.slice A6 d.writes.length c6)) := (Fr.refl (fun b => b = w4.heap.size) w6).set (.inr rfl) _
            have hs5 := hf5.size
            have hs5s := hb5.lt
            have hs56 := hset6.size
            have hs7 := hset7.size
            have hs46 := hf46.size
            have hv7 : ∀ b, v7.ownBlock = some b → (Value.slice A0 ds.length c0).ownBlock = some b ∨ w6.heap.size ≤ b := by
              intro b hb
              rcases hat7 with h3 | h3
              · exact .inl (h3 ▸ hb)
              · rw [h3] at hb; simp at hb; exact .inr (by omega)
            have hnew : ∀ b, w4.heap.size ≤ b → b < w6.heap.size → v7.ownBlock ≠ some b := by
              intro b hb1 hb2 h3
              rcases hv7 b h3 with h4 | h4
              · have := (HV0.out b h4).2; omega
              · omega
            have hkeep : ∀ b, ((Value.slice A0 ds.length c0).ownBlock ≠ some b ∧ b < wr.heap.size) → v7.ownBlock ≠ some b := by
              intro b hb h3
              rcases hv7 b h3 with h4 | h4
              · exact hb.1 h4
              · have := hb.2; omega
            go_roundw
            case rel =>
              refine ⟨k + 1, (ds ++ [⟨d.base, la + 1, d.reads, d.writes⟩], la + 1), xs ++ [.int .i64 d.base, .int .i64 (la + 1), .slice A5 d.reads.length c5, .slice A6 d.writes.length c6], by omega, by go_num, rfl, by rw [← HS.out, HA.out], by have := HBN.out; rw [HA.out] at this; exact this, ?_, ?_, ?_⟩
              · show w7.ownsRow _ _ 4 v7 (ds ++ [_]).length _
                rw [List.length_append]; exact hown7
              · refine TxnsC.snoc (TxnsC.mono (S := fun b => (Value.slice A0 ds.length c0).ownBlock ≠ some b ∧ b < wr.heap.size) (fun b _ hb => hkeep b hb) (TxnsC.keep hg7b (fun b hb hT => hb.1 hT) (TxnsC.keep hf46 (fun _ _ hn => hn) (hx.mono (fun b hlt hb => ⟨hb, hlt⟩))))) ⟨A5, c5, A6, c6, rfl, ?_, ?_⟩
                · exact Rd.mono (Rd.fr (Rd.fr (Rd.fr ((own_rd hown5 (by omega)).lt (by decide)) hset6 (fun b hb hT => by have := (hown5.lt b ((hA5 b).2 hb.1)).1; omega)) hset7 (fun b hb hT => by have := (hown5.lt b ((hA5 b).2 hb.1)).1; omega)) hg7b (fun b hb hT => by have := (hown5.lt b ((hA5 b).2 hb.1)).1; have := (HV0.out b hT).2; omega)) (fun b _ hb => hnew b (by have := (hown5.lt b ((hA5 b).2 hb.1)).1; omega) (by have := hb.2; omega)) (by decide)
                · exact Rd.mono (Rd.fr (Rd.fr ((own_rd hown6 (by omega)).lt (by decide)) hset7 (fun b hb hT => by have := (hown6.lt b ((hA6 b).2 hb.1)).1; omega)) hg7b (fun b hb hT => by have := (hown6.lt b ((hA6 b).2 hb.1)).1; have := (HV0.out b hT).2; omega)) (fun b _ hb => hnew b (by have := (hown6.lt b ((hA6 b).2 hb.1)).1; omega) (by have := hb.2; omega)) (by decide)
              · exact (hf.tr hf46).trans hg7b (fun b hb hT => by have := (HV0.out b hT).1; omega)
            case measure => simp [intOf]; omega
      · simp only [iv_some, errOf_some]
        have HA := Lib.hid (stepA_no (s := (ds, la)) (t := d) (by simp only [accM]; rw [HQ.out]; rfl))
        go_wp2
        go_roundw
        case rel => exact ⟨k + 1, (ds, la), xs, by omega, by go_num, rfl, by rw [← HS.out, HA.out], by have := HBN.out; rw [HA.out] at this; exact this, own_fr0 hown hf34, TxnsC.keep hf34 (fun _ _ hn => hn) hx, hf.tr hf34⟩
        case measure => simp [intOf]; omega
    · obtain rfl : k = ts.length := by omega
      rw [List.take_length] at hs
      have ek : decide ((ts.length : Int) < ts.length) = false := by simp
      have HS := Lib.hid hs
      have hlen := hbnd.2.2.1
      clear hs
      go_wp2
      go_ret
      have := HS.out
      subst this
      exact ⟨A0, c0, rfl, ⟨xs, (own_rd hown (by omega)).mono (fun _ _ _ => trivial) (by decide), hx.mono (fun _ _ _ => trivial)⟩, hf⟩
end Go.Proofs.Ytmcmjnflahfbkaa
