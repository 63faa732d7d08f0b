/- valid.New, History.Add, History.Check, History.Len over a history of the call's own, nothing forgotten. No condition but room. -/
import Derived.Test.YtmcmjnflahfbkaaVTaken
namespace Go.Proofs.Ytmcmjnflahfbkaa
set_option linter.unusedVariables false
set_option linter.unusedSimpArgs false
open Go.RowKit Go.Maps

/-- What a history keeps of a session. -/
def keptOf (d : Txn) : Txn := ⟨0, d.commit, [], d.writes⟩
theorem clashes_kept (ts : List Txn) (t : Txn) (p : Int → Bool) : clashes (ts.map keptOf) t p = clashes ts t p := by
  unfold clashes
  induction ts with
  | nil => rfl
  | cons d ts ih =>
    by_cases h : p d.commit = true
    · simp only [List.map_cons, List.filter_cons, show p (keptOf d).commit = true from h, h, if_true, List.flatMap_cons, ih]; rfl
    · simp only [List.map_cons, List.filter_cons, show ¬ p (keptOf d).commit = true from h, h, if_false, Bool.false_eq_true, ih]
theorem check_kept (ts : List Txn) (t : Txn) : checkM (ts.map keptOf) t = checkM ts t := by unfold checkM; rw [clashes_kept]
/-- Block H is a history of what was kept, in rows from B on, of blocks that meet X. -/
def HistAt (w : World) (B H : Nat) (X : Nat → Prop) (ks : List Txn) (any : Bool) (last : Int) : Prop :=
  ∃ A c xs, Blk w H 61 #[.slice A ks.length c, .bool any, .int .i64 last, .int .i64 0] ∧ H < B ∧ w.ownsRow B 32 4 (.slice A ks.length c) ks.length xs ∧
    (∀ b, (Value.slice A ks.length c).ownBlock = some b → X b) ∧ TxnsC w (fun b => (B ≤ b ∧ X b) ∧ (Value.slice A ks.length c).ownBlock ≠ some b) xs ks
/-- It stands when blocks change that are none of its own. -/
theorem HistAt.fr {w w' : World} {B H : Nat} {X S : Nat → Prop} {ks : List Txn} {any : Bool} {last : Int} (h : HistAt w B H X ks any last) (hf : Fr S w w') (hH : ¬ S H) (hX : ∀ b, B ≤ b → X b → ¬ S b) : HistAt w' B H X ks any last := by
  obtain ⟨A, c, xs, hb, hHB, hown, hx, hts⟩ := h
  exact ⟨A, c, xs, hb.fr hf hH, hHB, own_fr hown hf (fun b hb2 => hX b (hown.lt b hb2).1 (hx b hb2)), hx, TxnsC.keep hf (fun b hb2 => hX b hb2.1.1 hb2.1.2) hts⟩
theorem HistAt.mono {w : World} {B H : Nat} {X Y : Nat → Prop} {ks : List Txn} {any : Bool} {last : Int} (h : HistAt w B H X ks any last) (hX : ∀ b, b < w.heap.size → X b → Y b) : HistAt w B H Y ks any last := by
  obtain ⟨A, c, xs, hb, hHB, hown, hx, hts⟩ := h
  exact ⟨A, c, xs, hb, hHB, hown, fun b hb2 => hX b (hown.lt b hb2).2 (hx b hb2), hts.mono (fun b hlt hb2 => ⟨⟨hb2.1.1, hX b hlt hb2.1.2⟩, hb2.2⟩)⟩
theorem new_calls (X : Nat → Prop) (w : World) : Calls Try.prog 21 #[] w fun e w' => e = .returned (.pointer (some ⟨w.heap.size, 0, none⟩)) ∧ HistAt w' (w.heap.size + 1) w.heap.size X [] false 0 ∧ Fr No w w' := by
  go_enter Try.func21, Try.ntmps21
  go_wp2
  go_ret
  exact ⟨rfl, ⟨none, 0, [], Blk.new _ _ _, by omega, World.ownsRow_nil _ _ _ _, (fun b hb => by cases hb), rfl⟩, (Fr.refl No w).alloc _⟩
theorem len_calls (w : World) (B H : Nat) (X : Nat → Prop) (ks : List Txn) (any : Bool) (last : Int) (h : HistAt w B H X ks any last) : Calls Try.prog 24 #[.pointer (some ⟨H, 0, none⟩)] w fun e w' => e = .returned (.int .i64 ks.length) ∧ w = w' := by
  obtain ⟨A, c, xs, hb, hH, hown, hx, hts⟩ := h
  have h0 := hb.cell 0
  simp only [List.getElem?_toArray, List.getElem?_cons_zero] at h0
  go_enter Try.func24, Try.ntmps24
  go_wp2
  go_ret
  exact ⟨rfl, rfl⟩
theorem ag_hist : AggOf Try.prog 61 4 := ⟨⟨_, Try.underlying61, rfl⟩, by kernel_rfl⟩
theorem plain_lvtxn : ∀ w, (isAgg 30).run Try.prog w = .ok false w := plain_of Try.underlying30 rfl
set_option maxHeartbeats 1000000 in
theorem hcheck_calls (S : Nat → Prop) (w : World) (B H : Nat) (X : Nat → Prop) (ks : List Txn) (any : Bool) (last : Int) (cs : List Value) (t : Txn) (h : HistAt w B H X ks any last) (ht : TxnC w S cs t) (hbase : 0 ≤ t.base) (hroom : Room ks t (sinceP t.base)) (hks : ks.length ≤ 1048576) :
    Calls Try.prog 23 #[.pointer (some ⟨H, 0, none⟩), .agg cs.toArray] w fun r w' => r = .returned (.tuple #[.int .i64 (iv (checkM ks t)), .int .i64 (errOf (checkM ks t))]) ∧ Fr No w w' := by
  obtain ⟨A, c, xs, hb, hH, hown, hX, hts⟩ := h
  have htc := ht
  obtain ⟨Ar, cr, Aw, cw, rfl, hr, hw⟩ := ht
  have g1 := plain_i64
  have g2 := plain_lvtxn
  have hgr := GivenAt.rdT (B := B) (c := c) ⟨xs, hown, hts.mono (fun b _ hb => ⟨hb.1.1, hb.2⟩)⟩ (by omega)
  have e1 : decide (t.base < 0) = false := by simpa using hbase
  have hbT := (Blk.new w 32 #[.int .i64 t.base, .int .i64 t.commit, .slice Ar t.reads.length cr, .slice Aw t.writes.length cw])
  have hf1 : Fr No w (w.alloc (.cells #[.int .i64 t.base, .int .i64 t.commit, .slice Ar t.reads.length cr, .slice Aw t.writes.length cw] 32)) := (Fr.refl No w).alloc _
  have hb1 := hb.fr0 hf1
  have q0 := hb1.cell 0
  have q3 := hb1.cell 3
  have p0 := hbT.cell 0
  simp only [List.getElem?_toArray, List.getElem?_cons_zero, List.getElem?_cons_succ] at q0 q3 p0
  go_enter Try.func23, Try.ntmps23
  go_wp2_with fail
  (refine T_begin No [0, 1, 2, 3, 4, 5, 6, 7] [] (by kernel_rfl) (by kernel_rfl) ?_; simp only [pickOps, List.filterMap_cons, List.filterMap_nil, List.getElem?_cons_zero, List.getElem?_cons_succ, Act.put])
  repeat (first | (refine T_skip (by rfl) (by rfl) (fun _ _ _ h => h) ?_; try simp only [Act.put, List.setIfInBounds_toArray, List.set_cons_zero, List.set_cons_succ]) | (refine T_pass (by rfl) (by rfl) ?_; try simp only [Act.put, List.setIfInBounds_toArray, List.set_cons_zero, List.set_cons_succ]) | (refine T_load (by assumption) (by rfl) (by rfl) (fun _ _ _ _ h => h) rfl rfl (by assumption) (by first | exact (fun hn => hn) | assumption) ?_; try simp only [Act.put, List.setIfInBounds_toArray, List.set_cons_zero, List.set_cons_succ]) | (refine T_nil (by rfl) (by rfl) (fun _ _ _ _ h => h) rfl rfl ?_; try simp only [Act.put, List.setIfInBounds_toArray, List.set_cons_zero, List.set_cons_succ]) | (refine T_quiet (by rfl) (by rfl) (by rfl) (fun _ _ _ _ h => h) (fun K hK => ?_); go_big_quiet_op; refine hK _ ?_; clear hK K) | (refine T_two (by rfl) (by rfl) (by rfl) (by rfl) (fun _ _ _ _ h => h) (fun K hK => ?_); go_big_quiet_op; refine ⟨_, fun _ _ => rfl, ?_⟩; refine hK _ ?_; clear hK K; try simp only [Act.put, List.setIfInBounds_toArray, List.set_cons_zero, List.set_cons_succ]) | fail)
  refine T_done ?_
  go_wp2_with fail
  (refine T_begin No [0, 1, 2, 3, 4, 5, 6, 7, 8, 9] [5] (by kernel_rfl) (by kernel_rfl) ?_; simp only [pickOps, List.filterMap_cons, List.filterMap_nil, List.getElem?_cons_zero, List.getElem?_cons_succ, Act.put])
  repeat (first | (refine T_skip (by rfl) (by rfl) (fun _ _ _ h => h) ?_; try simp only [Act.put, List.setIfInBounds_toArray, List.set_cons_zero, List.set_cons_succ]) | (refine T_pass (by rfl) (by rfl) ?_; try simp only [Act.put, List.setIfInBounds_toArray, List.set_cons_zero, List.set_cons_succ]) | (refine T_load (by assumption) (by rfl) (by rfl) (fun _ _ _ _ h => h) rfl rfl (by assumption) (by first | exact (fun hn => hn) | assumption) ?_; try simp only [Act.put, List.setIfInBounds_toArray, List.set_cons_zero, List.set_cons_succ]) | (refine T_nil (by rfl) (by rfl) (fun _ _ _ _ h => h) rfl rfl ?_; try simp only [Act.put, List.setIfInBounds_toArray, List.set_cons_zero, List.set_cons_succ]) | (refine T_quiet (by rfl) (by rfl) (by rfl) (fun _ _ _ _ h => h) (fun K hK => ?_); go_big_quiet_op; refine hK _ ?_; clear hK K) | (refine T_two (by rfl) (by rfl) (by rfl) (by rfl) (fun _ _ _ _ h => h) (fun K hK => ?_); go_big_quiet_op; refine ⟨_, fun _ _ => rfl, ?_⟩; refine hK _ ?_; clear hK K; try simp only [Act.put, List.setIfInBounds_toArray, List.set_cons_zero, List.set_cons_succ]) | fail)
  refine T_loadA ag_vtxn (by rfl) (by rfl) (fun _ _ _ _ h => h) rfl rfl rfl (show ∀ j u, _ → (w.alloc (.cells #[.int .i64 t.base, .int .i64 t.commit, .slice Ar t.reads.length cr, .slice Aw t.writes.length cw] 32)).cell? _ = some u from hbT.all) (fun hn => hn) ?_
  try simp only [Act.put, List.setIfInBounds_toArray, List.set_cons_zero, List.set_cons_succ]
  (refine T_call (by rfl) (by rfl) (fun K hK => ?_); go_wp2_with fail)
  have hf2 : Fr No w (w.alloc (.cells #[.int .i64 t.base, .int .i64 t.commit, .slice Ar t.reads.length cr, .slice Aw t.writes.length cw] 32)).drew.drew := hf1.drew.drew
  refine (check_calls (fun _ => True) A c ks [.int .i64 t.base, .int .i64 t.commit, .slice Ar t.reads.length cr, .slice Aw t.writes.length cw] t _ ((hgr.fr0 hf2).mono (fun _ _ _ => trivial)) ((htc.fr0 hf2).mono (fun _ _ _ => trivial)) hroom).mono ?_
  rintro e w4 ⟨rfl, hf4⟩
  (refine hK.out _ _ (hf4) ?_; clear hK K; try simp only [Act.put, List.setIfInBounds_toArray, List.set_cons_zero, List.set_cons_succ])
  repeat (first | (refine T_skip (by rfl) (by rfl) (fun _ _ _ h => h) ?_; try simp only [Act.put, List.setIfInBounds_toArray, List.set_cons_zero, List.set_cons_succ]) | (refine T_pass (by rfl) (by rfl) ?_; try simp only [Act.put, List.setIfInBounds_toArray, List.set_cons_zero, List.set_cons_succ]) | (refine T_load (by assumption) (by rfl) (by rfl) (fun _ _ _ _ h => h) rfl rfl (by assumption) (by first | exact (fun hn => hn) | assumption) ?_; try simp only [Act.put, List.setIfInBounds_toArray, List.set_cons_zero, List.set_cons_succ]) | (refine T_nil (by rfl) (by rfl) (fun _ _ _ _ h => h) rfl rfl ?_; try simp only [Act.put, List.setIfInBounds_toArray, List.set_cons_zero, List.set_cons_succ]) | (refine T_quiet (by rfl) (by rfl) (by rfl) (fun _ _ _ _ h => h) (fun K hK => ?_); go_big_quiet_op; refine hK _ ?_; clear hK K) | (refine T_two (by rfl) (by rfl) (by rfl) (by rfl) (fun _ _ _ _ h => h) (fun K hK => ?_); go_big_quiet_op; refine ⟨_, fun _ _ => rfl, ?_⟩; refine hK _ ?_; clear hK K; try simp only [Act.put, List.setIfInBounds_toArray, List.set_cons_zero, List.set_cons_succ]) | fail)
  refine T_done ?_
  go_wp2
  go_ret2
  exact ⟨rfl, hf2.tr hf4⟩
theorem plain_bool : ∀ w, (isAgg 4).run Try.prog w = .ok false w := plain_of Try.underlying4 rfl
set_option maxHeartbeats 2000000 in
theorem add_calls (S : Nat → Prop) (w : World) (B H : Nat) (X : Nat → Prop) (ks : List Txn) (any : Bool) (last : Int) (cs : List Value) (t : Txn) (h : HistAt w B H X ks any last) (ht : TxnC w S cs t) (hS : ∀ b, S b → b ≠ H) (hB : B ≤ w.heap.size) (hXn : ∀ b, w.heap.size ≤ b → X b) (hpos : 0 < t.commit) (hks : ks.length ≤ 60) (hw8 : t.writes.length ≤ 1048576) :
    Calls Try.prog 22 #[.pointer (some ⟨H, 0, none⟩), .agg cs.toArray] w fun r w' =>
      (any = true ∧ t.commit ≤ last ∧ r = .returned (.int .i64 5) ∧ HistAt w' B H X ks any last ∧ Fr (fun b => b = H ∨ (B ≤ b ∧ X b)) w w') ∨
      (¬ (any = true ∧ t.commit ≤ last) ∧ r = .returned (.int .i64 0) ∧ HistAt w' B H X (ks ++ [keptOf t]) true t.commit ∧ Fr (fun b => b = H ∨ (B ≤ b ∧ X b)) w w') := by
  obtain ⟨A, c, xs, hb, hH, hown, hX, hx⟩ := h
  have htc := ht
  obtain ⟨Ar, cr, Aw, cw, rfl, hr, hw⟩ := ht
  have g1 := plain_i64
  have g2 := plain_lvtxn
  have g3 := plain_bool
  have g4 := plain_li64
  have hbT := (Blk.new w 32 #[.int .i64 t.base, .int .i64 t.commit, .slice Ar t.reads.length cr, .slice Aw t.writes.length cw])
  have hf1 : Fr No w (w.alloc (.cells #[.int .i64 t.base, .int .i64 t.commit, .slice Ar t.reads.length cr, .slice Aw t.writes.length cw] 32)) := (Fr.refl No w).alloc _
  have hb1 := hb.fr0 hf1
  have q0 := hb1.cell 0
  have q1 := hb1.cell 1
  have q2 := hb1.cell 2
  have q3 := hb1.cell 3
  have z1 := hb1.frozen 1
  have z2 := hb1.frozen 2
  have p1 := hbT.cell 1
  have p3 := hbT.cell 3
  simp only [List.getElem?_toArray, List.getElem?_cons_zero, List.getElem?_cons_succ] at q0 q1 q2 q3 p1 p3
  have e0 : decide ((0 : Int) < t.commit) = true := by simpa using hpos
  have hnT : ¬ (w.heap.size = H) := by have := hb.lt; omega
  by_cases hbad : any = true ∧ t.commit ≤ last
  · obtain ⟨rfl, hlast⟩ := hbad
    have e1 : decide (t.commit ≤ last) = true := by simpa using hlast
    go_enter Try.func22, Try.ntmps22
    go_wp2_with fail
    (refine T_begin No [0, 1, 2, 3, 4, 5, 6, 7, 8, 9, 10, 11, 12, 13] [] (by kernel_rfl) (by kernel_rfl) ?_; simp only [pickOps, List.filterMap_cons, List.filterMap_nil, List.getElem?_cons_zero, List.getElem?_cons_succ, Act.put])
    repeat (first | (refine T_skip (by rfl) (by rfl) (fun _ _ _ h => h) ?_; try simp only [Act.put, List.setIfInBounds_toArray, List.set_cons_zero, List.set_cons_succ]) | (refine T_pass (by rfl) (by rfl) ?_; try simp only [Act.put, List.setIfInBounds_toArray, List.set_cons_zero, List.set_cons_succ]) | (refine T_load (by assumption) (by rfl) (by rfl) (fun _ _ _ _ h => h) rfl rfl (by assumption) (by first | exact (fun hn => hn) | assumption) ?_; try simp only [Act.put, List.setIfInBounds_toArray, List.set_cons_zero, List.set_cons_succ]) | (refine T_nil (by rfl) (by rfl) (fun _ _ _ _ h => h) rfl rfl ?_; try simp only [Act.put, List.setIfInBounds_toArray, List.set_cons_zero, List.set_cons_succ]) | (refine T_quiet (by rfl) (by rfl) (by rfl) (fun _ _ _ _ h => h) (fun K hK => ?_); go_big_quiet_op; refine hK _ ?_; clear hK K) | (refine T_two (by rfl) (by rfl) (by rfl) (by rfl) (fun _ _ _ _ h => h) (fun K hK => ?_); go_big_quiet_op; refine ⟨_, fun _ _ => rfl, ?_⟩; refine hK _ ?_; clear hK K; try simp only [Act.put, List.setIfInBounds_toArray, List.set_cons_zero, List.set_cons_succ]) | fail)
    refine T_done ?_
    go_wp2
    go_ret
    exact .inl ⟨by trivial, hlast, rfl, ⟨A, c, xs, hb1.drew, hH, own_fr0 hown hf1.drew, hX, TxnsC.keep hf1.drew (fun _ _ hn => hn) hx⟩, (hf1.drew).mono (fun _ _ hn => hn.elim)⟩
  · have hval : any = false ∨ (any = true ∧ decide (t.commit ≤ last) = false) := by
      cases any with
      | false => exact .inl rfl
      | true => exact .inr ⟨rfl, by simpa using (fun hh => hbad ⟨rfl, hh⟩)⟩
    have HBad := Lib.hid hbad
    clear hbad
    rcases hval with rfl | ⟨rfl, e1⟩
    all_goals
      go_enter Try.func22, Try.ntmps22
      go_wp2_with fail
      (refine T_begin No [0, 1, 2, 3, 4, 5, 6, 7, 8, 9, 10, 11, 12, 13] [] (by kernel_rfl) (by kernel_rfl) ?_; simp only [pickOps, List.filterMap_cons, List.filterMap_nil, List.getElem?_cons_zero, List.getElem?_cons_succ, Act.put])
      repeat (first | (refine T_skip (by rfl) (by rfl) (fun _ _ _ h => h) ?_; try simp only [Act.put, List.setIfInBounds_toArray, List.set_cons_zero, List.set_cons_succ]) | (refine T_pass (by rfl) (by rfl) ?_; try simp only [Act.put, List.setIfInBounds_toArray, List.set_cons_zero, List.set_cons_succ]) | (refine T_load (by assumption) (by rfl) (by rfl) (fun _ _ _ _ h => h) rfl rfl (by assumption) (by first | exact (fun hn => hn) | assumption) ?_; try simp only [Act.put, List.setIfInBounds_toArray, List.set_cons_zero, List.set_cons_succ]) | (refine T_nil (by rfl) (by rfl) (fun _ _ _ _ h => h) rfl rfl ?_; try simp only [Act.put, List.setIfInBounds_toArray, List.set_cons_zero, List.set_cons_succ]) | (refine T_quiet (by rfl) (by rfl) (by rfl) (fun _ _ _ _ h => h) (fun K hK => ?_); go_big_quiet_op; refine hK _ ?_; clear hK K) | (refine T_two (by rfl) (by rfl) (by rfl) (by rfl) (fun _ _ _ _ h => h) (fun K hK => ?_); go_big_quiet_op; refine ⟨_, fun _ _ => rfl, ?_⟩; refine hK _ ?_; clear hK K; try simp only [Act.put, List.setIfInBounds_toArray, List.set_cons_zero, List.set_cons_succ]) | fail)
      refine T_done ?_
      go_wp2_with fail
      (refine T_begin (fun b => b = H) [0, 1, 2, 3, 4, 5, 6, 7, 8, 9] [6, 9] (by kernel_rfl) (by kernel_rfl) ?_; simp only [pickOps, List.filterMap_cons, List.filterMap_nil, List.getElem?_cons_zero, List.getElem?_cons_succ, Act.put])
      repeat (first | (refine T_skip (by rfl) (by rfl) (fun _ _ _ h => h) ?_; try simp only [Act.put, List.setIfInBounds_toArray, List.set_cons_zero, List.set_cons_succ]) | (refine T_pass (by rfl) (by rfl) ?_; try simp only [Act.put, List.setIfInBounds_toArray, List.set_cons_zero, List.set_cons_succ]) | (refine T_load (by assumption) (by rfl) (by rfl) (fun _ _ _ _ h => h) rfl rfl (by assumption) (by first | exact (fun hn => hn) | assumption) ?_; try simp only [Act.put, List.setIfInBounds_toArray, List.set_cons_zero, List.set_cons_succ]) | (refine T_nil (by rfl) (by rfl) (fun _ _ _ _ h => h) rfl rfl ?_; try simp only [Act.put, List.setIfInBounds_toArray, List.set_cons_zero, List.set_cons_succ]) | (refine T_quiet (by rfl) (by rfl) (by rfl) (fun _ _ _ _ h => h) (fun K hK => ?_); go_big_quiet_op; refine hK _ ?_; clear hK K) | (refine T_two (by rfl) (by rfl) (by rfl) (by rfl) (fun _ _ _ _ h => h) (fun K hK => ?_); go_big_quiet_op; refine ⟨_, fun _ _ => rfl, ?_⟩; refine hK _ ?_; clear hK K; try simp only [Act.put, List.setIfInBounds_toArray, List.set_cons_zero, List.set_cons_succ]) | fail)
      (refine T_call (by rfl) (by rfl) (fun K hK => ?_); go_wp2_with fail)
      (refine hK.out _ _ (((((Fr.refl (fun b => b = H) _).set (.inr rfl) _).drew.drew).drewL).drewL) ?_; clear hK K; try simp only [Act.put, List.setIfInBounds_toArray, List.set_cons_zero, List.set_cons_succ])
      have hb2 := hb1.put 1 (.bool true)
      have q22 := hb2.cell 2
      have z22 := hb2.frozen 2
      have q23 := hb2.cell 3
      simp only [List.getElem?_toArray, List.getElem?_cons_zero, List.getElem?_cons_succ, List.setIfInBounds_toArray, List.set_cons_zero, List.set_cons_succ] at q22 q23
      repeat (first | (refine T_skip (by rfl) (by rfl) (fun _ _ _ h => h) ?_; try simp only [Act.put, List.setIfInBounds_toArray, List.set_cons_zero, List.set_cons_succ]) | (refine T_pass (by rfl) (by rfl) ?_; try simp only [Act.put, List.setIfInBounds_toArray, List.set_cons_zero, List.set_cons_succ]) | (refine T_load (by assumption) (by rfl) (by rfl) (fun _ _ _ _ h => h) rfl rfl (by assumption) (by first | exact (fun hn => hn) | assumption) ?_; try simp only [Act.put, List.setIfInBounds_toArray, List.set_cons_zero, List.set_cons_succ]) | (refine T_nil (by rfl) (by rfl) (fun _ _ _ _ h => h) rfl rfl ?_; try simp only [Act.put, List.setIfInBounds_toArray, List.set_cons_zero, List.set_cons_succ]) | (refine T_quiet (by rfl) (by rfl) (by rfl) (fun _ _ _ _ h => h) (fun K hK => ?_); go_big_quiet_op; refine hK _ ?_; clear hK K) | (refine T_two (by rfl) (by rfl) (by rfl) (by rfl) (fun _ _ _ _ h => h) (fun K hK => ?_); go_big_quiet_op; refine ⟨_, fun _ _ => rfl, ?_⟩; refine hK _ ?_; clear hK K; try simp only [Act.put, List.setIfInBounds_toArray, List.set_cons_zero, List.set_cons_succ]) | fail)
      (refine T_call (by rfl) (by rfl) (fun K hK => ?_); go_wp2_with fail)
      (refine hK.out _ _ (((((Fr.refl (fun b => b = H) _).set (.inr rfl) _).drew.drew).drewL).drewL) ?_; clear hK K; try simp only [Act.put, List.setIfInBounds_toArray, List.set_cons_zero, List.set_cons_succ])
      repeat (first | (refine T_skip (by rfl) (by rfl) (fun _ _ _ h => h) ?_; try simp only [Act.put, List.setIfInBounds_toArray, List.set_cons_zero, List.set_cons_succ]) | (refine T_pass (by rfl) (by rfl) ?_; try simp only [Act.put, List.setIfInBounds_toArray, List.set_cons_zero, List.set_cons_succ]) | (refine T_load (by assumption) (by rfl) (by rfl) (fun _ _ _ _ h => h) rfl rfl (by assumption) (by first | exact (fun hn => hn) | assumption) ?_; try simp only [Act.put, List.setIfInBounds_toArray, List.set_cons_zero, List.set_cons_succ]) | (refine T_nil (by rfl) (by rfl) (fun _ _ _ _ h => h) rfl rfl ?_; try simp only [Act.put, List.setIfInBounds_toArray, List.set_cons_zero, List.set_cons_succ]) | (refine T_quiet (by rfl) (by rfl) (by rfl) (fun _ _ _ _ h => h) (fun K hK => ?_); go_big_quiet_op; refine hK _ ?_; clear hK K) | (refine T_two (by rfl) (by rfl) (by rfl) (by rfl) (fun _ _ _ _ h => h) (fun K hK => ?_); go_big_quiet_op; refine ⟨_, fun _ _ => rfl, ?_⟩; refine hK _ ?_; clear hK K; try simp only [Act.put, List.setIfInBounds_toArray, List.set_cons_zero, List.set_cons_succ]) | fail)
      refine T_done ?_
      have hb3 : Blk _ H 61 #[.slice A ks.length c, .bool true, .int .i64 t.commit, .int .i64 0] := hb2.put 2 (.int .i64 t.commit)
      have hbT3 := (hbT.far (p := ⟨H, 1, none⟩) hnT (.bool true)).far (p := ⟨H, 2, none⟩) hnT (.int .i64 t.commit)
      have hf3 : Fr (fun b => b = H) w _ := ((hf1.mono (T := fun b => b = H) (fun _ _ hn => hn.elim)).set (p := ⟨H, 1, none⟩) (.inr rfl) (.bool true)).set (p := ⟨H, 2, none⟩) (.inr rfl) (.int .i64 t.commit)
      generalize hw3 : ((w.alloc (.cells #[.int .i64 t.base, .int .i64 t.commit, .slice Ar t.reads.length cr, .slice Aw t.writes.length cw] 32)).setCell ⟨H, 1, none⟩ (.bool true)).setCell ⟨H, 2, none⟩ (.int .i64 t.commit) = w3 at *
      have q30 := hb3.cell 0
      have q33 := hb3.cell 3
      have z30 := hb3.frozen 0
      have p31 := hbT3.cell 1
      have p33 := hbT3.cell 3
      simp only [List.getElem?_toArray, List.getElem?_cons_zero, List.getElem?_cons_succ] at q30 q33 p31 p33
      clear q0 q1 q2 q3 z1 z2 p1 p3 q22 z22 q23 hb1 hbT hb2
      go_wp2_with fail
      (refine T_begin No [0, 1, 2, 3, 4, 5, 6] [] (by kernel_rfl) (by kernel_rfl) ?_; simp only [pickOps, List.filterMap_cons, List.filterMap_nil, List.getElem?_cons_zero, List.getElem?_cons_succ, Act.put])
      repeat (first | (refine T_skip (by rfl) (by rfl) (fun _ _ _ h => h) ?_; try simp only [Act.put, List.setIfInBounds_toArray, List.set_cons_zero, List.set_cons_succ]) | (refine T_pass (by rfl) (by rfl) ?_; try simp only [Act.put, List.setIfInBounds_toArray, List.set_cons_zero, List.set_cons_succ]) | (refine T_load (by assumption) (by rfl) (by rfl) (fun _ _ _ _ h => h) rfl rfl (by assumption) (by first | exact (fun hn => hn) | assumption) ?_; try simp only [Act.put, List.setIfInBounds_toArray, List.set_cons_zero, List.set_cons_succ]) | (refine T_nil (by rfl) (by rfl) (fun _ _ _ _ h => h) rfl rfl ?_; try simp only [Act.put, List.setIfInBounds_toArray, List.set_cons_zero, List.set_cons_succ]) | (refine T_quiet (by rfl) (by rfl) (by rfl) (fun _ _ _ _ h => h) (fun K hK => ?_); go_big_quiet_op; refine hK _ ?_; clear hK K) | (refine T_two (by rfl) (by rfl) (by rfl) (by rfl) (fun _ _ _ _ h => h) (fun K hK => ?_); go_big_quiet_op; refine ⟨_, fun _ _ => rfl, ?_⟩; refine hK _ ?_; clear hK K; try simp only [Act.put, List.setIfInBounds_toArray, List.set_cons_zero, List.set_cons_succ]) | fail)
      refine T_done ?_
      go_wp2_with fail
      have hsw3 := hf3.size
      have hv0 : ∀ b, (Value.slice A ks.length c).ownBlock = some b → B ≤ b ∧ b < w.heap.size := fun b hb => hown.lt b hb
      have hSH : ¬ ((Value.slice A ks.length c).ownBlock = some H) := fun hh => by have := (hv0 _ hh).1; omega
      have hST : ¬ ((Value.slice A ks.length c).ownBlock = some w.heap.size) := fun hh => by have := (hv0 _ hh).2; omega
      have hwS : RdI w3 S Aw t.writes := Rd.fr hw hf3 (fun b hb hT => hS b hb hT)
      refine T_begin2 (fun b => (Value.slice A ks.length c).ownBlock = some b) [15] [0, 1, 2, 3, 4, 5, 6, 7, 8, 9, 10, 11, 12, 13, 14, 15] [9, 11, 12, 15] (by kernel_rfl) (by kernel_rfl) ?_
      simp only [pickOps, List.filterMap_cons, List.filterMap_nil, List.getElem?_cons_zero, List.getElem?_cons_succ, Act.put]
      repeat (first | (refine T_skip (by rfl) (by rfl) (fun _ _ _ h => h) ?_; try simp only [Act.put, List.setIfInBounds_toArray, List.set_cons_zero, List.set_cons_succ]) | (refine T_pass (by rfl) (by rfl) ?_; try simp only [Act.put, List.setIfInBounds_toArray, List.set_cons_zero, List.set_cons_succ]) | (refine T_load (by assumption) (by rfl) (by rfl) (fun _ _ _ _ h => h) rfl rfl (by assumption) (by first | exact (fun hn => hn) | assumption) ?_; try simp only [Act.put, List.setIfInBounds_toArray, List.set_cons_zero, List.set_cons_succ]) | (refine T_nil (by rfl) (by rfl) (fun _ _ _ _ h => h) rfl rfl ?_; try simp only [Act.put, List.setIfInBounds_toArray, List.set_cons_zero, List.set_cons_succ]) | (refine T_quiet (by rfl) (by rfl) (by rfl) (fun _ _ _ _ h => h) (fun K hK => ?_); go_big_quiet_op; refine hK _ ?_; clear hK K) | (refine T_two (by rfl) (by rfl) (by rfl) (by rfl) (fun _ _ _ _ h => h) (fun K hK => ?_); go_big_quiet_op; refine ⟨_, fun _ _ => rfl, ?_⟩; refine hK _ ?_; clear hK K; try simp only [Act.put, List.setIfInBounds_toArray, List.set_cons_zero, List.set_cons_succ]) | fail)
      (refine T_call (by rfl) (by rfl) (fun K hK => ?_); go_wp2_with fail)
      refine Calls.mono (clone_calls S Aw cw t.writes _ ?_ (by omega)) ?_
      · exact hwS
      rintro e w4 ⟨vw, rfl, hownw, hf4⟩
      have hf4' : Fr No w3 w4 := ⟨hf4.os, hf4.tape, hf4.output, hf4.size, hf4.block⟩
      replace hownw : w4.ownsRow w3.heap.size 2 1 vw t.writes.length (I64 t.writes) := hownw
      obtain ⟨A2, c2, rfl, hc2, _, hA2⟩ := own_form hownw
      (refine hK.out _ _ ((hf4.mono (fun _ _ hn => hn.elim))) ?_; clear hK K; try simp only [Act.put, List.setIfInBounds_toArray, List.set_cons_zero, List.set_cons_succ])
      clear hf4
      have hown4 := own_fr0 (own_fr hown hf3 (fun b hb hT => by have := (hv0 b hb).1; omega)) hf4'
      have hb4 := hb3.fr0 hf4'
      repeat (first | (refine T_skip (by rfl) (by rfl) (fun _ _ _ h => h) ?_; try simp only [Act.put, List.setIfInBounds_toArray, List.set_cons_zero, List.set_cons_succ]) | (refine T_pass (by rfl) (by rfl) ?_; try simp only [Act.put, List.setIfInBounds_toArray, List.set_cons_zero, List.set_cons_succ]) | (refine T_load (by assumption) (by rfl) (by rfl) (fun _ _ _ _ h => h) rfl rfl (by assumption) (by first | exact (fun hn => hn) | assumption) ?_; try simp only [Act.put, List.setIfInBounds_toArray, List.set_cons_zero, List.set_cons_succ]) | (refine T_nil (by rfl) (by rfl) (fun _ _ _ _ h => h) rfl rfl ?_; try simp only [Act.put, List.setIfInBounds_toArray, List.set_cons_zero, List.set_cons_succ]) | (refine T_quiet (by rfl) (by rfl) (by rfl) (fun _ _ _ _ h => h) (fun K hK => ?_); go_big_quiet_op; refine hK _ ?_; clear hK K) | (refine T_two (by rfl) (by rfl) (by rfl) (by rfl) (fun _ _ _ _ h => h) (fun K hK => ?_); go_big_quiet_op; refine ⟨_, fun _ _ => rfl, ?_⟩; refine hK _ ?_; clear hK K; try simp only [Act.put, List.setIfInBounds_toArray, List.set_cons_zero, List.set_cons_succ]) | fail)
      (refine T_call (by rfl) (by rfl) (fun K hK => ?_); go_wp2_with fail)
      (refine hK.out _ _ (((Fr.refl _ w4).alloc _)) ?_; clear hK K; try simp only [Act.put, List.setIfInBounds_toArray, List.set_cons_zero, List.set_cons_succ])
      refine T_call (by rfl) (by rfl) (fun K hK => ?_)
      refine wp_app_at so_vtxn (own_fr0 hown4 ((Fr.refl No w4).alloc (.cells #[.int .i64 0, .int .i64 t.commit, .slice none 0 0, .slice A2 t.writes.length c2] 32))) ((Blk.new w4 _ _).rd (size := 4) (n := 1) (by rfl) (by decide)) (by intro u hu; simp at hu; rcases hu with rfl | rfl | rfl | rfl <;> rfl) (by omega) (by have := hf4'.size; simp; omega) rfl rfl rfl ?_
      intro v5 w5 hown5 hg5 hat5
      refine hK.out _ _ ((Fr.refl _ _).grown hg5 (fun q hq => .inr hq)) ?_
      clear hK K
      simp only [Act.put, List.setIfInBounds_toArray, List.set_cons_zero, List.set_cons_succ]
      have hb5 := (hb4.alloc (.cells #[.int .i64 0, .int .i64 t.commit, .slice none 0 0, .slice A2 t.writes.length c2] 32)).grown hg5 (fun hh => hSH hh.symm)
      obtain ⟨A3, c3, rfl, hc3, _, hA3⟩ := own_form hown5
      have q50 := hb5.cell 0
      have z50 := hb5.frozen 0
      simp only [List.getElem?_toArray, List.getElem?_cons_zero, List.getElem?_cons_succ] at q50
      repeat (first | (refine T_skip (by rfl) (by rfl) (fun _ _ _ h => h) ?_; try simp only [Act.put, List.setIfInBounds_toArray, List.set_cons_zero, List.set_cons_succ]) | (refine T_pass (by rfl) (by rfl) ?_; try simp only [Act.put, List.setIfInBounds_toArray, List.set_cons_zero, List.set_cons_succ]) | (refine T_load (by assumption) (by rfl) (by rfl) (fun _ _ _ _ h => h) rfl rfl (by assumption) (by first | exact (fun hn => hn) | assumption) ?_; try simp only [Act.put, List.setIfInBounds_toArray, List.set_cons_zero, List.set_cons_succ]) | (refine T_nil (by rfl) (by rfl) (fun _ _ _ _ h => h) rfl rfl ?_; try simp only [Act.put, List.setIfInBounds_toArray, List.set_cons_zero, List.set_cons_succ]) | (refine T_quiet (by rfl) (by rfl) (by rfl) (fun _ _ _ _ h => h) (fun K hK => ?_); go_big_quiet_op; refine hK _ ?_; clear hK K) | (refine T_two (by rfl) (by rfl) (by rfl) (by rfl) (fun _ _ _ _ h => h) (fun K hK => ?_); go_big_quiet_op; refine ⟨_, fun _ _ => rfl, ?_⟩; refine hK _ ?_; clear hK K; try simp only [Act.put, List.setIfInBounds_toArray, List.set_cons_zero, List.set_cons_succ]) | fail)
      refine T_turn No [] (by rfl) (by rfl) (by rfl) (fun K hK => ?_)
      go_wp2_with fail
      refine hK.out _ _ ?_
      clear hK K
      refine T_done ?_
      go_wp2
      go_ret
      have hs4 := hf4'.size
      have hbb := hown5.lt
      have hg5b : Fr (fun b => (Value.slice A ks.length c).ownBlock = some b) w4 w5 := ((Fr.refl _ w4).alloc _).grown hg5 (fun q hq => .inr hq)
      have hs5 := hg5b.size
      have hset : Fr (fun b => b = H) w5 (w5.setCell ⟨H, 0, none⟩ (.slice A3 (ks.length + 1) c3)) := (Fr.refl (fun b => b = H) w5).set (p := ⟨H, 0, none⟩) (.inr rfl) _
      have hv3 : ∀ b, (Value.slice A3 (ks.length + 1) c3).ownBlock = some b → (Value.slice A ks.length c).ownBlock = some b ∨ w4.heap.size ≤ b := by
        intro b hb
        rcases hat5 with h3 | h3
        · exact .inl (h3 ▸ hb)
        · rw [h3] at hb; simp at hb; exact .inr (by omega)
      have hf03 : Fr (fun b => b = H) w w4 := hf3.trans hf4' (fun _ _ hn => hn.elim)
      refine .inr ⟨by first | exact HBad.out | simpa using HBad.out, rfl, ⟨A3, c3, xs ++ [.int .i64 0, .int .i64 t.commit, .slice none 0 0, .slice A2 t.writes.length c2], ?_, hH, ?_, ?_, ?_⟩, ?_⟩
      · rw [List.length_append]; exact hb5.put 0 (.slice A3 (ks.length + 1) c3)
      · rw [List.length_append]; exact own_fr hown5 hset (fun b hb hT => by have := (hbb b hb).1; omega)
      · rw [List.length_append]
        intro b hb
        rcases hv3 b hb with h4 | h4
        · exact hX b h4
        · exact hXn b (by have := hf03.size; omega)
      · rw [List.length_append]
        refine TxnsC.keep hset (fun b hb hT => by have := hb.1.1; omega) (TxnsC.snoc (cs := [.int .i64 0, .int .i64 t.commit, .slice none 0 0, .slice A2 t.writes.length c2]) ?_ ⟨none, 0, A2, c2, rfl, Rd.nil_, ?_⟩)
        · refine TxnsC.mono (S := fun b => ((B ≤ b ∧ X b) ∧ (Value.slice A ks.length c).ownBlock ≠ some b) ∧ b < w.heap.size) (fun b _ hb => ⟨hb.1.1, fun h3 => ?_⟩) (TxnsC.keep hg5b (fun b hb hT => hb.1.2 hT) (TxnsC.keep hf03 (fun b hb hT => by have := hb.1.1.1; omega) (hx.mono (fun b hlt hb => ⟨hb, hlt⟩))))
          rcases hv3 b h3 with h4 | h4
          · exact hb.1.2 h4
          · have := hf03.size; omega
        · refine Rd.mono (Rd.fr ((own_rd hownw (by omega)).lt (by decide)) hg5b (fun b hb hT => by have := (hownw.lt b ((hA2 b).2 hb.1)).1; have := (hv0 b hT).2; omega)) (fun b _ hb => ⟨⟨by have := (hownw.lt b ((hA2 b).2 hb.1)).1; omega, hXn b (by have := (hownw.lt b ((hA2 b).2 hb.1)).1; omega)⟩, fun h3 => ?_⟩) (by decide)
          rcases hv3 b h3 with h4 | h4
          · have := (hownw.lt b ((hA2 b).2 hb.1)).1; have := (hv0 b h4).2; omega
          · omega
      · exact (hf03.mono (fun b _ hb => .inl hb)).trans ((hg5b.mono (T := fun b => b = H ∨ (B ≤ b ∧ X b)) (fun b _ hb => .inr ⟨(hv0 b hb).1, hX b hb⟩)).trans (hset.mono (fun b _ hb => .inl hb)) (fun _ _ hb => hb)) (fun _ _ hb => hb)
end Go.Proofs.Ytmcmjnflahfbkaa
