/- valid.Check, the reference's Check; one, given of the law. No condition but room. -/
import Derived.Test.YtmcmjnflahfbkaaVLeast
namespace Go.Proofs.Ytmcmjnflahfbkaa
set_option linter.unusedVariables false
set_option linter.unusedSimpArgs false
open Go.RowKit Go.Maps

def errOf (o : Option Int) : Int := if o.isSome then 30 else 0
def sinceP (a : Int) : Int → Bool := fun c => decide (a < c)
theorem pass_all (a e : Int) : pass a e true = sinceP a := by funext c; simp [pass, sinceP]
theorem told_calls (o : Option Int) (w : World) : Calls Try.prog 25 #[.int .i64 (iv o), .bool o.isSome] w fun e w' => e = .returned (.tuple #[.int .i64 (iv o), .int .i64 (errOf o)]) ∧ w = w' := by
  cases o with
  | none =>
    go_enter Try.func25, Try.ntmps25
    simp only [Option.isSome_none]
    go_wp2
    go_ret2
    exact ⟨rfl, rfl⟩
  | some m =>
    go_enter Try.func25, Try.ntmps25
    simp only [Option.isSome_some]
    go_wp2
    go_ret2
    exact ⟨rfl, rfl⟩
/-- What a check says. -/
def checkM (ts : List Txn) (t : Txn) : Option Int := minL (clashes ts t (sinceP t.base))
/-- There is room for all that stands in the way. -/
def Room (ts : List Txn) (t : Txn) (p : Int → Bool) : Prop :=
  (Wf t.reads ∧ Wf t.writes) ∧ (∀ d ∈ ts, Wf d.writes) ∧ (∀ d ∈ ts, p d.commit = true → d.writes.length * 8 ≤ 211106232532992) ∧ (clashes ts t p).length * 8 ≤ 211106232532992
theorem check_calls (S : Nat → Prop) (A : Option Addr) (c : Nat) (ts : List Txn) (cs : List Value) (t : Txn) (w : World) (h : RdT w S A ts) (ht : TxnC w S cs t) (hroom : Room ts t (sinceP t.base)) :
    Calls Try.prog 10 #[.slice A ts.length c, .agg cs.toArray] w fun r w' =>
      r = .returned (.tuple #[.int .i64 (iv (checkM ts t)), .int .i64 (errOf (checkM ts t))]) ∧ Fr No w w' := by
  have hle := h.le
  have htc := ht
  obtain ⟨Ar, cr, Aw, cw, rfl, hr, hw⟩ := ht
  obtain ⟨r1, r2, r3, r4⟩ := hroom
  have hb := (Blk.new w 32 #[.int .i64 t.base, .int .i64 t.commit, .slice Ar t.reads.length cr, .slice Aw t.writes.length cw])
  go_enter Try.func10, Try.ntmps10
  go_wp2_with (first
    | (refine wpList_ldA ag_vtxn rfl _ rfl ⟨w.heap.size, 0, none⟩ [.int .i64 t.base, .int .i64 t.commit, .slice Ar t.reads.length cr, .slice Aw t.writes.length cw] rfl rfl hb.all ?_)
    | fail)
  have hf1 : Fr No w (w.alloc (.cells #[.int .i64 t.base, .int .i64 t.commit, .slice Ar t.reads.length cr, .slice Aw t.writes.length cw] 32)) := (Fr.refl No w).alloc _
  refine (least_since S A c ts [.int .i64 t.base, .int .i64 t.commit, .slice Ar t.reads.length cr, .slice Aw t.writes.length cw] t t.base (sinceP t.base) rfl _ (h.fr0 hf1) (htc.fr0 hf1) r1 r2 r3 r4).mono ?_
  rintro e w2 ⟨rfl, hf2⟩
  go_wp2_with fail
  refine (told_calls (checkM ts t) _).mono ?_
  rintro e _ ⟨rfl, rfl⟩
  go_wp2
  go_ret2
  exact ⟨rfl, hf1.tr hf2⟩
theorem refcheck_calls (S : Nat → Prop) (A : Option Addr) (c : Nat) (ts : List Txn) (cs : List Value) (t : Txn) (w : World) (h : RdT w S A ts) (ht : TxnC w S cs t) :
    Calls Try.prog 14 #[.slice A ts.length c, .agg cs.toArray] w fun r w' =>
      r = .returned (.tuple #[.int .i64 (iv (checkM ts t)), .int .i64 (errOf (checkM ts t))]) ∧ Fr No w w' := by
  have hle := h.le
  have htc := ht
  obtain ⟨Ar, cr, Aw, cw, rfl, hr, hw⟩ := ht
  generalize hq : checkM ts t = o
  have HQ := Lib.hid hq
  clear hq
  have hb := (Blk.new w 25 #[.int .i64 t.base, .int .i64 t.commit, .slice Ar t.reads.length cr, .slice Aw t.writes.length cw])
  go_enter Try.func14, Try.ntmps14
  go_wp2_with (first
    | (refine wpList_ldA ag_txn rfl _ rfl ⟨w.heap.size, 0, none⟩ [.int .i64 t.base, .int .i64 t.commit, .slice Ar t.reads.length cr, .slice Aw t.writes.length cw] rfl rfl hb.all ?_)
    | fail)
  have hf1 : Fr No w (w.alloc (.cells #[.int .i64 t.base, .int .i64 t.commit, .slice Ar t.reads.length cr, .slice Aw t.writes.length cw] 25)) := (Fr.refl No w).alloc _
  refine (within_calls S A c ts [.int .i64 t.base, .int .i64 t.commit, .slice Ar t.reads.length cr, .slice Aw t.writes.length cw] t 0 true _ (h.fr0 hf1) (htc.fr0 hf1)).mono ?_
  rintro e w2 ⟨rfl, hf2⟩
  rw [pass_all, show minL (clashes ts t (sinceP t.base)) = o from HQ.out]
  cases o with
  | none =>
    simp only [Option.isSome_none]
    go_wp2
    go_ret2
    exact ⟨rfl, hf1.tr hf2⟩
  | some m =>
    simp only [Option.isSome_some]
    go_wp2
    go_ret2
    exact ⟨rfl, hf1.tr hf2⟩

set_option maxHeartbeats 1000000 in
/-- A session's struct, copied: rows of its own. -/
theorem one_calls (S : Nat → Prop) (cs : List Value) (t : Txn) (w : World) (ht : TxnC w S cs t) (h1 : t.reads.length * 8 ≤ 211106232532992) (h2 : t.writes.length * 8 ≤ 211106232532992) :
    Calls Try.prog 12 #[.agg cs.toArray] w fun e w' => ∃ vr vw M, e = .returned (.agg #[.int .i64 t.base, .int .i64 t.commit, vr, vw]) ∧ (w.heap.size ≤ M ∧ M ≤ w'.heap.size) ∧
      w'.ownsRow w.heap.size 2 1 vr t.reads.length (I64 t.reads) ∧ (∀ b, vr.ownBlock = some b → b < M) ∧ w'.ownsRow M 2 1 vw t.writes.length (I64 t.writes) ∧ Fr No w w' := by
  obtain ⟨Ar, cr, Aw, cw, rfl, hr, hw⟩ := ht
  go_enter Try.func12, Try.ntmps12
  go_wp2_with (first
    | (at_builtin; refine wpList_app so_i64 (World.ownsRow_nil _ (w.heap.size + 1 + 1 + 1) _ _) (Rd.fr0 hr ((((Fr.refl No w).alloc _).alloc _).alloc _)) (I64_one _) (by omega) (by simp) rfl rfl rfl rfl ?_; intro v4 w4 hown4 hg4 hat4; rw [Nat.zero_add, List.nil_append] at hown4; obtain ⟨A4, c4, rfl, hc4, hcm4, hA4⟩ := own_form hown4; have hf4 : Fr No w w4 := ((((Fr.refl No w).alloc _).alloc _).alloc _).grown hg4 (by simp [Value.ownBlock]); have hb4 : Blk w4 (w.heap.size + 1 + 1) 32 #[.int .i64 t.base, .int .i64 t.commit, .slice none 0 0, .slice none 0 0] := Blk.grown (Blk.newAt (by simp)) hg4 (by simp [Value.ownBlock]); have hz4 : Blk w4 (w.heap.size + 1) 32 #[.int .i64 0, .int .i64 0, .slice none 0 0, .slice none 0 0] := Blk.grown (Blk.alloc (Blk.newAt (by simp)) _) hg4 (by simp [Value.ownBlock]); have hx4 : Blk w4 w.heap.size 25 #[.int .i64 t.base, .int .i64 t.commit, .slice Ar t.reads.length cr, .slice Aw t.writes.length cw] := Blk.grown (Blk.alloc (Blk.alloc (Blk.newAt (by simp)) _) _) hg4 (by simp [Value.ownBlock]); have q42 := hb4.cell 2; have q43 := hb4.cell 3; have x43 := hx4.cell 3; have z42 := hb4.frozen 2; have z43 := hb4.frozen 3; simp only [List.getElem?_toArray, List.getElem?_cons_succ, List.getElem?_cons_zero] at q42 q43 x43)
    | (at_builtin; refine wpList_app so_i64 (World.ownsRow_nil _ w4.heap.size _ _) (Rd.fr0 hw (hf4.set (.inl (by simp; omega)) _)) (I64_one _) (by omega) (by simp) rfl rfl rfl rfl ?_; intro v5 w5 hown5 hg5 hat5; rw [Nat.zero_add, List.nil_append] at hown5; obtain ⟨A5, c5, rfl, hc5, hcm5, hA5⟩ := own_form hown5; have hf45 : Fr No w w5 := (hf4.set (.inl (by simp; omega)) _).grown hg5 (by simp [Value.ownBlock]); have hb5 : Blk w5 (w.heap.size + 1 + 1) 32 #[.int .i64 t.base, .int .i64 t.commit, .slice A4 t.reads.length c4, .slice none 0 0] := Blk.grown (Blk.put hb4 2 _) hg5 (by simp [Value.ownBlock]); have hz5 : Blk w5 (w.heap.size + 1) 32 #[.int .i64 0, .int .i64 0, .slice none 0 0, .slice none 0 0] := Blk.grown (Blk.far hz4 (by simp) _) hg5 (by simp [Value.ownBlock]); have q53 := hb5.cell 3; have z53 := hb5.frozen 3; simp only [List.getElem?_toArray, List.getElem?_cons_succ, List.getElem?_cons_zero] at q53)
    | (refine wpList_ldA ag_vtxn rfl _ rfl ⟨w.heap.size + 1 + 1, 0, none⟩ [.int .i64 t.base, .int .i64 t.commit, .slice A4 t.reads.length c4, .slice A5 t.writes.length c5] rfl rfl (show ∀ j u, _ → (w5.setCell _ _).cell? _ = some u from Blk.all (Blk.put hb5 3 _)) ?_)
    | (refine wpList_stA ag_vtxn.info rfl _ _ rfl _ _ _ _ [.int .i64 t.base, .int .i64 t.commit, .slice A4 t.reads.length c4, .slice A5 t.writes.length c5] _ rfl rfl rfl rfl (by intro u hu; simp at hu; rcases hu with rfl | rfl | rfl | rfl <;> rfl) (Blk.far hz5 (by simp) _) (by decide) ?_; intro w7 hb7 hg7 hz7)
    | fail)
  rw [splice_all _ _ (by rfl)] at hb7
  have hs4 : w.heap.size + 1 + 1 < w4.heap.size := hb4.lt
  have hfa : Fr (fun b => b = w.heap.size + 1 ∨ b = w.heap.size + 1 + 1) w5 w7 := ((Fr.refl _ w5).set (.inr (.inr rfl)) _).grown hg7 (by rintro q hq; injection hq with hq; subst hq; exact .inr (.inl rfl))
  have hfb : Fr (fun b => b = w.heap.size + 1 ∨ b = w.heap.size + 1 + 1) w4 w7 := (((Fr.refl _ w4).set (.inr (.inr rfl)) _).grown hg5 (by simp [Value.ownBlock])).trans hfa (fun _ _ hT => hT)
  refine bodyPost_ret (results_blk ag_vtxn rfl _ _ _ _ _ rfl hb7 rfl) rfl ⟨_, _, w4.heap.size, rfl, ⟨hf4.size, hfb.size⟩, ?_, fun b hb => (hown4.lt b hb).2, ?_, ?_⟩
  · exact own_down (own_fr hown4 hfb (fun b hb hT => by have := (hown4.lt b hb).1; omega)) (by omega)
  · exact own_fr hown5 hfa (fun b hb hT => by have := (hown5.lt b hb).1; omega)
  · exact hf45.trans hfa (fun b hb hT => by omega)
end Go.Proofs.Ytmcmjnflahfbkaa
