/- view.Peek, Get. No condition but size. -/
import Derived.Test.YtoajigghkjnffaaViewRead
namespace Go.Proofs.Ytoajigghkjnffaa
set_option linter.unusedVariables false
set_option linter.unusedSimpArgs false
open Go.RowKit

def peekM (t : TabM) (v : ViewM) (x : Int) : ObjM × Int :=
  match v.own x with
  | some o => (o, 0)
  | none => if (atM t v.base x).2 = 0 then ((atM t v.base x).1, 0) else (noObj, 25)
theorem peekM_own {t : TabM} {v : ViewM} {x : Int} {o : ObjM} (h : v.own x = some o) : peekM t v x = (o, 0) := by unfold peekM; rw [h]
theorem peekM_at {t : TabM} {v : ViewM} {x : Int} (h : v.own x = none) (h2 : (atM t v.base x).2 = 0) : peekM t v x = ((atM t v.base x).1, 0) := by unfold peekM; rw [h]; simp only; rw [if_pos h2]
theorem peekM_no {t : TabM} {v : ViewM} {x : Int} (h : v.own x = none) (h2 : ¬ (atM t v.base x).2 = 0) : peekM t v x = (noObj, 25) := by unfold peekM; rw [h]; simp only; rw [if_neg h2]
theorem ObjOwn.lit3 {w : World} {B : Nat} {cs : List Value} {o : ObjM} (h : ObjOwn w B cs o) : ∃ A c D d, cs = [.int .i64 o.cls, .slice A o.slots.length c, .slice D o.bytes.length d] := by
  obtain ⟨A, c, D, d, M, e, _⟩ := h; exact ⟨A, c, D, d, e⟩
theorem ObjOwn.fr {w w' : World} {S : Nat → Prop} {B : Nat} {cs : List Value} {o : ObjM} (h : ObjOwn w B cs o) (hf : Fr S w w') (hS : ∀ b, B ≤ b → ¬ S b) : ObjOwn w' B cs o := by
  obtain ⟨A, c, D, d, M, e, r1, r2, r3, r4⟩ := h
  exact ⟨A, c, D, d, M, e, own_fr r1 hf (fun b hb => hS b (r1.lt b hb).1), r2, own_fr r3 hf (fun b hb => hS b (by have := (r3.lt b hb).1; omega)), r4⟩
theorem ObjOwn.down {w : World} {B B' : Nat} {cs : List Value} {o : ObjM} (h : ObjOwn w B cs o) (hB : B' ≤ B) : ObjOwn w B' cs o := by
  obtain ⟨A, c, D, d, M, e, r1, r2, r3, r4⟩ := h
  exact ⟨A, c, D, d, M, e, own_down r1 hB, r2, r3, by omega⟩
theorem one3 {a b c : Value} (h1 : a.oneCell' = true) (h2 : b.oneCell' = true) (h3 : c.oneCell' = true) : ∀ u ∈ [a, b, c], u.oneCell' = true := by
  intro u hu
  simp only [List.mem_cons, List.not_mem_nil, or_false] at hu
  rcases hu with rfl | rfl | rfl <;> assumption
abbrev tObj : TypeId := 27
set_option maxHeartbeats 4000000 in
set_option maxRecDepth 100000 in
theorem peek_calls (w : World) (V O T O2 : Nat → Prop) (q p : Nat) (v : ViewM) (t : TabM) (x : Int) (h : ViewAt w V O q p v) (hT : TabAt w T O2 p t) (ok : TabOk t) (okv : ViewOk v) (hn : t.n ≤ 1000000) (hx : W64 x) :
    Calls Try.prog 18 #[.pointer (some ⟨q, 0, none⟩), .int .i64 x] w fun e w' => RetO w w' e (peekM t v x) := by
  have hf1 : Fr No w (w.alloc (.cells #[.int .i64 0, .slice none 0 0, .slice none 0 0] tObj)) := (Fr.refl No w).alloc _
  have hb1 : Blk (w.alloc (.cells #[.int .i64 0, .slice none 0 0, .slice none 0 0] tObj)) w.heap.size tObj #[.int .i64 0, .slice none 0 0, .slice none 0 0] := Blk.new w _ _
  have hz1 : (w.alloc (.cells #[.int .i64 0, .slice none 0 0, .slice none 0 0] tObj)).heap.size = w.heap.size + 1 := by simp
  obtain ⟨ob, rb, f, g, hP0⟩ := h
  have hP := hP0.fr hf1 (fun _ _ hn => hn) (fun _ _ hn => hn)
  have hT1 := hT.fr0 hf1
  have hbk := hP.blk
  have hql := hbk.lt
  (have y0 := hbk.cell 0; have y1 := hbk.cell 1; have y2 := hbk.cell 2; have y3 := hbk.cell 3; have y4 := hbk.cell 4; have yf0 := hbk.frozen 0; have yf1 := hbk.frozen 1; have yf2 := hbk.frozen 2; have yf3 := hbk.frozen 3; have yf4 := hbk.frozen 4; simp only [List.getElem?_toArray, List.getElem?_cons_zero, List.getElem?_cons_succ] at y0 y1 y2 y3 y4)
  have g1 := plain_i64
  have g6 := plain_mobj
  have g7 := plain_ptab
  have hlk := hP.own.look_ok Try.underlying79 (zero_obj _) hx
  have hzW : q < w.heap.size := hP0.blk.lt
  rcases hP.objs x hx with ⟨hfx, hvx⟩ | ⟨cs, o, hfx, hvx, hoc⟩
  · rw [hfx] at hlk
    simp only [Option.getD_none, Option.isSome_none] at hlk
    have HA := Lib.hid (peekM_at (t := t) hvx)
    have HN := Lib.hid (peekM_no (t := t) hvx)
    generalize hM : peekM t v x = M at *
    clear hfx hvx hM
    generalize hw1 : w.alloc (.cells #[.int .i64 0, .slice none 0 0, .slice none 0 0] tObj) = w1 at *
    go_enter Try.func18, Try.ntmps18
    go_wp2_with fail
    clear hw1
    have hfo : Fr No w1 (w1.alloc (.cells #[.int .i64 0, .slice none 0 0, .slice none 0 0] tObj)) := (Fr.refl No w1).alloc _
    have hzo : (w1.alloc (.cells #[.int .i64 0, .slice none 0 0, .slice none 0 0] tObj)).heap.size = w1.heap.size + 1 := by simp
    have hb2 := hb1.fr0 hfo
    have hbk2 := hbk.fr0 hfo
    have hT2 := hT1.fr0 hfo
    have hF2 := hf1.tr hfo
    clear y0 y1 y2 y3 y4 yf0 yf1 yf2 yf3 yf4 hlk hP hT1
    generalize w1.alloc (.cells #[.int .i64 0, .slice none 0 0, .slice none 0 0] tObj) = w2 at *
    (have y0 := hbk2.cell 0; have y1 := hbk2.cell 1; have y2 := hbk2.cell 2; have y3 := hbk2.cell 3; have y4 := hbk2.cell 4; have yf0 := hbk2.frozen 0; have yf1 := hbk2.frozen 1; have yf2 := hbk2.frozen 2; have yf3 := hbk2.frozen 3; have yf4 := hbk2.frozen 4; simp only [List.getElem?_toArray, List.getElem?_cons_zero, List.getElem?_cons_succ] at y0 y1 y2 y3 y4)
    clear yf0 yf1 yf2 yf3 yf4 y2 y3 y4
    obtain ⟨B, hB⟩ : ∃ B, B = w2.heap.size := ⟨_, rfl⟩
    have hqB : ¬ B ≤ q := by omega
    refine T_begin (fun b => B ≤ b) [0, 1, 2, 3, 4, 5, 6, 7, 8, 9, 10, 11, 12, 13, 14, 15] [9, 13, 14, 1009] (by kernel_rfl) (by kernel_rfl) ?_
    simp only [pickOps, List.filterMap_cons, List.filterMap_nil, List.getElem?_cons_zero, List.getElem?_cons_succ, Act.put]
    repeat (first | (refine T_skip (by rfl) (by rfl) (fun _ _ _ h => h) ?_; try simp only [Act.put, List.setIfInBounds_toArray, List.set_cons_zero, List.set_cons_succ]) | (refine T_pass (by rfl) (by rfl) ?_; try simp only [Act.put, List.setIfInBounds_toArray, List.set_cons_zero, List.set_cons_succ]) | (refine T_load (by assumption) (by rfl) (by rfl) (fun _ _ _ _ h => h) rfl rfl (by assumption) (by first | exact (fun hn => hn) | assumption) ?_; try simp only [Act.put, List.setIfInBounds_toArray, List.set_cons_zero, List.set_cons_succ]) | (refine T_nil (by rfl) (by rfl) (fun _ _ _ _ h => h) rfl rfl ?_; try simp only [Act.put, List.setIfInBounds_toArray, List.set_cons_zero, List.set_cons_succ]) | (refine T_quietN (by rfl) (by rfl) (by rfl) (by rfl) (fun _ _ _ _ h => h) (fun K hK => ?_); go_big_quiet_op; refine hK _ ?_; clear hK K) | (refine T_two (by rfl) (by rfl) (by rfl) (by rfl) (fun _ _ _ _ h => h) (fun K hK => ?_); go_big_quiet_op; refine ⟨_, fun _ _ => rfl, ?_⟩; refine hK _ ?_; clear hK K; try simp only [Act.put, List.setIfInBounds_toArray, List.set_cons_zero, List.set_cons_succ]) | fail)
    generalize hRR : atM t v.base x = R at HA HN
    refine T_fork (ord2 := [0, 1, 2, 3, 4, 5, 6, 7, 8, 13, 9, 10, 11, 12, 14, 15]) (calls2 := [13, 9, 14, 1013]) (i := 9) (j := 13) (by kernel_rfl) rfl rfl rfl (by kernel_rfl) rfl rfl rfl (by rfl) (by rfl) (fun K hK => ?_) (fun K hK => ?_)
    · go_wp2_with fail
      refine (tat_calls w2.drew T O2 p t v.base x (hT2.fr0 (Fr.refl No w2).drew) ok hn hx).mono ?_
      rw [hRR]
      rintro e w3 ⟨cs, rfl, hown3, hf3⟩
      (refine hK.out _ _ ((hf3.mono (fun _ _ hn => hn.elim))) ?_; clear hK K; try simp only [Act.put, List.setIfInBounds_toArray, List.set_cons_zero, List.set_cons_succ])
      obtain ⟨A3, c3, D3, d3, rfl⟩ := hown3.lit3
      have hdz : w2.drew.heap.size = w2.heap.size := rfl
      rw [hdz] at hown3
      have hz23 : w2.heap.size ≤ w3.heap.size := hf3.size
      repeat (first | (refine T_skip (by rfl) (by rfl) (fun _ _ _ h => h) ?_; try simp only [Act.put, List.setIfInBounds_toArray, List.set_cons_zero, List.set_cons_succ]) | (refine T_pass (by rfl) (by rfl) ?_; try simp only [Act.put, List.setIfInBounds_toArray, List.set_cons_zero, List.set_cons_succ]) | (refine T_load (by assumption) (by rfl) (by rfl) (fun _ _ _ _ h => h) rfl rfl (by assumption) (by first | exact (fun hn => hn) | assumption) ?_; try simp only [Act.put, List.setIfInBounds_toArray, List.set_cons_zero, List.set_cons_succ]) | (refine T_nil (by rfl) (by rfl) (fun _ _ _ _ h => h) rfl rfl ?_; try simp only [Act.put, List.setIfInBounds_toArray, List.set_cons_zero, List.set_cons_succ]) | (refine T_quietN (by rfl) (by rfl) (by rfl) (by rfl) (fun _ _ _ _ h => h) (fun K hK => ?_); go_big_quiet_op; refine hK _ ?_; clear hK K) | (refine T_two (by rfl) (by rfl) (by rfl) (by rfl) (fun _ _ _ _ h => h) (fun K hK => ?_); go_big_quiet_op; refine ⟨_, fun _ _ => rfl, ?_⟩; refine hK _ ?_; clear hK K; try simp only [Act.put, List.setIfInBounds_toArray, List.set_cons_zero, List.set_cons_succ]) | fail)
      (refine T_call (by rfl) (by rfl) (fun K hK => ?_); go_wp2_with fail)
      (refine hK.out _ _ (((Fr.refl _ _).alloc _)) ?_; clear hK K; try simp only [Act.put, List.setIfInBounds_toArray, List.set_cons_zero, List.set_cons_succ])
      repeat (first | (refine T_skip (by rfl) (by rfl) (fun _ _ _ h => h) ?_; try simp only [Act.put, List.setIfInBounds_toArray, List.set_cons_zero, List.set_cons_succ]) | (refine T_pass (by rfl) (by rfl) ?_; try simp only [Act.put, List.setIfInBounds_toArray, List.set_cons_zero, List.set_cons_succ]) | (refine T_load (by assumption) (by rfl) (by rfl) (fun _ _ _ _ h => h) rfl rfl (by assumption) (by first | exact (fun hn => hn) | assumption) ?_; try simp only [Act.put, List.setIfInBounds_toArray, List.set_cons_zero, List.set_cons_succ]) | (refine T_nil (by rfl) (by rfl) (fun _ _ _ _ h => h) rfl rfl ?_; try simp only [Act.put, List.setIfInBounds_toArray, List.set_cons_zero, List.set_cons_succ]) | (refine T_quietN (by rfl) (by rfl) (by rfl) (by rfl) (fun _ _ _ _ h => h) (fun K hK => ?_); go_big_quiet_op; refine hK _ ?_; clear hK K) | (refine T_two (by rfl) (by rfl) (by rfl) (by rfl) (fun _ _ _ _ h => h) (fun K hK => ?_); go_big_quiet_op; refine ⟨_, fun _ _ => rfl, ?_⟩; refine hK _ ?_; clear hK K; try simp only [Act.put, List.setIfInBounds_toArray, List.set_cons_zero, List.set_cons_succ]) | fail)
      have hb4 := Blk.new w3 tObj #[.int .i64 0, .slice none 0 0, .slice none 0 0]
      have hf34 : Fr No w3 (w3.alloc (.cells #[.int .i64 0, .slice none 0 0, .slice none 0 0] tObj)) := (Fr.refl No w3).alloc _
      generalize w3.alloc (.cells #[.int .i64 0, .slice none 0 0, .slice none 0 0] tObj) = w4 at *
      obtain ⟨a8, ha8⟩ : ∃ a8, a8 = w3.heap.size := ⟨_, rfl⟩
      rw [← ha8] at hb4 ⊢
      obtain ⟨ha81, ha82⟩ : w3.heap.size ≤ a8 ∧ a8 ≤ w3.heap.size := ⟨by omega, by omega⟩
      clear ha8
      refine T_call (by rfl) (by rfl) (fun K hK => ?_)
      refine wp_stA ag_obj.info _ _ rfl a8 0 _ _ [.int .i64 R.1.cls, .slice A3 R.1.slots.length c3, .slice D3 R.1.bytes.length d3] _ rfl rfl rfl rfl (one3 rfl rfl rfl) hb4 (by decide) ?_
      intro w5 hb5 hg5 hz5'
      refine hK.out _ _ ((Fr.refl _ _).grown hg5 (fun q hq => by injection hq with hq; exact .inr (by omega))) ?_
      clear hK K
      try simp only [Act.put, List.setIfInBounds_toArray, List.set_cons_zero, List.set_cons_succ]
      repeat (first | (refine T_skip (by rfl) (by rfl) (fun _ _ _ h => h) ?_; try simp only [Act.put, List.setIfInBounds_toArray, List.set_cons_zero, List.set_cons_succ]) | (refine T_pass (by rfl) (by rfl) ?_; try simp only [Act.put, List.setIfInBounds_toArray, List.set_cons_zero, List.set_cons_succ]) | (refine T_load (by assumption) (by rfl) (by rfl) (fun _ _ _ _ h => h) rfl rfl (by assumption) (by first | exact (fun hn => hn) | assumption) ?_; try simp only [Act.put, List.setIfInBounds_toArray, List.set_cons_zero, List.set_cons_succ]) | (refine T_nil (by rfl) (by rfl) (fun _ _ _ _ h => h) rfl rfl ?_; try simp only [Act.put, List.setIfInBounds_toArray, List.set_cons_zero, List.set_cons_succ]) | (refine T_quietN (by rfl) (by rfl) (by rfl) (by rfl) (fun _ _ _ _ h => h) (fun K hK => ?_); go_big_quiet_op; refine hK _ ?_; clear hK K) | (refine T_two (by rfl) (by rfl) (by rfl) (by rfl) (fun _ _ _ _ h => h) (fun K hK => ?_); go_big_quiet_op; refine ⟨_, fun _ _ => rfl, ?_⟩; refine hK _ ?_; clear hK K; try simp only [Act.put, List.setIfInBounds_toArray, List.set_cons_zero, List.set_cons_succ]) | fail)
      refine T_done ?_
      rw [splice_all _ _ (by rfl)] at hb5
      have hb5a := hb5
      have hf45 : Fr (fun b => b = a8) w4 w5 := (Fr.refl (fun b => b = a8) w4).grown hg5 (fun q hq => by injection hq with hq; exact .inr hq.symm)
      have hf25 : Fr No w2 w5 := (((Fr.refl No w2).drew.tr hf3).tr hf34).trans hf45 (fun b hb e => by omega)
      have hf35 : Fr (fun b => b = a8) w3 w5 := (hf34.mono (fun _ _ hn => hn.elim)).trans hf45 (fun b _ e => e)
      have hown5 : ObjOwn w5 (w.heap.size + 2) [.int .i64 R.1.cls, .slice A3 R.1.slots.length c3, .slice D3 R.1.bytes.length d3] R.1 := by
        obtain ⟨A, c, D, d, M', e, r1, r2, r3, r4⟩ := hown3
        exact ⟨A, c, D, d, M', e, own_down (own_fr r1 hf35 (fun b hb e => by have := (r1.lt b hb).2; omega)) (by omega), r2, own_fr r3 hf35 (fun b hb e => by have := (r3.lt b hb).2; omega), by omega⟩
      clear y0 y1
      have hb5r := hb2.fr0 hf25
      have hF5 := hF2.tr hf25
      have hz5 : w.heap.size + 2 ≤ w5.heap.size := by have := hf25.size; omega
      clear hb2 hf25 hF2
      by_cases hc : R.2 = 0
      · have HM := HA.out hc
        have ek : (R.2 == 0) = true := by simpa using hc
        have ek2 : (R.2 != 0) = false := by simpa using hc
        have HM' := Lib.hid HM
        clear HM hc HA HN
        have hld := hb5a.all
        go_wp2_with (first
          | (refine wpList_ldA ag_obj rfl _ rfl ⟨a8, 0, none⟩ [.int .i64 R.1.cls, .slice A3 R.1.slots.length c3, .slice D3 R.1.bytes.length d3] rfl rfl hld ?_)
          | (refine wpList_stA ag_obj.info rfl _ _ rfl w.heap.size 0 _ _ [.int .i64 R.1.cls, .slice A3 R.1.slots.length c3, .slice D3 R.1.bytes.length d3] _ rfl rfl rfl rfl (one3 rfl rfl rfl) hb5r (by decide) ?_; intro w6 hb6 hg6 hz6)
          | fail)
        rw [splice_all _ _ (by rfl)] at hb6
        refine bodyPost_ret (results_blk2 ag_obj rfl _ _ _ _ _ _ rfl rfl hb6 rfl) rfl ?_
        have hf6 : Fr (fun b => b = w.heap.size) w5 w6 := (Fr.refl (fun b => b = w.heap.size) w5).grown hg6 (fun q hq => by injection hq with hq; exact .inr hq.symm)
        rw [HM'.out]
        exact ⟨[.int .i64 R.1.cls, .slice A3 R.1.slots.length c3, .slice D3 R.1.bytes.length d3], rfl, (hown5.fr hf6 (fun b hb e => by omega)).down (by omega), hF5.trans hf6 (fun b hb e => by omega)⟩
      · have HM := HN.out hc
        have ek : (R.2 == 0) = false := by simpa using hc
        have ek2 : (R.2 != 0) = true := by simpa using hc
        have HM' := Lib.hid HM
        clear HM hc HA HN
        go_wp2_with (first
          | (refine wpList_stA ag_obj.info rfl _ _ rfl w.heap.size 0 _ _ [.int .i64 0, .slice none 0 0, .slice none 0 0] _ rfl rfl rfl rfl (one3 rfl rfl rfl) hb5r (by decide) ?_; intro w6 hb6 hg6 hz6)
          | fail)
        rw [splice_all _ _ (by rfl)] at hb6
        refine bodyPost_ret (results_blk2 ag_obj rfl _ _ _ _ _ _ rfl rfl hb6 rfl) rfl ?_
        have hf6 : Fr (fun b => b = w.heap.size) w5 w6 := (Fr.refl (fun b => b = w.heap.size) w5).grown hg6 (fun q hq => by injection hq with hq; exact .inr hq.symm)
        rw [HM'.out]
        have hF6 := hF5.trans hf6 (fun b hb e => by omega)
        exact ⟨_, rfl, ObjOwn.none_ _ _ hF6.size, hF6⟩
    · go_wp2_with fail
      (refine hK.out _ _ (((Fr.refl _ _).alloc _)) ?_; clear hK K; try simp only [Act.put, List.setIfInBounds_toArray, List.set_cons_zero, List.set_cons_succ])
      have hz2 : w2.heap.size = w.heap.size + 1 + 1 := by omega
      have hb3 : Blk (w2.alloc (.cells #[.int .i64 0, .slice none 0 0, .slice none 0 0] tObj)).drew (w.heap.size + 1 + 1) tObj #[.int .i64 0, .slice none 0 0, .slice none 0 0] := Blk.drew (Blk.newAt (by omega))
      have hf23 : Fr No w2 (w2.alloc (.cells #[.int .i64 0, .slice none 0 0, .slice none 0 0] tObj)).drew := ((Fr.refl No w2).alloc _).drew
      have hz3 : (w2.alloc (.cells #[.int .i64 0, .slice none 0 0, .slice none 0 0] tObj)).drew.heap.size = w2.heap.size + 1 := by show (w2.alloc (.cells #[.int .i64 0, .slice none 0 0, .slice none 0 0] tObj)).heap.size = _; simp
      refine T_call (by rfl) (by rfl) (fun K hK => ?_)
      go_wp2_with fail
      refine (tat_calls (w2.alloc (.cells #[.int .i64 0, .slice none 0 0, .slice none 0 0] tObj)).drew T O2 p t v.base x (hT2.fr0 hf23) ok hn hx).mono ?_
      rw [hRR]
      rintro e w4 ⟨cs, rfl, hown4, hf4⟩
      (refine hK.out _ _ ((hf4.mono (fun _ _ hn => hn.elim))) ?_; clear hK K; try simp only [Act.put, List.setIfInBounds_toArray, List.set_cons_zero, List.set_cons_succ])
      obtain ⟨A3, c3, D3, d3, rfl⟩ := hown4.lit3
      have hz34 := hf4.size
      repeat (first | (refine T_skip (by rfl) (by rfl) (fun _ _ _ h => h) ?_; try simp only [Act.put, List.setIfInBounds_toArray, List.set_cons_zero, List.set_cons_succ]) | (refine T_pass (by rfl) (by rfl) ?_; try simp only [Act.put, List.setIfInBounds_toArray, List.set_cons_zero, List.set_cons_succ]) | (refine T_load (by assumption) (by rfl) (by rfl) (fun _ _ _ _ h => h) rfl rfl (by assumption) (by first | exact (fun hn => hn) | assumption) ?_; try simp only [Act.put, List.setIfInBounds_toArray, List.set_cons_zero, List.set_cons_succ]) | (refine T_nil (by rfl) (by rfl) (fun _ _ _ _ h => h) rfl rfl ?_; try simp only [Act.put, List.setIfInBounds_toArray, List.set_cons_zero, List.set_cons_succ]) | (refine T_quietN (by rfl) (by rfl) (by rfl) (by rfl) (fun _ _ _ _ h => h) (fun K hK => ?_); go_big_quiet_op; refine hK _ ?_; clear hK K) | (refine T_two (by rfl) (by rfl) (by rfl) (by rfl) (fun _ _ _ _ h => h) (fun K hK => ?_); go_big_quiet_op; refine ⟨_, fun _ _ => rfl, ?_⟩; refine hK _ ?_; clear hK K; try simp only [Act.put, List.setIfInBounds_toArray, List.set_cons_zero, List.set_cons_succ]) | fail)
      have hb4 := hb3.fr0 hf4
      refine T_call (by rfl) (by rfl) (fun K hK => ?_)
      refine wp_stA ag_obj.info _ _ rfl (w.heap.size + 1 + 1) 0 _ _ [.int .i64 R.1.cls, .slice A3 R.1.slots.length c3, .slice D3 R.1.bytes.length d3] _ rfl rfl rfl rfl (one3 rfl rfl rfl) hb4 (by decide) ?_
      intro w5 hb5 hg5 hz5'
      refine hK.out _ _ ((Fr.refl _ _).grown hg5 (fun q hq => by injection hq with hq; exact .inr (by omega))) ?_
      clear hK K
      try simp only [Act.put, List.setIfInBounds_toArray, List.set_cons_zero, List.set_cons_succ]
      repeat (first | (refine T_skip (by rfl) (by rfl) (fun _ _ _ h => h) ?_; try simp only [Act.put, List.setIfInBounds_toArray, List.set_cons_zero, List.set_cons_succ]) | (refine T_pass (by rfl) (by rfl) ?_; try simp only [Act.put, List.setIfInBounds_toArray, List.set_cons_zero, List.set_cons_succ]) | (refine T_load (by assumption) (by rfl) (by rfl) (fun _ _ _ _ h => h) rfl rfl (by assumption) (by first | exact (fun hn => hn) | assumption) ?_; try simp only [Act.put, List.setIfInBounds_toArray, List.set_cons_zero, List.set_cons_succ]) | (refine T_nil (by rfl) (by rfl) (fun _ _ _ _ h => h) rfl rfl ?_; try simp only [Act.put, List.setIfInBounds_toArray, List.set_cons_zero, List.set_cons_succ]) | (refine T_quietN (by rfl) (by rfl) (by rfl) (by rfl) (fun _ _ _ _ h => h) (fun K hK => ?_); go_big_quiet_op; refine hK _ ?_; clear hK K) | (refine T_two (by rfl) (by rfl) (by rfl) (by rfl) (fun _ _ _ _ h => h) (fun K hK => ?_); go_big_quiet_op; refine ⟨_, fun _ _ => rfl, ?_⟩; refine hK _ ?_; clear hK K; try simp only [Act.put, List.setIfInBounds_toArray, List.set_cons_zero, List.set_cons_succ]) | fail)
      refine T_done ?_
      rw [splice_all _ _ (by rfl)] at hb5
      have hb5a := hb5
      have hf45 : Fr (fun b => b = (w.heap.size + 1 + 1)) w4 w5 := (Fr.refl (fun b => b = (w.heap.size + 1 + 1)) w4).grown hg5 (fun q hq => by injection hq with hq; exact .inr hq.symm)
      have hf25 : Fr No w2 w5 := (hf23.tr hf4).trans hf45 (fun b hb e => by omega)
      have hown5 : ObjOwn w5 (w.heap.size + 2) [.int .i64 R.1.cls, .slice A3 R.1.slots.length c3, .slice D3 R.1.bytes.length d3] R.1 := (hown4.fr hf45 (fun b hb e => by omega)).down (by omega)
      clear y0 y1
      have hb5r := hb2.fr0 hf25
      have hF5 := hF2.tr hf25
      have hz5 : w.heap.size + 2 ≤ w5.heap.size := by have := hf25.size; omega
      clear hb2 hf25 hF2
      by_cases hc : R.2 = 0
      · have HM := HA.out hc
        have ek : (R.2 == 0) = true := by simpa using hc
        have ek2 : (R.2 != 0) = false := by simpa using hc
        have HM' := Lib.hid HM
        clear HM hc HA HN
        have hld := hb5a.all
        go_wp2_with (first
          | (refine wpList_ldA ag_obj rfl _ rfl ⟨(w.heap.size + 1 + 1), 0, none⟩ [.int .i64 R.1.cls, .slice A3 R.1.slots.length c3, .slice D3 R.1.bytes.length d3] rfl rfl hld ?_)
          | (refine wpList_stA ag_obj.info rfl _ _ rfl w.heap.size 0 _ _ [.int .i64 R.1.cls, .slice A3 R.1.slots.length c3, .slice D3 R.1.bytes.length d3] _ rfl rfl rfl rfl (one3 rfl rfl rfl) hb5r (by decide) ?_; intro w6 hb6 hg6 hz6)
          | fail)
        rw [splice_all _ _ (by rfl)] at hb6
        refine bodyPost_ret (results_blk2 ag_obj rfl _ _ _ _ _ _ rfl rfl hb6 rfl) rfl ?_
        have hf6 : Fr (fun b => b = w.heap.size) w5 w6 := (Fr.refl (fun b => b = w.heap.size) w5).grown hg6 (fun q hq => by injection hq with hq; exact .inr hq.symm)
        rw [HM'.out]
        exact ⟨[.int .i64 R.1.cls, .slice A3 R.1.slots.length c3, .slice D3 R.1.bytes.length d3], rfl, (hown5.fr hf6 (fun b hb e => by omega)).down (by omega), hF5.trans hf6 (fun b hb e => by omega)⟩
      · have HM := HN.out hc
        have ek : (R.2 == 0) = false := by simpa using hc
        have ek2 : (R.2 != 0) = true := by simpa using hc
        have HM' := Lib.hid HM
        clear HM hc HA HN
        go_wp2_with (first
          | (refine wpList_stA ag_obj.info rfl _ _ rfl w.heap.size 0 _ _ [.int .i64 0, .slice none 0 0, .slice none 0 0] _ rfl rfl rfl rfl (one3 rfl rfl rfl) hb5r (by decide) ?_; intro w6 hb6 hg6 hz6)
          | fail)
        rw [splice_all _ _ (by rfl)] at hb6
        refine bodyPost_ret (results_blk2 ag_obj rfl _ _ _ _ _ _ rfl rfl hb6 rfl) rfl ?_
        have hf6 : Fr (fun b => b = w.heap.size) w5 w6 := (Fr.refl (fun b => b = w.heap.size) w5).grown hg6 (fun q hq => by injection hq with hq; exact .inr hq.symm)
        rw [HM'.out]
        have hF6 := hF5.trans hf6 (fun b hb e => by omega)
        exact ⟨_, rfl, ObjOwn.none_ _ _ hF6.size, hF6⟩
  · rw [hfx] at hlk
    simp only [Option.getD_some, Option.isSome_some] at hlk
    have HM := Lib.hid (peekM_own (t := t) hvx)
    have hsm := okv.2.2 x o hvx
    obtain ⟨Ac, cc, Dc, dc, rfl, hs, hbt⟩ := hoc
    have hs0 := hs
    have hbt0 := hbt
    generalize hw1 : w.alloc (.cells #[.int .i64 0, .slice none 0 0, .slice none 0 0] tObj) = w1 at *
    go_enter Try.func18, Try.ntmps18
    go_wp2_with fail
    clear hw1
    have hfo : Fr No w1 (w1.alloc (.cells #[.int .i64 o.cls, .slice Ac o.slots.length cc, .slice Dc o.bytes.length dc] tObj)) := (Fr.refl No w1).alloc _
    refine (ocopy_calls O [.int .i64 o.cls, .slice Ac o.slots.length cc, .slice Dc o.bytes.length dc] o _ (ObjC.fr0 ⟨Ac, cc, Dc, dc, rfl, hs, hbt⟩ hfo) (by have := hsm.1; omega)).mono ?_
    rintro e w3 ⟨cs3, rfl, hown3, hf3⟩
    obtain ⟨A3, c3, D3, d3, rfl⟩ := hown3.lit3
    have hF3 := (hf1.tr hfo).tr hf3
    have hb3 := (hb1.fr0 hfo).fr0 hf3
    have hzo := hfo.size
    go_wp2_with (first
      | (refine wpList_stA ag_obj.info rfl _ _ rfl w.heap.size 0 _ _ [.int .i64 o.cls, .slice A3 o.slots.length c3, .slice D3 o.bytes.length d3] _ rfl rfl rfl rfl (one3 rfl rfl rfl) hb3 (by decide) ?_; intro w6 hb6 hg6 hz6)
      | fail)
    rw [splice_all _ _ (by rfl)] at hb6
    refine bodyPost_ret (results_blk2 ag_obj rfl _ _ _ _ _ _ rfl rfl hb6 rfl) rfl ?_
    have hf6 : Fr (fun b => b = w.heap.size) w3 w6 := (Fr.refl (fun b => b = w.heap.size) w3).grown hg6 (fun q hq => by injection hq with hq; exact .inr hq.symm)
    rw [HM.out]
    exact ⟨_, rfl, (hown3.fr hf6 (fun b hb e => by omega)).down (by omega), hF3.trans hf6 (fun b hb e => by omega)⟩
end Go.Proofs.Ytoajigghkjnffaa
