/- view.Get, Put, Make. No condition but size. -/
import Derived.Test.YtoajigghkjnffaaViewPeek
import Derived.Test.YtoajigghkjnffaaViewWrong
namespace Go.Proofs.Ytoajigghkjnffaa
set_option linter.unusedVariables false
set_option linter.unusedSimpArgs false
open Go.RowKit

theorem peekM_read (t : TabM) (v : ViewM) (x y : Int) : peekM t (readM v y) x = peekM t v x := by
  unfold readM; split <;> rfl
def GetR (w : World) (V O : Nat → Prop) (q p : Nat) (v : ViewM) (r : ObjM × Int) (e : Ending) (w' : World) : Prop :=
  ∃ cs : List Value, e = .returned (.tuple #[.agg cs.toArray, .int .i64 r.2]) ∧ ObjOwn w' w.heap.size cs r.1 ∧ ViewAt w' V O q p v ∧ Fr V w w'
set_option maxHeartbeats 1000000 in
theorem get_calls (w : World) (V O T O2 : Nat → Prop) (q p : Nat) (v : ViewM) (t : TabM) (x : Int) (h : ViewAt w V O q p v) (hT : TabAt w T O2 p t) (hd : ∀ b, V b → ¬ T b ∧ ¬ O2 b) (ok : TabOk t) (okv : ViewOk v) (hn : t.n ≤ 1000000) (hnv : v.n ≤ 1000000) (hx : W64 x) :
    Calls Try.prog 21 #[.pointer (some ⟨q, 0, none⟩), .int .i64 x] w fun e w' => GetR w V O q p (readM v x) (peekM t v x) e w' := by
  have hf1 : Fr No w (w.alloc (.cells #[.int .i64 0, .slice none 0 0, .slice none 0 0] tObj)) := (Fr.refl No w).alloc _
  have hb1 : Blk (w.alloc (.cells #[.int .i64 0, .slice none 0 0, .slice none 0 0] tObj)) w.heap.size tObj #[.int .i64 0, .slice none 0 0, .slice none 0 0] := Blk.new w _ _
  have hVl := h.lt
  have hTl := hT.lt
  have H := Lib.hid (peekM_read t v x x)
  go_enter Try.func21, Try.ntmps21
  go_wp2_with fail
  refine (vread_calls _ V O q p v x (h.fr0 hf1) hnv hx).mono ?_
  rintro e w2 ⟨rfl, hV2, hf2⟩
  have hT2 := (hT.fr0 hf1).fr hf2 (fun b hb hV => (hd b hV).1 hb) (fun b hb hV => (hd b hV).2 hb)
  have hb2 := hb1.fr hf2 (fun hV => by have := hVl.1 _ hV; omega)
  have hF2 : Fr V w w2 := (hf1.mono (fun _ _ hn => hn.elim)).trans hf2 (fun b _ h => h)
  have hz2 := hb2.lt
  go_wp2_with fail
  refine (peek_calls _ V O T O2 q p (readM v x) t x hV2 hT2 ok (readM_ok okv) hn hx).mono ?_
  rintro e w3 ⟨cs, rfl, hown3, hf3⟩
  rw [H.out] at hown3 ⊢
  obtain ⟨A3, c3, D3, d3, rfl⟩ := hown3.lit3
  have hb3 := hb2.fr0 hf3
  have hV3 := hV2.fr0 hf3
  generalize hPK : peekM t v x = R at *
  have HPK := Lib.hid hPK
  clear hPK
  go_wp2_with (first
    | (refine wpList_stA ag_obj.info rfl _ _ rfl w.heap.size 0 _ _ [.int .i64 R.1.cls, .slice A3 R.1.slots.length c3, .slice D3 R.1.bytes.length d3] _ rfl rfl rfl rfl (one3 rfl rfl rfl) hb3 (by decide) ?_; intro w6 hb6 hg6 hz6)
    | fail)
  rw [splice_all _ _ (by rfl)] at hb6
  refine bodyPost_ret (results_blk2 ag_obj rfl _ _ _ _ _ _ rfl rfl hb6 rfl) rfl ?_
  have hf6 : Fr (fun b => b = w.heap.size) w3 w6 := (Fr.refl (fun b => b = w.heap.size) w3).grown hg6 (fun q hq => by injection hq with hq; exact .inr hq.symm)
  have hVl2 := hV2.lt
  have hF3 : Fr V w w3 := hF2.trans hf3 (fun _ _ hn => hn.elim)
  have hF6 : Fr V w w6 := hF3.trans hf6 (fun b hb e => by have : b = w.heap.size := e; omega)
  have hown6 : ObjOwn w6 w.heap.size [.int .i64 R.1.cls, .slice A3 R.1.slots.length c3, .slice D3 R.1.bytes.length d3] R.1 := ObjOwn.down (B := w2.heap.size) (hown3.fr hf6 (fun b hb e => by have : b = w.heap.size := e; omega)) (by omega)
  rw [HPK.out]
  exact ⟨[.int .i64 R.1.cls, .slice A3 R.1.slots.length c3, .slice D3 R.1.bytes.length d3], rfl, hown6, hV3.fr hf6 (fun b hb e => by have := hVl.1 b hb; omega) (fun b hb e => by have := hVl.2.1 b hb; omega), hF6⟩

def vput (v : ViewM) (x : Int) (o : ObjM) : ViewM := ⟨v.base, fun y => if y = x then some o else v.own y, v.read, v.made, v.n + 1⟩
theorem ViewP.put {w w' : World} {V O O' : Nat → Prop} {q p ob rb : Nat} {f g : Int → Option Value} {v : ViewM} (h : ViewP w V O q p ob rb f g v) {x : Int} {o : ObjM} {cs : List Value} (hx : W64 x)
    (hf : Fr (fun b => b = ob) w w') (hm : MapV w' ob (v.n + 1) (fput f x (.agg cs.toArray))) (hc : ObjC w' O' cs o) (h1 : ∀ b, O b → O' b) (h2 : ∀ b, O' b → O b ∨ w.heap.size ≤ b ∧ b < w'.heap.size) :
    ViewP w' V O' q p ob rb (fput f x (.agg cs.toArray)) g (vput v x o) := by
  obtain ⟨i1, i2, i3, i4, i5, i6⟩ := h.inV
  exact { blk := h.blk.fr hf i4
          own := hm
          rd := (h.rd.fr hf (fun e => i6 e.symm)).mono (Nat.le_succ _)
          objs := fun y hy => by
            by_cases hyx : y = x
            · subst hyx
              rw [fput_same]
              exact .inr ⟨cs, o, rfl, if_pos rfl, hc⟩
            · rw [fput_other _ _ hyx]
              have e : (vput v x o).own y = v.own y := if_neg hyx
              rw [e]
              rcases h.objs y hy with h3 | ⟨cs2, o2, e1, e2, e3⟩
              · exact .inl h3
              · exact .inr ⟨cs2, o2, e1, e2, (e3.keep hf (fun b hb e => (h.off ob i2).2 (e ▸ hb))).mono (fun b _ hb => h1 b hb)⟩
          reads := h.reads
          inV := h.inV
          off := fun b hb => ⟨Nat.lt_of_lt_of_le (h.off b hb).1 hf.size, fun hO => by
            rcases h2 b hO with h9 | h9
            · exact (h.off b hb).2 h9
            · have := (h.off b hb).1; omega⟩
          offO := fun b hb => by
            rcases h2 b hb with h9 | h9
            · exact Nat.lt_of_lt_of_le (h.offO b h9) hf.size
            · exact h9.2 }
def putV (t : TabM) (v : ViewM) (x : Int) (o : ObjM) : ViewM × Int :=
  if (peekM t v x).2 = 0 then (if wrongM o = 0 then (vput v x o, 0) else (v, wrongM o)) else (v, (peekM t v x).2)
def PutR (w : World) (V O : Nat → Prop) (q p : Nat) (v : ViewM) (w' : World) : Prop :=
  ∃ O' : Nat → Prop, ViewAt w' V O' q p v ∧ (∀ b, O' b → O b ∨ w.heap.size ≤ b) ∧ Fr V w w'
set_option maxHeartbeats 2000000 in
set_option maxRecDepth 100000 in
theorem vput_calls (w : World) (V O T O2 S : Nat → Prop) (q p : Nat) (v : ViewM) (t : TabM) (x : Int) (cs : List Value) (o : ObjM) (h : ViewAt w V O q p v) (hT : TabAt w T O2 p t) (hco : ObjC w S cs o) (ok : TabOk t) (okv : ViewOk v) (hn : t.n ≤ 1000000) (hnv : v.n ≤ 1000000) (hx : W64 x) (hs : o.slots.length * 16 ≤ 211106232532992) :
    Calls Try.prog 19 #[.pointer (some ⟨q, 0, none⟩), .int .i64 x, .agg cs.toArray] w fun e w' => e = .returned (.int .i64 (putV t v x o).2) ∧ PutR w V O q p (putV t v x o).1 w' := by
  have hVl := h.lt
  obtain ⟨A, c, D, d, rfl, hsl, hby⟩ := hco
  have g1 := plain_i64
  have g2 := plain_lval
  have g3 := plain_lu8
  have g6 := plain_mobj
  have hf1 : Fr No w (w.alloc (.cells #[.int .i64 o.cls, .slice A o.slots.length c, .slice D o.bytes.length d] tObj)) := (Fr.refl No w).alloc _
  have hb1 := Blk.new w tObj #[.int .i64 o.cls, .slice A o.slots.length c, .slice D o.bytes.length d]
  have hoc1 : ObjC (w.alloc (.cells #[.int .i64 o.cls, .slice A o.slots.length c, .slice D o.bytes.length d] tObj)) S [.int .i64 o.cls, .slice A o.slots.length c, .slice D o.bytes.length d] o := ObjC.fr0 ⟨A, c, D, d, rfl, hsl, hby⟩ hf1
  have hz1 : (w.alloc (.cells #[.int .i64 o.cls, .slice A o.slots.length c, .slice D o.bytes.length d] tObj)).heap.size = w.heap.size + 1 := by simp
  go_enter Try.func19, Try.ntmps19
  go_wp2_with fail
  refine (peek_calls _ V O T O2 q p v t x (h.fr0 hf1) (hT.fr0 hf1) ok okv hn hx).mono ?_
  rintro e w2 ⟨csP, rfl, hownP, hf2⟩
  obtain ⟨AP, cP, DP, dP, rfl⟩ := hownP.lit3
  have hfo : Fr No w2 (w2.alloc (.cells #[.int .i64 (peekM t v x).1.cls, .slice AP (peekM t v x).1.slots.length cP, .slice DP (peekM t v x).1.bytes.length dP] tObj)) := (Fr.refl No w2).alloc _
  have hF3 := (hf1.tr hf2).tr hfo
  have hb3 := (hb1.fr0 hf2).fr0 hfo
  have hoc3 := (hoc1.fr0 hf2).fr0 hfo
  have hV3 := h.fr0 hF3
  have hz3 : w.heap.size + 1 ≤ (w2.alloc (.cells #[.int .i64 (peekM t v x).1.cls, .slice AP (peekM t v x).1.slots.length cP, .slice DP (peekM t v x).1.bytes.length dP] tObj)).heap.size := by
    have := hf2.size; have := hfo.size; omega
  generalize hw3 : w2.alloc (.cells #[.int .i64 (peekM t v x).1.cls, .slice AP (peekM t v x).1.slots.length cP, .slice DP (peekM t v x).1.bytes.length dP] tObj) = w3 at *
  have H : Hid (putV t v x o = if (peekM t v x).2 = 0 then (if wrongM o = 0 then (vput v x o, 0) else (v, wrongM o)) else (v, (peekM t v x).2)) := Lib.hid rfl
  have HV := Lib.hid h
  clear hfo hf1 hf2 hownP hb1 hoc1 hz1 h
  generalize hPK : peekM t v x = R at *
  by_cases hR : R.2 = 0
  · have ek : (R.2 != 0) = false := by simpa using hR
    have ek2 : (R.2 == 0) = true := by simpa using hR
    have H1 := Lib.hid (H.out.trans (if_pos hR))
    clear hR H
    have hld := hb3.all
    go_wp2_with (first
      | (refine wpList_ldA ag_obj rfl _ rfl ⟨w.heap.size, 0, none⟩ [.int .i64 o.cls, .slice A o.slots.length c, .slice D o.bytes.length d] rfl rfl hld ?_)
      | fail)
    refine (wrong_calls S _ o _ hoc3).mono ?_
    rintro e w4 ⟨rfl, hf4⟩
    clear hw3
    have hb4 := hb3.fr0 hf4
    have hF4 := hF3.tr hf4
    have hV4 := hV3.fr0 hf4
    have hoc4 := hoc3.fr0 hf4
    have hz4 := hf4.size
    by_cases hw : wrongM o = 0
    · have H2 := Lib.hid (H1.out.trans (if_pos hw))
      rw [hw]
      clear hw H1
      obtain ⟨ob, rb, f, g, hP⟩ := hV4
      have hbk := hP.blk
      have hld4 := hb4.all
      obtain ⟨i1, i2, i3, i4, i5, i6⟩ := hP.inV
      (have y0 := hbk.cell 0; have y1 := hbk.cell 1; have y2 := hbk.cell 2; have y3 := hbk.cell 3; have y4 := hbk.cell 4; have yf0 := hbk.frozen 0; have yf1 := hbk.frozen 1; have yf2 := hbk.frozen 2; have yf3 := hbk.frozen 3; have yf4 := hbk.frozen 4; simp only [List.getElem?_toArray, List.getElem?_cons_zero, List.getElem?_cons_succ] at y0 y1 y2 y3 y4)
      go_wp2_with fail
      refine T_begin2 No [7] [0, 1, 2, 3, 4, 5, 6, 7] [6, 7] (by kernel_rfl) (by kernel_rfl) ?_
      simp only [pickOps, List.filterMap_cons, List.filterMap_nil, List.getElem?_cons_zero, List.getElem?_cons_succ, Act.put]
      repeat (first | (refine T_skip (by rfl) (by rfl) (fun _ _ _ h => h) ?_; try simp only [Act.put, List.setIfInBounds_toArray, List.set_cons_zero, List.set_cons_succ]) | (refine T_pass (by rfl) (by rfl) ?_; try simp only [Act.put, List.setIfInBounds_toArray, List.set_cons_zero, List.set_cons_succ]) | (refine T_load (by assumption) (by rfl) (by rfl) (fun _ _ _ _ h => h) rfl rfl (by assumption) (by first | exact (fun hn => hn) | assumption) ?_; try simp only [Act.put, List.setIfInBounds_toArray, List.set_cons_zero, List.set_cons_succ]) | (refine T_nil (by rfl) (by rfl) (fun _ _ _ _ h => h) rfl rfl ?_; try simp only [Act.put, List.setIfInBounds_toArray, List.set_cons_zero, List.set_cons_succ]) | (refine T_quietN (by rfl) (by rfl) (by rfl) (by rfl) (fun _ _ _ _ h => h) (fun K hK => ?_); go_big_quiet_op; refine hK _ ?_; clear hK K) | (refine T_two (by rfl) (by rfl) (by rfl) (by rfl) (fun _ _ _ _ h => h) (fun K hK => ?_); go_big_quiet_op; refine ⟨_, fun _ _ => rfl, ?_⟩; refine hK _ ?_; clear hK K; try simp only [Act.put, List.setIfInBounds_toArray, List.set_cons_zero, List.set_cons_succ]) | fail)
      refine T_loadA (cs := [.int .i64 o.cls, .slice A o.slots.length c, .slice D o.bytes.length d]) ag_obj (by rfl) (by rfl) (fun _ _ _ _ h => h) rfl rfl rfl (show ∀ j u, _ → w4.drew.cell? _ = some u from hld4) (fun hn => hn) ?_
      try simp only [Act.put, List.setIfInBounds_toArray, List.set_cons_zero, List.set_cons_succ]
      (refine T_call (by rfl) (by rfl) (fun K hK => ?_); go_wp2_with fail)
      refine (ocopy_calls S [.int .i64 o.cls, .slice A o.slots.length c, .slice D o.bytes.length d] o w4.drew hoc4 hs).mono ?_
      rintro e w5 ⟨cs5, rfl, hown5, hf5⟩
      (refine hK.out _ _ (hf5) ?_; clear hK K; try simp only [Act.put, List.setIfInBounds_toArray, List.set_cons_zero, List.set_cons_succ])
      have hf45 : Fr No w4 w5 := (Fr.refl No w4).drew.tr hf5
      have hP5 := hP.fr hf45 (fun _ _ hn => hn) (fun _ _ hn => hn)
      have hle1 : o.slots.length ≤ 211106232532992 := by omega
      have hoc5 := (hown5.rd hle1 (RdB.le hby)).lt
      have hzd : w4.drew.heap.size = w4.heap.size := rfl
      rw [hzd] at hoc5
      repeat (first | (refine T_skip (by rfl) (by rfl) (fun _ _ _ h => h) ?_; try simp only [Act.put, List.setIfInBounds_toArray, List.set_cons_zero, List.set_cons_succ]) | (refine T_pass (by rfl) (by rfl) ?_; try simp only [Act.put, List.setIfInBounds_toArray, List.set_cons_zero, List.set_cons_succ]) | (refine T_load (by assumption) (by rfl) (by rfl) (fun _ _ _ _ h => h) rfl rfl (by assumption) (by first | exact (fun hn => hn) | assumption) ?_; try simp only [Act.put, List.setIfInBounds_toArray, List.set_cons_zero, List.set_cons_succ]) | (refine T_nil (by rfl) (by rfl) (fun _ _ _ _ h => h) rfl rfl ?_; try simp only [Act.put, List.setIfInBounds_toArray, List.set_cons_zero, List.set_cons_succ]) | (refine T_quietN (by rfl) (by rfl) (by rfl) (by rfl) (fun _ _ _ _ h => h) (fun K hK => ?_); go_big_quiet_op; refine hK _ ?_; clear hK K) | (refine T_two (by rfl) (by rfl) (by rfl) (by rfl) (fun _ _ _ _ h => h) (fun K hK => ?_); go_big_quiet_op; refine ⟨_, fun _ _ => rfl, ?_⟩; refine hK _ ?_; clear hK K; try simp only [Act.put, List.setIfInBounds_toArray, List.set_cons_zero, List.set_cons_succ]) | fail)
      refine T_turn No [] (by rfl) (by rfl) (by rfl) (fun K hK => ?_)
      refine wp_putM (x := x) (u := .agg cs5.toArray) rfl Try.underlying79 hP5.own rfl (by unfold maxLen; omega) rfl hx rfl ?_
      intro w6 hm6 hg6
      refine hK.out _ _ ?_
      clear hK K
      refine T_done ?_
      have hf6 : Fr (fun b => b = ob) w5 w6 := (Fr.refl (fun b => b = ob) w5).grown hg6 (fun q hq => by injection hq with hq; exact .inr hq.symm)
      have hf46 : Fr (fun b => b = ob) w4 w6 := (hf45.mono (fun _ _ hn => hn.elim)).trans hf6 (fun b _ e => e)
      have hobl := hP.own.lt
      have hz56 := hf6.size
      have hP6 := hP.put (O' := fun b => O b ∨ w4.heap.size ≤ b ∧ b < w6.heap.size) hx hf46 hm6 ((hoc5.keep hf6 (fun b hb e => by have := hb.1; omega)).mono (fun b _ hb => .inr ⟨hb.1, by have := hb.2; omega⟩)) (fun b hb => .inl hb) (fun b hb => hb)
      clear y0 y1 y2 y3 y4 yf0 yf1 yf2 yf3 yf4
      go_wp2
      go_ret
      refine ⟨by rw [H2.out]; rfl, fun b => O b ∨ w4.heap.size ≤ b ∧ b < w6.heap.size, by rw [H2.out]; exact ⟨ob, rb, _, g, hP6⟩, fun b hb => ?_, (hF4.mono (fun _ _ hn => hn.elim)).trans hf46 (fun b _ e => e ▸ i2)⟩
      rcases hb with hb | hb
      · exact .inl hb
      · exact .inr (by omega)
    · have H2 := Lib.hid (H1.out.trans (if_neg hw))
      have ekw : (wrongM o == 0) = false := by simpa using hw
      have ekw2 : (wrongM o != 0) = true := by simpa using hw
      clear hw H1
      go_wp2
      go_ret
      exact ⟨by rw [H2.out]; rfl, O, by rw [H2.out]; exact hV4, fun b hb => .inl hb, hF4.mono (fun _ _ hn => hn.elim)⟩
  · have ek : (R.2 != 0) = true := by simpa using hR
    have ek2 : (R.2 == 0) = false := by simpa using hR
    have H1 := Lib.hid (H.out.trans (if_neg hR))
    clear hR H
    go_wp2
    go_ret
    exact ⟨by rw [H1.out]; rfl, O, by rw [H1.out]; exact hV3, fun b hb => .inl hb, hF3.mono (fun _ _ hn => hn.elim)⟩
end Go.Proofs.Ytoajigghkjnffaa
