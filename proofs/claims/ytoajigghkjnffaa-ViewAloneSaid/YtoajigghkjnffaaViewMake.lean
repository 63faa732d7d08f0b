/- view.Make. No condition but size. -/
import Derived.Test.YtoajigghkjnffaaViewPut
namespace Go.Proofs.Ytoajigghkjnffaa
set_option linter.unusedVariables false
set_option linter.unusedSimpArgs false
open Go.RowKit

/-- What Make leaves: the view, the oop, the error. -/
def makeM (v : ViewM) (o : ObjM) : ViewM × Int × Int :=
  if wrongM o = 0 then
    (if v.made = 4096 then (v, 0, 4) else (vput ⟨v.base, v.own, v.read, v.made + 1, v.n⟩ (4096 + (v.made + 1)) o, 4096 + (v.made + 1), 0))
  else (v, 0, wrongM o)
set_option maxHeartbeats 2000000 in
set_option maxRecDepth 100000 in
theorem vmake_calls (w : World) (V O S : Nat → Prop) (q p : Nat) (v : ViewM) (cs : List Value) (o : ObjM) (h : ViewAt w V O q p v) (hco : ObjC w S cs o) (hSV : ∀ b, S b → ¬ V b) (okv : ViewOk v) (hnv : v.n ≤ 1000000) (hs : o.slots.length * 16 ≤ 211106232532992) :
    Calls Try.prog 17 #[.pointer (some ⟨q, 0, none⟩), .agg cs.toArray] w fun e w' => e = .returned (.tuple #[.int .i64 (makeM v o).2.1, .int .i64 (makeM v o).2.2]) ∧ PutR w V O q p (makeM v o).1 w' := by
  obtain ⟨base, own, read, made, n⟩ := v
  obtain ⟨m1, m2, _⟩ := okv
  simp only at m1 m2 hnv
  have hVl := h.lt
  obtain ⟨A, c, D, d, rfl, hsl, hby⟩ := hco
  have g1 := plain_i64
  have g2 := plain_lval
  have g3 := plain_lu8
  have g6 := plain_mobj
  have hf1 : Fr No w (w.alloc (.cells #[.int .i64 o.cls, .slice A o.slots.length c, .slice D o.bytes.length d] tObj)) := (Fr.refl No w).alloc _
  have hb1 := Blk.new w tObj #[.int .i64 o.cls, .slice A o.slots.length c, .slice D o.bytes.length d]
  have hoc1 : ObjC (w.alloc (.cells #[.int .i64 o.cls, .slice A o.slots.length c, .slice D o.bytes.length d] tObj)) S [.int .i64 o.cls, .slice A o.slots.length c, .slice D o.bytes.length d] o := ObjC.fr0 ⟨A, c, D, d, rfl, hsl, hby⟩ hf1
  have hz1 : (w.alloc (.cells #[.int .i64 o.cls, .slice A o.slots.length c, .slice D o.bytes.length d] tObj)).heap.size = w.heap.size + 1 := by simp
  have hld := hb1.all
  have H : Hid (makeM ⟨base, own, read, made, n⟩ o = if wrongM o = 0 then (if made = 4096 then (⟨base, own, read, made, n⟩, 0, 4) else (vput ⟨base, own, read, made + 1, n⟩ (4096 + (made + 1)) o, 4096 + (made + 1), 0)) else (⟨base, own, read, made, n⟩, 0, wrongM o)) := Lib.hid rfl
  go_enter Try.func17, Try.ntmps17
  go_wp2_with (first
    | (refine wpList_ldA ag_obj rfl _ rfl ⟨w.heap.size, 0, none⟩ [.int .i64 o.cls, .slice A o.slots.length c, .slice D o.bytes.length d] rfl rfl hld ?_)
    | fail)
  refine (wrong_calls S _ o _ hoc1).mono ?_
  rintro e w4 ⟨rfl, hf4⟩
  have hb4 := hb1.fr0 hf4
  have hF4 := hf1.tr hf4
  have hV4 := h.fr0 hF4
  have hoc4 := hoc1.fr0 hf4
  have hz4 := hf4.size
  have hz4' : w.heap.size + 1 ≤ w4.heap.size := by omega
  clear hld hf1 hb1 hoc1 hz1 hf4 hz4 h
  by_cases hw : wrongM o = 0
  rotate_left
  · have H2 := Lib.hid (H.out.trans (if_neg hw))
    have ekw : (wrongM o == 0) = false := by simpa using hw
    have ekw2 : (wrongM o != 0) = true := by simpa using hw
    clear hw H
    go_wp2
    go_ret2
    exact ⟨by rw [H2.out]; rfl, O, by rw [H2.out]; exact hV4, fun b hb => .inl hb, hF4.mono (fun _ _ hn => hn.elim)⟩
  have H2 := Lib.hid (H.out.trans (if_pos hw))
  rw [hw]
  clear hw H
  obtain ⟨ob, rb, f, g, hP⟩ := hV4
  have hbk := hP.blk
  obtain ⟨i1, i2, i3, i4, i5, i6⟩ := hP.inV
  simp only at hbk
  (have y0 := hbk.cell 0; have y1 := hbk.cell 1; have y2 := hbk.cell 2; have y3 := hbk.cell 3; have y4 := hbk.cell 4; have yf0 := hbk.frozen 0; have yf1 := hbk.frozen 1; have yf2 := hbk.frozen 2; have yf3 := hbk.frozen 3; have yf4 := hbk.frozen 4; simp only [List.getElem?_toArray, List.getElem?_cons_zero, List.getElem?_cons_succ] at y0 y1 y2 y3 y4)
  by_cases hm : made = 4096
  · have H3 := Lib.hid (H2.out.trans (if_pos hm))
    have ekm : (made == 4096) = true := by simpa using hm
    clear hm H2
    go_wp2
    go_ret2
    exact ⟨by rw [H3.out]; rfl, O, by rw [H3.out]; exact ⟨ob, rb, f, g, hP⟩, fun b hb => .inl hb, hF4.mono (fun _ _ hn => hn.elim)⟩
  have H3 := Lib.hid (H2.out.trans (if_neg hm))
  have ekm : (made == 4096) = false := by simpa using hm
  have m3 : made < 4096 := by omega
  clear hm H2
  obtain ⟨j, rfl⟩ : ∃ j : Nat, made = (j : Int) := ⟨made.toNat, by omega⟩
  have hjl : j < 4096 := by omega
  clear m1 m2 m3
  have hset : Fr (fun b => b = q) w4 (w4.setCell ⟨q, 4, none⟩ (.int .i64 ((j : Int) + 1))) := (Fr.refl (fun b => b = q) w4).set (p := ⟨q, 4, none⟩) (.inr rfl) _
  have hqne : q ≠ w.heap.size := by have := hVl.1 q i1; omega
  have hP5 : ViewP (w4.setCell ⟨q, 4, none⟩ (.int .i64 ((j : Int) + 1))) V O q p ob rb f g ⟨base, own, read, (j : Int) + 1, n⟩ :=
    { blk := hbk.put 4 _, own := hP.own.fr hset (fun e => i4 e.symm), rd := hP.rd.fr hset (fun e => i5 e.symm)
      objs := fun x hx => by
        rcases hP.objs x hx with h3 | ⟨cs, o, e1, e2, e3⟩
        · exact .inl h3
        · exact .inr ⟨cs, o, e1, e2, e3.keep hset (fun b hb e => (hP.off q i1).2 (e ▸ hb))⟩
      reads := hP.reads, inV := hP.inV, off := fun b hb => ⟨Nat.lt_of_lt_of_le (hP.off b hb).1 hset.size, (hP.off b hb).2⟩, offO := fun b hb => Nat.lt_of_lt_of_le (hP.offO b hb) hset.size }
  have hb5 := hb4.fr hset (fun e => hqne e.symm)
  have hoc5 : ObjC (w4.setCell ⟨q, 4, none⟩ (.int .i64 ((j : Int) + 1))) S [.int .i64 o.cls, .slice A o.slots.length c, .slice D o.bytes.length d] o := hoc4.keep hset (fun b hb e => hSV b hb (e ▸ i1))
  have hF5 : Fr V w (w4.setCell ⟨q, 4, none⟩ (.int .i64 ((j : Int) + 1))) := (hF4.mono (fun _ _ hn => hn.elim)).trans hset (fun b _ e => e ▸ i1)
  have hz5 := hset.size
  clear hP hbk hset
  go_upto_region 9 with fail
  generalize w4.setCell ⟨q, 4, none⟩ (.int .i64 ((j : Int) + 1)) = w5 at *
  clear y0 y1 y2 y3 y4 yf0 yf1 yf2 yf3 yf4
  have hbk := hP5.blk
  simp only at hbk
  (have y0 := hbk.cell 0; have y1 := hbk.cell 1; have y2 := hbk.cell 2; have y3 := hbk.cell 3; have y4 := hbk.cell 4; have yf0 := hbk.frozen 0; have yf1 := hbk.frozen 1; have yf2 := hbk.frozen 2; have yf3 := hbk.frozen 3; have yf4 := hbk.frozen 4; simp only [List.getElem?_toArray, List.getElem?_cons_zero, List.getElem?_cons_succ] at y0 y1 y2 y3 y4)
  go_wp2_with fail
  have hld5 := hb5.all
  refine T_begin2 No [7] [0, 1, 2, 3, 4, 5, 6, 7] [6, 7] (by kernel_rfl) (by kernel_rfl) ?_
  simp only [pickOps, List.filterMap_cons, List.filterMap_nil, List.getElem?_cons_zero, List.getElem?_cons_succ, Act.put]
  repeat (first | (refine T_skip (by rfl) (by rfl) (fun _ _ _ h => h) ?_; try simp only [Act.put, List.setIfInBounds_toArray, List.set_cons_zero, List.set_cons_succ]) | (refine T_pass (by rfl) (by rfl) ?_; try simp only [Act.put, List.setIfInBounds_toArray, List.set_cons_zero, List.set_cons_succ]) | (refine T_load (by assumption) (by rfl) (by rfl) (fun _ _ _ _ h => h) rfl rfl (by assumption) (by first | exact (fun hn => hn) | assumption) ?_; try simp only [Act.put, List.setIfInBounds_toArray, List.set_cons_zero, List.set_cons_succ]) | (refine T_nil (by rfl) (by rfl) (fun _ _ _ _ h => h) rfl rfl ?_; try simp only [Act.put, List.setIfInBounds_toArray, List.set_cons_zero, List.set_cons_succ]) | (refine T_quietN (by rfl) (by rfl) (by rfl) (by rfl) (fun _ _ _ _ h => h) (fun K hK => ?_); go_big_quiet_op; refine hK _ ?_; clear hK K) | (refine T_two (by rfl) (by rfl) (by rfl) (by rfl) (fun _ _ _ _ h => h) (fun K hK => ?_); go_big_quiet_op; refine ⟨_, fun _ _ => rfl, ?_⟩; refine hK _ ?_; clear hK K; try simp only [Act.put, List.setIfInBounds_toArray, List.set_cons_zero, List.set_cons_succ]) | fail)
  refine T_loadA (cs := [.int .i64 o.cls, .slice A o.slots.length c, .slice D o.bytes.length d]) ag_obj (by rfl) (by rfl) (fun _ _ _ _ h => h) rfl rfl rfl (show ∀ j u, _ → w5.drew.cell? _ = some u from hld5) (fun hn => hn) ?_
  try simp only [Act.put, List.setIfInBounds_toArray, List.set_cons_zero, List.set_cons_succ]
  (refine T_call (by rfl) (by rfl) (fun K hK => ?_); go_wp2_with fail)
  refine (ocopy_calls S [.int .i64 o.cls, .slice A o.slots.length c, .slice D o.bytes.length d] o w5.drew hoc5 hs).mono ?_
  rintro e w6 ⟨cs6, rfl, hown6, hf6⟩
  (refine hK.out _ _ (hf6) ?_; clear hK K; try simp only [Act.put, List.setIfInBounds_toArray, List.set_cons_zero, List.set_cons_succ])
  have hf56 : Fr No w5 w6 := (Fr.refl No w5).drew.tr hf6
  have hP6 := hP5.fr hf56 (fun _ _ hn => hn) (fun _ _ hn => hn)
  have hle1 : o.slots.length ≤ 211106232532992 := by omega
  have hoc6 := (hown6.rd hle1 (RdB.le hby)).lt
  have hzd : w5.drew.heap.size = w5.heap.size := rfl
  rw [hzd] at hoc6
  repeat (first | (refine T_skip (by rfl) (by rfl) (fun _ _ _ h => h) ?_; try simp only [Act.put, List.setIfInBounds_toArray, List.set_cons_zero, List.set_cons_succ]) | (refine T_pass (by rfl) (by rfl) ?_; try simp only [Act.put, List.setIfInBounds_toArray, List.set_cons_zero, List.set_cons_succ]) | (refine T_load (by assumption) (by rfl) (by rfl) (fun _ _ _ _ h => h) rfl rfl (by assumption) (by first | exact (fun hn => hn) | assumption) ?_; try simp only [Act.put, List.setIfInBounds_toArray, List.set_cons_zero, List.set_cons_succ]) | (refine T_nil (by rfl) (by rfl) (fun _ _ _ _ h => h) rfl rfl ?_; try simp only [Act.put, List.setIfInBounds_toArray, List.set_cons_zero, List.set_cons_succ]) | (refine T_quietN (by rfl) (by rfl) (by rfl) (by rfl) (fun _ _ _ _ h => h) (fun K hK => ?_); go_big_quiet_op; refine hK _ ?_; clear hK K) | (refine T_two (by rfl) (by rfl) (by rfl) (by rfl) (fun _ _ _ _ h => h) (fun K hK => ?_); go_big_quiet_op; refine ⟨_, fun _ _ => rfl, ?_⟩; refine hK _ ?_; clear hK K; try simp only [Act.put, List.setIfInBounds_toArray, List.set_cons_zero, List.set_cons_succ]) | fail)
  have hx : W64 (4096 + ((j : Int) + 1)) := wf_of (by omega) (by omega)
  refine T_turn No [] (by rfl) (by rfl) (by rfl) (fun K hK => ?_)
  refine wp_putM (x := 4096 + ((j : Int) + 1)) (u := .agg cs6.toArray) rfl Try.underlying79 hP6.own rfl (by show n < _; unfold maxLen; omega) rfl hx rfl ?_
  intro w7 hm7 hg7
  refine hK.out _ _ ?_
  clear hK K
  refine T_done ?_
  have hf7 : Fr (fun b => b = ob) w6 w7 := (Fr.refl (fun b => b = ob) w6).grown hg7 (fun q hq => by injection hq with hq; exact .inr hq.symm)
  have hf57 : Fr (fun b => b = ob) w5 w7 := (hf56.mono (fun _ _ hn => hn.elim)).trans hf7 (fun b _ e => e)
  have hobl := hP5.own.lt
  have hz67 := hf7.size
  have hP7 := hP5.put (O' := fun b => O b ∨ w5.heap.size ≤ b ∧ b < w7.heap.size) hx hf57 hm7 ((hoc6.keep hf7 (fun b hb e => by have := hb.1; omega)).mono (fun b _ hb => .inr ⟨hb.1, by have := hb.2; omega⟩)) (fun b hb => .inl hb) (fun b hb => hb)
  clear y0 y1 y2 y3 y4 yf0 yf1 yf2 yf3 yf4
  go_wp2
  go_ret2
  refine ⟨by rw [H3.out]; rfl, fun b => O b ∨ w5.heap.size ≤ b ∧ b < w7.heap.size, by rw [H3.out]; exact ⟨ob, rb, _, g, hP7⟩, fun b hb => ?_, hF5.trans hf57 (fun b _ e => e ▸ i2)⟩
  rcases hb with hb | hb
  · exact .inl hb
  · exact .inr (by omega)
end Go.Proofs.Ytoajigghkjnffaa
