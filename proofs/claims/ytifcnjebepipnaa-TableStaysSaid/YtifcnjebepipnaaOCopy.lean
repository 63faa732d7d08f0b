/- value.Copy; the reference's Same at objects alike. No condition but size. -/
import Derived.Test.YtifcnjebepipnaaODef
namespace Go.Proofs.Ytifcnjebepipnaa
set_option linter.unusedVariables false
set_option linter.unusedSimpArgs false
open Go.RowKit

/-- An object's cells with rows of its own, from B on. -/
def ObjOwn (w : World) (B : Nat) (cs : List Value) (o : ObjM) : Prop :=
  ∃ A c D c2 M, cs = [.int .i64 o.cls, .slice A o.slots.length c, .slice D o.bytes.length c2] ∧ w.ownsRow B 75 2 (.slice A o.slots.length c) o.slots.length (vals o.slots) ∧ (∀ b, (Value.slice A o.slots.length c).ownBlock = some b → b < M) ∧ w.ownsRow M 5 1 (.slice D o.bytes.length c2) o.bytes.length (U8 o.bytes) ∧ B ≤ M
theorem ObjOwn.rd {w : World} {B : Nat} {cs : List Value} {o : ObjM} (h : ObjOwn w B cs o) (h1 : o.slots.length ≤ 211106232532992) (h2 : o.bytes.length ≤ 211106232532992) : ObjC w (fun b => B ≤ b) cs o := by
  obtain ⟨A, c, D, c2, M, rfl, hs, hM, hb, hBM⟩ := h
  obtain ⟨A', c', e, _, _, hA⟩ := own_form hs
  injection e with e1 e2 e3
  subst e1 e3
  obtain ⟨D', d', e, _, _, hD⟩ := own_form hb
  injection e with e1 e2 e3
  subst e1 e3
  exact ⟨A, c, D, c2, rfl, (own_rd hs h1).mono (fun b _ hb' => (hs.lt b ((hA b).2 hb')).1) (by decide), (own_rd hb h2).mono (fun b _ hb' => by have := (hb.lt b ((hD b).2 hb')).1; omega) (by decide)⟩
set_option maxHeartbeats 2000000 in
set_option maxRecDepth 100000 in
theorem ocopy_calls (S : Nat → Prop) (cs : List Value) (o : ObjM) (w : World) (h : ObjC w S cs o) (h1 : o.slots.length * 16 ≤ 211106232532992) :
    Calls Try.prog 25 #[.agg cs.toArray] w fun e w' => ∃ cs' : List Value, e = .returned (.agg cs'.toArray) ∧ ObjOwn w' w.heap.size cs' o ∧ Fr No w w' := by
  obtain ⟨A, c, D, c2, rfl, hs, hb⟩ := h
  have g1 := plain_i64
  have g2 := plain_lval
  have g3 := plain_lu8
  have hle1 := hs.le
  have hle2 := RdB.le hb
  go_enter Try.func25, Try.ntmps25
  go_wp2_with fail
  have hbx : Blk ((w.alloc (.cells #[.int .i64 o.cls, .slice A o.slots.length c, .slice D o.bytes.length c2] 38)).alloc (.cells #[.int .i64 0, .slice none 0 0, .slice none 0 0] 38)) w.heap.size 38 #[.int .i64 o.cls, .slice A o.slots.length c, .slice D o.bytes.length c2] := (Blk.new w _ _).alloc _
  have hbr : Blk ((w.alloc (.cells #[.int .i64 o.cls, .slice A o.slots.length c, .slice D o.bytes.length c2] 38)).alloc (.cells #[.int .i64 0, .slice none 0 0, .slice none 0 0] 38)) (w.heap.size + 1) 38 #[.int .i64 0, .slice none 0 0, .slice none 0 0] := Blk.newAt (by simp)
  have hf1 : Fr No w ((w.alloc (.cells #[.int .i64 o.cls, .slice A o.slots.length c, .slice D o.bytes.length c2] 38)).alloc (.cells #[.int .i64 0, .slice none 0 0, .slice none 0 0] 38)) := ((Fr.refl No w).alloc _).alloc _
  generalize hw1 : ((w.alloc (.cells #[.int .i64 o.cls, .slice A o.slots.length c, .slice D o.bytes.length c2] 38)).alloc (.cells #[.int .i64 0, .slice none 0 0, .slice none 0 0] 38)) = w1 at *
  clear hw1
  have q0 := hbx.cell 0
  have q1 := hbx.cell 1
  have q2 := hbx.cell 2
  simp only [List.getElem?_toArray, List.getElem?_cons_zero, List.getElem?_cons_succ] at q0 q1 q2
  have hs1 := hf1.size
  have hl1 := hbr.lt
  have hnx : ¬ (w.heap.size = w.heap.size + 1) := by omega
  (refine T_begin (fun b => b = w.heap.size + 1) [0, 1, 2, 3, 5, 6, 4, 7, 8, 9] [4, 7, 9] (by kernel_rfl) (by kernel_rfl) ?_; simp only [pickOps, List.filterMap_cons, List.filterMap_nil, List.getElem?_cons_zero, List.getElem?_cons_succ, Act.put])
  repeat (first | (refine T_skip (by rfl) (by rfl) (fun _ _ _ h => h) ?_; try simp only [Act.put, List.setIfInBounds_toArray, List.set_cons_zero, List.set_cons_succ]) | (refine T_pass (by rfl) (by rfl) ?_; try simp only [Act.put, List.setIfInBounds_toArray, List.set_cons_zero, List.set_cons_succ]) | (refine T_load (by assumption) (by rfl) (by rfl) (fun _ _ _ _ h => h) rfl rfl (by assumption) (by first | exact (fun hn => hn) | assumption) ?_; try simp only [Act.put, List.setIfInBounds_toArray, List.set_cons_zero, List.set_cons_succ]) | (refine T_nil (by rfl) (by rfl) (fun _ _ _ _ h => h) rfl rfl ?_; try simp only [Act.put, List.setIfInBounds_toArray, List.set_cons_zero, List.set_cons_succ]) | (refine T_quietN (by rfl) (by rfl) (by rfl) (by rfl) (fun _ _ _ _ h => h) (fun K hK => ?_); go_big_quiet_op; refine hK _ ?_; clear hK K) | (refine T_two (by rfl) (by rfl) (by rfl) (by rfl) (fun _ _ _ _ h => h) (fun K hK => ?_); go_big_quiet_op; refine ⟨_, fun _ _ => rfl, ?_⟩; refine hK _ ?_; clear hK K; try simp only [Act.put, List.setIfInBounds_toArray, List.set_cons_zero, List.set_cons_succ]) | fail)
  (refine T_call (by rfl) (by rfl) (fun K hK => ?_); go_wp2_with fail)
  refine (clone_vals S A c o.slots _ (Rd.fr0 hs hf1.drew) h1).mono ?_
  rintro e w2 ⟨v2, rfl, hown2, hf2⟩
  obtain ⟨A2, c2', rfl, hc2, _, hA2⟩ := own_form hown2
  replace hown2 : w2.ownsRow w1.heap.size 75 2 (.slice A2 o.slots.length c2') o.slots.length (vals o.slots) := hown2
  have hf2' : Fr No w1 w2 := (Fr.refl No w1).drew.tr hf2
  (refine hK.out _ _ ((hf2.mono (fun _ _ hn => hn.elim))) ?_; clear hK K; try simp only [Act.put, List.setIfInBounds_toArray, List.set_cons_zero, List.set_cons_succ])
  repeat (first | (refine T_skip (by rfl) (by rfl) (fun _ _ _ h => h) ?_; try simp only [Act.put, List.setIfInBounds_toArray, List.set_cons_zero, List.set_cons_succ]) | (refine T_pass (by rfl) (by rfl) ?_; try simp only [Act.put, List.setIfInBounds_toArray, List.set_cons_zero, List.set_cons_succ]) | (refine T_load (by assumption) (by rfl) (by rfl) (fun _ _ _ _ h => h) rfl rfl (by assumption) (by first | exact (fun hn => hn) | assumption) ?_; try simp only [Act.put, List.setIfInBounds_toArray, List.set_cons_zero, List.set_cons_succ]) | (refine T_nil (by rfl) (by rfl) (fun _ _ _ _ h => h) rfl rfl ?_; try simp only [Act.put, List.setIfInBounds_toArray, List.set_cons_zero, List.set_cons_succ]) | (refine T_quietN (by rfl) (by rfl) (by rfl) (by rfl) (fun _ _ _ _ h => h) (fun K hK => ?_); go_big_quiet_op; refine hK _ ?_; clear hK K) | (refine T_two (by rfl) (by rfl) (by rfl) (by rfl) (fun _ _ _ _ h => h) (fun K hK => ?_); go_big_quiet_op; refine ⟨_, fun _ _ => rfl, ?_⟩; refine hK _ ?_; clear hK K; try simp only [Act.put, List.setIfInBounds_toArray, List.set_cons_zero, List.set_cons_succ]) | fail)
  (refine T_call (by rfl) (by rfl) (fun K hK => ?_); go_wp2_with fail)
  refine (clone_bytes S D c2 o.bytes _ (Rd.fr0 hb (hf1.tr hf2'))).mono ?_
  rintro e w3 ⟨v3, rfl, hown3, hf3⟩
  obtain ⟨A3, c3, rfl, hc3, _, hA3⟩ := own_form hown3
  (refine hK.out _ _ ((hf3.mono (fun _ _ hn => hn.elim))) ?_; clear hK K; try simp only [Act.put, List.setIfInBounds_toArray, List.set_cons_zero, List.set_cons_succ])
  repeat (first | (refine T_skip (by rfl) (by rfl) (fun _ _ _ h => h) ?_; try simp only [Act.put, List.setIfInBounds_toArray, List.set_cons_zero, List.set_cons_succ]) | (refine T_pass (by rfl) (by rfl) ?_; try simp only [Act.put, List.setIfInBounds_toArray, List.set_cons_zero, List.set_cons_succ]) | (refine T_load (by assumption) (by rfl) (by rfl) (fun _ _ _ _ h => h) rfl rfl (by assumption) (by first | exact (fun hn => hn) | assumption) ?_; try simp only [Act.put, List.setIfInBounds_toArray, List.set_cons_zero, List.set_cons_succ]) | (refine T_nil (by rfl) (by rfl) (fun _ _ _ _ h => h) rfl rfl ?_; try simp only [Act.put, List.setIfInBounds_toArray, List.set_cons_zero, List.set_cons_succ]) | (refine T_quietN (by rfl) (by rfl) (by rfl) (by rfl) (fun _ _ _ _ h => h) (fun K hK => ?_); go_big_quiet_op; refine hK _ ?_; clear hK K) | (refine T_two (by rfl) (by rfl) (by rfl) (by rfl) (fun _ _ _ _ h => h) (fun K hK => ?_); go_big_quiet_op; refine ⟨_, fun _ _ => rfl, ?_⟩; refine hK _ ?_; clear hK K; try simp only [Act.put, List.setIfInBounds_toArray, List.set_cons_zero, List.set_cons_succ]) | fail)
  have hbr3 := (hbr.fr0 hf2').fr0 hf3
  refine T_call (by rfl) (by rfl) (fun K hK => ?_)
  refine wp_stA ag_obj.info _ _ rfl (w.heap.size + 1) 0 _ _ [.int .i64 o.cls, .slice A2 o.slots.length c2', .slice A3 o.bytes.length c3] _ rfl rfl rfl rfl (by intro u hu; simp at hu; rcases hu with rfl | rfl | rfl <;> rfl) hbr3 (by decide) ?_
  intro w4 hb4 hg4 hz4
  rw [splice_all _ _ (by rfl)] at hb4
  refine hK.out _ _ ((Fr.refl _ _).grown hg4 (fun q hq => by injection hq with hq; exact .inr hq.symm)) ?_
  clear hK K
  try simp only [Act.put, List.setIfInBounds_toArray, List.set_cons_zero, List.set_cons_succ]
  refine T_done ?_
  go_wp2_with fail
  have hs2 := hf2'.size
  have hf34 : Fr (fun b => b = w.heap.size + 1) w3 w4 := (Fr.refl (fun b => b = w.heap.size + 1) w3).grown hg4 (fun q hq => by injection hq with hq; exact .inr hq.symm)
  refine bodyPost_ret (results_blk ag_obj rfl _ _ _ _ _ rfl hb4 rfl) rfl ⟨_, rfl, ⟨A2, c2', A3, c3, w2.heap.size, rfl, ?_, fun b hb => (hown2.lt b hb).2, ?_, by omega⟩, ((hf1.tr hf2').tr hf3).trans hf34 (fun b hb hT => by omega)⟩
  · exact own_down (own_fr (own_fr0 hown2 hf3) hf34 (fun b hb hT => by have := (hown2.lt b hb).1; omega)) (by omega)
  · exact own_fr hown3 hf34 (fun b hb hT => by have := (hown3.lt b hb).1; omega)
end Go.Proofs.Ytifcnjebepipnaa
