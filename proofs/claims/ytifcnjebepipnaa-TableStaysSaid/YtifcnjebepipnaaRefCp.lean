/- The reference's Copy of an object. No condition but size. -/
import Derived.Test.YtifcnjebepipnaaSame
import Derived.Deep.CutBlock
import Derived.Deep.DeepCutAuto
import Derived.Deep.DeepAppendWide
namespace Go.Proofs.Ytifcnjebepipnaa
set_option linter.unusedVariables false
set_option linter.unusedSimpArgs false
open Go.RowKit

theorem Fr.set1 {w w1 : World} {g : Nat} (h : Fr (fun b => b = g) w w1) (i : Nat) (u : Value) : Fr (fun b => b = g) w (w1.setCell ⟨g, i, none⟩ u) := h.set (.inr rfl) u
set_option maxHeartbeats 2000000 in
set_option maxRecDepth 100000 in
theorem refcopy_calls (S : Nat → Prop) (cs : List Value) (o : ObjM) (w : World) (h : ObjC w S cs o) (h1 : o.slots.length * 16 ≤ 211106232532992) :
    Calls Try.prog 26 #[.agg cs.toArray] w fun e w' => ∃ cs' : List Value, e = .returned (.agg cs'.toArray) ∧ ObjOwn w' w.heap.size cs' o ∧ Fr No w w' := by
  obtain ⟨oc, os, ob⟩ := o
  obtain ⟨A, c, D, c2, rfl, hs, hb⟩ := h
  simp only at hs hb h1
  have g1 := plain_i64
  have g2 := plain_lval
  have g3 := plain_lu8
  have hle1 := hs.le
  have hle2 := RdB.le hb
  have hf1 : Fr No w (((w.alloc (.cells #[.int .i64 oc, .slice A os.length c, .slice D ob.length c2] 38)).alloc (.cells #[.int .i64 0, .slice none 0 0, .slice none 0 0] 38)).alloc (.cells #[.int .i64 oc, .slice none 0 0, .slice none 0 0] 38)) := (((Fr.refl No w).alloc _).alloc _).alloc _
  have hbx : Blk (((w.alloc (.cells #[.int .i64 oc, .slice A os.length c, .slice D ob.length c2] 38)).alloc (.cells #[.int .i64 0, .slice none 0 0, .slice none 0 0] 38)).alloc (.cells #[.int .i64 oc, .slice none 0 0, .slice none 0 0] 38)) w.heap.size 38 #[.int .i64 oc, .slice A os.length c, .slice D ob.length c2] := ((Blk.new w _ _).alloc _).alloc _
  have hbr : Blk (((w.alloc (.cells #[.int .i64 oc, .slice A os.length c, .slice D ob.length c2] 38)).alloc (.cells #[.int .i64 0, .slice none 0 0, .slice none 0 0] 38)).alloc (.cells #[.int .i64 oc, .slice none 0 0, .slice none 0 0] 38)) (w.heap.size + 1) 38 #[.int .i64 0, .slice none 0 0, .slice none 0 0] := (Blk.newAt (by simp)).alloc _
  have hby : Blk (((w.alloc (.cells #[.int .i64 oc, .slice A os.length c, .slice D ob.length c2] 38)).alloc (.cells #[.int .i64 0, .slice none 0 0, .slice none 0 0] 38)).alloc (.cells #[.int .i64 oc, .slice none 0 0, .slice none 0 0] 38)) (w.heap.size + 1 + 1) 38 #[.int .i64 oc, .slice none 0 0, .slice none 0 0] := Blk.newAt (by simp)
  have hz1 : (((w.alloc (.cells #[.int .i64 oc, .slice A os.length c, .slice D ob.length c2] 38)).alloc (.cells #[.int .i64 0, .slice none 0 0, .slice none 0 0] 38)).alloc (.cells #[.int .i64 oc, .slice none 0 0, .slice none 0 0] 38)).heap.size = w.heap.size + 3 := by simp
  go_enter Try.func26, Try.ntmps26
  go_upto_region 2 with fail
  generalize hw1 : (((w.alloc (.cells #[.int .i64 oc, .slice A os.length c, .slice D ob.length c2] 38)).alloc (.cells #[.int .i64 0, .slice none 0 0, .slice none 0 0] 38)).alloc (.cells #[.int .i64 oc, .slice none 0 0, .slice none 0 0] 38)) = w1 at *
  clear hw1
  have HZ1 := Lib.hid hz1
  clear hz1
  (have p0 := hbx.cell 0; have p1 := hbx.cell 1; have p2 := hbx.cell 2; have pf0 := hbx.frozen 0; have pf1 := hbx.frozen 1; have pf2 := hbx.frozen 2; simp only [List.getElem?_toArray, List.getElem?_cons_zero, List.getElem?_cons_succ] at p0 p1 p2)
  (have q0 := hby.cell 0; have q1 := hby.cell 1; have q2 := hby.cell 2; have qf0 := hby.frozen 0; have qf1 := hby.frozen 1; have qf2 := hby.frozen 2; simp only [List.getElem?_toArray, List.getElem?_cons_zero, List.getElem?_cons_succ] at q0 q1 q2)
  have hbase1 : w.heap.size + 3 ≤ w1.heap.size := by have := HZ1.out; omega
  go_upto_region 3 with (first
    | (refine wpList_app so_val (World.ownsRow_nil _ (w.heap.size + 3) _ _) (Rd.fr0 hs hf1) (vals_one _) (by omega) hbase1 rfl rfl rfl rfl ?_; intro v5 w5 hown5 hg5 hat5; obtain ⟨A5, c5, rfl, hc5, hc5m, hA5⟩ := own_form hown5; have hby5 := hby.grown hg5 (fun hh => by cases hh); (have z0 := hby5.cell 0; have z1 := hby5.cell 1; have z2 := hby5.cell 2; have zf0 := hby5.frozen 0; have zf1 := hby5.frozen 1; have zf2 := hby5.frozen 2; simp only [List.getElem?_toArray, List.getElem?_cons_zero, List.getElem?_cons_succ] at z0 z1 z2))
    | fail)
  have hf5 : Fr No w1 w5 := (Fr.refl No w1).grown hg5 (fun q hq => by cases hq)
  simp only [Nat.zero_add, List.nil_append] at hown5 hby5 hc5
  have hf56 : Fr (fun b => b = w.heap.size + 1 + 1) w5 (w5.setCell ⟨w.heap.size + 1 + 1, 1, none⟩ (.slice A5 os.length c5)) := (Fr.refl _ w5).set1 1 _
  have hby6 : Blk (w5.setCell ⟨w.heap.size + 1 + 1, 1, none⟩ (.slice A5 os.length c5)) (w.heap.size + 1 + 1) 38 #[.int .i64 oc, .slice A5 os.length c5, .slice none 0 0] := hby5.put 1 _
  have hbx6 := (hbx.fr0 hf5).fr hf56 (by omega)
  have hbr6 := (hbr.fr0 hf5).fr hf56 (by omega)
  have hown6 := own_fr hown5 hf56 (fun b hb hT => by have := (hown5.lt b hb).1; omega)
  have hb6 := Rd.fr (Rd.fr0 (Rd.lt hb (by decide)) (hf1.tr hf5)) hf56 (fun b hb hT => by have := hb.2; omega)
  have hF6 : Fr No w (w5.setCell ⟨w.heap.size + 1 + 1, 1, none⟩ (.slice A5 os.length c5)) := (hf1.tr hf5).trans hf56 (fun b hb hT => by omega)
  generalize hw6 : w5.setCell ⟨w.heap.size + 1 + 1, 1, none⟩ (.slice A5 os.length c5) = w6 at *
  have hl6 := hby6.lt
  clear hw6 p0 p1 p2 pf0 pf1 pf2 q0 q1 q2 qf0 qf1 qf2 z0 z1 z2 zf0 zf1 zf2 hg5
  (have p0 := hbx6.cell 0; have p1 := hbx6.cell 1; have p2 := hbx6.cell 2; have pf0 := hbx6.frozen 0; have pf1 := hbx6.frozen 1; have pf2 := hbx6.frozen 2; simp only [List.getElem?_toArray, List.getElem?_cons_zero, List.getElem?_cons_succ] at p0 p1 p2)
  (have q0 := hby6.cell 0; have q1 := hby6.cell 1; have q2 := hby6.cell 2; have qf0 := hby6.frozen 0; have qf1 := hby6.frozen 1; have qf2 := hby6.frozen 2; simp only [List.getElem?_toArray, List.getElem?_cons_zero, List.getElem?_cons_succ] at q0 q1 q2)
  have hgo : ∀ b, (Value.slice A5 os.length c5).ownBlock = some b → w.heap.size + 3 ≤ b ∧ b < w6.heap.size := fun b hb => hown6.lt b hb
  have HGO := Lib.hid hgo
  clear hgo
  go_upto_region 4 with (first
    | (refine wpList_app so_u8 (World.ownsRow_nil _ w6.heap.size _ _) hb6 (U8_one _) (by omega) (Nat.le_refl _) rfl rfl rfl rfl ?_; intro v7 w7 hown7 hg7 hat7; obtain ⟨A7, c7, rfl, hc7, hc7m, hA7⟩ := own_form hown7; have hby7 := hby6.grown hg7 (fun hh => by cases hh); (have z0 := hby7.cell 0; have z1 := hby7.cell 1; have z2 := hby7.cell 2; have zf0 := hby7.frozen 0; have zf1 := hby7.frozen 1; have zf2 := hby7.frozen 2; simp only [List.getElem?_toArray, List.getElem?_cons_zero, List.getElem?_cons_succ] at z0 z1 z2))
    | fail)
  have hf7 : Fr No w6 w7 := (Fr.refl No w6).grown hg7 (fun q hq => by cases hq)
  simp only [Nat.zero_add, List.nil_append] at hown7 hby7 hc7
  have hf78 : Fr (fun b => b = w.heap.size + 1 + 1) w7 (w7.setCell ⟨w.heap.size + 1 + 1, 2, none⟩ (.slice A7 ob.length c7)) := (Fr.refl _ w7).set1 2 _
  have hby8 : Blk (w7.setCell ⟨w.heap.size + 1 + 1, 2, none⟩ (.slice A7 ob.length c7)) (w.heap.size + 1 + 1) 38 #[.int .i64 oc, .slice A5 os.length c5, .slice A7 ob.length c7] := hby7.put 2 _
  have hbr8 := (hbr6.fr0 hf7).fr hf78 (by omega)
  have hown8 := own_fr (own_fr0 hown6 hf7) hf78 (fun b hb hT => by have := HGO.out b hb; omega)
  have hown78 := own_fr hown7 hf78 (fun b hb hT => by have := (hown7.lt b hb).1; omega)
  have hF8 : Fr No w (w7.setCell ⟨w.heap.size + 1 + 1, 2, none⟩ (.slice A7 ob.length c7)) := (hF6.tr hf7).trans hf78 (fun b hb hT => by omega)
  generalize hw8 : w7.setCell ⟨w.heap.size + 1 + 1, 2, none⟩ (.slice A7 ob.length c7) = w8 at *
  clear hw8 p0 p1 p2 pf0 pf1 pf2 q0 q1 q2 qf0 qf1 qf2 z0 z1 z2 zf0 zf1 zf2 hg7
  have hall8 := hby8.all
  go_wp2_with (first
    | (refine wpList_ldA ag_obj rfl _ rfl ⟨w.heap.size + 1 + 1, 0, none⟩ [.int .i64 oc, .slice A5 os.length c5, .slice A7 ob.length c7] rfl rfl hall8 ?_)
    | (refine wpList_stA ag_obj.info rfl _ _ rfl (w.heap.size + 1) 0 _ _ [.int .i64 oc, .slice A5 os.length c5, .slice A7 ob.length c7] _ rfl rfl rfl rfl (by intro u hu; simp at hu; rcases hu with rfl | rfl | rfl <;> rfl) hbr8 (by decide) ?_; intro w9 hb9 hg9 hz9)
    | fail)
  rw [splice_all _ _ (by rfl)] at hb9
  have hf9 : Fr (fun b => b = w.heap.size + 1) w8 w9 := (Fr.refl _ w8).grown hg9 (fun q hq => by injection hq with hq; exact .inr hq.symm)
  refine bodyPost_ret (results_blk ag_obj rfl _ _ _ _ _ rfl hb9 rfl) rfl ⟨_, rfl, ⟨A5, c5, A7, c7, w6.heap.size, rfl, own_down (own_fr hown8 hf9 (fun b hb hT => by have := HGO.out b hb; omega)) (by omega), fun b hb => (HGO.out b hb).2, own_fr hown78 hf9 (fun b hb hT => by have := (hown78.lt b hb).1; omega), by omega⟩, hF8.trans hf9 (fun b hb hT => by omega)⟩
end Go.Proofs.Ytifcnjebepipnaa
