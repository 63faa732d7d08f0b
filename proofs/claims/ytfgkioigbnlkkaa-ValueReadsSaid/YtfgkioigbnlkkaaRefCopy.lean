/- The reference's Copy; Put of both; spoil. No condition but size. -/
import Derived.Test.YtfgkioigbnlkkaaSame
import Derived.Test.YtfgkioigbnlkkaaPut
import Derived.Test.YtfgkioigbnlkkaaGet
import Derived.Test.YtfgkioigbnlkkaaWSpoil
namespace Go.Proofs.Ytfgkioigbnlkkaa
set_option linter.unusedVariables false
set_option linter.unusedSimpArgs false
open Go.RowKit

set_option maxHeartbeats 2000000 in
set_option maxRecDepth 100000 in
theorem refcopy_calls (S : Nat → Prop) (cs : List Value) (o : ObjM) (w : World) (h : ObjC w S cs o) (h1 : o.slots.length * 16 ≤ 211106232532992) :
    Calls Try.prog 9 #[.agg cs.toArray] w fun e w' => ∃ cs' : List Value, e = .returned (.agg cs'.toArray) ∧ ObjOwn w' w.heap.size cs' o ∧ Fr No w w' := by
  obtain ⟨oc, os, ob⟩ := o
  obtain ⟨A, c, D, c2, rfl, hs, hb⟩ := h
  simp only at hs hb h1
  have g1 := plain_i64
  have g2 := plain_lval
  have g3 := plain_lu8
  have hle1 := hs.le
  have hle2 := RdB.le hb
  have hf1 : Fr No w (((w.alloc (.cells #[.int .i64 oc, .slice A os.length c, .slice D ob.length c2] 25)).alloc (.cells #[.int .i64 0, .slice none 0 0, .slice none 0 0] 25)).alloc (.cells #[.int .i64 oc, .slice none 0 0, .slice none 0 0] 25)) := (((Fr.refl No w).alloc _).alloc _).alloc _
  have hbx : Blk (((w.alloc (.cells #[.int .i64 oc, .slice A os.length c, .slice D ob.length c2] 25)).alloc (.cells #[.int .i64 0, .slice none 0 0, .slice none 0 0] 25)).alloc (.cells #[.int .i64 oc, .slice none 0 0, .slice none 0 0] 25)) w.heap.size 25 #[.int .i64 oc, .slice A os.length c, .slice D ob.length c2] := ((Blk.new w _ _).alloc _).alloc _
  have hbr : Blk (((w.alloc (.cells #[.int .i64 oc, .slice A os.length c, .slice D ob.length c2] 25)).alloc (.cells #[.int .i64 0, .slice none 0 0, .slice none 0 0] 25)).alloc (.cells #[.int .i64 oc, .slice none 0 0, .slice none 0 0] 25)) (w.heap.size + 1) 25 #[.int .i64 0, .slice none 0 0, .slice none 0 0] := (Blk.newAt (by simp)).alloc _
  have hby : Blk (((w.alloc (.cells #[.int .i64 oc, .slice A os.length c, .slice D ob.length c2] 25)).alloc (.cells #[.int .i64 0, .slice none 0 0, .slice none 0 0] 25)).alloc (.cells #[.int .i64 oc, .slice none 0 0, .slice none 0 0] 25)) (w.heap.size + 1 + 1) 25 #[.int .i64 oc, .slice none 0 0, .slice none 0 0] := Blk.newAt (by simp)
  have hz1 : (((w.alloc (.cells #[.int .i64 oc, .slice A os.length c, .slice D ob.length c2] 25)).alloc (.cells #[.int .i64 0, .slice none 0 0, .slice none 0 0] 25)).alloc (.cells #[.int .i64 oc, .slice none 0 0, .slice none 0 0] 25)).heap.size = w.heap.size + 3 := by simp
  go_enter Try.func9, Try.ntmps9
  go_upto_region 2 with fail
  generalize hw1 : (((w.alloc (.cells #[.int .i64 oc, .slice A os.length c, .slice D ob.length c2] 25)).alloc (.cells #[.int .i64 0, .slice none 0 0, .slice none 0 0] 25)).alloc (.cells #[.int .i64 oc, .slice none 0 0, .slice none 0 0] 25)) = w1 at *
  clear hw1
  have HZ1 := Lib.hid hz1
  clear hz1
  (have p0 := hbx.cell 0; have p1 := hbx.cell 1; have p2 := hbx.cell 2; have pf0 := hbx.frozen 0; have pf1 := hbx.frozen 1; have pf2 := hbx.frozen 2; simp only [List.getElem?_toArray, List.getElem?_cons_zero, List.getElem?_cons_succ] at p0 p1 p2)
  (have q0 := hby.cell 0; have q1 := hby.cell 1; have q2 := hby.cell 2; have qf0 := hby.frozen 0; have qf1 := hby.frozen 1; have qf2 := hby.frozen 2; simp only [List.getElem?_toArray, List.getElem?_cons_zero, List.getElem?_cons_succ] at q0 q1 q2)
  have hbase1 : w.heap.size + 3 ≤ w1.heap.size := by have := HZ1.out; omega
  go_upto_region 3 with (first
    | (refine wpList_app so_val (World.ownsRow_nil _ (w.heap.size + 3) _ _) (Rd.fr0 hs hf1) (vals_one _) (by omega) hbase1 rfl rfl rfl rfl ?_; intro v5 w5 hown5 hg5 hat5; obtain ⟨A5, c5, rfl, hc5, hc5m, hA5⟩ := own_form hown5; have hby5 := hby.grown hg5 (fun hh => by cases hh); (have z0 := hby5.cell 0; have z1 := hby5.cell 1; have z2 := hby5.cell 2; have zf0 := hby5.frozen 0; have zf1 := hby5.frozen 1; have zf2 := hby5.frozen 2; simp only [List.getElem?_toArray, List.getElem?_cons_zero, List.getElem?_cons_succ] at z0 z1 z2))
    | fail)
  have hf5 : Fr No w1 w5 := (Fr.refl No w1).grown hg5 (fun q hq => by cases hq)
  simp only [Nat.zero_add, List.nil_append] at hown5 hby5 hc5
  have hf56 : Fr (fun b => b = w.heap.size + 1 + 1) w5 (w5.setCell ⟨w.heap.size + 1 + 1, 1, none⟩ (.slice A5 os.length c5)) := (Fr.refl _ w5).set1 1 _
  have hby6 : Blk (w5.setCell ⟨w.heap.size + 1 + 1, 1, none⟩ (.slice A5 os.length c5)) (w.heap.size + 1 + 1) 25 #[.int .i64 oc, .slice A5 os.length c5, .slice none 0 0] := hby5.put 1 _
  have hbx6 := (hbx.fr0 hf5).fr hf56 (by omega)
  have hbr6 := (hbr.fr0 hf5).fr hf56 (by omega)
  have hown6 := own_fr hown5 hf56 (fun b hb hT => by have := (hown5.lt b hb).1; omega)
  have hb6 := Rd.fr (Rd.fr0 (Rd.lt hb (by decide)) (hf1.tr hf5)) hf56 (fun b hb hT => by have := hb.2; omega)
  have hF6 : Fr No w (w5.setCell ⟨w.heap.size + 1 + 1, 1, none⟩ (.slice A5 os.length c5)) := (hf1.tr hf5).trans hf56 (fun b hb hT => by omega)
  generalize hw6 : w5.setCell ⟨w.heap.size + 1 + 1, 1, none⟩ (.slice A5 os.length c5) = w6 at *
  have hl6 := hby6.lt
  clear hw6 p0 p1 p2 pf0 pf1 pf2 q0 q1 q2 qf0 qf1 qf2 z0 z1 z2 zf0 zf1 zf2 hg5
  (have p0 := hbx6.cell 0; have p1 := hbx6.cell 1; have p2 := hbx6.cell 2; have pf0 := hbx6.frozen 0; have pf1 := hbx6.frozen 1; have pf2 := hbx6.frozen 2; simp only [List.getElem?_toArray, List.getElem?_cons_zero, List.getElem?_cons_succ] at p0 p1 p2)
  (have q0 := hby6.cell 0; have q1 := hby6.cell 1; have q2 := hby6.cell 2; have qf0 := hby6.frozen 0; have qf1 := hby6.frozen 1; have qf2 := hby6.frozen 2; simp only [List.getElem?_toArray, List.getElem?_cons_zero, List.getElem?_cons_succ] at q0 q1 q2)
  have hgo : ∀ b, (Value.slice A5 os.length c5).ownBlock = some b → w.heap.size + 3 ≤ b ∧ b < w6.heap.size := fun b hb => hown6.lt b hb
  have HGO := Lib.hid hgo
  clear hgo
  go_upto_region 4 with (first
    | (refine wpList_app so_u8 (World.ownsRow_nil _ w6.heap.size _ _) hb6 (U8_one _) (by omega) (Nat.le_refl _) rfl rfl rfl rfl ?_; intro v7 w7 hown7 hg7 hat7; obtain ⟨A7, c7, rfl, hc7, hc7m, hA7⟩ := own_form hown7; have hby7 := hby6.grown hg7 (fun hh => by cases hh); (have z0 := hby7.cell 0; have z1 := hby7.cell 1; have z2 := hby7.cell 2; have zf0 := hby7.frozen 0; have zf1 := hby7.frozen 1; have zf2 := hby7.frozen 2; simp only [List.getElem?_toArray, List.getElem?_cons_zero, List.getElem?_cons_succ] at z0 z1 z2))
    | fail)
  have hf7 : Fr No w6 w7 := (Fr.refl No w6).grown hg7 (fun q hq => by cases hq)
  simp only [Nat.zero_add, List.nil_append] at hown7 hby7 hc7
  have hf78 : Fr (fun b => b = w.heap.size + 1 + 1) w7 (w7.setCell ⟨w.heap.size + 1 + 1, 2, none⟩ (.slice A7 ob.length c7)) := (Fr.refl _ w7).set1 2 _
  have hby8 : Blk (w7.setCell ⟨w.heap.size + 1 + 1, 2, none⟩ (.slice A7 ob.length c7)) (w.heap.size + 1 + 1) 25 #[.int .i64 oc, .slice A5 os.length c5, .slice A7 ob.length c7] := hby7.put 2 _
  have hbr8 := (hbr6.fr0 hf7).fr hf78 (by omega)
  have hown8 := own_fr (own_fr0 hown6 hf7) hf78 (fun b hb hT => by have := HGO.out b hb; omega)
  have hown78 := own_fr hown7 hf78 (fun b hb hT => by have := (hown7.lt b hb).1; omega)
  have hF8 : Fr No w (w7.setCell ⟨w.heap.size + 1 + 1, 2, none⟩ (.slice A7 ob.length c7)) := (hF6.tr hf7).trans hf78 (fun b hb hT => by omega)
  generalize hw8 : w7.setCell ⟨w.heap.size + 1 + 1, 2, none⟩ (.slice A7 ob.length c7) = w8 at *
  clear hw8 p0 p1 p2 pf0 pf1 pf2 q0 q1 q2 qf0 qf1 qf2 z0 z1 z2 zf0 zf1 zf2 hg7
  have hall8 := hby8.all
  go_wp2_with (first
    | (refine wpList_ldA ag_obj rfl _ rfl ⟨w.heap.size + 1 + 1, 0, none⟩ [.int .i64 oc, .slice A5 os.length c5, .slice A7 ob.length c7] rfl rfl hall8 ?_)
    | (refine wpList_stA ag_obj.info rfl _ _ rfl (w.heap.size + 1) 0 _ _ [.int .i64 oc, .slice A5 os.length c5, .slice A7 ob.length c7] _ rfl rfl rfl rfl (by intro u hu; simp at hu; rcases hu with rfl | rfl | rfl <;> rfl) hbr8 (by decide) ?_; intro w9 hb9 hg9 hz9)
    | fail)
  rw [splice_all _ _ (by rfl)] at hb9
  have hf9 : Fr (fun b => b = w.heap.size + 1) w8 w9 := (Fr.refl _ w8).grown hg9 (fun q hq => by injection hq with hq; exact .inr hq.symm)
  refine bodyPost_ret (results_blk ag_obj rfl _ _ _ _ _ rfl hb9 rfl) rfl ⟨_, rfl, ⟨A5, c5, A7, c7, w6.heap.size, rfl, own_down (own_fr hown8 hf9 (fun b hb hT => by have := HGO.out b hb; omega)) (by omega), fun b hb => (HGO.out b hb).2, own_fr hown78 hf9 (fun b hb hT => by have := (hown78.lt b hb).1; omega), by omega⟩, hF8.trans hf9 (fun b hb hT => by omega)⟩
/-- An object as bytes, or none and an error. -/
def putM (o : ObjM) : List UInt8 × Int := if rightO o = true then (objB o, 0) else ([], 1)
theorem putM_no {o : ObjM} (h : rightO o = false) : putM o = ([], 1) := by unfold putM; rw [if_neg (by rw [h]; decide)]
theorem putM_ok {o : ObjM} (h : rightO o = true) : putM o = (objB o, 0) := by unfold putM; rw [if_pos h]
set_option maxHeartbeats 1000000 in
set_option maxRecDepth 100000 in
theorem vput_calls (S : Nat → Prop) (cs : List Value) (o : ObjM) (w : World) (h : ObjC w S cs o) :
    Calls Try.prog 10 #[.agg cs.toArray] w fun e w' => RetB w w' e (putM o) := by
  have hc := h
  obtain ⟨A, c, D, c2, rfl, hs, hb⟩ := hc
  replace h : ObjC w (fun b => S b ∧ b < w.heap.size) [.int .i64 o.cls, .slice A o.slots.length c, .slice D o.bytes.length c2] o := ⟨A, c, D, c2, rfl, Rd.lt hs (by decide), Rd.lt hb (by decide)⟩
  have hf : Fr No w (w.alloc (.cells #[.int .i64 o.cls, .slice A o.slots.length c, .slice D o.bytes.length c2] 25)) := (Fr.refl No w).alloc _
  have hbx := Blk.new w 25 #[.int .i64 o.cls, .slice A o.slots.length c, .slice D o.bytes.length c2]
  have hbx0 := hbx.all
  go_enter Try.func10, Try.ntmps10
  go_wp2_with (first
    | (refine wpList_ldA ag_obj rfl _ rfl ⟨w.heap.size, 0, none⟩ [.int .i64 o.cls, .slice A o.slots.length c, .slice D o.bytes.length c2] rfl rfl hbx0 ?_)
    | fail)
  generalize hw1 : w.alloc (.cells #[.int .i64 o.cls, .slice A o.slots.length c, .slice D o.bytes.length c2] 25) = w1 at *
  clear hw1
  refine (righto_calls _ _ o _ (h.fr0 hf)).mono ?_
  rintro e w2 ⟨rfl, hf2⟩
  cases hr : rightO o with
  | false =>
    have H := Lib.hid (putM_no hr)
    clear hr
    go_wp2
    go_ret2
    rw [H.out]
    exact ⟨_, rfl, World.ownsRow_nil _ _ _ _, hf.tr hf2⟩
  | true =>
    have H := Lib.hid (putM_ok hr)
    have hbx2 := (hbx.fr0 hf2).all
    have hl := hbx.lt
    have hs2 := hf2.size
    go_wp2_with (first
      | (refine wpList_ldA ag_obj rfl _ rfl ⟨w.heap.size, 0, none⟩ [.int .i64 o.cls, .slice A o.slots.length c, .slice D o.bytes.length c2] rfl rfl hbx2 ?_)
      | fail)
    refine (add_calls (fun b => S b ∧ b < w.heap.size) No w2.heap.size none 0 [] _ o w2 (World.ownsRow_nil _ _ _ _) (fun b hb => by cases hb) (Nat.le_refl _) (h.fr0 (hf.tr hf2)) (fun _ _ hn => hn) (fun b hn => hn.elim) hr (by simp)).mono ?_
    rintro e w3 ⟨v3, rfl, hb3⟩
    rw [List.nil_append] at hb3
    go_wp2
    go_ret2
    rw [H.out]
    exact ⟨_, rfl, own_down hb3.1 (by omega), (hf.tr hf2).tr hb3.2.2⟩
set_option maxHeartbeats 1000000 in
set_option maxRecDepth 100000 in
theorem refput_calls (S : Nat → Prop) (cs : List Value) (o : ObjM) (w : World) (h : ObjC w S cs o) :
    Calls Try.prog 11 #[.agg cs.toArray] w fun e w' => RetB w w' e (putM o) := by
  have hc := h
  obtain ⟨A, c, D, c2, rfl, hs, hb⟩ := hc
  have hf : Fr No w (w.alloc (.cells #[.int .i64 o.cls, .slice A o.slots.length c, .slice D o.bytes.length c2] 25)) := (Fr.refl No w).alloc _
  have hbx := Blk.new w 25 #[.int .i64 o.cls, .slice A o.slots.length c, .slice D o.bytes.length c2]
  have hbx0 := hbx.all
  go_enter Try.func11, Try.ntmps11
  go_wp2_with (first
    | (refine wpList_ldA ag_obj rfl _ rfl ⟨w.heap.size, 0, none⟩ [.int .i64 o.cls, .slice A o.slots.length c, .slice D o.bytes.length c2] rfl rfl hbx0 ?_)
    | fail)
  generalize hw1 : w.alloc (.cells #[.int .i64 o.cls, .slice A o.slots.length c, .slice D o.bytes.length c2] 25) = w1 at *
  clear hw1
  refine (refrighto_calls _ _ o _ (h.fr0 hf)).mono ?_
  rintro e w2 ⟨rfl, hf2⟩
  cases hr : rightO o with
  | false =>
    have H := Lib.hid (putM_no hr)
    clear hr
    go_wp2
    go_ret2
    rw [H.out]
    exact ⟨_, rfl, World.ownsRow_nil _ _ _ _, hf.tr hf2⟩
  | true =>
    have H := Lib.hid (putM_ok hr)
    have hbx2 := (hbx.fr0 hf2).all
    have hl := hbx.lt
    have hs2 := hf2.size
    go_wp2_with (first
      | (refine wpList_ldA ag_obj rfl _ rfl ⟨w.heap.size, 0, none⟩ [.int .i64 o.cls, .slice A o.slots.length c, .slice D o.bytes.length c2] rfl rfl hbx2 ?_)
      | fail)
    refine (refbytes_calls S _ o w2 (h.fr0 (hf.tr hf2)) hr).mono ?_
    rintro e w3 ⟨v3, rfl, hb3, hf3⟩
    go_wp2
    go_ret2
    rw [H.out]
    exact ⟨_, rfl, own_down hb3 (by omega), (hf.tr hf2).tr hf3⟩
end Go.Proofs.Ytfgkioigbnlkkaa
