/- The walk of lapidarylaw05.ValueTells. No condition but that the memory can hold the objects. -/
import Derived.Test.YtfgkioigbnlkkaaLValuePuts
import Derived.Test.YtfgkioigbnlkkaaSpoilO
import Derived.Test.YtfgkioigbnlkkaaRefs
namespace Go.Proofs.Ytfgkioigbnlkkaa
set_option linter.unusedVariables false
set_option linter.unusedSimpArgs false
open Go.RowKit

set_option maxHeartbeats 8000000 in
set_option maxRecDepth 100000 in
theorem law_ValueTells (W : World) (v : VL) (cs : List Value) (o : ObjM) (h : ObjC W (fun b => b < W.heap.size) cs o) (ok : ObjOk o) (cs' : List Value) (p : ObjM) (h' : ObjC W (fun b => b < W.heap.size) cs' p) (ok' : ObjOk p) :
    Calls Try.prog 6 #[.agg #[.int .i64 v.k, .int .i64 v.n], .agg cs.toArray, .agg cs'.toArray] W fun e w' => e = .returned (.bool true) ∧ Fr No W w' := by
  obtain ⟨ok1, ok2⟩ := ok
  obtain ⟨ok3, ok4⟩ := ok'
  have hc := h
  have hc' := h'
  have HS := Lib.hid (sameO_self o)
  have hrl := refsM_len o
  obtain ⟨A0, c0, D0, d0, rfl, hs0, hb0⟩ := hc
  obtain ⟨A1, c1, D1, d1, rfl, hs1, hb1⟩ := hc'
  obtain ⟨w0, hw0⟩ : ∃ w0, w0 = (((W.alloc (.cells #[.int .i64 v.k, .int .i64 v.n] 41)).alloc (.cells #[.int .i64 o.cls, .slice A0 o.slots.length c0, .slice D0 o.bytes.length d0] 25)).alloc (.cells #[.int .i64 p.cls, .slice A1 p.slots.length c1, .slice D1 p.bytes.length d1] 25)) := ⟨_, rfl⟩
  have hf0 : Fr No W w0 := by rw [hw0]; exact (((Fr.refl No W).alloc _).alloc _).alloc _
  have hv0 : Blk w0 W.heap.size 41 #[.int .i64 v.k, .int .i64 v.n] := by rw [hw0]; exact ((Blk.new W _ _).alloc _).alloc _
  have hx0 : Blk w0 (W.heap.size + 1) 25 #[.int .i64 o.cls, .slice A0 o.slots.length c0, .slice D0 o.bytes.length d0] := by rw [hw0]; exact (Blk.newAt (by simp)).alloc _
  have hy0 : Blk w0 (W.heap.size + 1 + 1) 25 #[.int .i64 p.cls, .slice A1 p.slots.length c1, .slice D1 p.bytes.length d1] := by rw [hw0]; exact Blk.newAt (by simp)
  have HW0 := Lib.hid hw0
  clear hw0
  go_enter Try.func6, Try.ntmps6
  go_upto_region 1 with fail
  rw [← HW0.out]
  clear HW0
  have x0 := hx0.all
  go_wp2_with (first
    | (refine wpList_ldA ag_obj rfl _ rfl ⟨W.heap.size + 1, 0, none⟩ [.int .i64 o.cls, .slice A0 o.slots.length c0, .slice D0 o.bytes.length d0] rfl rfl x0 ?_)
    | fail)
  refine (refcopy_calls _ _ o _ (h.fr0 hf0) (by omega)).mono ?_
  rintro e w1 ⟨cs1, rfl, hown1, hf1⟩
  obtain ⟨A2, c2, D2, d2, rfl⟩ := hown1.lit
  have hk1 := Blk.new w1 25 #[.int .i64 o.cls, .slice A2 o.slots.length c2, .slice D2 o.bytes.length d2]
  have hfA : Fr No w1 (w1.alloc (.cells #[.int .i64 o.cls, .slice A2 o.slots.length c2, .slice D2 o.bytes.length d2] 25)) := (Fr.refl No w1).alloc _
  have hoc2 := (hown1.rd (by omega) (by omega)).lt.fr0 hfA
  have hF2 := hf0.tr (hf1.tr hfA)
  have hv2 := hv0.fr0 (hf1.tr hfA)
  have hx2 := hx0.fr0 (hf1.tr hfA)
  have hy2 := hy0.fr0 (hf1.tr hfA)
  have hl1 : w1.heap.size < (w1.alloc (.cells #[.int .i64 o.cls, .slice A2 o.slots.length c2, .slice D2 o.bytes.length d2] 25)).heap.size := by simp
  have hs01 := (hf0.tr hf1).size
  have hl0 := hy2.lt
  go_upto_region 2 with fail
  generalize hw2 : w1.alloc (.cells #[.int .i64 o.cls, .slice A2 o.slots.length c2, .slice D2 o.bytes.length d2] 25) = w2 at *
  clear hw2 hown1
  have k1 := hk1.all
  go_wp2_with (first
    | (refine wpList_ldA ag_obj rfl _ rfl ⟨w1.heap.size, 0, none⟩ [.int .i64 o.cls, .slice A2 o.slots.length c2, .slice D2 o.bytes.length d2] rfl rfl k1 ?_)
    | fail)
  refine (ocopy_calls _ _ o _ hoc2 (by omega)).mono ?_
  rintro e w3 ⟨cs3, rfl, hown3, hf3⟩
  obtain ⟨A3, c3, D3, d3, rfl⟩ := hown3.lit
  have hm3 := Blk.new w3 25 #[.int .i64 o.cls, .slice A3 o.slots.length c3, .slice D3 o.bytes.length d3]
  have hfB : Fr No w3 (w3.alloc (.cells #[.int .i64 o.cls, .slice A3 o.slots.length c3, .slice D3 o.bytes.length d3] 25)) := (Fr.refl No w3).alloc _
  have hoc3 := (hown3.rd (by omega) (by omega)).fr0 hfB
  have hin3 := hown3.in_.fr0 hfB
  have hF4 := hF2.tr (hf3.tr hfB)
  have hv4 := hv2.fr0 (hf3.tr hfB)
  have hx4 := hx2.fr0 (hf3.tr hfB)
  have hy4 := hy2.fr0 (hf3.tr hfB)
  have hk4 := hk1.fr0 (hf3.tr hfB)
  have hoc24 := hoc2.fr0 (hf3.tr hfB)
  have hs23 := hf3.size
  have hl3 : w3.heap.size < (w3.alloc (.cells #[.int .i64 o.cls, .slice A3 o.slots.length c3, .slice D3 o.bytes.length d3] 25)).heap.size := by simp
  go_upto_region 3 with fail
  generalize hw4 : w3.alloc (.cells #[.int .i64 o.cls, .slice A3 o.slots.length c3, .slice D3 o.bytes.length d3] 25) = w4 at *
  clear hw4 hown3
  have k4 := hk4.all
  go_wp2_with (first
    | (refine wpList_ldA ag_obj rfl _ rfl ⟨w1.heap.size, 0, none⟩ [.int .i64 o.cls, .slice A2 o.slots.length c2, .slice D2 o.bytes.length d2] rfl rfl k4 ?_)
    | fail)
  refine (vrefs_calls _ _ o _ hoc24 ok1).mono ?_
  rintro e w5 ⟨v5, rfl, hown5, hf5⟩
  obtain ⟨A5, c5, rfl, hc5, hcm5, _⟩ := own_form hown5
  have hr5 := own_rd hown5 (by omega)
  have hF5 := hF4.tr hf5
  have hv5 := hv4.fr0 hf5
  have hx5 := hx4.fr0 hf5
  have hy5 := hy4.fr0 hf5
  have hk5 := hk4.fr0 hf5
  have hm5 := hm3.fr0 hf5
  have hin5 := hin3.fr0 hf5
  have hoc35 := hoc3.fr0 hf5
  have hoc25 := hoc24.fr0 hf5
  have h5 := h.fr0 hF5
  have h5' := h'.fr0 hF5
  have hr3 := right_calls v
  have hr4 := refright_calls v
  obtain ⟨b1, hb1⟩ : ∃ b1, rightV v = b1 := ⟨_, rfl⟩
  obtain ⟨b2, hb2⟩ : ∃ b2, rightO o = b2 := ⟨_, rfl⟩
  obtain ⟨b3, hb3⟩ : ∃ b3, sameO o p = b3 := ⟨_, rfl⟩
  simp only [hb1] at hr3 hr4
  have HB2 := Lib.hid hb2
  have HB3 := Lib.hid hb3
  clear hb1 hb2 hb3
  go_wp2_with fail
  (refine T_begin No [0, 2, 1, 3, 4, 5, 6, 8, 7, 9, 10, 11, 12, 13, 14, 16, 17, 15, 18, 19, 20, 21, 22, 23, 24, 25, 26, 27, 28, 29, 30, 31, 32, 33] [1, 3, 7, 9, 15, 18, 24, 30, 31] (by kernel_rfl) (by kernel_rfl) ?_; simp only [pickOps, List.filterMap_cons, List.filterMap_nil, List.getElem?_cons_zero, List.getElem?_cons_succ, Act.put])
  (refine T_loadA (cs := [.int .i64 v.k, .int .i64 v.n]) ag_val (by rfl) (by rfl) (fun _ _ _ _ h => h) rfl rfl rfl hv5.all (fun hn => hn) ?_; try simp only [Act.put, List.setIfInBounds_toArray, List.set_cons_zero, List.set_cons_succ])
  (refine T_loadA (cs := [.int .i64 v.k, .int .i64 v.n]) ag_val (by rfl) (by rfl) (fun _ _ _ _ h => h) rfl rfl rfl hv5.all (fun hn => hn) ?_; try simp only [Act.put, List.setIfInBounds_toArray, List.set_cons_zero, List.set_cons_succ])
  (refine T_call (by rfl) (by rfl) (fun K hK => ?_); go_wp2_with fail)
  refine (hr3 _).mono ?_
  rintro e w6 ⟨rfl, hf6⟩
  (refine hK.out _ _ (hf6) ?_; clear hK K; try simp only [Act.put, List.setIfInBounds_toArray, List.set_cons_zero, List.set_cons_succ])
  (refine T_call (by rfl) (by rfl) (fun K hK => ?_); go_wp2_with fail)
  refine (hr4 _).mono ?_
  rintro e w7 ⟨rfl, hf7⟩
  (refine hK.out _ _ (hf7) ?_; clear hK K; try simp only [Act.put, List.setIfInBounds_toArray, List.set_cons_zero, List.set_cons_succ])
  repeat (first | (refine T_skip (by rfl) (by rfl) (fun _ _ _ h => h) ?_; try simp only [Act.put, List.setIfInBounds_toArray, List.set_cons_zero, List.set_cons_succ]) | (refine T_pass (by rfl) (by rfl) ?_; try simp only [Act.put, List.setIfInBounds_toArray, List.set_cons_zero, List.set_cons_succ]) | (refine T_load (by assumption) (by rfl) (by rfl) (fun _ _ _ _ h => h) rfl rfl (by assumption) (by first | exact (fun hn => hn) | assumption) ?_; try simp only [Act.put, List.setIfInBounds_toArray, List.set_cons_zero, List.set_cons_succ]) | (refine T_nil (by rfl) (by rfl) (fun _ _ _ _ h => h) rfl rfl ?_; try simp only [Act.put, List.setIfInBounds_toArray, List.set_cons_zero, List.set_cons_succ]) | (refine T_quietN (by rfl) (by rfl) (by rfl) (by rfl) (fun _ _ _ _ h => h) (fun K hK => ?_); go_big_quiet_op; refine hK _ ?_; clear hK K) | (refine T_two (by rfl) (by rfl) (by rfl) (by rfl) (fun _ _ _ _ h => h) (fun K hK => ?_); go_big_quiet_op; refine ⟨_, fun _ _ => rfl, ?_⟩; refine hK _ ?_; clear hK K; try simp only [Act.put, List.setIfInBounds_toArray, List.set_cons_zero, List.set_cons_succ]) | fail)
  have hf57 : Fr No w5 w7 := ((Fr.refl No w5).drew.tr hf6).tr hf7
  (refine T_loadA (cs := [.int .i64 o.cls, .slice A2 o.slots.length c2, .slice D2 o.bytes.length d2]) ag_obj (by rfl) (by rfl) (fun _ _ _ _ h => h) rfl rfl rfl (hk5.fr0 hf57).all (fun hn => hn) ?_; try simp only [Act.put, List.setIfInBounds_toArray, List.set_cons_zero, List.set_cons_succ])
  (refine T_loadA (cs := [.int .i64 o.cls, .slice A0 o.slots.length c0, .slice D0 o.bytes.length d0]) ag_obj (by rfl) (by rfl) (fun _ _ _ _ h => h) rfl rfl rfl (hx5.fr0 hf57).all (fun hn => hn) ?_; try simp only [Act.put, List.setIfInBounds_toArray, List.set_cons_zero, List.set_cons_succ])
  (refine T_call (by rfl) (by rfl) (fun K hK => ?_); go_wp2_with fail)
  refine (righto_calls _ _ o _ (hoc25.fr0 hf57)).mono ?_
  rw [HB2.out]
  rintro e w8 ⟨rfl, hf8⟩
  (refine hK.out _ _ (hf8) ?_; clear hK K; try simp only [Act.put, List.setIfInBounds_toArray, List.set_cons_zero, List.set_cons_succ])
  (refine T_call (by rfl) (by rfl) (fun K hK => ?_); go_wp2_with fail)
  refine (refrighto_calls _ _ o _ (h5.fr0 (hf57.tr hf8))).mono ?_
  rw [HB2.out]
  rintro e w9 ⟨rfl, hf9⟩
  (refine hK.out _ _ (hf9) ?_; clear hK K; try simp only [Act.put, List.setIfInBounds_toArray, List.set_cons_zero, List.set_cons_succ])
  repeat (first | (refine T_skip (by rfl) (by rfl) (fun _ _ _ h => h) ?_; try simp only [Act.put, List.setIfInBounds_toArray, List.set_cons_zero, List.set_cons_succ]) | (refine T_pass (by rfl) (by rfl) ?_; try simp only [Act.put, List.setIfInBounds_toArray, List.set_cons_zero, List.set_cons_succ]) | (refine T_load (by assumption) (by rfl) (by rfl) (fun _ _ _ _ h => h) rfl rfl (by assumption) (by first | exact (fun hn => hn) | assumption) ?_; try simp only [Act.put, List.setIfInBounds_toArray, List.set_cons_zero, List.set_cons_succ]) | (refine T_nil (by rfl) (by rfl) (fun _ _ _ _ h => h) rfl rfl ?_; try simp only [Act.put, List.setIfInBounds_toArray, List.set_cons_zero, List.set_cons_succ]) | (refine T_quietN (by rfl) (by rfl) (by rfl) (by rfl) (fun _ _ _ _ h => h) (fun K hK => ?_); go_big_quiet_op; refine hK _ ?_; clear hK K) | (refine T_two (by rfl) (by rfl) (by rfl) (by rfl) (fun _ _ _ _ h => h) (fun K hK => ?_); go_big_quiet_op; refine ⟨_, fun _ _ => rfl, ?_⟩; refine hK _ ?_; clear hK K; try simp only [Act.put, List.setIfInBounds_toArray, List.set_cons_zero, List.set_cons_succ]) | fail)
  have hf59 := hf57.tr (hf8.tr hf9)
  (refine T_loadA (cs := [.int .i64 o.cls, .slice A2 o.slots.length c2, .slice D2 o.bytes.length d2]) ag_obj (by rfl) (by rfl) (fun _ _ _ _ h => h) rfl rfl rfl (hk5.fr0 hf59).all (fun hn => hn) ?_; try simp only [Act.put, List.setIfInBounds_toArray, List.set_cons_zero, List.set_cons_succ])
  (refine T_loadA (cs := [.int .i64 p.cls, .slice A1 p.slots.length c1, .slice D1 p.bytes.length d1]) ag_obj (by rfl) (by rfl) (fun _ _ _ _ h => h) rfl rfl rfl (hy5.fr0 hf59).all (fun hn => hn) ?_; try simp only [Act.put, List.setIfInBounds_toArray, List.set_cons_zero, List.set_cons_succ])
  (refine T_loadA (cs := [.int .i64 o.cls, .slice A0 o.slots.length c0, .slice D0 o.bytes.length d0]) ag_obj (by rfl) (by rfl) (fun _ _ _ _ h => h) rfl rfl rfl (hx5.fr0 hf59).all (fun hn => hn) ?_; try simp only [Act.put, List.setIfInBounds_toArray, List.set_cons_zero, List.set_cons_succ])
  (refine T_loadA (cs := [.int .i64 p.cls, .slice A1 p.slots.length c1, .slice D1 p.bytes.length d1]) ag_obj (by rfl) (by rfl) (fun _ _ _ _ h => h) rfl rfl rfl (hy5.fr0 hf59).all (fun hn => hn) ?_; try simp only [Act.put, List.setIfInBounds_toArray, List.set_cons_zero, List.set_cons_succ])
  (refine T_call (by rfl) (by rfl) (fun K hK => ?_); go_wp2_with fail)
  refine (vsame_calls _ _ _ _ o p _ (hoc25.fr0 hf59) (h5'.fr0 hf59)).mono ?_
  rw [HB3.out]
  rintro e wA ⟨rfl, hfA2⟩
  (refine hK.out _ _ (hfA2) ?_; clear hK K; try simp only [Act.put, List.setIfInBounds_toArray, List.set_cons_zero, List.set_cons_succ])
  (refine T_call (by rfl) (by rfl) (fun K hK => ?_); go_wp2_with fail)
  refine (refsame_calls _ _ _ _ o p _ (h5.fr0 (hf59.tr hfA2)) (h5'.fr0 (hf59.tr hfA2))).mono ?_
  rw [HB3.out]
  rintro e wB ⟨rfl, hfB2⟩
  (refine hK.out _ _ (hfB2) ?_; clear hK K; try simp only [Act.put, List.setIfInBounds_toArray, List.set_cons_zero, List.set_cons_succ])
  repeat (first | (refine T_skip (by rfl) (by rfl) (fun _ _ _ h => h) ?_; try simp only [Act.put, List.setIfInBounds_toArray, List.set_cons_zero, List.set_cons_succ]) | (refine T_pass (by rfl) (by rfl) ?_; try simp only [Act.put, List.setIfInBounds_toArray, List.set_cons_zero, List.set_cons_succ]) | (refine T_load (by assumption) (by rfl) (by rfl) (fun _ _ _ _ h => h) rfl rfl (by assumption) (by first | exact (fun hn => hn) | assumption) ?_; try simp only [Act.put, List.setIfInBounds_toArray, List.set_cons_zero, List.set_cons_succ]) | (refine T_nil (by rfl) (by rfl) (fun _ _ _ _ h => h) rfl rfl ?_; try simp only [Act.put, List.setIfInBounds_toArray, List.set_cons_zero, List.set_cons_succ]) | (refine T_quietN (by rfl) (by rfl) (by rfl) (by rfl) (fun _ _ _ _ h => h) (fun K hK => ?_); go_big_quiet_op; refine hK _ ?_; clear hK K) | (refine T_two (by rfl) (by rfl) (by rfl) (by rfl) (fun _ _ _ _ h => h) (fun K hK => ?_); go_big_quiet_op; refine ⟨_, fun _ _ => rfl, ?_⟩; refine hK _ ?_; clear hK K; try simp only [Act.put, List.setIfInBounds_toArray, List.set_cons_zero, List.set_cons_succ]) | fail)
  have hf5B := hf59.tr (hfA2.tr hfB2)
  (refine T_loadA (cs := [.int .i64 o.cls, .slice A3 o.slots.length c3, .slice D3 o.bytes.length d3]) ag_obj (by rfl) (by rfl) (fun _ _ _ _ h => h) rfl rfl rfl (hm5.fr0 hf5B).all (fun hn => hn) ?_; try simp only [Act.put, List.setIfInBounds_toArray, List.set_cons_zero, List.set_cons_succ])
  (refine T_loadA (cs := [.int .i64 o.cls, .slice A0 o.slots.length c0, .slice D0 o.bytes.length d0]) ag_obj (by rfl) (by rfl) (fun _ _ _ _ h => h) rfl rfl rfl (hx5.fr0 hf5B).all (fun hn => hn) ?_; try simp only [Act.put, List.setIfInBounds_toArray, List.set_cons_zero, List.set_cons_succ])
  (refine T_call (by rfl) (by rfl) (fun K hK => ?_); go_wp2_with fail)
  refine (refsame_calls _ _ _ _ o o _ (hoc35.fr0 hf5B) (h5.fr0 hf5B)).mono ?_
  rw [HS.out]
  rintro e wC ⟨rfl, hfC⟩
  (refine hK.out _ _ (hfC) ?_; clear hK K; try simp only [Act.put, List.setIfInBounds_toArray, List.set_cons_zero, List.set_cons_succ])
  repeat (first | (refine T_skip (by rfl) (by rfl) (fun _ _ _ h => h) ?_; try simp only [Act.put, List.setIfInBounds_toArray, List.set_cons_zero, List.set_cons_succ]) | (refine T_pass (by rfl) (by rfl) ?_; try simp only [Act.put, List.setIfInBounds_toArray, List.set_cons_zero, List.set_cons_succ]) | (refine T_load (by assumption) (by rfl) (by rfl) (fun _ _ _ _ h => h) rfl rfl (by assumption) (by first | exact (fun hn => hn) | assumption) ?_; try simp only [Act.put, List.setIfInBounds_toArray, List.set_cons_zero, List.set_cons_succ]) | (refine T_nil (by rfl) (by rfl) (fun _ _ _ _ h => h) rfl rfl ?_; try simp only [Act.put, List.setIfInBounds_toArray, List.set_cons_zero, List.set_cons_succ]) | (refine T_quietN (by rfl) (by rfl) (by rfl) (by rfl) (fun _ _ _ _ h => h) (fun K hK => ?_); go_big_quiet_op; refine hK _ ?_; clear hK K) | (refine T_two (by rfl) (by rfl) (by rfl) (by rfl) (fun _ _ _ _ h => h) (fun K hK => ?_); go_big_quiet_op; refine ⟨_, fun _ _ => rfl, ?_⟩; refine hK _ ?_; clear hK K; try simp only [Act.put, List.setIfInBounds_toArray, List.set_cons_zero, List.set_cons_succ]) | fail)
  have hf5C := hf5B.tr hfC
  (refine T_loadA (cs := [.int .i64 o.cls, .slice A0 o.slots.length c0, .slice D0 o.bytes.length d0]) ag_obj (by rfl) (by rfl) (fun _ _ _ _ h => h) rfl rfl rfl (hx5.fr0 hf5C).all (fun hn => hn) ?_; try simp only [Act.put, List.setIfInBounds_toArray, List.set_cons_zero, List.set_cons_succ])
  (refine T_call (by rfl) (by rfl) (fun K hK => ?_); go_wp2_with fail)
  refine (refrefs_calls _ _ o _ (h5.fr0 hf5C) ok1).mono ?_
  rintro e wD ⟨vD, rfl, hownD, hfD⟩
  obtain ⟨AD, cD, rfl, hcD, hcmD, _⟩ := own_form hownD
  have hrD := own_rd hownD (by omega)
  (refine hK.out _ _ (hfD) ?_; clear hK K; try simp only [Act.put, List.setIfInBounds_toArray, List.set_cons_zero, List.set_cons_succ])
  (refine T_call (by rfl) (by rfl) (fun K hK => ?_); go_wp2_with fail)
  refine (samei_calls _ _ _ _ _ _ (refsM o) _ (Rd.fr0 hr5 (hf5C.tr hfD)) hrD).mono ?_
  rintro e wE ⟨rfl, hfE⟩
  (refine hK.out _ _ (hfE) ?_; clear hK K; try simp only [Act.put, List.setIfInBounds_toArray, List.set_cons_zero, List.set_cons_succ])
  repeat (first | (refine T_skip (by rfl) (by rfl) (fun _ _ _ h => h) ?_; try simp only [Act.put, List.setIfInBounds_toArray, List.set_cons_zero, List.set_cons_succ]) | (refine T_pass (by rfl) (by rfl) ?_; try simp only [Act.put, List.setIfInBounds_toArray, List.set_cons_zero, List.set_cons_succ]) | (refine T_load (by assumption) (by rfl) (by rfl) (fun _ _ _ _ h => h) rfl rfl (by assumption) (by first | exact (fun hn => hn) | assumption) ?_; try simp only [Act.put, List.setIfInBounds_toArray, List.set_cons_zero, List.set_cons_succ]) | (refine T_nil (by rfl) (by rfl) (fun _ _ _ _ h => h) rfl rfl ?_; try simp only [Act.put, List.setIfInBounds_toArray, List.set_cons_zero, List.set_cons_succ]) | (refine T_quietN (by rfl) (by rfl) (by rfl) (by rfl) (fun _ _ _ _ h => h) (fun K hK => ?_); go_big_quiet_op; refine hK _ ?_; clear hK K) | (refine T_two (by rfl) (by rfl) (by rfl) (by rfl) (fun _ _ _ _ h => h) (fun K hK => ?_); go_big_quiet_op; refine ⟨_, fun _ _ => rfl, ?_⟩; refine hK _ ?_; clear hK K; try simp only [Act.put, List.setIfInBounds_toArray, List.set_cons_zero, List.set_cons_succ]) | fail)
  refine T_done ?_
  have hf5E := hf5C.tr (hfD.tr hfE)
  have mE := (hm5.fr0 hf5E).all
  go_wp2_with (first
    | (refine wpList_ldA ag_obj rfl _ rfl ⟨w3.heap.size, 0, none⟩ [.int .i64 o.cls, .slice A3 o.slots.length c3, .slice D3 o.bytes.length d3] rfl rfl mE ?_)
    | fail)
  refine (spoilo_calls _ _ o _ (hin5.fr0 hf5E) (by omega) (by omega)).mono ?_
  rintro e wF ⟨rfl, hfF⟩
  have hFF : Fr No W wF := (hF5.tr hf5E).trans hfF (fun b hb hT => by have := hT.1; omega)
  have kF := ((hk5.fr0 hf5E).fr hfF (fun hT => by have := hT.1; omega)).all
  have xF := ((hx5.fr0 hf5E).fr hfF (fun hT => by have := hT.1; omega)).all
  have hoF := (hoc25.fr0 hf5E).keep hfF (fun b hb hT => by have := hT.1; have := hb.2; omega)
  go_wp2_with (first
    | (refine wpList_ldA ag_obj rfl _ rfl ⟨w1.heap.size, 0, none⟩ [.int .i64 o.cls, .slice A2 o.slots.length c2, .slice D2 o.bytes.length d2] rfl rfl kF ?_)
    | (refine wpList_ldA ag_obj rfl _ rfl ⟨W.heap.size + 1, 0, none⟩ [.int .i64 o.cls, .slice A0 o.slots.length c0, .slice D0 o.bytes.length d0] rfl rfl xF ?_)
    | fail)
  refine (refsame_calls _ _ _ _ o o _ hoF (h.fr0 hFF)).mono ?_
  rw [HS.out]
  rintro e wG ⟨rfl, hfG⟩
  go_wp2_with fail
  refine (known_calls _).mono ?_
  rintro e wH ⟨rfl, hfH⟩
  go_wp2
  go_ret
  exact ⟨rfl, hFF.tr (hfG.tr hfH)⟩
end Go.Proofs.Ytfgkioigbnlkkaa
