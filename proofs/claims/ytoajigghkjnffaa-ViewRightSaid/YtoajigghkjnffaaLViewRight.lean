/- lapidarylaw12.ViewRight. Written by genvr.py. No condition. -/
import Derived.Test.YtoajigghkjnffaaViewKnown
namespace Go.Proofs.Ytoajigghkjnffaa
set_option linter.unusedVariables false
set_option linter.unusedSimpArgs false
open Go.RowKit

def ObjOk (o : ObjM) : Prop := o.slots.length * 16 ≤ 140737488351232 ∧ o.bytes.length ≤ 140737488351232
set_option maxHeartbeats 4000000 in
set_option maxRecDepth 100000 in
theorem law_ViewRight (W : World) (v : VL) (cs : List Value) (o : ObjM) (h : ObjC W (fun b => b < W.heap.size) cs o) (_ : ObjOk o) :
    Calls Try.prog 3 #[.agg #[.int .i64 v.k, .int .i64 v.n], .agg cs.toArray] W fun e w' => e = .returned (.bool true) ∧ Fr No W w' := by
  have hc := h
  obtain ⟨A0, c0, D0, d0, rfl, hs0, hb0⟩ := hc
  have hf0 : Fr No W ((W.alloc (.cells #[.int .i64 v.k, .int .i64 v.n] 23)).alloc (.cells #[.int .i64 o.cls, .slice A0 o.slots.length c0, .slice D0 o.bytes.length d0] tObj)) := ((Fr.refl No W).alloc _).alloc _
  have hv0 : Blk ((W.alloc (.cells #[.int .i64 v.k, .int .i64 v.n] 23)).alloc (.cells #[.int .i64 o.cls, .slice A0 o.slots.length c0, .slice D0 o.bytes.length d0] tObj)) W.heap.size 23 #[.int .i64 v.k, .int .i64 v.n] := (Blk.new W _ _).alloc _
  have hx0 : Blk ((W.alloc (.cells #[.int .i64 v.k, .int .i64 v.n] 23)).alloc (.cells #[.int .i64 o.cls, .slice A0 o.slots.length c0, .slice D0 o.bytes.length d0] tObj)) (W.heap.size + 1) tObj #[.int .i64 o.cls, .slice A0 o.slots.length c0, .slice D0 o.bytes.length d0] := Blk.newAt (by simp)
  have H1 : rightV v = true → rightV2 v = true := rightV2_of
  have H2 : rightO o = true → rightO2 o = true := rightO2_of
  have k1 := vright_calls v
  have k2 := rvright_calls v
  have k3 := fun w (hh : ObjC w (fun b => b < W.heap.size) [.int .i64 o.cls, .slice A0 o.slots.length c0, .slice D0 o.bytes.length d0] o) => vrighto_calls _ _ o w hh
  have k4 := fun w (hh : ObjC w (fun b => b < W.heap.size) [.int .i64 o.cls, .slice A0 o.slots.length c0, .slice D0 o.bytes.length d0] o) => rvrighto_calls _ _ o w hh
  have k5 := refright_calls v
  have k6 := fun w (hh : ObjC w (fun b => b < W.heap.size) [.int .i64 o.cls, .slice A0 o.slots.length c0, .slice D0 o.bytes.length d0] o) => refrighto_calls _ _ o w hh
  generalize rightV2 v = a at *
  generalize rightO2 o = b at *
  generalize rightV v = c at *
  generalize rightO o = d at *
  go_enter Try.func3, Try.ntmps3
  go_wp2_with fail
  generalize ((W.alloc (.cells #[.int .i64 v.k, .int .i64 v.n] 23)).alloc (.cells #[.int .i64 o.cls, .slice A0 o.slots.length c0, .slice D0 o.bytes.length d0] tObj)) = w0 at *
  cases a with
  | false =>
    cases c with
    | false =>
      cases b with
      | false =>
        cases d with
        | false =>
          (refine T_begin No [0, 2, 1, 3, 4, 5, 6, 8, 7, 9, 10, 11] [1, 3, 7, 9] (by kernel_rfl) (by kernel_rfl) ?_; simp only [pickOps, List.filterMap_cons, List.filterMap_nil, List.getElem?_cons_zero, List.getElem?_cons_succ, Act.put])
          (refine T_loadA (cs := [.int .i64 v.k, .int .i64 v.n]) ag_val (by rfl) (by rfl) (fun _ _ _ _ h => h) rfl rfl rfl hv0.all (fun hn => hn) ?_; try simp only [Act.put, List.setIfInBounds_toArray, List.set_cons_zero, List.set_cons_succ])
          (refine T_loadA (cs := [.int .i64 v.k, .int .i64 v.n]) ag_val (by rfl) (by rfl) (fun _ _ _ _ h => h) rfl rfl rfl hv0.all (fun hn => hn) ?_; try simp only [Act.put, List.setIfInBounds_toArray, List.set_cons_zero, List.set_cons_succ])
          (refine T_call (by rfl) (by rfl) (fun K hK => ?_); go_wp2_with fail)
          refine (k1 _).mono ?_
          rintro e w1 ⟨rfl, hf1⟩
          (refine hK.out _ _ (hf1) ?_; clear hK K; try simp only [Act.put, List.setIfInBounds_toArray, List.set_cons_zero, List.set_cons_succ])
          (refine T_call (by rfl) (by rfl) (fun K hK => ?_); go_wp2_with fail)
          refine (k2 _).mono ?_
          rintro e w2 ⟨rfl, hf2⟩
          (refine hK.out _ _ (hf2) ?_; clear hK K; try simp only [Act.put, List.setIfInBounds_toArray, List.set_cons_zero, List.set_cons_succ])
          repeat (first | (refine T_skip (by rfl) (by rfl) (fun _ _ _ h => h) ?_; try simp only [Act.put, List.setIfInBounds_toArray, List.set_cons_zero, List.set_cons_succ]) | (refine T_pass (by rfl) (by rfl) ?_; try simp only [Act.put, List.setIfInBounds_toArray, List.set_cons_zero, List.set_cons_succ]) | (refine T_load (by assumption) (by rfl) (by rfl) (fun _ _ _ _ h => h) rfl rfl (by assumption) (by first | exact (fun hn => hn) | assumption) ?_; try simp only [Act.put, List.setIfInBounds_toArray, List.set_cons_zero, List.set_cons_succ]) | (refine T_nil (by rfl) (by rfl) (fun _ _ _ _ h => h) rfl rfl ?_; try simp only [Act.put, List.setIfInBounds_toArray, List.set_cons_zero, List.set_cons_succ]) | (refine T_quietN (by rfl) (by rfl) (by rfl) (by rfl) (fun _ _ _ _ h => h) (fun K hK => ?_); go_big_quiet_op; refine hK _ ?_; clear hK K) | (refine T_two (by rfl) (by rfl) (by rfl) (by rfl) (fun _ _ _ _ h => h) (fun K hK => ?_); go_big_quiet_op; refine ⟨_, fun _ _ => rfl, ?_⟩; refine hK _ ?_; clear hK K; try simp only [Act.put, List.setIfInBounds_toArray, List.set_cons_zero, List.set_cons_succ]) | fail)
          have hF2 : Fr No w0 w2 := ((Fr.refl No w0).drew.tr hf1).tr hf2
          (refine T_loadA (cs := [.int .i64 o.cls, .slice A0 o.slots.length c0, .slice D0 o.bytes.length d0]) ag_obj (by rfl) (by rfl) (fun _ _ _ _ h => h) rfl rfl rfl (hx0.fr0 hF2).all (fun hn => hn) ?_; try simp only [Act.put, List.setIfInBounds_toArray, List.set_cons_zero, List.set_cons_succ])
          (refine T_loadA (cs := [.int .i64 o.cls, .slice A0 o.slots.length c0, .slice D0 o.bytes.length d0]) ag_obj (by rfl) (by rfl) (fun _ _ _ _ h => h) rfl rfl rfl (hx0.fr0 hF2).all (fun hn => hn) ?_; try simp only [Act.put, List.setIfInBounds_toArray, List.set_cons_zero, List.set_cons_succ])
          (refine T_call (by rfl) (by rfl) (fun K hK => ?_); go_wp2_with fail)
          refine (k3 _ ((h.fr0 hf0).fr0 hF2)).mono ?_
          rintro e w3 ⟨rfl, hf3⟩
          (refine hK.out _ _ (hf3) ?_; clear hK K; try simp only [Act.put, List.setIfInBounds_toArray, List.set_cons_zero, List.set_cons_succ])
          (refine T_call (by rfl) (by rfl) (fun K hK => ?_); go_wp2_with fail)
          refine (k4 _ (((h.fr0 hf0).fr0 hF2).fr0 hf3)).mono ?_
          rintro e w4 ⟨rfl, hf4⟩
          (refine hK.out _ _ (hf4) ?_; clear hK K; try simp only [Act.put, List.setIfInBounds_toArray, List.set_cons_zero, List.set_cons_succ])
          repeat (first | (refine T_skip (by rfl) (by rfl) (fun _ _ _ h => h) ?_; try simp only [Act.put, List.setIfInBounds_toArray, List.set_cons_zero, List.set_cons_succ]) | (refine T_pass (by rfl) (by rfl) ?_; try simp only [Act.put, List.setIfInBounds_toArray, List.set_cons_zero, List.set_cons_succ]) | (refine T_load (by assumption) (by rfl) (by rfl) (fun _ _ _ _ h => h) rfl rfl (by assumption) (by first | exact (fun hn => hn) | assumption) ?_; try simp only [Act.put, List.setIfInBounds_toArray, List.set_cons_zero, List.set_cons_succ]) | (refine T_nil (by rfl) (by rfl) (fun _ _ _ _ h => h) rfl rfl ?_; try simp only [Act.put, List.setIfInBounds_toArray, List.set_cons_zero, List.set_cons_succ]) | (refine T_quietN (by rfl) (by rfl) (by rfl) (by rfl) (fun _ _ _ _ h => h) (fun K hK => ?_); go_big_quiet_op; refine hK _ ?_; clear hK K) | (refine T_two (by rfl) (by rfl) (by rfl) (by rfl) (fun _ _ _ _ h => h) (fun K hK => ?_); go_big_quiet_op; refine ⟨_, fun _ _ => rfl, ?_⟩; refine hK _ ?_; clear hK K; try simp only [Act.put, List.setIfInBounds_toArray, List.set_cons_zero, List.set_cons_succ]) | fail)
          refine T_done ?_
          have hF4 := hF2.tr (hf3.tr hf4)
          have hlhF4 := (hv0.fr0 hF4).all
          go_wp2_with (first
            | (refine wpList_ldA ag_val rfl _ rfl ⟨W.heap.size, 0, none⟩ [.int .i64 v.k, .int .i64 v.n] rfl rfl hlhF4 ?_)
            | fail)
          refine (k5 _).mono ?_
          rintro e w5 ⟨rfl, hf5⟩
          have hF5 := hF4.tr hf5
          have hlhF5 := (hx0.fr0 hF5).all
          go_wp2_with (first
            | (refine wpList_ldA ag_obj rfl _ rfl ⟨W.heap.size + 1, 0, none⟩ [.int .i64 o.cls, .slice A0 o.slots.length c0, .slice D0 o.bytes.length d0] rfl rfl hlhF5 ?_)
            | fail)
          refine (k6 _ ((h.fr0 hf0).fr0 hF5)).mono ?_
          rintro e w6 ⟨rfl, hf6⟩
          have hF6 := hF5.tr hf6
          go_wp2_with fail
          refine (known_calls _).mono ?_
          rintro e wz ⟨rfl, hfz⟩
          go_wp2
          go_ret
          exact ⟨rfl, (hf0.tr hF6).tr hfz⟩
        | true =>
          exact absurd (H2 rfl) (by decide)
      | true =>
        cases d with
        | false =>
          (refine T_begin No [0, 2, 1, 3, 4, 5, 6, 8, 7, 9, 10, 11] [1, 3, 7, 9] (by kernel_rfl) (by kernel_rfl) ?_; simp only [pickOps, List.filterMap_cons, List.filterMap_nil, List.getElem?_cons_zero, List.getElem?_cons_succ, Act.put])
          (refine T_loadA (cs := [.int .i64 v.k, .int .i64 v.n]) ag_val (by rfl) (by rfl) (fun _ _ _ _ h => h) rfl rfl rfl hv0.all (fun hn => hn) ?_; try simp only [Act.put, List.setIfInBounds_toArray, List.set_cons_zero, List.set_cons_succ])
          (refine T_loadA (cs := [.int .i64 v.k, .int .i64 v.n]) ag_val (by rfl) (by rfl) (fun _ _ _ _ h => h) rfl rfl rfl hv0.all (fun hn => hn) ?_; try simp only [Act.put, List.setIfInBounds_toArray, List.set_cons_zero, List.set_cons_succ])
          (refine T_call (by rfl) (by rfl) (fun K hK => ?_); go_wp2_with fail)
          refine (k1 _).mono ?_
          rintro e w1 ⟨rfl, hf1⟩
          (refine hK.out _ _ (hf1) ?_; clear hK K; try simp only [Act.put, List.setIfInBounds_toArray, List.set_cons_zero, List.set_cons_succ])
          (refine T_call (by rfl) (by rfl) (fun K hK => ?_); go_wp2_with fail)
          refine (k2 _).mono ?_
          rintro e w2 ⟨rfl, hf2⟩
          (refine hK.out _ _ (hf2) ?_; clear hK K; try simp only [Act.put, List.setIfInBounds_toArray, List.set_cons_zero, List.set_cons_succ])
          repeat (first | (refine T_skip (by rfl) (by rfl) (fun _ _ _ h => h) ?_; try simp only [Act.put, List.setIfInBounds_toArray, List.set_cons_zero, List.set_cons_succ]) | (refine T_pass (by rfl) (by rfl) ?_; try simp only [Act.put, List.setIfInBounds_toArray, List.set_cons_zero, List.set_cons_succ]) | (refine T_load (by assumption) (by rfl) (by rfl) (fun _ _ _ _ h => h) rfl rfl (by assumption) (by first | exact (fun hn => hn) | assumption) ?_; try simp only [Act.put, List.setIfInBounds_toArray, List.set_cons_zero, List.set_cons_succ]) | (refine T_nil (by rfl) (by rfl) (fun _ _ _ _ h => h) rfl rfl ?_; try simp only [Act.put, List.setIfInBounds_toArray, List.set_cons_zero, List.set_cons_succ]) | (refine T_quietN (by rfl) (by rfl) (by rfl) (by rfl) (fun _ _ _ _ h => h) (fun K hK => ?_); go_big_quiet_op; refine hK _ ?_; clear hK K) | (refine T_two (by rfl) (by rfl) (by rfl) (by rfl) (fun _ _ _ _ h => h) (fun K hK => ?_); go_big_quiet_op; refine ⟨_, fun _ _ => rfl, ?_⟩; refine hK _ ?_; clear hK K; try simp only [Act.put, List.setIfInBounds_toArray, List.set_cons_zero, List.set_cons_succ]) | fail)
          have hF2 : Fr No w0 w2 := ((Fr.refl No w0).drew.tr hf1).tr hf2
          (refine T_loadA (cs := [.int .i64 o.cls, .slice A0 o.slots.length c0, .slice D0 o.bytes.length d0]) ag_obj (by rfl) (by rfl) (fun _ _ _ _ h => h) rfl rfl rfl (hx0.fr0 hF2).all (fun hn => hn) ?_; try simp only [Act.put, List.setIfInBounds_toArray, List.set_cons_zero, List.set_cons_succ])
          (refine T_loadA (cs := [.int .i64 o.cls, .slice A0 o.slots.length c0, .slice D0 o.bytes.length d0]) ag_obj (by rfl) (by rfl) (fun _ _ _ _ h => h) rfl rfl rfl (hx0.fr0 hF2).all (fun hn => hn) ?_; try simp only [Act.put, List.setIfInBounds_toArray, List.set_cons_zero, List.set_cons_succ])
          (refine T_call (by rfl) (by rfl) (fun K hK => ?_); go_wp2_with fail)
          refine (k3 _ ((h.fr0 hf0).fr0 hF2)).mono ?_
          rintro e w3 ⟨rfl, hf3⟩
          (refine hK.out _ _ (hf3) ?_; clear hK K; try simp only [Act.put, List.setIfInBounds_toArray, List.set_cons_zero, List.set_cons_succ])
          (refine T_call (by rfl) (by rfl) (fun K hK => ?_); go_wp2_with fail)
          refine (k4 _ (((h.fr0 hf0).fr0 hF2).fr0 hf3)).mono ?_
          rintro e w4 ⟨rfl, hf4⟩
          (refine hK.out _ _ (hf4) ?_; clear hK K; try simp only [Act.put, List.setIfInBounds_toArray, List.set_cons_zero, List.set_cons_succ])
          repeat (first | (refine T_skip (by rfl) (by rfl) (fun _ _ _ h => h) ?_; try simp only [Act.put, List.setIfInBounds_toArray, List.set_cons_zero, List.set_cons_succ]) | (refine T_pass (by rfl) (by rfl) ?_; try simp only [Act.put, List.setIfInBounds_toArray, List.set_cons_zero, List.set_cons_succ]) | (refine T_load (by assumption) (by rfl) (by rfl) (fun _ _ _ _ h => h) rfl rfl (by assumption) (by first | exact (fun hn => hn) | assumption) ?_; try simp only [Act.put, List.setIfInBounds_toArray, List.set_cons_zero, List.set_cons_succ]) | (refine T_nil (by rfl) (by rfl) (fun _ _ _ _ h => h) rfl rfl ?_; try simp only [Act.put, List.setIfInBounds_toArray, List.set_cons_zero, List.set_cons_succ]) | (refine T_quietN (by rfl) (by rfl) (by rfl) (by rfl) (fun _ _ _ _ h => h) (fun K hK => ?_); go_big_quiet_op; refine hK _ ?_; clear hK K) | (refine T_two (by rfl) (by rfl) (by rfl) (by rfl) (fun _ _ _ _ h => h) (fun K hK => ?_); go_big_quiet_op; refine ⟨_, fun _ _ => rfl, ?_⟩; refine hK _ ?_; clear hK K; try simp only [Act.put, List.setIfInBounds_toArray, List.set_cons_zero, List.set_cons_succ]) | fail)
          refine T_done ?_
          have hF4 := hF2.tr (hf3.tr hf4)
          have hlhF4 := (hv0.fr0 hF4).all
          go_wp2_with (first
            | (refine wpList_ldA ag_val rfl _ rfl ⟨W.heap.size, 0, none⟩ [.int .i64 v.k, .int .i64 v.n] rfl rfl hlhF4 ?_)
            | fail)
          refine (k5 _).mono ?_
          rintro e w5 ⟨rfl, hf5⟩
          have hF5 := hF4.tr hf5
          have hlhF5 := (hx0.fr0 hF5).all
          go_wp2_with (first
            | (refine wpList_ldA ag_obj rfl _ rfl ⟨W.heap.size + 1, 0, none⟩ [.int .i64 o.cls, .slice A0 o.slots.length c0, .slice D0 o.bytes.length d0] rfl rfl hlhF5 ?_)
            | fail)
          refine (k6 _ ((h.fr0 hf0).fr0 hF5)).mono ?_
          rintro e w6 ⟨rfl, hf6⟩
          have hF6 := hF5.tr hf6
          go_wp2_with fail
          refine (known_calls _).mono ?_
          rintro e wz ⟨rfl, hfz⟩
          go_wp2
          go_ret
          exact ⟨rfl, (hf0.tr hF6).tr hfz⟩
        | true =>
          (refine T_begin No [0, 2, 1, 3, 4, 5, 6, 8, 7, 9, 10, 11] [1, 3, 7, 9] (by kernel_rfl) (by kernel_rfl) ?_; simp only [pickOps, List.filterMap_cons, List.filterMap_nil, List.getElem?_cons_zero, List.getElem?_cons_succ, Act.put])
          (refine T_loadA (cs := [.int .i64 v.k, .int .i64 v.n]) ag_val (by rfl) (by rfl) (fun _ _ _ _ h => h) rfl rfl rfl hv0.all (fun hn => hn) ?_; try simp only [Act.put, List.setIfInBounds_toArray, List.set_cons_zero, List.set_cons_succ])
          (refine T_loadA (cs := [.int .i64 v.k, .int .i64 v.n]) ag_val (by rfl) (by rfl) (fun _ _ _ _ h => h) rfl rfl rfl hv0.all (fun hn => hn) ?_; try simp only [Act.put, List.setIfInBounds_toArray, List.set_cons_zero, List.set_cons_succ])
          (refine T_call (by rfl) (by rfl) (fun K hK => ?_); go_wp2_with fail)
          refine (k1 _).mono ?_
          rintro e w1 ⟨rfl, hf1⟩
          (refine hK.out _ _ (hf1) ?_; clear hK K; try simp only [Act.put, List.setIfInBounds_toArray, List.set_cons_zero, List.set_cons_succ])
          (refine T_call (by rfl) (by rfl) (fun K hK => ?_); go_wp2_with fail)
          refine (k2 _).mono ?_
          rintro e w2 ⟨rfl, hf2⟩
          (refine hK.out _ _ (hf2) ?_; clear hK K; try simp only [Act.put, List.setIfInBounds_toArray, List.set_cons_zero, List.set_cons_succ])
          repeat (first | (refine T_skip (by rfl) (by rfl) (fun _ _ _ h => h) ?_; try simp only [Act.put, List.setIfInBounds_toArray, List.set_cons_zero, List.set_cons_succ]) | (refine T_pass (by rfl) (by rfl) ?_; try simp only [Act.put, List.setIfInBounds_toArray, List.set_cons_zero, List.set_cons_succ]) | (refine T_load (by assumption) (by rfl) (by rfl) (fun _ _ _ _ h => h) rfl rfl (by assumption) (by first | exact (fun hn => hn) | assumption) ?_; try simp only [Act.put, List.setIfInBounds_toArray, List.set_cons_zero, List.set_cons_succ]) | (refine T_nil (by rfl) (by rfl) (fun _ _ _ _ h => h) rfl rfl ?_; try simp only [Act.put, List.setIfInBounds_toArray, List.set_cons_zero, List.set_cons_succ]) | (refine T_quietN (by rfl) (by rfl) (by rfl) (by rfl) (fun _ _ _ _ h => h) (fun K hK => ?_); go_big_quiet_op; refine hK _ ?_; clear hK K) | (refine T_two (by rfl) (by rfl) (by rfl) (by rfl) (fun _ _ _ _ h => h) (fun K hK => ?_); go_big_quiet_op; refine ⟨_, fun _ _ => rfl, ?_⟩; refine hK _ ?_; clear hK K; try simp only [Act.put, List.setIfInBounds_toArray, List.set_cons_zero, List.set_cons_succ]) | fail)
          have hF2 : Fr No w0 w2 := ((Fr.refl No w0).drew.tr hf1).tr hf2
          (refine T_loadA (cs := [.int .i64 o.cls, .slice A0 o.slots.length c0, .slice D0 o.bytes.length d0]) ag_obj (by rfl) (by rfl) (fun _ _ _ _ h => h) rfl rfl rfl (hx0.fr0 hF2).all (fun hn => hn) ?_; try simp only [Act.put, List.setIfInBounds_toArray, List.set_cons_zero, List.set_cons_succ])
          (refine T_loadA (cs := [.int .i64 o.cls, .slice A0 o.slots.length c0, .slice D0 o.bytes.length d0]) ag_obj (by rfl) (by rfl) (fun _ _ _ _ h => h) rfl rfl rfl (hx0.fr0 hF2).all (fun hn => hn) ?_; try simp only [Act.put, List.setIfInBounds_toArray, List.set_cons_zero, List.set_cons_succ])
          (refine T_call (by rfl) (by rfl) (fun K hK => ?_); go_wp2_with fail)
          refine (k3 _ ((h.fr0 hf0).fr0 hF2)).mono ?_
          rintro e w3 ⟨rfl, hf3⟩
          (refine hK.out _ _ (hf3) ?_; clear hK K; try simp only [Act.put, List.setIfInBounds_toArray, List.set_cons_zero, List.set_cons_succ])
          (refine T_call (by rfl) (by rfl) (fun K hK => ?_); go_wp2_with fail)
          refine (k4 _ (((h.fr0 hf0).fr0 hF2).fr0 hf3)).mono ?_
          rintro e w4 ⟨rfl, hf4⟩
          (refine hK.out _ _ (hf4) ?_; clear hK K; try simp only [Act.put, List.setIfInBounds_toArray, List.set_cons_zero, List.set_cons_succ])
          repeat (first | (refine T_skip (by rfl) (by rfl) (fun _ _ _ h => h) ?_; try simp only [Act.put, List.setIfInBounds_toArray, List.set_cons_zero, List.set_cons_succ]) | (refine T_pass (by rfl) (by rfl) ?_; try simp only [Act.put, List.setIfInBounds_toArray, List.set_cons_zero, List.set_cons_succ]) | (refine T_load (by assumption) (by rfl) (by rfl) (fun _ _ _ _ h => h) rfl rfl (by assumption) (by first | exact (fun hn => hn) | assumption) ?_; try simp only [Act.put, List.setIfInBounds_toArray, List.set_cons_zero, List.set_cons_succ]) | (refine T_nil (by rfl) (by rfl) (fun _ _ _ _ h => h) rfl rfl ?_; try simp only [Act.put, List.setIfInBounds_toArray, List.set_cons_zero, List.set_cons_succ]) | (refine T_quietN (by rfl) (by rfl) (by rfl) (by rfl) (fun _ _ _ _ h => h) (fun K hK => ?_); go_big_quiet_op; refine hK _ ?_; clear hK K) | (refine T_two (by rfl) (by rfl) (by rfl) (by rfl) (fun _ _ _ _ h => h) (fun K hK => ?_); go_big_quiet_op; refine ⟨_, fun _ _ => rfl, ?_⟩; refine hK _ ?_; clear hK K; try simp only [Act.put, List.setIfInBounds_toArray, List.set_cons_zero, List.set_cons_succ]) | fail)
          refine T_done ?_
          have hF4 := hF2.tr (hf3.tr hf4)
          have hlhF4 := (hv0.fr0 hF4).all
          go_wp2_with (first
            | (refine wpList_ldA ag_val rfl _ rfl ⟨W.heap.size, 0, none⟩ [.int .i64 v.k, .int .i64 v.n] rfl rfl hlhF4 ?_)
            | fail)
          refine (k5 _).mono ?_
          rintro e w5 ⟨rfl, hf5⟩
          have hF5 := hF4.tr hf5
          have hlhF5 := (hx0.fr0 hF5).all
          go_wp2_with (first
            | (refine wpList_ldA ag_obj rfl _ rfl ⟨W.heap.size + 1, 0, none⟩ [.int .i64 o.cls, .slice A0 o.slots.length c0, .slice D0 o.bytes.length d0] rfl rfl hlhF5 ?_)
            | fail)
          refine (k6 _ ((h.fr0 hf0).fr0 hF5)).mono ?_
          rintro e w6 ⟨rfl, hf6⟩
          have hF6 := hF5.tr hf6
          have hlhF6 := (hx0.fr0 hF6).all
          go_wp2_with (first
            | (refine wpList_ldA ag_obj rfl _ rfl ⟨W.heap.size + 1, 0, none⟩ [.int .i64 o.cls, .slice A0 o.slots.length c0, .slice D0 o.bytes.length d0] rfl rfl hlhF6 ?_)
            | fail)
          refine (k3 _ ((h.fr0 hf0).fr0 hF6)).mono ?_
          rintro e w7 ⟨rfl, hf7⟩
          have hF7 := hF6.tr hf7
          go_wp2_with fail
          refine (known_calls _).mono ?_
          rintro e wz ⟨rfl, hfz⟩
          go_wp2
          go_ret
          exact ⟨rfl, (hf0.tr hF7).tr hfz⟩
    | true =>
      cases b with
      | false =>
        cases d with
        | false =>
          exact absurd (H1 rfl) (by decide)
        | true =>
          exact absurd (H1 rfl) (by decide)
      | true =>
        cases d with
        | false =>
          exact absurd (H1 rfl) (by decide)
        | true =>
          exact absurd (H1 rfl) (by decide)
  | true =>
    cases c with
    | false =>
      cases b with
      | false =>
        cases d with
        | false =>
          (refine T_begin No [0, 2, 1, 3, 4, 5, 6, 8, 7, 9, 10, 11] [1, 3, 7, 9] (by kernel_rfl) (by kernel_rfl) ?_; simp only [pickOps, List.filterMap_cons, List.filterMap_nil, List.getElem?_cons_zero, List.getElem?_cons_succ, Act.put])
          (refine T_loadA (cs := [.int .i64 v.k, .int .i64 v.n]) ag_val (by rfl) (by rfl) (fun _ _ _ _ h => h) rfl rfl rfl hv0.all (fun hn => hn) ?_; try simp only [Act.put, List.setIfInBounds_toArray, List.set_cons_zero, List.set_cons_succ])
          (refine T_loadA (cs := [.int .i64 v.k, .int .i64 v.n]) ag_val (by rfl) (by rfl) (fun _ _ _ _ h => h) rfl rfl rfl hv0.all (fun hn => hn) ?_; try simp only [Act.put, List.setIfInBounds_toArray, List.set_cons_zero, List.set_cons_succ])
          (refine T_call (by rfl) (by rfl) (fun K hK => ?_); go_wp2_with fail)
          refine (k1 _).mono ?_
          rintro e w1 ⟨rfl, hf1⟩
          (refine hK.out _ _ (hf1) ?_; clear hK K; try simp only [Act.put, List.setIfInBounds_toArray, List.set_cons_zero, List.set_cons_succ])
          (refine T_call (by rfl) (by rfl) (fun K hK => ?_); go_wp2_with fail)
          refine (k2 _).mono ?_
          rintro e w2 ⟨rfl, hf2⟩
          (refine hK.out _ _ (hf2) ?_; clear hK K; try simp only [Act.put, List.setIfInBounds_toArray, List.set_cons_zero, List.set_cons_succ])
          repeat (first | (refine T_skip (by rfl) (by rfl) (fun _ _ _ h => h) ?_; try simp only [Act.put, List.setIfInBounds_toArray, List.set_cons_zero, List.set_cons_succ]) | (refine T_pass (by rfl) (by rfl) ?_; try simp only [Act.put, List.setIfInBounds_toArray, List.set_cons_zero, List.set_cons_succ]) | (refine T_load (by assumption) (by rfl) (by rfl) (fun _ _ _ _ h => h) rfl rfl (by assumption) (by first | exact (fun hn => hn) | assumption) ?_; try simp only [Act.put, List.setIfInBounds_toArray, List.set_cons_zero, List.set_cons_succ]) | (refine T_nil (by rfl) (by rfl) (fun _ _ _ _ h => h) rfl rfl ?_; try simp only [Act.put, List.setIfInBounds_toArray, List.set_cons_zero, List.set_cons_succ]) | (refine T_quietN (by rfl) (by rfl) (by rfl) (by rfl) (fun _ _ _ _ h => h) (fun K hK => ?_); go_big_quiet_op; refine hK _ ?_; clear hK K) | (refine T_two (by rfl) (by rfl) (by rfl) (by rfl) (fun _ _ _ _ h => h) (fun K hK => ?_); go_big_quiet_op; refine ⟨_, fun _ _ => rfl, ?_⟩; refine hK _ ?_; clear hK K; try simp only [Act.put, List.setIfInBounds_toArray, List.set_cons_zero, List.set_cons_succ]) | fail)
          have hF2 : Fr No w0 w2 := ((Fr.refl No w0).drew.tr hf1).tr hf2
          (refine T_loadA (cs := [.int .i64 o.cls, .slice A0 o.slots.length c0, .slice D0 o.bytes.length d0]) ag_obj (by rfl) (by rfl) (fun _ _ _ _ h => h) rfl rfl rfl (hx0.fr0 hF2).all (fun hn => hn) ?_; try simp only [Act.put, List.setIfInBounds_toArray, List.set_cons_zero, List.set_cons_succ])
          (refine T_loadA (cs := [.int .i64 o.cls, .slice A0 o.slots.length c0, .slice D0 o.bytes.length d0]) ag_obj (by rfl) (by rfl) (fun _ _ _ _ h => h) rfl rfl rfl (hx0.fr0 hF2).all (fun hn => hn) ?_; try simp only [Act.put, List.setIfInBounds_toArray, List.set_cons_zero, List.set_cons_succ])
          (refine T_call (by rfl) (by rfl) (fun K hK => ?_); go_wp2_with fail)
          refine (k3 _ ((h.fr0 hf0).fr0 hF2)).mono ?_
          rintro e w3 ⟨rfl, hf3⟩
          (refine hK.out _ _ (hf3) ?_; clear hK K; try simp only [Act.put, List.setIfInBounds_toArray, List.set_cons_zero, List.set_cons_succ])
          (refine T_call (by rfl) (by rfl) (fun K hK => ?_); go_wp2_with fail)
          refine (k4 _ (((h.fr0 hf0).fr0 hF2).fr0 hf3)).mono ?_
          rintro e w4 ⟨rfl, hf4⟩
          (refine hK.out _ _ (hf4) ?_; clear hK K; try simp only [Act.put, List.setIfInBounds_toArray, List.set_cons_zero, List.set_cons_succ])
          repeat (first | (refine T_skip (by rfl) (by rfl) (fun _ _ _ h => h) ?_; try simp only [Act.put, List.setIfInBounds_toArray, List.set_cons_zero, List.set_cons_succ]) | (refine T_pass (by rfl) (by rfl) ?_; try simp only [Act.put, List.setIfInBounds_toArray, List.set_cons_zero, List.set_cons_succ]) | (refine T_load (by assumption) (by rfl) (by rfl) (fun _ _ _ _ h => h) rfl rfl (by assumption) (by first | exact (fun hn => hn) | assumption) ?_; try simp only [Act.put, List.setIfInBounds_toArray, List.set_cons_zero, List.set_cons_succ]) | (refine T_nil (by rfl) (by rfl) (fun _ _ _ _ h => h) rfl rfl ?_; try simp only [Act.put, List.setIfInBounds_toArray, List.set_cons_zero, List.set_cons_succ]) | (refine T_quietN (by rfl) (by rfl) (by rfl) (by rfl) (fun _ _ _ _ h => h) (fun K hK => ?_); go_big_quiet_op; refine hK _ ?_; clear hK K) | (refine T_two (by rfl) (by rfl) (by rfl) (by rfl) (fun _ _ _ _ h => h) (fun K hK => ?_); go_big_quiet_op; refine ⟨_, fun _ _ => rfl, ?_⟩; refine hK _ ?_; clear hK K; try simp only [Act.put, List.setIfInBounds_toArray, List.set_cons_zero, List.set_cons_succ]) | fail)
          refine T_done ?_
          have hF4 := hF2.tr (hf3.tr hf4)
          have hlhF4 := (hv0.fr0 hF4).all
          go_wp2_with (first
            | (refine wpList_ldA ag_val rfl _ rfl ⟨W.heap.size, 0, none⟩ [.int .i64 v.k, .int .i64 v.n] rfl rfl hlhF4 ?_)
            | fail)
          refine (k5 _).mono ?_
          rintro e w5 ⟨rfl, hf5⟩
          have hF5 := hF4.tr hf5
          have hlhF5 := (hx0.fr0 hF5).all
          go_wp2_with (first
            | (refine wpList_ldA ag_obj rfl _ rfl ⟨W.heap.size + 1, 0, none⟩ [.int .i64 o.cls, .slice A0 o.slots.length c0, .slice D0 o.bytes.length d0] rfl rfl hlhF5 ?_)
            | fail)
          refine (k6 _ ((h.fr0 hf0).fr0 hF5)).mono ?_
          rintro e w6 ⟨rfl, hf6⟩
          have hF6 := hF5.tr hf6
          go_wp2_with fail
          refine (known_calls _).mono ?_
          rintro e wz ⟨rfl, hfz⟩
          go_wp2
          go_ret
          exact ⟨rfl, (hf0.tr hF6).tr hfz⟩
        | true =>
          exact absurd (H2 rfl) (by decide)
      | true =>
        cases d with
        | false =>
          (refine T_begin No [0, 2, 1, 3, 4, 5, 6, 8, 7, 9, 10, 11] [1, 3, 7, 9] (by kernel_rfl) (by kernel_rfl) ?_; simp only [pickOps, List.filterMap_cons, List.filterMap_nil, List.getElem?_cons_zero, List.getElem?_cons_succ, Act.put])
          (refine T_loadA (cs := [.int .i64 v.k, .int .i64 v.n]) ag_val (by rfl) (by rfl) (fun _ _ _ _ h => h) rfl rfl rfl hv0.all (fun hn => hn) ?_; try simp only [Act.put, List.setIfInBounds_toArray, List.set_cons_zero, List.set_cons_succ])
          (refine T_loadA (cs := [.int .i64 v.k, .int .i64 v.n]) ag_val (by rfl) (by rfl) (fun _ _ _ _ h => h) rfl rfl rfl hv0.all (fun hn => hn) ?_; try simp only [Act.put, List.setIfInBounds_toArray, List.set_cons_zero, List.set_cons_succ])
          (refine T_call (by rfl) (by rfl) (fun K hK => ?_); go_wp2_with fail)
          refine (k1 _).mono ?_
          rintro e w1 ⟨rfl, hf1⟩
          (refine hK.out _ _ (hf1) ?_; clear hK K; try simp only [Act.put, List.setIfInBounds_toArray, List.set_cons_zero, List.set_cons_succ])
          (refine T_call (by rfl) (by rfl) (fun K hK => ?_); go_wp2_with fail)
          refine (k2 _).mono ?_
          rintro e w2 ⟨rfl, hf2⟩
          (refine hK.out _ _ (hf2) ?_; clear hK K; try simp only [Act.put, List.setIfInBounds_toArray, List.set_cons_zero, List.set_cons_succ])
          repeat (first | (refine T_skip (by rfl) (by rfl) (fun _ _ _ h => h) ?_; try simp only [Act.put, List.setIfInBounds_toArray, List.set_cons_zero, List.set_cons_succ]) | (refine T_pass (by rfl) (by rfl) ?_; try simp only [Act.put, List.setIfInBounds_toArray, List.set_cons_zero, List.set_cons_succ]) | (refine T_load (by assumption) (by rfl) (by rfl) (fun _ _ _ _ h => h) rfl rfl (by assumption) (by first | exact (fun hn => hn) | assumption) ?_; try simp only [Act.put, List.setIfInBounds_toArray, List.set_cons_zero, List.set_cons_succ]) | (refine T_nil (by rfl) (by rfl) (fun _ _ _ _ h => h) rfl rfl ?_; try simp only [Act.put, List.setIfInBounds_toArray, List.set_cons_zero, List.set_cons_succ]) | (refine T_quietN (by rfl) (by rfl) (by rfl) (by rfl) (fun _ _ _ _ h => h) (fun K hK => ?_); go_big_quiet_op; refine hK _ ?_; clear hK K) | (refine T_two (by rfl) (by rfl) (by rfl) (by rfl) (fun _ _ _ _ h => h) (fun K hK => ?_); go_big_quiet_op; refine ⟨_, fun _ _ => rfl, ?_⟩; refine hK _ ?_; clear hK K; try simp only [Act.put, List.setIfInBounds_toArray, List.set_cons_zero, List.set_cons_succ]) | fail)
          have hF2 : Fr No w0 w2 := ((Fr.refl No w0).drew.tr hf1).tr hf2
          (refine T_loadA (cs := [.int .i64 o.cls, .slice A0 o.slots.length c0, .slice D0 o.bytes.length d0]) ag_obj (by rfl) (by rfl) (fun _ _ _ _ h => h) rfl rfl rfl (hx0.fr0 hF2).all (fun hn => hn) ?_; try simp only [Act.put, List.setIfInBounds_toArray, List.set_cons_zero, List.set_cons_succ])
          (refine T_loadA (cs := [.int .i64 o.cls, .slice A0 o.slots.length c0, .slice D0 o.bytes.length d0]) ag_obj (by rfl) (by rfl) (fun _ _ _ _ h => h) rfl rfl rfl (hx0.fr0 hF2).all (fun hn => hn) ?_; try simp only [Act.put, List.setIfInBounds_toArray, List.set_cons_zero, List.set_cons_succ])
          (refine T_call (by rfl) (by rfl) (fun K hK => ?_); go_wp2_with fail)
          refine (k3 _ ((h.fr0 hf0).fr0 hF2)).mono ?_
          rintro e w3 ⟨rfl, hf3⟩
          (refine hK.out _ _ (hf3) ?_; clear hK K; try simp only [Act.put, List.setIfInBounds_toArray, List.set_cons_zero, List.set_cons_succ])
          (refine T_call (by rfl) (by rfl) (fun K hK => ?_); go_wp2_with fail)
          refine (k4 _ (((h.fr0 hf0).fr0 hF2).fr0 hf3)).mono ?_
          rintro e w4 ⟨rfl, hf4⟩
          (refine hK.out _ _ (hf4) ?_; clear hK K; try simp only [Act.put, List.setIfInBounds_toArray, List.set_cons_zero, List.set_cons_succ])
          repeat (first | (refine T_skip (by rfl) (by rfl) (fun _ _ _ h => h) ?_; try simp only [Act.put, List.setIfInBounds_toArray, List.set_cons_zero, List.set_cons_succ]) | (refine T_pass (by rfl) (by rfl) ?_; try simp only [Act.put, List.setIfInBounds_toArray, List.set_cons_zero, List.set_cons_succ]) | (refine T_load (by assumption) (by rfl) (by rfl) (fun _ _ _ _ h => h) rfl rfl (by assumption) (by first | exact (fun hn => hn) | assumption) ?_; try simp only [Act.put, List.setIfInBounds_toArray, List.set_cons_zero, List.set_cons_succ]) | (refine T_nil (by rfl) (by rfl) (fun _ _ _ _ h => h) rfl rfl ?_; try simp only [Act.put, List.setIfInBounds_toArray, List.set_cons_zero, List.set_cons_succ]) | (refine T_quietN (by rfl) (by rfl) (by rfl) (by rfl) (fun _ _ _ _ h => h) (fun K hK => ?_); go_big_quiet_op; refine hK _ ?_; clear hK K) | (refine T_two (by rfl) (by rfl) (by rfl) (by rfl) (fun _ _ _ _ h => h) (fun K hK => ?_); go_big_quiet_op; refine ⟨_, fun _ _ => rfl, ?_⟩; refine hK _ ?_; clear hK K; try simp only [Act.put, List.setIfInBounds_toArray, List.set_cons_zero, List.set_cons_succ]) | fail)
          refine T_done ?_
          have hF4 := hF2.tr (hf3.tr hf4)
          have hlhF4 := (hv0.fr0 hF4).all
          go_wp2_with (first
            | (refine wpList_ldA ag_val rfl _ rfl ⟨W.heap.size, 0, none⟩ [.int .i64 v.k, .int .i64 v.n] rfl rfl hlhF4 ?_)
            | fail)
          refine (k5 _).mono ?_
          rintro e w5 ⟨rfl, hf5⟩
          have hF5 := hF4.tr hf5
          have hlhF5 := (hx0.fr0 hF5).all
          go_wp2_with (first
            | (refine wpList_ldA ag_obj rfl _ rfl ⟨W.heap.size + 1, 0, none⟩ [.int .i64 o.cls, .slice A0 o.slots.length c0, .slice D0 o.bytes.length d0] rfl rfl hlhF5 ?_)
            | fail)
          refine (k6 _ ((h.fr0 hf0).fr0 hF5)).mono ?_
          rintro e w6 ⟨rfl, hf6⟩
          have hF6 := hF5.tr hf6
          go_wp2_with fail
          refine (known_calls _).mono ?_
          rintro e wz ⟨rfl, hfz⟩
          go_wp2
          go_ret
          exact ⟨rfl, (hf0.tr hF6).tr hfz⟩
        | true =>
          (refine T_begin No [0, 2, 1, 3, 4, 5, 6, 8, 7, 9, 10, 11] [1, 3, 7, 9] (by kernel_rfl) (by kernel_rfl) ?_; simp only [pickOps, List.filterMap_cons, List.filterMap_nil, List.getElem?_cons_zero, List.getElem?_cons_succ, Act.put])
          (refine T_loadA (cs := [.int .i64 v.k, .int .i64 v.n]) ag_val (by rfl) (by rfl) (fun _ _ _ _ h => h) rfl rfl rfl hv0.all (fun hn => hn) ?_; try simp only [Act.put, List.setIfInBounds_toArray, List.set_cons_zero, List.set_cons_succ])
          (refine T_loadA (cs := [.int .i64 v.k, .int .i64 v.n]) ag_val (by rfl) (by rfl) (fun _ _ _ _ h => h) rfl rfl rfl hv0.all (fun hn => hn) ?_; try simp only [Act.put, List.setIfInBounds_toArray, List.set_cons_zero, List.set_cons_succ])
          (refine T_call (by rfl) (by rfl) (fun K hK => ?_); go_wp2_with fail)
          refine (k1 _).mono ?_
          rintro e w1 ⟨rfl, hf1⟩
          (refine hK.out _ _ (hf1) ?_; clear hK K; try simp only [Act.put, List.setIfInBounds_toArray, List.set_cons_zero, List.set_cons_succ])
          (refine T_call (by rfl) (by rfl) (fun K hK => ?_); go_wp2_with fail)
          refine (k2 _).mono ?_
          rintro e w2 ⟨rfl, hf2⟩
          (refine hK.out _ _ (hf2) ?_; clear hK K; try simp only [Act.put, List.setIfInBounds_toArray, List.set_cons_zero, List.set_cons_succ])
          repeat (first | (refine T_skip (by rfl) (by rfl) (fun _ _ _ h => h) ?_; try simp only [Act.put, List.setIfInBounds_toArray, List.set_cons_zero, List.set_cons_succ]) | (refine T_pass (by rfl) (by rfl) ?_; try simp only [Act.put, List.setIfInBounds_toArray, List.set_cons_zero, List.set_cons_succ]) | (refine T_load (by assumption) (by rfl) (by rfl) (fun _ _ _ _ h => h) rfl rfl (by assumption) (by first | exact (fun hn => hn) | assumption) ?_; try simp only [Act.put, List.setIfInBounds_toArray, List.set_cons_zero, List.set_cons_succ]) | (refine T_nil (by rfl) (by rfl) (fun _ _ _ _ h => h) rfl rfl ?_; try simp only [Act.put, List.setIfInBounds_toArray, List.set_cons_zero, List.set_cons_succ]) | (refine T_quietN (by rfl) (by rfl) (by rfl) (by rfl) (fun _ _ _ _ h => h) (fun K hK => ?_); go_big_quiet_op; refine hK _ ?_; clear hK K) | (refine T_two (by rfl) (by rfl) (by rfl) (by rfl) (fun _ _ _ _ h => h) (fun K hK => ?_); go_big_quiet_op; refine ⟨_, fun _ _ => rfl, ?_⟩; refine hK _ ?_; clear hK K; try simp only [Act.put, List.setIfInBounds_toArray, List.set_cons_zero, List.set_cons_succ]) | fail)
          have hF2 : Fr No w0 w2 := ((Fr.refl No w0).drew.tr hf1).tr hf2
          (refine T_loadA (cs := [.int .i64 o.cls, .slice A0 o.slots.length c0, .slice D0 o.bytes.length d0]) ag_obj (by rfl) (by rfl) (fun _ _ _ _ h => h) rfl rfl rfl (hx0.fr0 hF2).all (fun hn => hn) ?_; try simp only [Act.put, List.setIfInBounds_toArray, List.set_cons_zero, List.set_cons_succ])
          (refine T_loadA (cs := [.int .i64 o.cls, .slice A0 o.slots.length c0, .slice D0 o.bytes.length d0]) ag_obj (by rfl) (by rfl) (fun _ _ _ _ h => h) rfl rfl rfl (hx0.fr0 hF2).all (fun hn => hn) ?_; try simp only [Act.put, List.setIfInBounds_toArray, List.set_cons_zero, List.set_cons_succ])
          (refine T_call (by rfl) (by rfl) (fun K hK => ?_); go_wp2_with fail)
          refine (k3 _ ((h.fr0 hf0).fr0 hF2)).mono ?_
          rintro e w3 ⟨rfl, hf3⟩
          (refine hK.out _ _ (hf3) ?_; clear hK K; try simp only [Act.put, List.setIfInBounds_toArray, List.set_cons_zero, List.set_cons_succ])
          (refine T_call (by rfl) (by rfl) (fun K hK => ?_); go_wp2_with fail)
          refine (k4 _ (((h.fr0 hf0).fr0 hF2).fr0 hf3)).mono ?_
          rintro e w4 ⟨rfl, hf4⟩
          (refine hK.out _ _ (hf4) ?_; clear hK K; try simp only [Act.put, List.setIfInBounds_toArray, List.set_cons_zero, List.set_cons_succ])
          repeat (first | (refine T_skip (by rfl) (by rfl) (fun _ _ _ h => h) ?_; try simp only [Act.put, List.setIfInBounds_toArray, List.set_cons_zero, List.set_cons_succ]) | (refine T_pass (by rfl) (by rfl) ?_; try simp only [Act.put, List.setIfInBounds_toArray, List.set_cons_zero, List.set_cons_succ]) | (refine T_load (by assumption) (by rfl) (by rfl) (fun _ _ _ _ h => h) rfl rfl (by assumption) (by first | exact (fun hn => hn) | assumption) ?_; try simp only [Act.put, List.setIfInBounds_toArray, List.set_cons_zero, List.set_cons_succ]) | (refine T_nil (by rfl) (by rfl) (fun _ _ _ _ h => h) rfl rfl ?_; try simp only [Act.put, List.setIfInBounds_toArray, List.set_cons_zero, List.set_cons_succ]) | (refine T_quietN (by rfl) (by rfl) (by rfl) (by rfl) (fun _ _ _ _ h => h) (fun K hK => ?_); go_big_quiet_op; refine hK _ ?_; clear hK K) | (refine T_two (by rfl) (by rfl) (by rfl) (by rfl) (fun _ _ _ _ h => h) (fun K hK => ?_); go_big_quiet_op; refine ⟨_, fun _ _ => rfl, ?_⟩; refine hK _ ?_; clear hK K; try simp only [Act.put, List.setIfInBounds_toArray, List.set_cons_zero, List.set_cons_succ]) | fail)
          refine T_done ?_
          have hF4 := hF2.tr (hf3.tr hf4)
          have hlhF4 := (hv0.fr0 hF4).all
          go_wp2_with (first
            | (refine wpList_ldA ag_val rfl _ rfl ⟨W.heap.size, 0, none⟩ [.int .i64 v.k, .int .i64 v.n] rfl rfl hlhF4 ?_)
            | fail)
          refine (k5 _).mono ?_
          rintro e w5 ⟨rfl, hf5⟩
          have hF5 := hF4.tr hf5
          have hlhF5 := (hx0.fr0 hF5).all
          go_wp2_with (first
            | (refine wpList_ldA ag_obj rfl _ rfl ⟨W.heap.size + 1, 0, none⟩ [.int .i64 o.cls, .slice A0 o.slots.length c0, .slice D0 o.bytes.length d0] rfl rfl hlhF5 ?_)
            | fail)
          refine (k6 _ ((h.fr0 hf0).fr0 hF5)).mono ?_
          rintro e w6 ⟨rfl, hf6⟩
          have hF6 := hF5.tr hf6
          have hlhF6 := (hx0.fr0 hF6).all
          go_wp2_with (first
            | (refine wpList_ldA ag_obj rfl _ rfl ⟨W.heap.size + 1, 0, none⟩ [.int .i64 o.cls, .slice A0 o.slots.length c0, .slice D0 o.bytes.length d0] rfl rfl hlhF6 ?_)
            | fail)
          refine (k3 _ ((h.fr0 hf0).fr0 hF6)).mono ?_
          rintro e w7 ⟨rfl, hf7⟩
          have hF7 := hF6.tr hf7
          go_wp2_with fail
          refine (known_calls _).mono ?_
          rintro e wz ⟨rfl, hfz⟩
          go_wp2
          go_ret
          exact ⟨rfl, (hf0.tr hF7).tr hfz⟩
    | true =>
      cases b with
      | false =>
        cases d with
        | false =>
          (refine T_begin No [0, 2, 1, 3, 4, 5, 6, 8, 7, 9, 10, 11] [1, 3, 7, 9] (by kernel_rfl) (by kernel_rfl) ?_; simp only [pickOps, List.filterMap_cons, List.filterMap_nil, List.getElem?_cons_zero, List.getElem?_cons_succ, Act.put])
          (refine T_loadA (cs := [.int .i64 v.k, .int .i64 v.n]) ag_val (by rfl) (by rfl) (fun _ _ _ _ h => h) rfl rfl rfl hv0.all (fun hn => hn) ?_; try simp only [Act.put, List.setIfInBounds_toArray, List.set_cons_zero, List.set_cons_succ])
          (refine T_loadA (cs := [.int .i64 v.k, .int .i64 v.n]) ag_val (by rfl) (by rfl) (fun _ _ _ _ h => h) rfl rfl rfl hv0.all (fun hn => hn) ?_; try simp only [Act.put, List.setIfInBounds_toArray, List.set_cons_zero, List.set_cons_succ])
          (refine T_call (by rfl) (by rfl) (fun K hK => ?_); go_wp2_with fail)
          refine (k1 _).mono ?_
          rintro e w1 ⟨rfl, hf1⟩
          (refine hK.out _ _ (hf1) ?_; clear hK K; try simp only [Act.put, List.setIfInBounds_toArray, List.set_cons_zero, List.set_cons_succ])
          (refine T_call (by rfl) (by rfl) (fun K hK => ?_); go_wp2_with fail)
          refine (k2 _).mono ?_
          rintro e w2 ⟨rfl, hf2⟩
          (refine hK.out _ _ (hf2) ?_; clear hK K; try simp only [Act.put, List.setIfInBounds_toArray, List.set_cons_zero, List.set_cons_succ])
          repeat (first | (refine T_skip (by rfl) (by rfl) (fun _ _ _ h => h) ?_; try simp only [Act.put, List.setIfInBounds_toArray, List.set_cons_zero, List.set_cons_succ]) | (refine T_pass (by rfl) (by rfl) ?_; try simp only [Act.put, List.setIfInBounds_toArray, List.set_cons_zero, List.set_cons_succ]) | (refine T_load (by assumption) (by rfl) (by rfl) (fun _ _ _ _ h => h) rfl rfl (by assumption) (by first | exact (fun hn => hn) | assumption) ?_; try simp only [Act.put, List.setIfInBounds_toArray, List.set_cons_zero, List.set_cons_succ]) | (refine T_nil (by rfl) (by rfl) (fun _ _ _ _ h => h) rfl rfl ?_; try simp only [Act.put, List.setIfInBounds_toArray, List.set_cons_zero, List.set_cons_succ]) | (refine T_quietN (by rfl) (by rfl) (by rfl) (by rfl) (fun _ _ _ _ h => h) (fun K hK => ?_); go_big_quiet_op; refine hK _ ?_; clear hK K) | (refine T_two (by rfl) (by rfl) (by rfl) (by rfl) (fun _ _ _ _ h => h) (fun K hK => ?_); go_big_quiet_op; refine ⟨_, fun _ _ => rfl, ?_⟩; refine hK _ ?_; clear hK K; try simp only [Act.put, List.setIfInBounds_toArray, List.set_cons_zero, List.set_cons_succ]) | fail)
          have hF2 : Fr No w0 w2 := ((Fr.refl No w0).drew.tr hf1).tr hf2
          (refine T_loadA (cs := [.int .i64 o.cls, .slice A0 o.slots.length c0, .slice D0 o.bytes.length d0]) ag_obj (by rfl) (by rfl) (fun _ _ _ _ h => h) rfl rfl rfl (hx0.fr0 hF2).all (fun hn => hn) ?_; try simp only [Act.put, List.setIfInBounds_toArray, List.set_cons_zero, List.set_cons_succ])
          (refine T_loadA (cs := [.int .i64 o.cls, .slice A0 o.slots.length c0, .slice D0 o.bytes.length d0]) ag_obj (by rfl) (by rfl) (fun _ _ _ _ h => h) rfl rfl rfl (hx0.fr0 hF2).all (fun hn => hn) ?_; try simp only [Act.put, List.setIfInBounds_toArray, List.set_cons_zero, List.set_cons_succ])
          (refine T_call (by rfl) (by rfl) (fun K hK => ?_); go_wp2_with fail)
          refine (k3 _ ((h.fr0 hf0).fr0 hF2)).mono ?_
          rintro e w3 ⟨rfl, hf3⟩
          (refine hK.out _ _ (hf3) ?_; clear hK K; try simp only [Act.put, List.setIfInBounds_toArray, List.set_cons_zero, List.set_cons_succ])
          (refine T_call (by rfl) (by rfl) (fun K hK => ?_); go_wp2_with fail)
          refine (k4 _ (((h.fr0 hf0).fr0 hF2).fr0 hf3)).mono ?_
          rintro e w4 ⟨rfl, hf4⟩
          (refine hK.out _ _ (hf4) ?_; clear hK K; try simp only [Act.put, List.setIfInBounds_toArray, List.set_cons_zero, List.set_cons_succ])
          repeat (first | (refine T_skip (by rfl) (by rfl) (fun _ _ _ h => h) ?_; try simp only [Act.put, List.setIfInBounds_toArray, List.set_cons_zero, List.set_cons_succ]) | (refine T_pass (by rfl) (by rfl) ?_; try simp only [Act.put, List.setIfInBounds_toArray, List.set_cons_zero, List.set_cons_succ]) | (refine T_load (by assumption) (by rfl) (by rfl) (fun _ _ _ _ h => h) rfl rfl (by assumption) (by first | exact (fun hn => hn) | assumption) ?_; try simp only [Act.put, List.setIfInBounds_toArray, List.set_cons_zero, List.set_cons_succ]) | (refine T_nil (by rfl) (by rfl) (fun _ _ _ _ h => h) rfl rfl ?_; try simp only [Act.put, List.setIfInBounds_toArray, List.set_cons_zero, List.set_cons_succ]) | (refine T_quietN (by rfl) (by rfl) (by rfl) (by rfl) (fun _ _ _ _ h => h) (fun K hK => ?_); go_big_quiet_op; refine hK _ ?_; clear hK K) | (refine T_two (by rfl) (by rfl) (by rfl) (by rfl) (fun _ _ _ _ h => h) (fun K hK => ?_); go_big_quiet_op; refine ⟨_, fun _ _ => rfl, ?_⟩; refine hK _ ?_; clear hK K; try simp only [Act.put, List.setIfInBounds_toArray, List.set_cons_zero, List.set_cons_succ]) | fail)
          refine T_done ?_
          have hF4 := hF2.tr (hf3.tr hf4)
          have hlhF4 := (hv0.fr0 hF4).all
          go_wp2_with (first
            | (refine wpList_ldA ag_val rfl _ rfl ⟨W.heap.size, 0, none⟩ [.int .i64 v.k, .int .i64 v.n] rfl rfl hlhF4 ?_)
            | fail)
          refine (k5 _).mono ?_
          rintro e w5 ⟨rfl, hf5⟩
          have hF5 := hF4.tr hf5
          have hlhF5 := (hv0.fr0 hF5).all
          go_wp2_with (first
            | (refine wpList_ldA ag_val rfl _ rfl ⟨W.heap.size, 0, none⟩ [.int .i64 v.k, .int .i64 v.n] rfl rfl hlhF5 ?_)
            | fail)
          refine (k1 _).mono ?_
          rintro e w6 ⟨rfl, hf6⟩
          have hF6 := hF5.tr hf6
          have hlhF6 := (hx0.fr0 hF6).all
          go_wp2_with (first
            | (refine wpList_ldA ag_obj rfl _ rfl ⟨W.heap.size + 1, 0, none⟩ [.int .i64 o.cls, .slice A0 o.slots.length c0, .slice D0 o.bytes.length d0] rfl rfl hlhF6 ?_)
            | fail)
          refine (k6 _ ((h.fr0 hf0).fr0 hF6)).mono ?_
          rintro e w7 ⟨rfl, hf7⟩
          have hF7 := hF6.tr hf7
          go_wp2_with fail
          refine (known_calls _).mono ?_
          rintro e wz ⟨rfl, hfz⟩
          go_wp2
          go_ret
          exact ⟨rfl, (hf0.tr hF7).tr hfz⟩
        | true =>
          exact absurd (H2 rfl) (by decide)
      | true =>
        cases d with
        | false =>
          (refine T_begin No [0, 2, 1, 3, 4, 5, 6, 8, 7, 9, 10, 11] [1, 3, 7, 9] (by kernel_rfl) (by kernel_rfl) ?_; simp only [pickOps, List.filterMap_cons, List.filterMap_nil, List.getElem?_cons_zero, List.getElem?_cons_succ, Act.put])
          (refine T_loadA (cs := [.int .i64 v.k, .int .i64 v.n]) ag_val (by rfl) (by rfl) (fun _ _ _ _ h => h) rfl rfl rfl hv0.all (fun hn => hn) ?_; try simp only [Act.put, List.setIfInBounds_toArray, List.set_cons_zero, List.set_cons_succ])
          (refine T_loadA (cs := [.int .i64 v.k, .int .i64 v.n]) ag_val (by rfl) (by rfl) (fun _ _ _ _ h => h) rfl rfl rfl hv0.all (fun hn => hn) ?_; try simp only [Act.put, List.setIfInBounds_toArray, List.set_cons_zero, List.set_cons_succ])
          (refine T_call (by rfl) (by rfl) (fun K hK => ?_); go_wp2_with fail)
          refine (k1 _).mono ?_
          rintro e w1 ⟨rfl, hf1⟩
          (refine hK.out _ _ (hf1) ?_; clear hK K; try simp only [Act.put, List.setIfInBounds_toArray, List.set_cons_zero, List.set_cons_succ])
          (refine T_call (by rfl) (by rfl) (fun K hK => ?_); go_wp2_with fail)
          refine (k2 _).mono ?_
          rintro e w2 ⟨rfl, hf2⟩
          (refine hK.out _ _ (hf2) ?_; clear hK K; try simp only [Act.put, List.setIfInBounds_toArray, List.set_cons_zero, List.set_cons_succ])
          repeat (first | (refine T_skip (by rfl) (by rfl) (fun _ _ _ h => h) ?_; try simp only [Act.put, List.setIfInBounds_toArray, List.set_cons_zero, List.set_cons_succ]) | (refine T_pass (by rfl) (by rfl) ?_; try simp only [Act.put, List.setIfInBounds_toArray, List.set_cons_zero, List.set_cons_succ]) | (refine T_load (by assumption) (by rfl) (by rfl) (fun _ _ _ _ h => h) rfl rfl (by assumption) (by first | exact (fun hn => hn) | assumption) ?_; try simp only [Act.put, List.setIfInBounds_toArray, List.set_cons_zero, List.set_cons_succ]) | (refine T_nil (by rfl) (by rfl) (fun _ _ _ _ h => h) rfl rfl ?_; try simp only [Act.put, List.setIfInBounds_toArray, List.set_cons_zero, List.set_cons_succ]) | (refine T_quietN (by rfl) (by rfl) (by rfl) (by rfl) (fun _ _ _ _ h => h) (fun K hK => ?_); go_big_quiet_op; refine hK _ ?_; clear hK K) | (refine T_two (by rfl) (by rfl) (by rfl) (by rfl) (fun _ _ _ _ h => h) (fun K hK => ?_); go_big_quiet_op; refine ⟨_, fun _ _ => rfl, ?_⟩; refine hK _ ?_; clear hK K; try simp only [Act.put, List.setIfInBounds_toArray, List.set_cons_zero, List.set_cons_succ]) | fail)
          have hF2 : Fr No w0 w2 := ((Fr.refl No w0).drew.tr hf1).tr hf2
          (refine T_loadA (cs := [.int .i64 o.cls, .slice A0 o.slots.length c0, .slice D0 o.bytes.length d0]) ag_obj (by rfl) (by rfl) (fun _ _ _ _ h => h) rfl rfl rfl (hx0.fr0 hF2).all (fun hn => hn) ?_; try simp only [Act.put, List.setIfInBounds_toArray, List.set_cons_zero, List.set_cons_succ])
          (refine T_loadA (cs := [.int .i64 o.cls, .slice A0 o.slots.length c0, .slice D0 o.bytes.length d0]) ag_obj (by rfl) (by rfl) (fun _ _ _ _ h => h) rfl rfl rfl (hx0.fr0 hF2).all (fun hn => hn) ?_; try simp only [Act.put, List.setIfInBounds_toArray, List.set_cons_zero, List.set_cons_succ])
          (refine T_call (by rfl) (by rfl) (fun K hK => ?_); go_wp2_with fail)
          refine (k3 _ ((h.fr0 hf0).fr0 hF2)).mono ?_
          rintro e w3 ⟨rfl, hf3⟩
          (refine hK.out _ _ (hf3) ?_; clear hK K; try simp only [Act.put, List.setIfInBounds_toArray, List.set_cons_zero, List.set_cons_succ])
          (refine T_call (by rfl) (by rfl) (fun K hK => ?_); go_wp2_with fail)
          refine (k4 _ (((h.fr0 hf0).fr0 hF2).fr0 hf3)).mono ?_
          rintro e w4 ⟨rfl, hf4⟩
          (refine hK.out _ _ (hf4) ?_; clear hK K; try simp only [Act.put, List.setIfInBounds_toArray, List.set_cons_zero, List.set_cons_succ])
          repeat (first | (refine T_skip (by rfl) (by rfl) (fun _ _ _ h => h) ?_; try simp only [Act.put, List.setIfInBounds_toArray, List.set_cons_zero, List.set_cons_succ]) | (refine T_pass (by rfl) (by rfl) ?_; try simp only [Act.put, List.setIfInBounds_toArray, List.set_cons_zero, List.set_cons_succ]) | (refine T_load (by assumption) (by rfl) (by rfl) (fun _ _ _ _ h => h) rfl rfl (by assumption) (by first | exact (fun hn => hn) | assumption) ?_; try simp only [Act.put, List.setIfInBounds_toArray, List.set_cons_zero, List.set_cons_succ]) | (refine T_nil (by rfl) (by rfl) (fun _ _ _ _ h => h) rfl rfl ?_; try simp only [Act.put, List.setIfInBounds_toArray, List.set_cons_zero, List.set_cons_succ]) | (refine T_quietN (by rfl) (by rfl) (by rfl) (by rfl) (fun _ _ _ _ h => h) (fun K hK => ?_); go_big_quiet_op; refine hK _ ?_; clear hK K) | (refine T_two (by rfl) (by rfl) (by rfl) (by rfl) (fun _ _ _ _ h => h) (fun K hK => ?_); go_big_quiet_op; refine ⟨_, fun _ _ => rfl, ?_⟩; refine hK _ ?_; clear hK K; try simp only [Act.put, List.setIfInBounds_toArray, List.set_cons_zero, List.set_cons_succ]) | fail)
          refine T_done ?_
          have hF4 := hF2.tr (hf3.tr hf4)
          have hlhF4 := (hv0.fr0 hF4).all
          go_wp2_with (first
            | (refine wpList_ldA ag_val rfl _ rfl ⟨W.heap.size, 0, none⟩ [.int .i64 v.k, .int .i64 v.n] rfl rfl hlhF4 ?_)
            | fail)
          refine (k5 _).mono ?_
          rintro e w5 ⟨rfl, hf5⟩
          have hF5 := hF4.tr hf5
          have hlhF5 := (hv0.fr0 hF5).all
          go_wp2_with (first
            | (refine wpList_ldA ag_val rfl _ rfl ⟨W.heap.size, 0, none⟩ [.int .i64 v.k, .int .i64 v.n] rfl rfl hlhF5 ?_)
            | fail)
          refine (k1 _).mono ?_
          rintro e w6 ⟨rfl, hf6⟩
          have hF6 := hF5.tr hf6
          have hlhF6 := (hx0.fr0 hF6).all
          go_wp2_with (first
            | (refine wpList_ldA ag_obj rfl _ rfl ⟨W.heap.size + 1, 0, none⟩ [.int .i64 o.cls, .slice A0 o.slots.length c0, .slice D0 o.bytes.length d0] rfl rfl hlhF6 ?_)
            | fail)
          refine (k6 _ ((h.fr0 hf0).fr0 hF6)).mono ?_
          rintro e w7 ⟨rfl, hf7⟩
          have hF7 := hF6.tr hf7
          go_wp2_with fail
          refine (known_calls _).mono ?_
          rintro e wz ⟨rfl, hfz⟩
          go_wp2
          go_ret
          exact ⟨rfl, (hf0.tr hF7).tr hfz⟩
        | true =>
          (refine T_begin No [0, 2, 1, 3, 4, 5, 6, 8, 7, 9, 10, 11] [1, 3, 7, 9] (by kernel_rfl) (by kernel_rfl) ?_; simp only [pickOps, List.filterMap_cons, List.filterMap_nil, List.getElem?_cons_zero, List.getElem?_cons_succ, Act.put])
          (refine T_loadA (cs := [.int .i64 v.k, .int .i64 v.n]) ag_val (by rfl) (by rfl) (fun _ _ _ _ h => h) rfl rfl rfl hv0.all (fun hn => hn) ?_; try simp only [Act.put, List.setIfInBounds_toArray, List.set_cons_zero, List.set_cons_succ])
          (refine T_loadA (cs := [.int .i64 v.k, .int .i64 v.n]) ag_val (by rfl) (by rfl) (fun _ _ _ _ h => h) rfl rfl rfl hv0.all (fun hn => hn) ?_; try simp only [Act.put, List.setIfInBounds_toArray, List.set_cons_zero, List.set_cons_succ])
          (refine T_call (by rfl) (by rfl) (fun K hK => ?_); go_wp2_with fail)
          refine (k1 _).mono ?_
          rintro e w1 ⟨rfl, hf1⟩
          (refine hK.out _ _ (hf1) ?_; clear hK K; try simp only [Act.put, List.setIfInBounds_toArray, List.set_cons_zero, List.set_cons_succ])
          (refine T_call (by rfl) (by rfl) (fun K hK => ?_); go_wp2_with fail)
          refine (k2 _).mono ?_
          rintro e w2 ⟨rfl, hf2⟩
          (refine hK.out _ _ (hf2) ?_; clear hK K; try simp only [Act.put, List.setIfInBounds_toArray, List.set_cons_zero, List.set_cons_succ])
          repeat (first | (refine T_skip (by rfl) (by rfl) (fun _ _ _ h => h) ?_; try simp only [Act.put, List.setIfInBounds_toArray, List.set_cons_zero, List.set_cons_succ]) | (refine T_pass (by rfl) (by rfl) ?_; try simp only [Act.put, List.setIfInBounds_toArray, List.set_cons_zero, List.set_cons_succ]) | (refine T_load (by assumption) (by rfl) (by rfl) (fun _ _ _ _ h => h) rfl rfl (by assumption) (by first | exact (fun hn => hn) | assumption) ?_; try simp only [Act.put, List.setIfInBounds_toArray, List.set_cons_zero, List.set_cons_succ]) | (refine T_nil (by rfl) (by rfl) (fun _ _ _ _ h => h) rfl rfl ?_; try simp only [Act.put, List.setIfInBounds_toArray, List.set_cons_zero, List.set_cons_succ]) | (refine T_quietN (by rfl) (by rfl) (by rfl) (by rfl) (fun _ _ _ _ h => h) (fun K hK => ?_); go_big_quiet_op; refine hK _ ?_; clear hK K) | (refine T_two (by rfl) (by rfl) (by rfl) (by rfl) (fun _ _ _ _ h => h) (fun K hK => ?_); go_big_quiet_op; refine ⟨_, fun _ _ => rfl, ?_⟩; refine hK _ ?_; clear hK K; try simp only [Act.put, List.setIfInBounds_toArray, List.set_cons_zero, List.set_cons_succ]) | fail)
          have hF2 : Fr No w0 w2 := ((Fr.refl No w0).drew.tr hf1).tr hf2
          (refine T_loadA (cs := [.int .i64 o.cls, .slice A0 o.slots.length c0, .slice D0 o.bytes.length d0]) ag_obj (by rfl) (by rfl) (fun _ _ _ _ h => h) rfl rfl rfl (hx0.fr0 hF2).all (fun hn => hn) ?_; try simp only [Act.put, List.setIfInBounds_toArray, List.set_cons_zero, List.set_cons_succ])
          (refine T_loadA (cs := [.int .i64 o.cls, .slice A0 o.slots.length c0, .slice D0 o.bytes.length d0]) ag_obj (by rfl) (by rfl) (fun _ _ _ _ h => h) rfl rfl rfl (hx0.fr0 hF2).all (fun hn => hn) ?_; try simp only [Act.put, List.setIfInBounds_toArray, List.set_cons_zero, List.set_cons_succ])
          (refine T_call (by rfl) (by rfl) (fun K hK => ?_); go_wp2_with fail)
          refine (k3 _ ((h.fr0 hf0).fr0 hF2)).mono ?_
          rintro e w3 ⟨rfl, hf3⟩
          (refine hK.out _ _ (hf3) ?_; clear hK K; try simp only [Act.put, List.setIfInBounds_toArray, List.set_cons_zero, List.set_cons_succ])
          (refine T_call (by rfl) (by rfl) (fun K hK => ?_); go_wp2_with fail)
          refine (k4 _ (((h.fr0 hf0).fr0 hF2).fr0 hf3)).mono ?_
          rintro e w4 ⟨rfl, hf4⟩
          (refine hK.out _ _ (hf4) ?_; clear hK K; try simp only [Act.put, List.setIfInBounds_toArray, List.set_cons_zero, List.set_cons_succ])
          repeat (first | (refine T_skip (by rfl) (by rfl) (fun _ _ _ h => h) ?_; try simp only [Act.put, List.setIfInBounds_toArray, List.set_cons_zero, List.set_cons_succ]) | (refine T_pass (by rfl) (by rfl) ?_; try simp only [Act.put, List.setIfInBounds_toArray, List.set_cons_zero, List.set_cons_succ]) | (refine T_load (by assumption) (by rfl) (by rfl) (fun _ _ _ _ h => h) rfl rfl (by assumption) (by first | exact (fun hn => hn) | assumption) ?_; try simp only [Act.put, List.setIfInBounds_toArray, List.set_cons_zero, List.set_cons_succ]) | (refine T_nil (by rfl) (by rfl) (fun _ _ _ _ h => h) rfl rfl ?_; try simp only [Act.put, List.setIfInBounds_toArray, List.set_cons_zero, List.set_cons_succ]) | (refine T_quietN (by rfl) (by rfl) (by rfl) (by rfl) (fun _ _ _ _ h => h) (fun K hK => ?_); go_big_quiet_op; refine hK _ ?_; clear hK K) | (refine T_two (by rfl) (by rfl) (by rfl) (by rfl) (fun _ _ _ _ h => h) (fun K hK => ?_); go_big_quiet_op; refine ⟨_, fun _ _ => rfl, ?_⟩; refine hK _ ?_; clear hK K; try simp only [Act.put, List.setIfInBounds_toArray, List.set_cons_zero, List.set_cons_succ]) | fail)
          refine T_done ?_
          have hF4 := hF2.tr (hf3.tr hf4)
          have hlhF4 := (hv0.fr0 hF4).all
          go_wp2_with (first
            | (refine wpList_ldA ag_val rfl _ rfl ⟨W.heap.size, 0, none⟩ [.int .i64 v.k, .int .i64 v.n] rfl rfl hlhF4 ?_)
            | fail)
          refine (k5 _).mono ?_
          rintro e w5 ⟨rfl, hf5⟩
          have hF5 := hF4.tr hf5
          have hlhF5 := (hv0.fr0 hF5).all
          go_wp2_with (first
            | (refine wpList_ldA ag_val rfl _ rfl ⟨W.heap.size, 0, none⟩ [.int .i64 v.k, .int .i64 v.n] rfl rfl hlhF5 ?_)
            | fail)
          refine (k1 _).mono ?_
          rintro e w6 ⟨rfl, hf6⟩
          have hF6 := hF5.tr hf6
          have hlhF6 := (hx0.fr0 hF6).all
          go_wp2_with (first
            | (refine wpList_ldA ag_obj rfl _ rfl ⟨W.heap.size + 1, 0, none⟩ [.int .i64 o.cls, .slice A0 o.slots.length c0, .slice D0 o.bytes.length d0] rfl rfl hlhF6 ?_)
            | fail)
          refine (k6 _ ((h.fr0 hf0).fr0 hF6)).mono ?_
          rintro e w7 ⟨rfl, hf7⟩
          have hF7 := hF6.tr hf7
          have hlhF7 := (hx0.fr0 hF7).all
          go_wp2_with (first
            | (refine wpList_ldA ag_obj rfl _ rfl ⟨W.heap.size + 1, 0, none⟩ [.int .i64 o.cls, .slice A0 o.slots.length c0, .slice D0 o.bytes.length d0] rfl rfl hlhF7 ?_)
            | fail)
          refine (k3 _ ((h.fr0 hf0).fr0 hF7)).mono ?_
          rintro e w8 ⟨rfl, hf8⟩
          have hF8 := hF7.tr hf8
          go_wp2_with fail
          refine (known_calls _).mono ?_
          rintro e wz ⟨rfl, hfz⟩
          go_wp2
          go_ret
          exact ⟨rfl, (hf0.tr hF8).tr hfz⟩
end Go.Proofs.Ytoajigghkjnffaa
