/- lapidarylaw12.ViewNil: a view that is not there. No condition. -/
import Derived.Test.YtoajigghkjnffaaViewKnown
namespace Go.Proofs.Ytoajigghkjnffaa
set_option linter.unusedVariables false
set_option linter.unusedSimpArgs false
open Go.RowKit

theorem read_nil (w : World) (x : Int) : Calls Try.prog 29 #[.pointer none, .int .i64 x] w fun e w' => e = .returned (.tuple #[]) ∧ w = w' := by
  go_enter Try.func29, Try.ntmps29
  go_wp2
  go_end0
  exact ⟨rfl, rfl⟩
theorem peek_nil (w : World) (x : Int) : Calls Try.prog 18 #[.pointer none, .int .i64 x] w fun e w' => e = .returned (.tuple #[.agg #[.int .i64 0, .slice none 0 0, .slice none 0 0], .int .i64 2]) ∧ Fr No w w' := by
  have hf1 : Fr No w (w.alloc (.cells #[.int .i64 0, .slice none 0 0, .slice none 0 0] tObj)) := (Fr.refl No w).alloc _
  have hb1 : Blk (w.alloc (.cells #[.int .i64 0, .slice none 0 0, .slice none 0 0] tObj)) w.heap.size tObj #[.int .i64 0, .slice none 0 0, .slice none 0 0] := Blk.new w _ _
  go_enter Try.func18, Try.ntmps18
  go_wp2_with (first
    | (refine wpList_stA ag_obj.info rfl _ _ rfl w.heap.size 0 _ _ [.int .i64 0, .slice none 0 0, .slice none 0 0] _ rfl rfl rfl rfl (one3 rfl rfl rfl) hb1 (by decide) ?_; intro w6 hb6 hg6 hz6)
    | fail)
  rw [splice_all _ _ (by rfl)] at hb6
  refine bodyPost_ret (results_blk2 ag_obj rfl _ _ _ _ _ _ rfl rfl hb6 rfl) rfl ?_
  exact ⟨rfl, hf1.grown hg6 (fun q hq => by injection hq with hq; exact .inl (by omega))⟩
theorem get_nil (w : World) (x : Int) : Calls Try.prog 21 #[.pointer none, .int .i64 x] w fun e w' => e = .returned (.tuple #[.agg #[.int .i64 0, .slice none 0 0, .slice none 0 0], .int .i64 2]) ∧ Fr No w w' := by
  have hf1 : Fr No w (w.alloc (.cells #[.int .i64 0, .slice none 0 0, .slice none 0 0] tObj)) := (Fr.refl No w).alloc _
  have hb1 : Blk (w.alloc (.cells #[.int .i64 0, .slice none 0 0, .slice none 0 0] tObj)) w.heap.size tObj #[.int .i64 0, .slice none 0 0, .slice none 0 0] := Blk.new w _ _
  go_enter Try.func21, Try.ntmps21
  go_wp2_with fail
  refine (read_nil _ x).mono ?_
  rintro e _ ⟨rfl, rfl⟩
  go_wp2_with fail
  refine (peek_nil _ x).mono ?_
  rintro e w3 ⟨rfl, hf3⟩
  have hb3 := hb1.fr0 hf3
  go_wp2_with (first
    | (refine wpList_stA ag_obj.info rfl _ _ rfl w.heap.size 0 _ _ [.int .i64 0, .slice none 0 0, .slice none 0 0] _ rfl rfl rfl rfl (one3 rfl rfl rfl) hb3 (by decide) ?_; intro w6 hb6 hg6 hz6)
    | fail)
  rw [splice_all _ _ (by rfl)] at hb6
  refine bodyPost_ret (results_blk2 ag_obj rfl _ _ _ _ _ _ rfl rfl hb6 rfl) rfl ?_
  exact ⟨rfl, (hf1.tr hf3).grown hg6 (fun q hq => by injection hq with hq; exact .inl (by omega))⟩
theorem make_nil (w : World) (cs : List Value) : Calls Try.prog 17 #[.pointer none, .agg cs.toArray] w fun e w' => e = .returned (.tuple #[.int .i64 0, .int .i64 2]) ∧ Fr No w w' := by
  go_enter Try.func17, Try.ntmps17
  go_wp2
  go_ret2
  exact ⟨rfl, (Fr.refl No w).alloc _⟩
theorem put_nil (w : World) (x : Int) (cs : List Value) : Calls Try.prog 19 #[.pointer none, .int .i64 x, .agg cs.toArray] w fun e w' => e = .returned (.int .i64 2) ∧ Fr No w w' := by
  have hf1 : Fr No w (w.alloc (.cells cs.toArray tObj)) := (Fr.refl No w).alloc _
  go_enter Try.func19, Try.ntmps19
  go_wp2_with fail
  refine (peek_nil _ x).mono ?_
  rintro e w3 ⟨rfl, hf3⟩
  go_wp2
  go_ret
  exact ⟨rfl, (hf1.tr hf3).alloc _⟩
theorem base_nil (w : World) : Calls Try.prog 32 #[.pointer none] w fun e w' => e = .returned (.int .i64 0) ∧ w = w' := by
  go_enter Try.func32, Try.ntmps32
  go_wp2
  go_ret
  exact ⟨rfl, rfl⟩
theorem vnew_nil (w : World) : Calls Try.prog 16 #[.pointer none] w fun e w' => e = .returned (.pointer none) ∧ w = w' := by
  go_enter Try.func16, Try.ntmps16
  go_wp2
  go_ret
  exact ⟨rfl, rfl⟩
theorem reads_nil (w : World) : Calls Try.prog 26 #[.pointer none] w fun e w' => e = .returned (.slice none 0 0) ∧ w = w' := by
  go_enter Try.func26, Try.ntmps26
  go_wp2
  go_ret
  exact ⟨rfl, rfl⟩
theorem writes_nil (w : World) : Calls Try.prog 27 #[.pointer none] w fun e w' => e = .returned (.slice none 0 0) ∧ w = w' := by
  go_enter Try.func27, Try.ntmps27
  go_wp2
  go_ret
  exact ⟨rfl, rfl⟩
theorem news_nil (w : World) : Calls Try.prog 28 #[.pointer none] w fun e w' => e = .returned (.slice none 0 0) ∧ w = w' := by
  go_enter Try.func28, Try.ntmps28
  go_wp2
  go_ret
  exact ⟨rfl, rfl⟩
theorem copy_nil (w : World) : Calls Try.prog 30 #[.pointer none] w fun e w' => e = .returned (.pointer none) ∧ w = w' := by
  go_enter Try.func30, Try.ntmps30
  go_wp2
  go_ret
  exact ⟨rfl, rfl⟩
theorem changed_nil (w : World) : Calls Try.prog 33 #[.pointer none] w fun e w' => e = .returned (.slice none 0 0) ∧ w = w' := by
  go_enter Try.func33, Try.ntmps33
  go_wp2_with fail
  refine (writes_nil _).mono ?_
  rintro e _ ⟨rfl, rfl⟩
  go_wp2_with fail
  go_loopw [3, 9] (fun l i wr => l = .slice none 0 0 ∧ i = .int .i64 0 ∧ wr = w) (fun l i _ => 0)
  case atStart => exact ⟨rfl, rfl, rfl⟩
  case round =>
    obtain ⟨rfl, rfl, rfl⟩ := hrel
    go_wp2
    go_ret
    exact ⟨rfl, rfl⟩
def ObjOk2 (o : ObjM) : Prop := o.slots.length * 16 ≤ 140737488351232 ∧ o.bytes.length ≤ 140737488351232
set_option maxHeartbeats 4000000 in
set_option maxRecDepth 100000 in
theorem law_ViewNil (W : World) (x : Int) (_ : (Lit.int .i64 x).wf = true) (cs : List Value) (o : ObjM) (h : ObjC W (fun b => b < W.heap.size) cs o) (_ : ObjOk2 o) :
    Calls Try.prog 7 #[.int .i64 x, .agg cs.toArray] W fun e w' => e = .returned (.bool true) ∧ Fr No W w' := by
  obtain ⟨A0, c0, D0, d0, rfl, hs0, hb0⟩ := h
  have hf0 : Fr No W (W.alloc (.cells #[.int .i64 o.cls, .slice A0 o.slots.length c0, .slice D0 o.bytes.length d0] tObj)) := (Fr.refl No W).alloc _
  have hx0 : Blk (W.alloc (.cells #[.int .i64 o.cls, .slice A0 o.slots.length c0, .slice D0 o.bytes.length d0] tObj)) W.heap.size tObj #[.int .i64 o.cls, .slice A0 o.slots.length c0, .slice D0 o.bytes.length d0] := Blk.new W _ _
  go_enter Try.func7, Try.ntmps7
  go_wp2_with fail
  refine (get_nil _ x).mono ?_
  rintro e w1 ⟨rfl, hf1⟩
  have hx1 := hx0.fr0 hf1
  have hF1 := hf0.tr hf1
  have hfa : Fr No w1 (w1.alloc (.cells #[.int .i64 0, .slice none 0 0, .slice none 0 0] tObj)) := (Fr.refl No w1).alloc _
  go_wp2_with fail
  refine (peek_nil _ x).mono ?_
  rintro e w2 ⟨rfl, hf2⟩
  have hx2 := (hx1.fr0 hfa).fr0 hf2
  have hF2 := (hF1.tr hfa).tr hf2
  have hfb : Fr No w2 (w2.alloc (.cells #[.int .i64 0, .slice none 0 0, .slice none 0 0] tObj)) := (Fr.refl No w2).alloc _
  have hx3 := hx2.fr0 hfb
  have hl3 := hx3.all
  have hF3 := hF2.tr hfb
  go_wp2_with (first
    | (refine wpList_ldA ag_obj rfl _ rfl ⟨W.heap.size, 0, none⟩ [.int .i64 o.cls, .slice A0 o.slots.length c0, .slice D0 o.bytes.length d0] rfl rfl hl3 ?_)
    | fail)
  refine (make_nil _ [.int .i64 o.cls, .slice A0 o.slots.length c0, .slice D0 o.bytes.length d0]).mono ?_
  rintro e w4 ⟨rfl, hf4⟩
  have hF4 := hF3.tr hf4
  have hl4 := (hx3.fr0 hf4).all
  go_wp2_with fail
  refine (read_nil _ x).mono ?_
  rintro e _ ⟨rfl, rfl⟩
  go_wp2_with fail
  refine (vnew_nil _).mono ?_
  rintro e _ ⟨rfl, rfl⟩
  go_wp2_with (first
    | (refine wpList_ldA ag_obj rfl _ rfl ⟨W.heap.size, 0, none⟩ [.int .i64 o.cls, .slice A0 o.slots.length c0, .slice D0 o.bytes.length d0] rfl rfl hl4 ?_)
    | fail)
  refine (put_nil _ x [.int .i64 o.cls, .slice A0 o.slots.length c0, .slice D0 o.bytes.length d0]).mono ?_
  rintro e w5 ⟨rfl, hf5⟩
  have hF5 := hF4.tr hf5
  go_wp2_with fail
  refine (base_nil _).mono ?_
  rintro e _ ⟨rfl, rfl⟩
  go_wp2_with fail
  refine (reads_nil _).mono ?_
  rintro e _ ⟨rfl, rfl⟩
  go_wp2_with fail
  refine (writes_nil _).mono ?_
  rintro e _ ⟨rfl, rfl⟩
  go_wp2_with fail
  refine (news_nil _).mono ?_
  rintro e _ ⟨rfl, rfl⟩
  go_wp2_with fail
  refine (changed_nil _).mono ?_
  rintro e _ ⟨rfl, rfl⟩
  go_wp2_with fail
  refine (copy_nil _).mono ?_
  rintro e _ ⟨rfl, rfl⟩
  go_wp2_with fail
  refine (known_calls _).mono ?_
  rintro e wz ⟨rfl, hfz⟩
  go_wp2
  go_ret
  exact ⟨rfl, hF5.tr hfz⟩
end Go.Proofs.Ytoajigghkjnffaa
