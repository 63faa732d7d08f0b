/- lapidarylaw11.TableNil: a table that is not there. No condition. -/
import Derived.Test.YtifcnjebepipnaaTKnown
namespace Go.Proofs.Ytifcnjebepipnaa
set_option linter.unusedVariables false
set_option linter.unusedSimpArgs false
open Go.RowKit

theorem nilC (w : World) : ObjC w No [.int .i64 0, .slice none 0 0, .slice none 0 0] noObj := ⟨none, 0, none, 0, rfl, Rd.nil_, Rd.nil_⟩
theorem atnil_calls (w : World) (c x : Int) :
    Calls Try.prog 12 #[.pointer none, .int .i64 c, .int .i64 x] w fun e w' => e = .returned (.tuple #[.agg #[.int .i64 0, .slice none 0 0, .slice none 0 0], .int .i64 2]) ∧ Fr No w w' := by
  have hb0 := Blk.new w 38 #[.int .i64 0, .slice none 0 0, .slice none 0 0]
  have hf1 : Fr No w (w.alloc (.cells #[.int .i64 0, .slice none 0 0, .slice none 0 0] 38)) := (Fr.refl No w).alloc _
  go_enter Try.func12, Try.ntmps12
  go_wp2_with (first
    | (refine wpList_stA ag_obj.info rfl _ _ rfl w.heap.size 0 _ _ [.int .i64 0, .slice none 0 0, .slice none 0 0] _ rfl rfl rfl rfl (by intro u hu; simp at hu; rcases hu with rfl | rfl | rfl <;> rfl) hb0 (by decide) ?_; intro w5 hb5 hg5 hz5)
    | fail)
  rw [splice_all _ _ (by rfl)] at hb5
  refine bodyPost_ret (results_blk2 ag_obj rfl _ _ _ _ _ _ rfl rfl hb5 rfl) rfl ?_
  exact ⟨rfl, hf1.grown hg5 (fun q hq => by injection hq with hq; exact .inl (by omega))⟩
theorem allnil_calls (w : World) :
    Calls Try.prog 17 #[.pointer none] w fun e w' => e = .returned (.agg #[.int .i64 0, .slice none 0 0]) ∧ Fr No w w' := by
  have hb0 := Blk.new w 29 #[.int .i64 0, .slice none 0 0]
  have hf1 : Fr No w (w.alloc (.cells #[.int .i64 0, .slice none 0 0] 29)) := (Fr.refl No w).alloc _
  go_enter Try.func17, Try.ntmps17
  go_wp2_with (first
    | (refine wpList_stA ag_recp.info rfl _ _ rfl w.heap.size 0 _ _ [.int .i64 0, .slice none 0 0] _ rfl rfl rfl rfl (by intro u hu; simp at hu; rcases hu with rfl | rfl <;> rfl) hb0 (by decide) ?_; intro w5 hb5 hg5 hz5)
    | fail)
  rw [splice_all _ _ (by rfl)] at hb5
  refine bodyPost_ret (results_blk ag_recp rfl _ _ _ _ _ rfl hb5 rfl) rfl ?_
  exact ⟨rfl, hf1.grown hg5 (fun q hq => by injection hq with hq; exact .inl (by omega))⟩
set_option maxHeartbeats 4000000 in
set_option maxRecDepth 100000 in
theorem law_TableNil (W : World) (xc : Int) (wc : (Lit.int .i64 xc).wf = true) (xo : Int) (wo : (Lit.int .i64 xo).wf = true) :
    Calls Try.prog 6 #[.int .i64 xc, .int .i64 xo] W fun e w' => e = .returned (.bool true) ∧ Fr No W w' := by
  have HSO := Lib.hid (sameO_self noObj)
  have hfld : ∀ w, (Instr.field 29 (.agg #[.int .i64 0, .slice none 0 0]) 0).run Try.prog w = .ok (.int .i64 0) w := by intro w; kernel_rfl
  go_enter Try.func6, Try.ntmps6
  go_wp2_with (first
    | (go_at_call 12; refine (atnil_calls _ _ _).mono ?_; rintro e w1 ⟨rfl, hf1⟩; have hb1 := (Blk.new w1 38 #[.int .i64 0, .slice none 0 0, .slice none 0 0]).all; have hf1' : Fr No w1 (w1.alloc (.cells #[.int .i64 0, .slice none 0 0, .slice none 0 0] 38)) := (Fr.refl No w1).alloc _)
    | (refine wpList_ldA ag_obj rfl _ rfl ⟨w1.heap.size, 0, none⟩ [.int .i64 0, .slice none 0 0, .slice none 0 0] rfl rfl hb1 ?_)
    | (go_at_call 14; refine (refsame_calls No No _ _ noObj noObj _ (nilC _) (nilC _)).mono ?_; rw [HSO.out]; rintro e w2 ⟨rfl, hf2⟩)
    | (go_at_call 17; refine (allnil_calls _).mono ?_; rintro e w4 ⟨rfl, hf4⟩)
    | (go_at_call 16; refine (known11_calls _).mono ?_; rintro e w3 ⟨rfl, hf3⟩)
    | go_in)
  go_ret
  exact ⟨rfl, ((((hf1.tr hf1').tr hf2).tr ((Fr.refl No _).alloc _)).tr hf4).tr hf3⟩
end Go.Proofs.Ytifcnjebepipnaa
