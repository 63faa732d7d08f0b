/- rc's known. No condition. -/
import Derived.Test.YtgchpfennbggoaaJRRcOrderp2
import Derived.Deep.CutBlock
import Derived.Deep.DeepCutAuto
namespace Go.Proofs.Ytgchpfennbggoaa
set_option linter.unusedVariables false
set_option linter.unusedSimpArgs false
open Go.RowKit

set_option maxHeartbeats 8000000 in
set_option maxRecDepth 100000 in
theorem known_calls (w : World) :
    Calls Try.prog 7 #[] w fun e w' => e = .returned (.bool true) ∧ Fr No w w' := by
  have g2 := plain_lval
  have g4 := plain_i64
  go_enter Try.func7, Try.ntmps7
  go_upto_region 3 with fail
  have hfB : Fr No w ((w.alloc (.cells #[.int .i64 3, .int .i64 3] 30)).alloc (.cells #[.int .i64 3, .int .i64 (-1)] 30)) := ((Fr.refl No w).alloc _).alloc _
  have hbu : Blk ((w.alloc (.cells #[.int .i64 3, .int .i64 3] 30)).alloc (.cells #[.int .i64 3, .int .i64 (-1)] 30)) w.heap.size 30 #[.int .i64 3, .int .i64 3] := (Blk.new w _ _).alloc _
  have hbd : Blk ((w.alloc (.cells #[.int .i64 3, .int .i64 3] 30)).alloc (.cells #[.int .i64 3, .int .i64 (-1)] 30)) (w.heap.size + 1) 30 #[.int .i64 3, .int .i64 (-1)] := Blk.newAt (by simp)
  generalize hw1 : ((w.alloc (.cells #[.int .i64 3, .int .i64 3] 30)).alloc (.cells #[.int .i64 3, .int .i64 (-1)] 30)) = w1 at *
  clear hw1
  go_cut [3, 4] (fun s3 s4 wx => ∃ g cs, s3 = .pointer (some ⟨g, 0, none⟩) ∧ s4 = .int .i64 0 ∧ Blk wx g 25 cs.toArray ∧ ObjC wx (fun _ => True) cs ⟨13, [⟨3, 7⟩], []⟩ ∧ Fr No w1 wx)
  case first =>
    refine T_begin2 No [11] [1, 2, 3, 4, 0, 5, 6, 7, 8, 9, 10, 11, 12] [0, 5, 6, 10, 11, 1000, 1005, 1006] (by kernel_rfl) (by kernel_rfl) ?_
    simp only [pickOps, List.filterMap_cons, List.filterMap_nil, List.getElem?_cons_zero, List.getElem?_cons_succ, Act.put]
    have hT : Fr No w1 w1.drew := (Fr.refl No w1).drew
    generalize hw2 : w1.drew = w2 at *
    have hf2 := hT
    replace hbu := hbu.fr0 hT
    replace hbd := hbd.fr0 hT
    clear hw2 hf2
    refine T_loadA (cs := [.int .i64 3, .int .i64 3]) ag_val (by rfl) (by rfl) (fun _ _ _ _ h => h) rfl rfl rfl hbu.all (fun hn => hn) ?_
    try simp only [Act.put, List.setIfInBounds_toArray, List.set_cons_zero, List.set_cons_succ]
    (first | (refine T_skip (by rfl) (by rfl) (fun _ _ _ h => h) ?_; try simp only [Act.put, List.setIfInBounds_toArray, List.set_cons_zero, List.set_cons_succ]) | (refine T_pass (by rfl) (by rfl) ?_; try simp only [Act.put, List.setIfInBounds_toArray, List.set_cons_zero, List.set_cons_succ]) | (refine T_load (by assumption) (by rfl) (by rfl) (fun _ _ _ _ h => h) rfl rfl (by assumption) (by first | exact (fun hn => hn) | assumption) ?_; try simp only [Act.put, List.setIfInBounds_toArray, List.set_cons_zero, List.set_cons_succ]) | (refine T_nil (by rfl) (by rfl) (fun _ _ _ _ h => h) rfl rfl ?_; try simp only [Act.put, List.setIfInBounds_toArray, List.set_cons_zero, List.set_cons_succ]) | (refine T_quietN (by rfl) (by rfl) (by rfl) (by rfl) (fun _ _ _ _ h => h) (fun K hK => ?_); go_big_quiet_op; refine hK _ ?_; clear hK K) | (refine T_two (by rfl) (by rfl) (by rfl) (by rfl) (fun _ _ _ _ h => h) (fun K hK => ?_); go_big_quiet_op; refine ⟨_, fun _ _ => rfl, ?_⟩; refine hK _ ?_; clear hK K; try simp only [Act.put, List.setIfInBounds_toArray, List.set_cons_zero, List.set_cons_succ]) | fail)
    refine T_loadA (cs := [.int .i64 3, .int .i64 (-1)]) ag_val (by rfl) (by rfl) (fun _ _ _ _ h => h) rfl rfl rfl hbd.all (fun hn => hn) ?_
    try simp only [Act.put, List.setIfInBounds_toArray, List.set_cons_zero, List.set_cons_succ]
    (first | (refine T_skip (by rfl) (by rfl) (fun _ _ _ h => h) ?_; try simp only [Act.put, List.setIfInBounds_toArray, List.set_cons_zero, List.set_cons_succ]) | (refine T_pass (by rfl) (by rfl) ?_; try simp only [Act.put, List.setIfInBounds_toArray, List.set_cons_zero, List.set_cons_succ]) | (refine T_load (by assumption) (by rfl) (by rfl) (fun _ _ _ _ h => h) rfl rfl (by assumption) (by first | exact (fun hn => hn) | assumption) ?_; try simp only [Act.put, List.setIfInBounds_toArray, List.set_cons_zero, List.set_cons_succ]) | (refine T_nil (by rfl) (by rfl) (fun _ _ _ _ h => h) rfl rfl ?_; try simp only [Act.put, List.setIfInBounds_toArray, List.set_cons_zero, List.set_cons_succ]) | (refine T_quietN (by rfl) (by rfl) (by rfl) (by rfl) (fun _ _ _ _ h => h) (fun K hK => ?_); go_big_quiet_op; refine hK _ ?_; clear hK K) | (refine T_two (by rfl) (by rfl) (by rfl) (by rfl) (fun _ _ _ _ h => h) (fun K hK => ?_); go_big_quiet_op; refine ⟨_, fun _ _ => rfl, ?_⟩; refine hK _ ?_; clear hK K; try simp only [Act.put, List.setIfInBounds_toArray, List.set_cons_zero, List.set_cons_succ]) | fail)
    refine T_fork3 (ord2 := [1, 2, 3, 4, 5, 0, 6, 7, 8, 9, 10, 11, 12]) (calls2 := [0, 5, 6, 10, 11, 1005, 1000, 1006]) (ord3 := [1, 2, 3, 4, 10, 0, 5, 6, 7, 8, 9, 11, 12]) (calls3 := [0, 5, 6, 10, 11, 1010, 1000]) (i := 0) (j := 5) (m := 10) (by kernel_rfl) rfl rfl rfl rfl rfl (by kernel_rfl) (by kernel_rfl) rfl rfl rfl rfl rfl (by rfl) (by rfl) (by rfl) (fun K hK => ?_) (fun K hK => ?_) (fun K hK => ?_)
    · go_wp2_with fail
      refine (counter_calls 5 _).mono ?_
      rintro e wx0 ⟨cs0, rfl, ho0, hf0⟩
      go_wp2_with fail
      (refine hK.out _ _ (hf0) ?_; clear hK K; try simp only [Act.put, List.setIfInBounds_toArray, List.set_cons_zero, List.set_cons_succ])
      replace hT := Fr.tr hT hf0
      replace hbu := hbu.fr0 hf0
      replace hbd := hbd.fr0 hf0
      refine T_fork (ord2 := [1, 2, 3, 4, 0, 10, 5, 6, 7, 8, 9, 11, 12]) (calls2 := [0, 5, 6, 10, 11, 1000, 1010]) (i := 5) (j := 10) (by kernel_rfl) rfl rfl rfl (by kernel_rfl) rfl rfl rfl (by rfl) (by rfl) (fun K hK => ?_) (fun K hK => ?_)
      · go_wp2_with fail
        (refine hK.out _ _ (((Fr.refl _ _).alloc _)) ?_; clear hK K; try simp only [Act.put, List.setIfInBounds_toArray, List.set_cons_zero, List.set_cons_succ])
        have hb5 := Blk.new wx0 41 #[.int .i64 0, .bool true, .int .i64 3, .int .i64 3, .int .i64 0, .bool true, .int .i64 3, .int .i64 (-1)]
        have hf5 : Fr No wx0 (wx0.alloc (.cells #[.int .i64 0, .bool true, .int .i64 3, .int .i64 3, .int .i64 0, .bool true, .int .i64 3, .int .i64 (-1)] 41)) := (Fr.refl No _).alloc _
        obtain ⟨b5, he5⟩ : ∃ b, b = wx0.heap.size := ⟨_, rfl⟩
        rw [← he5] at hb5 ⊢
        generalize hw5 : wx0.alloc (.cells #[.int .i64 0, .bool true, .int .i64 3, .int .i64 3, .int .i64 0, .bool true, .int .i64 3, .int .i64 (-1)] 41) = wx5 at *
        clear hw5
        clear he5
        replace hT := Fr.tr hT hf5
        replace hbu := hbu.fr0 hf5
        replace hbd := hbd.fr0 hf5
        replace ho0 := ho0.fr0 hf5
        refine T_fork (ord2 := [1, 2, 3, 4, 0, 5, 10, 6, 7, 8, 9, 11, 12]) (calls2 := [0, 5, 6, 10, 11, 1000, 1005, 1010]) (i := 6) (j := 10) (by kernel_rfl) rfl rfl rfl (by kernel_rfl) rfl rfl rfl (by rfl) (by rfl) (fun K hK => ?_) (fun K hK => ?_)
        · go_wp2_with fail
          have hrd : RdO wx5 (fun b => b < wx5.heap.size) (some ⟨b5, 0, none⟩) [⟨0, true, ⟨3, 3⟩⟩, ⟨0, true, ⟨3, -1⟩⟩] := ⟨rfl, by decide, fun _ => ⟨_, rfl, hb5.lt, hb5.all⟩⟩
          refine (replay13_calls _ cs0 ⟨13, [⟨3, 5⟩], []⟩ wx5 (some ⟨b5, 0, none⟩) 2 [⟨0, true, ⟨3, 3⟩⟩, ⟨0, true, ⟨3, -1⟩⟩] ho0 rfl (by decide) hrd (by decide)).mono ?_
          rw [show runM countM [⟨3, 5⟩] [⟨0, true, ⟨3, 3⟩⟩, ⟨0, true, ⟨3, -1⟩⟩] = some [⟨3, 7⟩] by decide]
          rintro e wx6 ⟨hf6, (⟨hn, _⟩ | ⟨l6, cs6, hs6, rfl, ho6⟩)⟩
          · cases hn
          injection hs6 with hs6
          subst hs6
          replace ho6 := ho6.mono (T := fun b => b < wx6.heap.size) (fun b hlt _ => hlt)
          go_wp2_with fail
          (refine hK.out _ _ (hf6) ?_; clear hK K; try simp only [Act.put, List.setIfInBounds_toArray, List.set_cons_zero, List.set_cons_succ])
          replace hT := Fr.tr hT hf6
          replace hbu := hbu.fr0 hf6
          replace hbd := hbd.fr0 hf6
          replace ho0 := ho0.fr0 hf6
          replace hb5 := hb5.fr0 hf6
          (first | (refine T_skip (by rfl) (by rfl) (fun _ _ _ h => h) ?_; try simp only [Act.put, List.setIfInBounds_toArray, List.set_cons_zero, List.set_cons_succ]) | (refine T_pass (by rfl) (by rfl) ?_; try simp only [Act.put, List.setIfInBounds_toArray, List.set_cons_zero, List.set_cons_succ]) | (refine T_load (by assumption) (by rfl) (by rfl) (fun _ _ _ _ h => h) rfl rfl (by assumption) (by first | exact (fun hn => hn) | assumption) ?_; try simp only [Act.put, List.setIfInBounds_toArray, List.set_cons_zero, List.set_cons_succ]) | (refine T_nil (by rfl) (by rfl) (fun _ _ _ _ h => h) rfl rfl ?_; try simp only [Act.put, List.setIfInBounds_toArray, List.set_cons_zero, List.set_cons_succ]) | (refine T_quietN (by rfl) (by rfl) (by rfl) (by rfl) (fun _ _ _ _ h => h) (fun K hK => ?_); go_big_quiet_op; refine hK _ ?_; clear hK K) | (refine T_two (by rfl) (by rfl) (by rfl) (by rfl) (fun _ _ _ _ h => h) (fun K hK => ?_); go_big_quiet_op; refine ⟨_, fun _ _ => rfl, ?_⟩; refine hK _ ?_; clear hK K; try simp only [Act.put, List.setIfInBounds_toArray, List.set_cons_zero, List.set_cons_succ]) | fail)
          (first | (refine T_skip (by rfl) (by rfl) (fun _ _ _ h => h) ?_; try simp only [Act.put, List.setIfInBounds_toArray, List.set_cons_zero, List.set_cons_succ]) | (refine T_pass (by rfl) (by rfl) ?_; try simp only [Act.put, List.setIfInBounds_toArray, List.set_cons_zero, List.set_cons_succ]) | (refine T_load (by assumption) (by rfl) (by rfl) (fun _ _ _ _ h => h) rfl rfl (by assumption) (by first | exact (fun hn => hn) | assumption) ?_; try simp only [Act.put, List.setIfInBounds_toArray, List.set_cons_zero, List.set_cons_succ]) | (refine T_nil (by rfl) (by rfl) (fun _ _ _ _ h => h) rfl rfl ?_; try simp only [Act.put, List.setIfInBounds_toArray, List.set_cons_zero, List.set_cons_succ]) | (refine T_quietN (by rfl) (by rfl) (by rfl) (by rfl) (fun _ _ _ _ h => h) (fun K hK => ?_); go_big_quiet_op; refine hK _ ?_; clear hK K) | (refine T_two (by rfl) (by rfl) (by rfl) (by rfl) (fun _ _ _ _ h => h) (fun K hK => ?_); go_big_quiet_op; refine ⟨_, fun _ _ => rfl, ?_⟩; refine hK _ ?_; clear hK K; try simp only [Act.put, List.setIfInBounds_toArray, List.set_cons_zero, List.set_cons_succ]) | fail)
          (first | (refine T_skip (by rfl) (by rfl) (fun _ _ _ h => h) ?_; try simp only [Act.put, List.setIfInBounds_toArray, List.set_cons_zero, List.set_cons_succ]) | (refine T_pass (by rfl) (by rfl) ?_; try simp only [Act.put, List.setIfInBounds_toArray, List.set_cons_zero, List.set_cons_succ]) | (refine T_load (by assumption) (by rfl) (by rfl) (fun _ _ _ _ h => h) rfl rfl (by assumption) (by first | exact (fun hn => hn) | assumption) ?_; try simp only [Act.put, List.setIfInBounds_toArray, List.set_cons_zero, List.set_cons_succ]) | (refine T_nil (by rfl) (by rfl) (fun _ _ _ _ h => h) rfl rfl ?_; try simp only [Act.put, List.setIfInBounds_toArray, List.set_cons_zero, List.set_cons_succ]) | (refine T_quietN (by rfl) (by rfl) (by rfl) (by rfl) (fun _ _ _ _ h => h) (fun K hK => ?_); go_big_quiet_op; refine hK _ ?_; clear hK K) | (refine T_two (by rfl) (by rfl) (by rfl) (by rfl) (fun _ _ _ _ h => h) (fun K hK => ?_); go_big_quiet_op; refine ⟨_, fun _ _ => rfl, ?_⟩; refine hK _ ?_; clear hK K; try simp only [Act.put, List.setIfInBounds_toArray, List.set_cons_zero, List.set_cons_succ]) | fail)
          refine T_call (by rfl) (by rfl) (fun K hK => ?_)
          go_wp2_with fail
          (refine hK.out _ _ (((Fr.refl _ _).alloc _)) ?_; clear hK K; try simp only [Act.put, List.setIfInBounds_toArray, List.set_cons_zero, List.set_cons_succ])
          have hb10 := Blk.new wx6 25 #[.int .i64 0, .slice none 0 0, .slice none 0 0]
          have hf10 : Fr No wx6 (wx6.alloc (.cells #[.int .i64 0, .slice none 0 0, .slice none 0 0] 25)) := (Fr.refl No _).alloc _
          obtain ⟨b10, he10⟩ : ∃ b, b = wx6.heap.size := ⟨_, rfl⟩
          rw [← he10] at hb10 ⊢
          generalize hw10 : wx6.alloc (.cells #[.int .i64 0, .slice none 0 0, .slice none 0 0] 25) = wx10 at *
          clear hw10
          have hle10 : w1.heap.size ≤ b10 := by rw [he10]; exact hT.size
          replace ho6 := ho6.mono (T := fun b => b ≠ b10) (fun b _ hb => by omega)
          clear he10
          replace hT := Fr.tr hT hf10
          replace hbu := hbu.fr0 hf10
          replace hbd := hbd.fr0 hf10
          replace ho0 := ho0.fr0 hf10
          replace hb5 := hb5.fr0 hf10
          replace ho6 := ho6.fr0 hf10
          refine T_turn No [] (by rfl) (by rfl) (by rfl) (fun K hK => ?_)
          obtain ⟨A6, c6, D6, d6, rfl, hr6, hq6⟩ := ho6
          refine wp_stA ag_obj.info _ _ rfl b10 0 _ _ [.int .i64 13, .slice A6 1 c6, .slice D6 0 d6] _ rfl rfl rfl rfl (by intro u hu; simp at hu; rcases hu with rfl | rfl | rfl <;> rfl) hb10 (by decide) ?_
          intro wx11 hb11 hg11 hz11
          rw [splice_all _ _ (by rfl)] at hb11
          refine hK.out _ _ ?_
          clear hK K
          try simp only [Act.put, List.setIfInBounds_toArray, List.set_cons_zero, List.set_cons_succ]
          (first | (refine T_skip (by rfl) (by rfl) (fun _ _ _ h => h) ?_; try simp only [Act.put, List.setIfInBounds_toArray, List.set_cons_zero, List.set_cons_succ]) | (refine T_pass (by rfl) (by rfl) ?_; try simp only [Act.put, List.setIfInBounds_toArray, List.set_cons_zero, List.set_cons_succ]) | (refine T_load (by assumption) (by rfl) (by rfl) (fun _ _ _ _ h => h) rfl rfl (by assumption) (by first | exact (fun hn => hn) | assumption) ?_; try simp only [Act.put, List.setIfInBounds_toArray, List.set_cons_zero, List.set_cons_succ]) | (refine T_nil (by rfl) (by rfl) (fun _ _ _ _ h => h) rfl rfl ?_; try simp only [Act.put, List.setIfInBounds_toArray, List.set_cons_zero, List.set_cons_succ]) | (refine T_quietN (by rfl) (by rfl) (by rfl) (by rfl) (fun _ _ _ _ h => h) (fun K hK => ?_); go_big_quiet_op; refine hK _ ?_; clear hK K) | (refine T_two (by rfl) (by rfl) (by rfl) (by rfl) (fun _ _ _ _ h => h) (fun K hK => ?_); go_big_quiet_op; refine ⟨_, fun _ _ => rfl, ?_⟩; refine hK _ ?_; clear hK K; try simp only [Act.put, List.setIfInBounds_toArray, List.set_cons_zero, List.set_cons_succ]) | fail)
          refine T_done ?_
          go_wp2_with fail
          go_meet
          case rel =>
            refine ⟨b10, _, rfl, rfl, hb11, ⟨A6, c6, D6, d6, rfl, ?_, ?_⟩, hT.grown hg11 (fun q hq => by injection hq with hq; exact .inl (by omega))⟩
            · exact Rd.mono (Rd.grown hr6 hg11 (fun q hq hb => hb (Option.some.inj hq).symm)) (fun _ _ _ => trivial) (by decide)
            · exact Rd.mono (Rd.grown hq6 hg11 (fun q hq hb => hb (Option.some.inj hq).symm)) (fun _ _ _ => trivial) (by decide)
        · go_wp2_with fail
          (refine hK.out _ _ (((Fr.refl _ _).alloc _)) ?_; clear hK K; try simp only [Act.put, List.setIfInBounds_toArray, List.set_cons_zero, List.set_cons_succ])
          have hb10 := Blk.new wx5 25 #[.int .i64 0, .slice none 0 0, .slice none 0 0]
          have hf10 : Fr No wx5 (wx5.alloc (.cells #[.int .i64 0, .slice none 0 0, .slice none 0 0] 25)) := (Fr.refl No _).alloc _
          obtain ⟨b10, he10⟩ : ∃ b, b = wx5.heap.size := ⟨_, rfl⟩
          rw [← he10] at hb10 ⊢
          generalize hw10 : wx5.alloc (.cells #[.int .i64 0, .slice none 0 0, .slice none 0 0] 25) = wx10 at *
          clear hw10
          have hle10 : w1.heap.size ≤ b10 := by rw [he10]; exact hT.size
          clear he10
          replace hT := Fr.tr hT hf10
          replace hbu := hbu.fr0 hf10
          replace hbd := hbd.fr0 hf10
          replace ho0 := ho0.fr0 hf10
          replace hb5 := hb5.fr0 hf10
          refine T_call (by rfl) (by rfl) (fun K hK => ?_)
          go_wp2_with fail
          have hrd : RdO wx10 (fun b => b < wx10.heap.size) (some ⟨b5, 0, none⟩) [⟨0, true, ⟨3, 3⟩⟩, ⟨0, true, ⟨3, -1⟩⟩] := ⟨rfl, by decide, fun _ => ⟨_, rfl, hb5.lt, hb5.all⟩⟩
          refine (replay13_calls _ cs0 ⟨13, [⟨3, 5⟩], []⟩ wx10 (some ⟨b5, 0, none⟩) 2 [⟨0, true, ⟨3, 3⟩⟩, ⟨0, true, ⟨3, -1⟩⟩] ho0 rfl (by decide) hrd (by decide)).mono ?_
          rw [show runM countM [⟨3, 5⟩] [⟨0, true, ⟨3, 3⟩⟩, ⟨0, true, ⟨3, -1⟩⟩] = some [⟨3, 7⟩] by decide]
          rintro e wx6 ⟨hf6, (⟨hn, _⟩ | ⟨l6, cs6, hs6, rfl, ho6⟩)⟩
          · cases hn
          injection hs6 with hs6
          subst hs6
          have hlt10 := hb10.lt
          replace ho6 := ho6.mono (T := fun b => b ≠ b10) (fun b _ hb => by omega)
          go_wp2_with fail
          (refine hK.out _ _ (hf6) ?_; clear hK K; try simp only [Act.put, List.setIfInBounds_toArray, List.set_cons_zero, List.set_cons_succ])
          replace hT := Fr.tr hT hf6
          replace hbu := hbu.fr0 hf6
          replace hbd := hbd.fr0 hf6
          replace ho0 := ho0.fr0 hf6
          replace hb5 := hb5.fr0 hf6
          replace hb10 := hb10.fr0 hf6
          (first | (refine T_skip (by rfl) (by rfl) (fun _ _ _ h => h) ?_; try simp only [Act.put, List.setIfInBounds_toArray, List.set_cons_zero, List.set_cons_succ]) | (refine T_pass (by rfl) (by rfl) ?_; try simp only [Act.put, List.setIfInBounds_toArray, List.set_cons_zero, List.set_cons_succ]) | (refine T_load (by assumption) (by rfl) (by rfl) (fun _ _ _ _ h => h) rfl rfl (by assumption) (by first | exact (fun hn => hn) | assumption) ?_; try simp only [Act.put, List.setIfInBounds_toArray, List.set_cons_zero, List.set_cons_succ]) | (refine T_nil (by rfl) (by rfl) (fun _ _ _ _ h => h) rfl rfl ?_; try simp only [Act.put, List.setIfInBounds_toArray, List.set_cons_zero, List.set_cons_succ]) | (refine T_quietN (by rfl) (by rfl) (by rfl) (by rfl) (fun _ _ _ _ h => h) (fun K hK => ?_); go_big_quiet_op; refine hK _ ?_; clear hK K) | (refine T_two (by rfl) (by rfl) (by rfl) (by rfl) (fun _ _ _ _ h => h) (fun K hK => ?_); go_big_quiet_op; refine ⟨_, fun _ _ => rfl, ?_⟩; refine hK _ ?_; clear hK K; try simp only [Act.put, List.setIfInBounds_toArray, List.set_cons_zero, List.set_cons_succ]) | fail)
          (first | (refine T_skip (by rfl) (by rfl) (fun _ _ _ h => h) ?_; try simp only [Act.put, List.setIfInBounds_toArray, List.set_cons_zero, List.set_cons_succ]) | (refine T_pass (by rfl) (by rfl) ?_; try simp only [Act.put, List.setIfInBounds_toArray, List.set_cons_zero, List.set_cons_succ]) | (refine T_load (by assumption) (by rfl) (by rfl) (fun _ _ _ _ h => h) rfl rfl (by assumption) (by first | exact (fun hn => hn) | assumption) ?_; try simp only [Act.put, List.setIfInBounds_toArray, List.set_cons_zero, List.set_cons_succ]) | (refine T_nil (by rfl) (by rfl) (fun _ _ _ _ h => h) rfl rfl ?_; try simp only [Act.put, List.setIfInBounds_toArray, List.set_cons_zero, List.set_cons_succ]) | (refine T_quietN (by rfl) (by rfl) (by rfl) (by rfl) (fun _ _ _ _ h => h) (fun K hK => ?_); go_big_quiet_op; refine hK _ ?_; clear hK K) | (refine T_two (by rfl) (by rfl) (by rfl) (by rfl) (fun _ _ _ _ h => h) (fun K hK => ?_); go_big_quiet_op; refine ⟨_, fun _ _ => rfl, ?_⟩; refine hK _ ?_; clear hK K; try simp only [Act.put, List.setIfInBounds_toArray, List.set_cons_zero, List.set_cons_succ]) | fail)
          (first | (refine T_skip (by rfl) (by rfl) (fun _ _ _ h => h) ?_; try simp only [Act.put, List.setIfInBounds_toArray, List.set_cons_zero, List.set_cons_succ]) | (refine T_pass (by rfl) (by rfl) ?_; try simp only [Act.put, List.setIfInBounds_toArray, List.set_cons_zero, List.set_cons_succ]) | (refine T_load (by assumption) (by rfl) (by rfl) (fun _ _ _ _ h => h) rfl rfl (by assumption) (by first | exact (fun hn => hn) | assumption) ?_; try simp only [Act.put, List.setIfInBounds_toArray, List.set_cons_zero, List.set_cons_succ]) | (refine T_nil (by rfl) (by rfl) (fun _ _ _ _ h => h) rfl rfl ?_; try simp only [Act.put, List.setIfInBounds_toArray, List.set_cons_zero, List.set_cons_succ]) | (refine T_quietN (by rfl) (by rfl) (by rfl) (by rfl) (fun _ _ _ _ h => h) (fun K hK => ?_); go_big_quiet_op; refine hK _ ?_; clear hK K) | (refine T_two (by rfl) (by rfl) (by rfl) (by rfl) (fun _ _ _ _ h => h) (fun K hK => ?_); go_big_quiet_op; refine ⟨_, fun _ _ => rfl, ?_⟩; refine hK _ ?_; clear hK K; try simp only [Act.put, List.setIfInBounds_toArray, List.set_cons_zero, List.set_cons_succ]) | fail)
          refine T_turn No [] (by rfl) (by rfl) (by rfl) (fun K hK => ?_)
          obtain ⟨A6, c6, D6, d6, rfl, hr6, hq6⟩ := ho6
          refine wp_stA ag_obj.info _ _ rfl b10 0 _ _ [.int .i64 13, .slice A6 1 c6, .slice D6 0 d6] _ rfl rfl rfl rfl (by intro u hu; simp at hu; rcases hu with rfl | rfl | rfl <;> rfl) hb10 (by decide) ?_
          intro wx11 hb11 hg11 hz11
          rw [splice_all _ _ (by rfl)] at hb11
          refine hK.out _ _ ?_
          clear hK K
          try simp only [Act.put, List.setIfInBounds_toArray, List.set_cons_zero, List.set_cons_succ]
          (first | (refine T_skip (by rfl) (by rfl) (fun _ _ _ h => h) ?_; try simp only [Act.put, List.setIfInBounds_toArray, List.set_cons_zero, List.set_cons_succ]) | (refine T_pass (by rfl) (by rfl) ?_; try simp only [Act.put, List.setIfInBounds_toArray, List.set_cons_zero, List.set_cons_succ]) | (refine T_load (by assumption) (by rfl) (by rfl) (fun _ _ _ _ h => h) rfl rfl (by assumption) (by first | exact (fun hn => hn) | assumption) ?_; try simp only [Act.put, List.setIfInBounds_toArray, List.set_cons_zero, List.set_cons_succ]) | (refine T_nil (by rfl) (by rfl) (fun _ _ _ _ h => h) rfl rfl ?_; try simp only [Act.put, List.setIfInBounds_toArray, List.set_cons_zero, List.set_cons_succ]) | (refine T_quietN (by rfl) (by rfl) (by rfl) (by rfl) (fun _ _ _ _ h => h) (fun K hK => ?_); go_big_quiet_op; refine hK _ ?_; clear hK K) | (refine T_two (by rfl) (by rfl) (by rfl) (by rfl) (fun _ _ _ _ h => h) (fun K hK => ?_); go_big_quiet_op; refine ⟨_, fun _ _ => rfl, ?_⟩; refine hK _ ?_; clear hK K; try simp only [Act.put, List.setIfInBounds_toArray, List.set_cons_zero, List.set_cons_succ]) | fail)
          refine T_done ?_
          go_wp2_with fail
          go_meet
          case rel =>
            refine ⟨b10, _, rfl, rfl, hb11, ⟨A6, c6, D6, d6, rfl, ?_, ?_⟩, hT.grown hg11 (fun q hq => by injection hq with hq; exact .inl (by omega))⟩
            · exact Rd.mono (Rd.grown hr6 hg11 (fun q hq hb => hb (Option.some.inj hq).symm)) (fun _ _ _ => trivial) (by decide)
            · exact Rd.mono (Rd.grown hq6 hg11 (fun q hq hb => hb (Option.some.inj hq).symm)) (fun _ _ _ => trivial) (by decide)
      · go_wp2_with fail
        (refine hK.out _ _ (((Fr.refl _ _).alloc _)) ?_; clear hK K; try simp only [Act.put, List.setIfInBounds_toArray, List.set_cons_zero, List.set_cons_succ])
        have hb10 := Blk.new wx0 25 #[.int .i64 0, .slice none 0 0, .slice none 0 0]
        have hf10 : Fr No wx0 (wx0.alloc (.cells #[.int .i64 0, .slice none 0 0, .slice none 0 0] 25)) := (Fr.refl No _).alloc _
        obtain ⟨b10, he10⟩ : ∃ b, b = wx0.heap.size := ⟨_, rfl⟩
        rw [← he10] at hb10 ⊢
        generalize hw10 : wx0.alloc (.cells #[.int .i64 0, .slice none 0 0, .slice none 0 0] 25) = wx10 at *
        clear hw10
        have hle10 : w1.heap.size ≤ b10 := by rw [he10]; exact hT.size
        clear he10
        replace hT := Fr.tr hT hf10
        replace hbu := hbu.fr0 hf10
        replace hbd := hbd.fr0 hf10
        replace ho0 := ho0.fr0 hf10
        refine T_call (by rfl) (by rfl) (fun K hK => ?_)
        go_wp2_with fail
        (refine hK.out _ _ (((Fr.refl _ _).alloc _)) ?_; clear hK K; try simp only [Act.put, List.setIfInBounds_toArray, List.set_cons_zero, List.set_cons_succ])
        have hb5 := Blk.new wx10 41 #[.int .i64 0, .bool true, .int .i64 3, .int .i64 3, .int .i64 0, .bool true, .int .i64 3, .int .i64 (-1)]
        have hf5 : Fr No wx10 (wx10.alloc (.cells #[.int .i64 0, .bool true, .int .i64 3, .int .i64 3, .int .i64 0, .bool true, .int .i64 3, .int .i64 (-1)] 41)) := (Fr.refl No _).alloc _
        obtain ⟨b5, he5⟩ : ∃ b, b = wx10.heap.size := ⟨_, rfl⟩
        rw [← he5] at hb5 ⊢
        generalize hw5 : wx10.alloc (.cells #[.int .i64 0, .bool true, .int .i64 3, .int .i64 3, .int .i64 0, .bool true, .int .i64 3, .int .i64 (-1)] 41) = wx5 at *
        clear hw5
        clear he5
        replace hT := Fr.tr hT hf5
        replace hbu := hbu.fr0 hf5
        replace hbd := hbd.fr0 hf5
        replace ho0 := ho0.fr0 hf5
        replace hb10 := hb10.fr0 hf5
        refine T_call (by rfl) (by rfl) (fun K hK => ?_)
        go_wp2_with fail
        have hrd : RdO wx5 (fun b => b < wx5.heap.size) (some ⟨b5, 0, none⟩) [⟨0, true, ⟨3, 3⟩⟩, ⟨0, true, ⟨3, -1⟩⟩] := ⟨rfl, by decide, fun _ => ⟨_, rfl, hb5.lt, hb5.all⟩⟩
        refine (replay13_calls _ cs0 ⟨13, [⟨3, 5⟩], []⟩ wx5 (some ⟨b5, 0, none⟩) 2 [⟨0, true, ⟨3, 3⟩⟩, ⟨0, true, ⟨3, -1⟩⟩] ho0 rfl (by decide) hrd (by decide)).mono ?_
        rw [show runM countM [⟨3, 5⟩] [⟨0, true, ⟨3, 3⟩⟩, ⟨0, true, ⟨3, -1⟩⟩] = some [⟨3, 7⟩] by decide]
        rintro e wx6 ⟨hf6, (⟨hn, _⟩ | ⟨l6, cs6, hs6, rfl, ho6⟩)⟩
        · cases hn
        injection hs6 with hs6
        subst hs6
        have hlt10 := hb10.lt
        replace ho6 := ho6.mono (T := fun b => b ≠ b10) (fun b _ hb => by omega)
        go_wp2_with fail
        (refine hK.out _ _ (hf6) ?_; clear hK K; try simp only [Act.put, List.setIfInBounds_toArray, List.set_cons_zero, List.set_cons_succ])
        replace hT := Fr.tr hT hf6
        replace hbu := hbu.fr0 hf6
        replace hbd := hbd.fr0 hf6
        replace ho0 := ho0.fr0 hf6
        replace hb5 := hb5.fr0 hf6
        replace hb10 := hb10.fr0 hf6
        (first | (refine T_skip (by rfl) (by rfl) (fun _ _ _ h => h) ?_; try simp only [Act.put, List.setIfInBounds_toArray, List.set_cons_zero, List.set_cons_succ]) | (refine T_pass (by rfl) (by rfl) ?_; try simp only [Act.put, List.setIfInBounds_toArray, List.set_cons_zero, List.set_cons_succ]) | (refine T_load (by assumption) (by rfl) (by rfl) (fun _ _ _ _ h => h) rfl rfl (by assumption) (by first | exact (fun hn => hn) | assumption) ?_; try simp only [Act.put, List.setIfInBounds_toArray, List.set_cons_zero, List.set_cons_succ]) | (refine T_nil (by rfl) (by rfl) (fun _ _ _ _ h => h) rfl rfl ?_; try simp only [Act.put, List.setIfInBounds_toArray, List.set_cons_zero, List.set_cons_succ]) | (refine T_quietN (by rfl) (by rfl) (by rfl) (by rfl) (fun _ _ _ _ h => h) (fun K hK => ?_); go_big_quiet_op; refine hK _ ?_; clear hK K) | (refine T_two (by rfl) (by rfl) (by rfl) (by rfl) (fun _ _ _ _ h => h) (fun K hK => ?_); go_big_quiet_op; refine ⟨_, fun _ _ => rfl, ?_⟩; refine hK _ ?_; clear hK K; try simp only [Act.put, List.setIfInBounds_toArray, List.set_cons_zero, List.set_cons_succ]) | fail)
        (first | (refine T_skip (by rfl) (by rfl) (fun _ _ _ h => h) ?_; try simp only [Act.put, List.setIfInBounds_toArray, List.set_cons_zero, List.set_cons_succ]) | (refine T_pass (by rfl) (by rfl) ?_; try simp only [Act.put, List.setIfInBounds_toArray, List.set_cons_zero, List.set_cons_succ]) | (refine T_load (by assumption) (by rfl) (by rfl) (fun _ _ _ _ h => h) rfl rfl (by assumption) (by first | exact (fun hn => hn) | assumption) ?_; try simp only [Act.put, List.setIfInBounds_toArray, List.set_cons_zero, List.set_cons_succ]) | (refine T_nil (by rfl) (by rfl) (fun _ _ _ _ h => h) rfl rfl ?_; try simp only [Act.put, List.setIfInBounds_toArray, List.set_cons_zero, List.set_cons_succ]) | (refine T_quietN (by rfl) (by rfl) (by rfl) (by rfl) (fun _ _ _ _ h => h) (fun K hK => ?_); go_big_quiet_op; refine hK _ ?_; clear hK K) | (refine T_two (by rfl) (by rfl) (by rfl) (by rfl) (fun _ _ _ _ h => h) (fun K hK => ?_); go_big_quiet_op; refine ⟨_, fun _ _ => rfl, ?_⟩; refine hK _ ?_; clear hK K; try simp only [Act.put, List.setIfInBounds_toArray, List.set_cons_zero, List.set_cons_succ]) | fail)
        (first | (refine T_skip (by rfl) (by rfl) (fun _ _ _ h => h) ?_; try simp only [Act.put, List.setIfInBounds_toArray, List.set_cons_zero, List.set_cons_succ]) | (refine T_pass (by rfl) (by rfl) ?_; try simp only [Act.put, List.setIfInBounds_toArray, List.set_cons_zero, List.set_cons_succ]) | (refine T_load (by assumption) (by rfl) (by rfl) (fun _ _ _ _ h => h) rfl rfl (by assumption) (by first | exact (fun hn => hn) | assumption) ?_; try simp only [Act.put, List.setIfInBounds_toArray, List.set_cons_zero, List.set_cons_succ]) | (refine T_nil (by rfl) (by rfl) (fun _ _ _ _ h => h) rfl rfl ?_; try simp only [Act.put, List.setIfInBounds_toArray, List.set_cons_zero, List.set_cons_succ]) | (refine T_quietN (by rfl) (by rfl) (by rfl) (by rfl) (fun _ _ _ _ h => h) (fun K hK => ?_); go_big_quiet_op; refine hK _ ?_; clear hK K) | (refine T_two (by rfl) (by rfl) (by rfl) (by rfl) (fun _ _ _ _ h => h) (fun K hK => ?_); go_big_quiet_op; refine ⟨_, fun _ _ => rfl, ?_⟩; refine hK _ ?_; clear hK K; try simp only [Act.put, List.setIfInBounds_toArray, List.set_cons_zero, List.set_cons_succ]) | fail)
        refine T_turn No [] (by rfl) (by rfl) (by rfl) (fun K hK => ?_)
        obtain ⟨A6, c6, D6, d6, rfl, hr6, hq6⟩ := ho6
        refine wp_stA ag_obj.info _ _ rfl b10 0 _ _ [.int .i64 13, .slice A6 1 c6, .slice D6 0 d6] _ rfl rfl rfl rfl (by intro u hu; simp at hu; rcases hu with rfl | rfl | rfl <;> rfl) hb10 (by decide) ?_
        intro wx11 hb11 hg11 hz11
        rw [splice_all _ _ (by rfl)] at hb11
        refine hK.out _ _ ?_
        clear hK K
        try simp only [Act.put, List.setIfInBounds_toArray, List.set_cons_zero, List.set_cons_succ]
        (first | (refine T_skip (by rfl) (by rfl) (fun _ _ _ h => h) ?_; try simp only [Act.put, List.setIfInBounds_toArray, List.set_cons_zero, List.set_cons_succ]) | (refine T_pass (by rfl) (by rfl) ?_; try simp only [Act.put, List.setIfInBounds_toArray, List.set_cons_zero, List.set_cons_succ]) | (refine T_load (by assumption) (by rfl) (by rfl) (fun _ _ _ _ h => h) rfl rfl (by assumption) (by first | exact (fun hn => hn) | assumption) ?_; try simp only [Act.put, List.setIfInBounds_toArray, List.set_cons_zero, List.set_cons_succ]) | (refine T_nil (by rfl) (by rfl) (fun _ _ _ _ h => h) rfl rfl ?_; try simp only [Act.put, List.setIfInBounds_toArray, List.set_cons_zero, List.set_cons_succ]) | (refine T_quietN (by rfl) (by rfl) (by rfl) (by rfl) (fun _ _ _ _ h => h) (fun K hK => ?_); go_big_quiet_op; refine hK _ ?_; clear hK K) | (refine T_two (by rfl) (by rfl) (by rfl) (by rfl) (fun _ _ _ _ h => h) (fun K hK => ?_); go_big_quiet_op; refine ⟨_, fun _ _ => rfl, ?_⟩; refine hK _ ?_; clear hK K; try simp only [Act.put, List.setIfInBounds_toArray, List.set_cons_zero, List.set_cons_succ]) | fail)
        refine T_done ?_
        go_wp2_with fail
        go_meet
        case rel =>
          refine ⟨b10, _, rfl, rfl, hb11, ⟨A6, c6, D6, d6, rfl, ?_, ?_⟩, hT.grown hg11 (fun q hq => by injection hq with hq; exact .inl (by omega))⟩
          · exact Rd.mono (Rd.grown hr6 hg11 (fun q hq hb => hb (Option.some.inj hq).symm)) (fun _ _ _ => trivial) (by decide)
          · exact Rd.mono (Rd.grown hq6 hg11 (fun q hq hb => hb (Option.some.inj hq).symm)) (fun _ _ _ => trivial) (by decide)
    · go_wp2_with fail
      (refine hK.out _ _ (((Fr.refl _ _).alloc _)) ?_; clear hK K; try simp only [Act.put, List.setIfInBounds_toArray, List.set_cons_zero, List.set_cons_succ])
      have hb5 := Blk.new w2 41 #[.int .i64 0, .bool true, .int .i64 3, .int .i64 3, .int .i64 0, .bool true, .int .i64 3, .int .i64 (-1)]
      have hf5 : Fr No w2 (w2.alloc (.cells #[.int .i64 0, .bool true, .int .i64 3, .int .i64 3, .int .i64 0, .bool true, .int .i64 3, .int .i64 (-1)] 41)) := (Fr.refl No _).alloc _
      obtain ⟨b5, he5⟩ : ∃ b, b = w2.heap.size := ⟨_, rfl⟩
      rw [← he5] at hb5 ⊢
      generalize hw5 : w2.alloc (.cells #[.int .i64 0, .bool true, .int .i64 3, .int .i64 3, .int .i64 0, .bool true, .int .i64 3, .int .i64 (-1)] 41) = wx5 at *
      clear hw5
      clear he5
      replace hT := Fr.tr hT hf5
      replace hbu := hbu.fr0 hf5
      replace hbd := hbd.fr0 hf5
      refine T_fork (ord2 := [1, 2, 3, 4, 5, 10, 0, 6, 7, 8, 9, 11, 12]) (calls2 := [0, 5, 6, 10, 11, 1005, 1010]) (i := 0) (j := 10) (by kernel_rfl) rfl rfl rfl (by kernel_rfl) rfl rfl rfl (by rfl) (by rfl) (fun K hK => ?_) (fun K hK => ?_)
      · go_wp2_with fail
        refine (counter_calls 5 _).mono ?_
        rintro e wx0 ⟨cs0, rfl, ho0, hf0⟩
        go_wp2_with fail
        (refine hK.out _ _ (hf0) ?_; clear hK K; try simp only [Act.put, List.setIfInBounds_toArray, List.set_cons_zero, List.set_cons_succ])
        replace hT := Fr.tr hT hf0
        replace hbu := hbu.fr0 hf0
        replace hbd := hbd.fr0 hf0
        replace hb5 := hb5.fr0 hf0
        refine T_fork (ord2 := [1, 2, 3, 4, 5, 0, 10, 6, 7, 8, 9, 11, 12]) (calls2 := [0, 5, 6, 10, 11, 1005, 1000, 1010]) (i := 6) (j := 10) (by kernel_rfl) rfl rfl rfl (by kernel_rfl) rfl rfl rfl (by rfl) (by rfl) (fun K hK => ?_) (fun K hK => ?_)
        · go_wp2_with fail
          have hrd : RdO wx0 (fun b => b < wx0.heap.size) (some ⟨b5, 0, none⟩) [⟨0, true, ⟨3, 3⟩⟩, ⟨0, true, ⟨3, -1⟩⟩] := ⟨rfl, by decide, fun _ => ⟨_, rfl, hb5.lt, hb5.all⟩⟩
          refine (replay13_calls _ cs0 ⟨13, [⟨3, 5⟩], []⟩ wx0 (some ⟨b5, 0, none⟩) 2 [⟨0, true, ⟨3, 3⟩⟩, ⟨0, true, ⟨3, -1⟩⟩] ho0 rfl (by decide) hrd (by decide)).mono ?_
          rw [show runM countM [⟨3, 5⟩] [⟨0, true, ⟨3, 3⟩⟩, ⟨0, true, ⟨3, -1⟩⟩] = some [⟨3, 7⟩] by decide]
          rintro e wx6 ⟨hf6, (⟨hn, _⟩ | ⟨l6, cs6, hs6, rfl, ho6⟩)⟩
          · cases hn
          injection hs6 with hs6
          subst hs6
          replace ho6 := ho6.mono (T := fun b => b < wx6.heap.size) (fun b hlt _ => hlt)
          go_wp2_with fail
          (refine hK.out _ _ (hf6) ?_; clear hK K; try simp only [Act.put, List.setIfInBounds_toArray, List.set_cons_zero, List.set_cons_succ])
          replace hT := Fr.tr hT hf6
          replace hbu := hbu.fr0 hf6
          replace hbd := hbd.fr0 hf6
          replace ho0 := ho0.fr0 hf6
          replace hb5 := hb5.fr0 hf6
          (first | (refine T_skip (by rfl) (by rfl) (fun _ _ _ h => h) ?_; try simp only [Act.put, List.setIfInBounds_toArray, List.set_cons_zero, List.set_cons_succ]) | (refine T_pass (by rfl) (by rfl) ?_; try simp only [Act.put, List.setIfInBounds_toArray, List.set_cons_zero, List.set_cons_succ]) | (refine T_load (by assumption) (by rfl) (by rfl) (fun _ _ _ _ h => h) rfl rfl (by assumption) (by first | exact (fun hn => hn) | assumption) ?_; try simp only [Act.put, List.setIfInBounds_toArray, List.set_cons_zero, List.set_cons_succ]) | (refine T_nil (by rfl) (by rfl) (fun _ _ _ _ h => h) rfl rfl ?_; try simp only [Act.put, List.setIfInBounds_toArray, List.set_cons_zero, List.set_cons_succ]) | (refine T_quietN (by rfl) (by rfl) (by rfl) (by rfl) (fun _ _ _ _ h => h) (fun K hK => ?_); go_big_quiet_op; refine hK _ ?_; clear hK K) | (refine T_two (by rfl) (by rfl) (by rfl) (by rfl) (fun _ _ _ _ h => h) (fun K hK => ?_); go_big_quiet_op; refine ⟨_, fun _ _ => rfl, ?_⟩; refine hK _ ?_; clear hK K; try simp only [Act.put, List.setIfInBounds_toArray, List.set_cons_zero, List.set_cons_succ]) | fail)
          (first | (refine T_skip (by rfl) (by rfl) (fun _ _ _ h => h) ?_; try simp only [Act.put, List.setIfInBounds_toArray, List.set_cons_zero, List.set_cons_succ]) | (refine T_pass (by rfl) (by rfl) ?_; try simp only [Act.put, List.setIfInBounds_toArray, List.set_cons_zero, List.set_cons_succ]) | (refine T_load (by assumption) (by rfl) (by rfl) (fun _ _ _ _ h => h) rfl rfl (by assumption) (by first | exact (fun hn => hn) | assumption) ?_; try simp only [Act.put, List.setIfInBounds_toArray, List.set_cons_zero, List.set_cons_succ]) | (refine T_nil (by rfl) (by rfl) (fun _ _ _ _ h => h) rfl rfl ?_; try simp only [Act.put, List.setIfInBounds_toArray, List.set_cons_zero, List.set_cons_succ]) | (refine T_quietN (by rfl) (by rfl) (by rfl) (by rfl) (fun _ _ _ _ h => h) (fun K hK => ?_); go_big_quiet_op; refine hK _ ?_; clear hK K) | (refine T_two (by rfl) (by rfl) (by rfl) (by rfl) (fun _ _ _ _ h => h) (fun K hK => ?_); go_big_quiet_op; refine ⟨_, fun _ _ => rfl, ?_⟩; refine hK _ ?_; clear hK K; try simp only [Act.put, List.setIfInBounds_toArray, List.set_cons_zero, List.set_cons_succ]) | fail)
          (first | (refine T_skip (by rfl) (by rfl) (fun _ _ _ h => h) ?_; try simp only [Act.put, List.setIfInBounds_toArray, List.set_cons_zero, List.set_cons_succ]) | (refine T_pass (by rfl) (by rfl) ?_; try simp only [Act.put, List.setIfInBounds_toArray, List.set_cons_zero, List.set_cons_succ]) | (refine T_load (by assumption) (by rfl) (by rfl) (fun _ _ _ _ h => h) rfl rfl (by assumption) (by first | exact (fun hn => hn) | assumption) ?_; try simp only [Act.put, List.setIfInBounds_toArray, List.set_cons_zero, List.set_cons_succ]) | (refine T_nil (by rfl) (by rfl) (fun _ _ _ _ h => h) rfl rfl ?_; try simp only [Act.put, List.setIfInBounds_toArray, List.set_cons_zero, List.set_cons_succ]) | (refine T_quietN (by rfl) (by rfl) (by rfl) (by rfl) (fun _ _ _ _ h => h) (fun K hK => ?_); go_big_quiet_op; refine hK _ ?_; clear hK K) | (refine T_two (by rfl) (by rfl) (by rfl) (by rfl) (fun _ _ _ _ h => h) (fun K hK => ?_); go_big_quiet_op; refine ⟨_, fun _ _ => rfl, ?_⟩; refine hK _ ?_; clear hK K; try simp only [Act.put, List.setIfInBounds_toArray, List.set_cons_zero, List.set_cons_succ]) | fail)
          refine T_call (by rfl) (by rfl) (fun K hK => ?_)
          go_wp2_with fail
          (refine hK.out _ _ (((Fr.refl _ _).alloc _)) ?_; clear hK K; try simp only [Act.put, List.setIfInBounds_toArray, List.set_cons_zero, List.set_cons_succ])
          have hb10 := Blk.new wx6 25 #[.int .i64 0, .slice none 0 0, .slice none 0 0]
          have hf10 : Fr No wx6 (wx6.alloc (.cells #[.int .i64 0, .slice none 0 0, .slice none 0 0] 25)) := (Fr.refl No _).alloc _
          obtain ⟨b10, he10⟩ : ∃ b, b = wx6.heap.size := ⟨_, rfl⟩
          rw [← he10] at hb10 ⊢
          generalize hw10 : wx6.alloc (.cells #[.int .i64 0, .slice none 0 0, .slice none 0 0] 25) = wx10 at *
          clear hw10
          have hle10 : w1.heap.size ≤ b10 := by rw [he10]; exact hT.size
          replace ho6 := ho6.mono (T := fun b => b ≠ b10) (fun b _ hb => by omega)
          clear he10
          replace hT := Fr.tr hT hf10
          replace hbu := hbu.fr0 hf10
          replace hbd := hbd.fr0 hf10
          replace ho0 := ho0.fr0 hf10
          replace hb5 := hb5.fr0 hf10
          replace ho6 := ho6.fr0 hf10
          refine T_turn No [] (by rfl) (by rfl) (by rfl) (fun K hK => ?_)
          obtain ⟨A6, c6, D6, d6, rfl, hr6, hq6⟩ := ho6
          refine wp_stA ag_obj.info _ _ rfl b10 0 _ _ [.int .i64 13, .slice A6 1 c6, .slice D6 0 d6] _ rfl rfl rfl rfl (by intro u hu; simp at hu; rcases hu with rfl | rfl | rfl <;> rfl) hb10 (by decide) ?_
          intro wx11 hb11 hg11 hz11
          rw [splice_all _ _ (by rfl)] at hb11
          refine hK.out _ _ ?_
          clear hK K
          try simp only [Act.put, List.setIfInBounds_toArray, List.set_cons_zero, List.set_cons_succ]
          (first | (refine T_skip (by rfl) (by rfl) (fun _ _ _ h => h) ?_; try simp only [Act.put, List.setIfInBounds_toArray, List.set_cons_zero, List.set_cons_succ]) | (refine T_pass (by rfl) (by rfl) ?_; try simp only [Act.put, List.setIfInBounds_toArray, List.set_cons_zero, List.set_cons_succ]) | (refine T_load (by assumption) (by rfl) (by rfl) (fun _ _ _ _ h => h) rfl rfl (by assumption) (by first | exact (fun hn => hn) | assumption) ?_; try simp only [Act.put, List.setIfInBounds_toArray, List.set_cons_zero, List.set_cons_succ]) | (refine T_nil (by rfl) (by rfl) (fun _ _ _ _ h => h) rfl rfl ?_; try simp only [Act.put, List.setIfInBounds_toArray, List.set_cons_zero, List.set_cons_succ]) | (refine T_quietN (by rfl) (by rfl) (by rfl) (by rfl) (fun _ _ _ _ h => h) (fun K hK => ?_); go_big_quiet_op; refine hK _ ?_; clear hK K) | (refine T_two (by rfl) (by rfl) (by rfl) (by rfl) (fun _ _ _ _ h => h) (fun K hK => ?_); go_big_quiet_op; refine ⟨_, fun _ _ => rfl, ?_⟩; refine hK _ ?_; clear hK K; try simp only [Act.put, List.setIfInBounds_toArray, List.set_cons_zero, List.set_cons_succ]) | fail)
          refine T_done ?_
          go_wp2_with fail
          go_meet
          case rel =>
            refine ⟨b10, _, rfl, rfl, hb11, ⟨A6, c6, D6, d6, rfl, ?_, ?_⟩, hT.grown hg11 (fun q hq => by injection hq with hq; exact .inl (by omega))⟩
            · exact Rd.mono (Rd.grown hr6 hg11 (fun q hq hb => hb (Option.some.inj hq).symm)) (fun _ _ _ => trivial) (by decide)
            · exact Rd.mono (Rd.grown hq6 hg11 (fun q hq hb => hb (Option.some.inj hq).symm)) (fun _ _ _ => trivial) (by decide)
        · go_wp2_with fail
          (refine hK.out _ _ (((Fr.refl _ _).alloc _)) ?_; clear hK K; try simp only [Act.put, List.setIfInBounds_toArray, List.set_cons_zero, List.set_cons_succ])
          have hb10 := Blk.new wx0 25 #[.int .i64 0, .slice none 0 0, .slice none 0 0]
          have hf10 : Fr No wx0 (wx0.alloc (.cells #[.int .i64 0, .slice none 0 0, .slice none 0 0] 25)) := (Fr.refl No _).alloc _
          obtain ⟨b10, he10⟩ : ∃ b, b = wx0.heap.size := ⟨_, rfl⟩
          rw [← he10] at hb10 ⊢
          generalize hw10 : wx0.alloc (.cells #[.int .i64 0, .slice none 0 0, .slice none 0 0] 25) = wx10 at *
          clear hw10
          have hle10 : w1.heap.size ≤ b10 := by rw [he10]; exact hT.size
          clear he10
          replace hT := Fr.tr hT hf10
          replace hbu := hbu.fr0 hf10
          replace hbd := hbd.fr0 hf10
          replace ho0 := ho0.fr0 hf10
          replace hb5 := hb5.fr0 hf10
          refine T_call (by rfl) (by rfl) (fun K hK => ?_)
          go_wp2_with fail
          have hrd : RdO wx10 (fun b => b < wx10.heap.size) (some ⟨b5, 0, none⟩) [⟨0, true, ⟨3, 3⟩⟩, ⟨0, true, ⟨3, -1⟩⟩] := ⟨rfl, by decide, fun _ => ⟨_, rfl, hb5.lt, hb5.all⟩⟩
          refine (replay13_calls _ cs0 ⟨13, [⟨3, 5⟩], []⟩ wx10 (some ⟨b5, 0, none⟩) 2 [⟨0, true, ⟨3, 3⟩⟩, ⟨0, true, ⟨3, -1⟩⟩] ho0 rfl (by decide) hrd (by decide)).mono ?_
          rw [show runM countM [⟨3, 5⟩] [⟨0, true, ⟨3, 3⟩⟩, ⟨0, true, ⟨3, -1⟩⟩] = some [⟨3, 7⟩] by decide]
          rintro e wx6 ⟨hf6, (⟨hn, _⟩ | ⟨l6, cs6, hs6, rfl, ho6⟩)⟩
          · cases hn
          injection hs6 with hs6
          subst hs6
          have hlt10 := hb10.lt
          replace ho6 := ho6.mono (T := fun b => b ≠ b10) (fun b _ hb => by omega)
          go_wp2_with fail
          (refine hK.out _ _ (hf6) ?_; clear hK K; try simp only [Act.put, List.setIfInBounds_toArray, List.set_cons_zero, List.set_cons_succ])
          replace hT := Fr.tr hT hf6
          replace hbu := hbu.fr0 hf6
          replace hbd := hbd.fr0 hf6
          replace ho0 := ho0.fr0 hf6
          replace hb5 := hb5.fr0 hf6
          replace hb10 := hb10.fr0 hf6
          (first | (refine T_skip (by rfl) (by rfl) (fun _ _ _ h => h) ?_; try simp only [Act.put, List.setIfInBounds_toArray, List.set_cons_zero, List.set_cons_succ]) | (refine T_pass (by rfl) (by rfl) ?_; try simp only [Act.put, List.setIfInBounds_toArray, List.set_cons_zero, List.set_cons_succ]) | (refine T_load (by assumption) (by rfl) (by rfl) (fun _ _ _ _ h => h) rfl rfl (by assumption) (by first | exact (fun hn => hn) | assumption) ?_; try simp only [Act.put, List.setIfInBounds_toArray, List.set_cons_zero, List.set_cons_succ]) | (refine T_nil (by rfl) (by rfl) (fun _ _ _ _ h => h) rfl rfl ?_; try simp only [Act.put, List.setIfInBounds_toArray, List.set_cons_zero, List.set_cons_succ]) | (refine T_quietN (by rfl) (by rfl) (by rfl) (by rfl) (fun _ _ _ _ h => h) (fun K hK => ?_); go_big_quiet_op; refine hK _ ?_; clear hK K) | (refine T_two (by rfl) (by rfl) (by rfl) (by rfl) (fun _ _ _ _ h => h) (fun K hK => ?_); go_big_quiet_op; refine ⟨_, fun _ _ => rfl, ?_⟩; refine hK _ ?_; clear hK K; try simp only [Act.put, List.setIfInBounds_toArray, List.set_cons_zero, List.set_cons_succ]) | fail)
          (first | (refine T_skip (by rfl) (by rfl) (fun _ _ _ h => h) ?_; try simp only [Act.put, List.setIfInBounds_toArray, List.set_cons_zero, List.set_cons_succ]) | (refine T_pass (by rfl) (by rfl) ?_; try simp only [Act.put, List.setIfInBounds_toArray, List.set_cons_zero, List.set_cons_succ]) | (refine T_load (by assumption) (by rfl) (by rfl) (fun _ _ _ _ h => h) rfl rfl (by assumption) (by first | exact (fun hn => hn) | assumption) ?_; try simp only [Act.put, List.setIfInBounds_toArray, List.set_cons_zero, List.set_cons_succ]) | (refine T_nil (by rfl) (by rfl) (fun _ _ _ _ h => h) rfl rfl ?_; try simp only [Act.put, List.setIfInBounds_toArray, List.set_cons_zero, List.set_cons_succ]) | (refine T_quietN (by rfl) (by rfl) (by rfl) (by rfl) (fun _ _ _ _ h => h) (fun K hK => ?_); go_big_quiet_op; refine hK _ ?_; clear hK K) | (refine T_two (by rfl) (by rfl) (by rfl) (by rfl) (fun _ _ _ _ h => h) (fun K hK => ?_); go_big_quiet_op; refine ⟨_, fun _ _ => rfl, ?_⟩; refine hK _ ?_; clear hK K; try simp only [Act.put, List.setIfInBounds_toArray, List.set_cons_zero, List.set_cons_succ]) | fail)
          (first | (refine T_skip (by rfl) (by rfl) (fun _ _ _ h => h) ?_; try simp only [Act.put, List.setIfInBounds_toArray, List.set_cons_zero, List.set_cons_succ]) | (refine T_pass (by rfl) (by rfl) ?_; try simp only [Act.put, List.setIfInBounds_toArray, List.set_cons_zero, List.set_cons_succ]) | (refine T_load (by assumption) (by rfl) (by rfl) (fun _ _ _ _ h => h) rfl rfl (by assumption) (by first | exact (fun hn => hn) | assumption) ?_; try simp only [Act.put, List.setIfInBounds_toArray, List.set_cons_zero, List.set_cons_succ]) | (refine T_nil (by rfl) (by rfl) (fun _ _ _ _ h => h) rfl rfl ?_; try simp only [Act.put, List.setIfInBounds_toArray, List.set_cons_zero, List.set_cons_succ]) | (refine T_quietN (by rfl) (by rfl) (by rfl) (by rfl) (fun _ _ _ _ h => h) (fun K hK => ?_); go_big_quiet_op; refine hK _ ?_; clear hK K) | (refine T_two (by rfl) (by rfl) (by rfl) (by rfl) (fun _ _ _ _ h => h) (fun K hK => ?_); go_big_quiet_op; refine ⟨_, fun _ _ => rfl, ?_⟩; refine hK _ ?_; clear hK K; try simp only [Act.put, List.setIfInBounds_toArray, List.set_cons_zero, List.set_cons_succ]) | fail)
          refine T_turn No [] (by rfl) (by rfl) (by rfl) (fun K hK => ?_)
          obtain ⟨A6, c6, D6, d6, rfl, hr6, hq6⟩ := ho6
          refine wp_stA ag_obj.info _ _ rfl b10 0 _ _ [.int .i64 13, .slice A6 1 c6, .slice D6 0 d6] _ rfl rfl rfl rfl (by intro u hu; simp at hu; rcases hu with rfl | rfl | rfl <;> rfl) hb10 (by decide) ?_
          intro wx11 hb11 hg11 hz11
          rw [splice_all _ _ (by rfl)] at hb11
          refine hK.out _ _ ?_
          clear hK K
          try simp only [Act.put, List.setIfInBounds_toArray, List.set_cons_zero, List.set_cons_succ]
          (first | (refine T_skip (by rfl) (by rfl) (fun _ _ _ h => h) ?_; try simp only [Act.put, List.setIfInBounds_toArray, List.set_cons_zero, List.set_cons_succ]) | (refine T_pass (by rfl) (by rfl) ?_; try simp only [Act.put, List.setIfInBounds_toArray, List.set_cons_zero, List.set_cons_succ]) | (refine T_load (by assumption) (by rfl) (by rfl) (fun _ _ _ _ h => h) rfl rfl (by assumption) (by first | exact (fun hn => hn) | assumption) ?_; try simp only [Act.put, List.setIfInBounds_toArray, List.set_cons_zero, List.set_cons_succ]) | (refine T_nil (by rfl) (by rfl) (fun _ _ _ _ h => h) rfl rfl ?_; try simp only [Act.put, List.setIfInBounds_toArray, List.set_cons_zero, List.set_cons_succ]) | (refine T_quietN (by rfl) (by rfl) (by rfl) (by rfl) (fun _ _ _ _ h => h) (fun K hK => ?_); go_big_quiet_op; refine hK _ ?_; clear hK K) | (refine T_two (by rfl) (by rfl) (by rfl) (by rfl) (fun _ _ _ _ h => h) (fun K hK => ?_); go_big_quiet_op; refine ⟨_, fun _ _ => rfl, ?_⟩; refine hK _ ?_; clear hK K; try simp only [Act.put, List.setIfInBounds_toArray, List.set_cons_zero, List.set_cons_succ]) | fail)
          refine T_done ?_
          go_wp2_with fail
          go_meet
          case rel =>
            refine ⟨b10, _, rfl, rfl, hb11, ⟨A6, c6, D6, d6, rfl, ?_, ?_⟩, hT.grown hg11 (fun q hq => by injection hq with hq; exact .inl (by omega))⟩
            · exact Rd.mono (Rd.grown hr6 hg11 (fun q hq hb => hb (Option.some.inj hq).symm)) (fun _ _ _ => trivial) (by decide)
            · exact Rd.mono (Rd.grown hq6 hg11 (fun q hq hb => hb (Option.some.inj hq).symm)) (fun _ _ _ => trivial) (by decide)
      · go_wp2_with fail
        (refine hK.out _ _ (((Fr.refl _ _).alloc _)) ?_; clear hK K; try simp only [Act.put, List.setIfInBounds_toArray, List.set_cons_zero, List.set_cons_succ])
        have hb10 := Blk.new wx5 25 #[.int .i64 0, .slice none 0 0, .slice none 0 0]
        have hf10 : Fr No wx5 (wx5.alloc (.cells #[.int .i64 0, .slice none 0 0, .slice none 0 0] 25)) := (Fr.refl No _).alloc _
        obtain ⟨b10, he10⟩ : ∃ b, b = wx5.heap.size := ⟨_, rfl⟩
        rw [← he10] at hb10 ⊢
        generalize hw10 : wx5.alloc (.cells #[.int .i64 0, .slice none 0 0, .slice none 0 0] 25) = wx10 at *
        clear hw10
        have hle10 : w1.heap.size ≤ b10 := by rw [he10]; exact hT.size
        clear he10
        replace hT := Fr.tr hT hf10
        replace hbu := hbu.fr0 hf10
        replace hbd := hbd.fr0 hf10
        replace hb5 := hb5.fr0 hf10
        refine T_call (by rfl) (by rfl) (fun K hK => ?_)
        go_wp2_with fail
        refine (counter_calls 5 _).mono ?_
        rintro e wx0 ⟨cs0, rfl, ho0, hf0⟩
        go_wp2_with fail
        (refine hK.out _ _ (hf0) ?_; clear hK K; try simp only [Act.put, List.setIfInBounds_toArray, List.set_cons_zero, List.set_cons_succ])
        replace hT := Fr.tr hT hf0
        replace hbu := hbu.fr0 hf0
        replace hbd := hbd.fr0 hf0
        replace hb5 := hb5.fr0 hf0
        replace hb10 := hb10.fr0 hf0
        refine T_call (by rfl) (by rfl) (fun K hK => ?_)
        go_wp2_with fail
        have hrd : RdO wx0 (fun b => b < wx0.heap.size) (some ⟨b5, 0, none⟩) [⟨0, true, ⟨3, 3⟩⟩, ⟨0, true, ⟨3, -1⟩⟩] := ⟨rfl, by decide, fun _ => ⟨_, rfl, hb5.lt, hb5.all⟩⟩
        refine (replay13_calls _ cs0 ⟨13, [⟨3, 5⟩], []⟩ wx0 (some ⟨b5, 0, none⟩) 2 [⟨0, true, ⟨3, 3⟩⟩, ⟨0, true, ⟨3, -1⟩⟩] ho0 rfl (by decide) hrd (by decide)).mono ?_
        rw [show runM countM [⟨3, 5⟩] [⟨0, true, ⟨3, 3⟩⟩, ⟨0, true, ⟨3, -1⟩⟩] = some [⟨3, 7⟩] by decide]
        rintro e wx6 ⟨hf6, (⟨hn, _⟩ | ⟨l6, cs6, hs6, rfl, ho6⟩)⟩
        · cases hn
        injection hs6 with hs6
        subst hs6
        have hlt10 := hb10.lt
        replace ho6 := ho6.mono (T := fun b => b ≠ b10) (fun b _ hb => by omega)
        go_wp2_with fail
        (refine hK.out _ _ (hf6) ?_; clear hK K; try simp only [Act.put, List.setIfInBounds_toArray, List.set_cons_zero, List.set_cons_succ])
        replace hT := Fr.tr hT hf6
        replace hbu := hbu.fr0 hf6
        replace hbd := hbd.fr0 hf6
        replace ho0 := ho0.fr0 hf6
        replace hb5 := hb5.fr0 hf6
        replace hb10 := hb10.fr0 hf6
        (first | (refine T_skip (by rfl) (by rfl) (fun _ _ _ h => h) ?_; try simp only [Act.put, List.setIfInBounds_toArray, List.set_cons_zero, List.set_cons_succ]) | (refine T_pass (by rfl) (by rfl) ?_; try simp only [Act.put, List.setIfInBounds_toArray, List.set_cons_zero, List.set_cons_succ]) | (refine T_load (by assumption) (by rfl) (by rfl) (fun _ _ _ _ h => h) rfl rfl (by assumption) (by first | exact (fun hn => hn) | assumption) ?_; try simp only [Act.put, List.setIfInBounds_toArray, List.set_cons_zero, List.set_cons_succ]) | (refine T_nil (by rfl) (by rfl) (fun _ _ _ _ h => h) rfl rfl ?_; try simp only [Act.put, List.setIfInBounds_toArray, List.set_cons_zero, List.set_cons_succ]) | (refine T_quietN (by rfl) (by rfl) (by rfl) (by rfl) (fun _ _ _ _ h => h) (fun K hK => ?_); go_big_quiet_op; refine hK _ ?_; clear hK K) | (refine T_two (by rfl) (by rfl) (by rfl) (by rfl) (fun _ _ _ _ h => h) (fun K hK => ?_); go_big_quiet_op; refine ⟨_, fun _ _ => rfl, ?_⟩; refine hK _ ?_; clear hK K; try simp only [Act.put, List.setIfInBounds_toArray, List.set_cons_zero, List.set_cons_succ]) | fail)
        (first | (refine T_skip (by rfl) (by rfl) (fun _ _ _ h => h) ?_; try simp only [Act.put, List.setIfInBounds_toArray, List.set_cons_zero, List.set_cons_succ]) | (refine T_pass (by rfl) (by rfl) ?_; try simp only [Act.put, List.setIfInBounds_toArray, List.set_cons_zero, List.set_cons_succ]) | (refine T_load (by assumption) (by rfl) (by rfl) (fun _ _ _ _ h => h) rfl rfl (by assumption) (by first | exact (fun hn => hn) | assumption) ?_; try simp only [Act.put, List.setIfInBounds_toArray, List.set_cons_zero, List.set_cons_succ]) | (refine T_nil (by rfl) (by rfl) (fun _ _ _ _ h => h) rfl rfl ?_; try simp only [Act.put, List.setIfInBounds_toArray, List.set_cons_zero, List.set_cons_succ]) | (refine T_quietN (by rfl) (by rfl) (by rfl) (by rfl) (fun _ _ _ _ h => h) (fun K hK => ?_); go_big_quiet_op; refine hK _ ?_; clear hK K) | (refine T_two (by rfl) (by rfl) (by rfl) (by rfl) (fun _ _ _ _ h => h) (fun K hK => ?_); go_big_quiet_op; refine ⟨_, fun _ _ => rfl, ?_⟩; refine hK _ ?_; clear hK K; try simp only [Act.put, List.setIfInBounds_toArray, List.set_cons_zero, List.set_cons_succ]) | fail)
        (first | (refine T_skip (by rfl) (by rfl) (fun _ _ _ h => h) ?_; try simp only [Act.put, List.setIfInBounds_toArray, List.set_cons_zero, List.set_cons_succ]) | (refine T_pass (by rfl) (by rfl) ?_; try simp only [Act.put, List.setIfInBounds_toArray, List.set_cons_zero, List.set_cons_succ]) | (refine T_load (by assumption) (by rfl) (by rfl) (fun _ _ _ _ h => h) rfl rfl (by assumption) (by first | exact (fun hn => hn) | assumption) ?_; try simp only [Act.put, List.setIfInBounds_toArray, List.set_cons_zero, List.set_cons_succ]) | (refine T_nil (by rfl) (by rfl) (fun _ _ _ _ h => h) rfl rfl ?_; try simp only [Act.put, List.setIfInBounds_toArray, List.set_cons_zero, List.set_cons_succ]) | (refine T_quietN (by rfl) (by rfl) (by rfl) (by rfl) (fun _ _ _ _ h => h) (fun K hK => ?_); go_big_quiet_op; refine hK _ ?_; clear hK K) | (refine T_two (by rfl) (by rfl) (by rfl) (by rfl) (fun _ _ _ _ h => h) (fun K hK => ?_); go_big_quiet_op; refine ⟨_, fun _ _ => rfl, ?_⟩; refine hK _ ?_; clear hK K; try simp only [Act.put, List.setIfInBounds_toArray, List.set_cons_zero, List.set_cons_succ]) | fail)
        refine T_turn No [] (by rfl) (by rfl) (by rfl) (fun K hK => ?_)
        obtain ⟨A6, c6, D6, d6, rfl, hr6, hq6⟩ := ho6
        refine wp_stA ag_obj.info _ _ rfl b10 0 _ _ [.int .i64 13, .slice A6 1 c6, .slice D6 0 d6] _ rfl rfl rfl rfl (by intro u hu; simp at hu; rcases hu with rfl | rfl | rfl <;> rfl) hb10 (by decide) ?_
        intro wx11 hb11 hg11 hz11
        rw [splice_all _ _ (by rfl)] at hb11
        refine hK.out _ _ ?_
        clear hK K
        try simp only [Act.put, List.setIfInBounds_toArray, List.set_cons_zero, List.set_cons_succ]
        (first | (refine T_skip (by rfl) (by rfl) (fun _ _ _ h => h) ?_; try simp only [Act.put, List.setIfInBounds_toArray, List.set_cons_zero, List.set_cons_succ]) | (refine T_pass (by rfl) (by rfl) ?_; try simp only [Act.put, List.setIfInBounds_toArray, List.set_cons_zero, List.set_cons_succ]) | (refine T_load (by assumption) (by rfl) (by rfl) (fun _ _ _ _ h => h) rfl rfl (by assumption) (by first | exact (fun hn => hn) | assumption) ?_; try simp only [Act.put, List.setIfInBounds_toArray, List.set_cons_zero, List.set_cons_succ]) | (refine T_nil (by rfl) (by rfl) (fun _ _ _ _ h => h) rfl rfl ?_; try simp only [Act.put, List.setIfInBounds_toArray, List.set_cons_zero, List.set_cons_succ]) | (refine T_quietN (by rfl) (by rfl) (by rfl) (by rfl) (fun _ _ _ _ h => h) (fun K hK => ?_); go_big_quiet_op; refine hK _ ?_; clear hK K) | (refine T_two (by rfl) (by rfl) (by rfl) (by rfl) (fun _ _ _ _ h => h) (fun K hK => ?_); go_big_quiet_op; refine ⟨_, fun _ _ => rfl, ?_⟩; refine hK _ ?_; clear hK K; try simp only [Act.put, List.setIfInBounds_toArray, List.set_cons_zero, List.set_cons_succ]) | fail)
        refine T_done ?_
        go_wp2_with fail
        go_meet
        case rel =>
          refine ⟨b10, _, rfl, rfl, hb11, ⟨A6, c6, D6, d6, rfl, ?_, ?_⟩, hT.grown hg11 (fun q hq => by injection hq with hq; exact .inl (by omega))⟩
          · exact Rd.mono (Rd.grown hr6 hg11 (fun q hq hb => hb (Option.some.inj hq).symm)) (fun _ _ _ => trivial) (by decide)
          · exact Rd.mono (Rd.grown hq6 hg11 (fun q hq hb => hb (Option.some.inj hq).symm)) (fun _ _ _ => trivial) (by decide)
    · go_wp2_with fail
      (refine hK.out _ _ (((Fr.refl _ _).alloc _)) ?_; clear hK K; try simp only [Act.put, List.setIfInBounds_toArray, List.set_cons_zero, List.set_cons_succ])
      have hb10 := Blk.new w2 25 #[.int .i64 0, .slice none 0 0, .slice none 0 0]
      have hf10 : Fr No w2 (w2.alloc (.cells #[.int .i64 0, .slice none 0 0, .slice none 0 0] 25)) := (Fr.refl No _).alloc _
      obtain ⟨b10, he10⟩ : ∃ b, b = w2.heap.size := ⟨_, rfl⟩
      rw [← he10] at hb10 ⊢
      generalize hw10 : w2.alloc (.cells #[.int .i64 0, .slice none 0 0, .slice none 0 0] 25) = wx10 at *
      clear hw10
      have hle10 : w1.heap.size ≤ b10 := by rw [he10]; exact hT.size
      clear he10
      replace hT := Fr.tr hT hf10
      replace hbu := hbu.fr0 hf10
      replace hbd := hbd.fr0 hf10
      refine T_fork (ord2 := [1, 2, 3, 4, 10, 5, 0, 6, 7, 8, 9, 11, 12]) (calls2 := [0, 5, 6, 10, 11, 1010, 1005]) (i := 0) (j := 5) (by kernel_rfl) rfl rfl rfl (by kernel_rfl) rfl rfl rfl (by rfl) (by rfl) (fun K hK => ?_) (fun K hK => ?_)
      · go_wp2_with fail
        refine (counter_calls 5 _).mono ?_
        rintro e wx0 ⟨cs0, rfl, ho0, hf0⟩
        go_wp2_with fail
        (refine hK.out _ _ (hf0) ?_; clear hK K; try simp only [Act.put, List.setIfInBounds_toArray, List.set_cons_zero, List.set_cons_succ])
        replace hT := Fr.tr hT hf0
        replace hbu := hbu.fr0 hf0
        replace hbd := hbd.fr0 hf0
        replace hb10 := hb10.fr0 hf0
        refine T_call (by rfl) (by rfl) (fun K hK => ?_)
        go_wp2_with fail
        (refine hK.out _ _ (((Fr.refl _ _).alloc _)) ?_; clear hK K; try simp only [Act.put, List.setIfInBounds_toArray, List.set_cons_zero, List.set_cons_succ])
        have hb5 := Blk.new wx0 41 #[.int .i64 0, .bool true, .int .i64 3, .int .i64 3, .int .i64 0, .bool true, .int .i64 3, .int .i64 (-1)]
        have hf5 : Fr No wx0 (wx0.alloc (.cells #[.int .i64 0, .bool true, .int .i64 3, .int .i64 3, .int .i64 0, .bool true, .int .i64 3, .int .i64 (-1)] 41)) := (Fr.refl No _).alloc _
        obtain ⟨b5, he5⟩ : ∃ b, b = wx0.heap.size := ⟨_, rfl⟩
        rw [← he5] at hb5 ⊢
        generalize hw5 : wx0.alloc (.cells #[.int .i64 0, .bool true, .int .i64 3, .int .i64 3, .int .i64 0, .bool true, .int .i64 3, .int .i64 (-1)] 41) = wx5 at *
        clear hw5
        clear he5
        replace hT := Fr.tr hT hf5
        replace hbu := hbu.fr0 hf5
        replace hbd := hbd.fr0 hf5
        replace ho0 := ho0.fr0 hf5
        replace hb10 := hb10.fr0 hf5
        refine T_call (by rfl) (by rfl) (fun K hK => ?_)
        go_wp2_with fail
        have hrd : RdO wx5 (fun b => b < wx5.heap.size) (some ⟨b5, 0, none⟩) [⟨0, true, ⟨3, 3⟩⟩, ⟨0, true, ⟨3, -1⟩⟩] := ⟨rfl, by decide, fun _ => ⟨_, rfl, hb5.lt, hb5.all⟩⟩
        refine (replay13_calls _ cs0 ⟨13, [⟨3, 5⟩], []⟩ wx5 (some ⟨b5, 0, none⟩) 2 [⟨0, true, ⟨3, 3⟩⟩, ⟨0, true, ⟨3, -1⟩⟩] ho0 rfl (by decide) hrd (by decide)).mono ?_
        rw [show runM countM [⟨3, 5⟩] [⟨0, true, ⟨3, 3⟩⟩, ⟨0, true, ⟨3, -1⟩⟩] = some [⟨3, 7⟩] by decide]
        rintro e wx6 ⟨hf6, (⟨hn, _⟩ | ⟨l6, cs6, hs6, rfl, ho6⟩)⟩
        · cases hn
        injection hs6 with hs6
        subst hs6
        have hlt10 := hb10.lt
        replace ho6 := ho6.mono (T := fun b => b ≠ b10) (fun b _ hb => by omega)
        go_wp2_with fail
        (refine hK.out _ _ (hf6) ?_; clear hK K; try simp only [Act.put, List.setIfInBounds_toArray, List.set_cons_zero, List.set_cons_succ])
        replace hT := Fr.tr hT hf6
        replace hbu := hbu.fr0 hf6
        replace hbd := hbd.fr0 hf6
        replace ho0 := ho0.fr0 hf6
        replace hb5 := hb5.fr0 hf6
        replace hb10 := hb10.fr0 hf6
        (first | (refine T_skip (by rfl) (by rfl) (fun _ _ _ h => h) ?_; try simp only [Act.put, List.setIfInBounds_toArray, List.set_cons_zero, List.set_cons_succ]) | (refine T_pass (by rfl) (by rfl) ?_; try simp only [Act.put, List.setIfInBounds_toArray, List.set_cons_zero, List.set_cons_succ]) | (refine T_load (by assumption) (by rfl) (by rfl) (fun _ _ _ _ h => h) rfl rfl (by assumption) (by first | exact (fun hn => hn) | assumption) ?_; try simp only [Act.put, List.setIfInBounds_toArray, List.set_cons_zero, List.set_cons_succ]) | (refine T_nil (by rfl) (by rfl) (fun _ _ _ _ h => h) rfl rfl ?_; try simp only [Act.put, List.setIfInBounds_toArray, List.set_cons_zero, List.set_cons_succ]) | (refine T_quietN (by rfl) (by rfl) (by rfl) (by rfl) (fun _ _ _ _ h => h) (fun K hK => ?_); go_big_quiet_op; refine hK _ ?_; clear hK K) | (refine T_two (by rfl) (by rfl) (by rfl) (by rfl) (fun _ _ _ _ h => h) (fun K hK => ?_); go_big_quiet_op; refine ⟨_, fun _ _ => rfl, ?_⟩; refine hK _ ?_; clear hK K; try simp only [Act.put, List.setIfInBounds_toArray, List.set_cons_zero, List.set_cons_succ]) | fail)
        (first | (refine T_skip (by rfl) (by rfl) (fun _ _ _ h => h) ?_; try simp only [Act.put, List.setIfInBounds_toArray, List.set_cons_zero, List.set_cons_succ]) | (refine T_pass (by rfl) (by rfl) ?_; try simp only [Act.put, List.setIfInBounds_toArray, List.set_cons_zero, List.set_cons_succ]) | (refine T_load (by assumption) (by rfl) (by rfl) (fun _ _ _ _ h => h) rfl rfl (by assumption) (by first | exact (fun hn => hn) | assumption) ?_; try simp only [Act.put, List.setIfInBounds_toArray, List.set_cons_zero, List.set_cons_succ]) | (refine T_nil (by rfl) (by rfl) (fun _ _ _ _ h => h) rfl rfl ?_; try simp only [Act.put, List.setIfInBounds_toArray, List.set_cons_zero, List.set_cons_succ]) | (refine T_quietN (by rfl) (by rfl) (by rfl) (by rfl) (fun _ _ _ _ h => h) (fun K hK => ?_); go_big_quiet_op; refine hK _ ?_; clear hK K) | (refine T_two (by rfl) (by rfl) (by rfl) (by rfl) (fun _ _ _ _ h => h) (fun K hK => ?_); go_big_quiet_op; refine ⟨_, fun _ _ => rfl, ?_⟩; refine hK _ ?_; clear hK K; try simp only [Act.put, List.setIfInBounds_toArray, List.set_cons_zero, List.set_cons_succ]) | fail)
        (first | (refine T_skip (by rfl) (by rfl) (fun _ _ _ h => h) ?_; try simp only [Act.put, List.setIfInBounds_toArray, List.set_cons_zero, List.set_cons_succ]) | (refine T_pass (by rfl) (by rfl) ?_; try simp only [Act.put, List.setIfInBounds_toArray, List.set_cons_zero, List.set_cons_succ]) | (refine T_load (by assumption) (by rfl) (by rfl) (fun _ _ _ _ h => h) rfl rfl (by assumption) (by first | exact (fun hn => hn) | assumption) ?_; try simp only [Act.put, List.setIfInBounds_toArray, List.set_cons_zero, List.set_cons_succ]) | (refine T_nil (by rfl) (by rfl) (fun _ _ _ _ h => h) rfl rfl ?_; try simp only [Act.put, List.setIfInBounds_toArray, List.set_cons_zero, List.set_cons_succ]) | (refine T_quietN (by rfl) (by rfl) (by rfl) (by rfl) (fun _ _ _ _ h => h) (fun K hK => ?_); go_big_quiet_op; refine hK _ ?_; clear hK K) | (refine T_two (by rfl) (by rfl) (by rfl) (by rfl) (fun _ _ _ _ h => h) (fun K hK => ?_); go_big_quiet_op; refine ⟨_, fun _ _ => rfl, ?_⟩; refine hK _ ?_; clear hK K; try simp only [Act.put, List.setIfInBounds_toArray, List.set_cons_zero, List.set_cons_succ]) | fail)
        refine T_turn No [] (by rfl) (by rfl) (by rfl) (fun K hK => ?_)
        obtain ⟨A6, c6, D6, d6, rfl, hr6, hq6⟩ := ho6
        refine wp_stA ag_obj.info _ _ rfl b10 0 _ _ [.int .i64 13, .slice A6 1 c6, .slice D6 0 d6] _ rfl rfl rfl rfl (by intro u hu; simp at hu; rcases hu with rfl | rfl | rfl <;> rfl) hb10 (by decide) ?_
        intro wx11 hb11 hg11 hz11
        rw [splice_all _ _ (by rfl)] at hb11
        refine hK.out _ _ ?_
        clear hK K
        try simp only [Act.put, List.setIfInBounds_toArray, List.set_cons_zero, List.set_cons_succ]
        (first | (refine T_skip (by rfl) (by rfl) (fun _ _ _ h => h) ?_; try simp only [Act.put, List.setIfInBounds_toArray, List.set_cons_zero, List.set_cons_succ]) | (refine T_pass (by rfl) (by rfl) ?_; try simp only [Act.put, List.setIfInBounds_toArray, List.set_cons_zero, List.set_cons_succ]) | (refine T_load (by assumption) (by rfl) (by rfl) (fun _ _ _ _ h => h) rfl rfl (by assumption) (by first | exact (fun hn => hn) | assumption) ?_; try simp only [Act.put, List.setIfInBounds_toArray, List.set_cons_zero, List.set_cons_succ]) | (refine T_nil (by rfl) (by rfl) (fun _ _ _ _ h => h) rfl rfl ?_; try simp only [Act.put, List.setIfInBounds_toArray, List.set_cons_zero, List.set_cons_succ]) | (refine T_quietN (by rfl) (by rfl) (by rfl) (by rfl) (fun _ _ _ _ h => h) (fun K hK => ?_); go_big_quiet_op; refine hK _ ?_; clear hK K) | (refine T_two (by rfl) (by rfl) (by rfl) (by rfl) (fun _ _ _ _ h => h) (fun K hK => ?_); go_big_quiet_op; refine ⟨_, fun _ _ => rfl, ?_⟩; refine hK _ ?_; clear hK K; try simp only [Act.put, List.setIfInBounds_toArray, List.set_cons_zero, List.set_cons_succ]) | fail)
        refine T_done ?_
        go_wp2_with fail
        go_meet
        case rel =>
          refine ⟨b10, _, rfl, rfl, hb11, ⟨A6, c6, D6, d6, rfl, ?_, ?_⟩, hT.grown hg11 (fun q hq => by injection hq with hq; exact .inl (by omega))⟩
          · exact Rd.mono (Rd.grown hr6 hg11 (fun q hq hb => hb (Option.some.inj hq).symm)) (fun _ _ _ => trivial) (by decide)
          · exact Rd.mono (Rd.grown hq6 hg11 (fun q hq hb => hb (Option.some.inj hq).symm)) (fun _ _ _ => trivial) (by decide)
      · go_wp2_with fail
        (refine hK.out _ _ (((Fr.refl _ _).alloc _)) ?_; clear hK K; try simp only [Act.put, List.setIfInBounds_toArray, List.set_cons_zero, List.set_cons_succ])
        have hb5 := Blk.new wx10 41 #[.int .i64 0, .bool true, .int .i64 3, .int .i64 3, .int .i64 0, .bool true, .int .i64 3, .int .i64 (-1)]
        have hf5 : Fr No wx10 (wx10.alloc (.cells #[.int .i64 0, .bool true, .int .i64 3, .int .i64 3, .int .i64 0, .bool true, .int .i64 3, .int .i64 (-1)] 41)) := (Fr.refl No _).alloc _
        obtain ⟨b5, he5⟩ : ∃ b, b = wx10.heap.size := ⟨_, rfl⟩
        rw [← he5] at hb5 ⊢
        generalize hw5 : wx10.alloc (.cells #[.int .i64 0, .bool true, .int .i64 3, .int .i64 3, .int .i64 0, .bool true, .int .i64 3, .int .i64 (-1)] 41) = wx5 at *
        clear hw5
        clear he5
        replace hT := Fr.tr hT hf5
        replace hbu := hbu.fr0 hf5
        replace hbd := hbd.fr0 hf5
        replace hb10 := hb10.fr0 hf5
        refine T_call (by rfl) (by rfl) (fun K hK => ?_)
        go_wp2_with fail
        refine (counter_calls 5 _).mono ?_
        rintro e wx0 ⟨cs0, rfl, ho0, hf0⟩
        go_wp2_with fail
        (refine hK.out _ _ (hf0) ?_; clear hK K; try simp only [Act.put, List.setIfInBounds_toArray, List.set_cons_zero, List.set_cons_succ])
        replace hT := Fr.tr hT hf0
        replace hbu := hbu.fr0 hf0
        replace hbd := hbd.fr0 hf0
        replace hb5 := hb5.fr0 hf0
        replace hb10 := hb10.fr0 hf0
        refine T_call (by rfl) (by rfl) (fun K hK => ?_)
        go_wp2_with fail
        have hrd : RdO wx0 (fun b => b < wx0.heap.size) (some ⟨b5, 0, none⟩) [⟨0, true, ⟨3, 3⟩⟩, ⟨0, true, ⟨3, -1⟩⟩] := ⟨rfl, by decide, fun _ => ⟨_, rfl, hb5.lt, hb5.all⟩⟩
        refine (replay13_calls _ cs0 ⟨13, [⟨3, 5⟩], []⟩ wx0 (some ⟨b5, 0, none⟩) 2 [⟨0, true, ⟨3, 3⟩⟩, ⟨0, true, ⟨3, -1⟩⟩] ho0 rfl (by decide) hrd (by decide)).mono ?_
        rw [show runM countM [⟨3, 5⟩] [⟨0, true, ⟨3, 3⟩⟩, ⟨0, true, ⟨3, -1⟩⟩] = some [⟨3, 7⟩] by decide]
        rintro e wx6 ⟨hf6, (⟨hn, _⟩ | ⟨l6, cs6, hs6, rfl, ho6⟩)⟩
        · cases hn
        injection hs6 with hs6
        subst hs6
        have hlt10 := hb10.lt
        replace ho6 := ho6.mono (T := fun b => b ≠ b10) (fun b _ hb => by omega)
        go_wp2_with fail
        (refine hK.out _ _ (hf6) ?_; clear hK K; try simp only [Act.put, List.setIfInBounds_toArray, List.set_cons_zero, List.set_cons_succ])
        replace hT := Fr.tr hT hf6
        replace hbu := hbu.fr0 hf6
        replace hbd := hbd.fr0 hf6
        replace ho0 := ho0.fr0 hf6
        replace hb5 := hb5.fr0 hf6
        replace hb10 := hb10.fr0 hf6
        (first | (refine T_skip (by rfl) (by rfl) (fun _ _ _ h => h) ?_; try simp only [Act.put, List.setIfInBounds_toArray, List.set_cons_zero, List.set_cons_succ]) | (refine T_pass (by rfl) (by rfl) ?_; try simp only [Act.put, List.setIfInBounds_toArray, List.set_cons_zero, List.set_cons_succ]) | (refine T_load (by assumption) (by rfl) (by rfl) (fun _ _ _ _ h => h) rfl rfl (by assumption) (by first | exact (fun hn => hn) | assumption) ?_; try simp only [Act.put, List.setIfInBounds_toArray, List.set_cons_zero, List.set_cons_succ]) | (refine T_nil (by rfl) (by rfl) (fun _ _ _ _ h => h) rfl rfl ?_; try simp only [Act.put, List.setIfInBounds_toArray, List.set_cons_zero, List.set_cons_succ]) | (refine T_quietN (by rfl) (by rfl) (by rfl) (by rfl) (fun _ _ _ _ h => h) (fun K hK => ?_); go_big_quiet_op; refine hK _ ?_; clear hK K) | (refine T_two (by rfl) (by rfl) (by rfl) (by rfl) (fun _ _ _ _ h => h) (fun K hK => ?_); go_big_quiet_op; refine ⟨_, fun _ _ => rfl, ?_⟩; refine hK _ ?_; clear hK K; try simp only [Act.put, List.setIfInBounds_toArray, List.set_cons_zero, List.set_cons_succ]) | fail)
        (first | (refine T_skip (by rfl) (by rfl) (fun _ _ _ h => h) ?_; try simp only [Act.put, List.setIfInBounds_toArray, List.set_cons_zero, List.set_cons_succ]) | (refine T_pass (by rfl) (by rfl) ?_; try simp only [Act.put, List.setIfInBounds_toArray, List.set_cons_zero, List.set_cons_succ]) | (refine T_load (by assumption) (by rfl) (by rfl) (fun _ _ _ _ h => h) rfl rfl (by assumption) (by first | exact (fun hn => hn) | assumption) ?_; try simp only [Act.put, List.setIfInBounds_toArray, List.set_cons_zero, List.set_cons_succ]) | (refine T_nil (by rfl) (by rfl) (fun _ _ _ _ h => h) rfl rfl ?_; try simp only [Act.put, List.setIfInBounds_toArray, List.set_cons_zero, List.set_cons_succ]) | (refine T_quietN (by rfl) (by rfl) (by rfl) (by rfl) (fun _ _ _ _ h => h) (fun K hK => ?_); go_big_quiet_op; refine hK _ ?_; clear hK K) | (refine T_two (by rfl) (by rfl) (by rfl) (by rfl) (fun _ _ _ _ h => h) (fun K hK => ?_); go_big_quiet_op; refine ⟨_, fun _ _ => rfl, ?_⟩; refine hK _ ?_; clear hK K; try simp only [Act.put, List.setIfInBounds_toArray, List.set_cons_zero, List.set_cons_succ]) | fail)
        (first | (refine T_skip (by rfl) (by rfl) (fun _ _ _ h => h) ?_; try simp only [Act.put, List.setIfInBounds_toArray, List.set_cons_zero, List.set_cons_succ]) | (refine T_pass (by rfl) (by rfl) ?_; try simp only [Act.put, List.setIfInBounds_toArray, List.set_cons_zero, List.set_cons_succ]) | (refine T_load (by assumption) (by rfl) (by rfl) (fun _ _ _ _ h => h) rfl rfl (by assumption) (by first | exact (fun hn => hn) | assumption) ?_; try simp only [Act.put, List.setIfInBounds_toArray, List.set_cons_zero, List.set_cons_succ]) | (refine T_nil (by rfl) (by rfl) (fun _ _ _ _ h => h) rfl rfl ?_; try simp only [Act.put, List.setIfInBounds_toArray, List.set_cons_zero, List.set_cons_succ]) | (refine T_quietN (by rfl) (by rfl) (by rfl) (by rfl) (fun _ _ _ _ h => h) (fun K hK => ?_); go_big_quiet_op; refine hK _ ?_; clear hK K) | (refine T_two (by rfl) (by rfl) (by rfl) (by rfl) (fun _ _ _ _ h => h) (fun K hK => ?_); go_big_quiet_op; refine ⟨_, fun _ _ => rfl, ?_⟩; refine hK _ ?_; clear hK K; try simp only [Act.put, List.setIfInBounds_toArray, List.set_cons_zero, List.set_cons_succ]) | fail)
        refine T_turn No [] (by rfl) (by rfl) (by rfl) (fun K hK => ?_)
        obtain ⟨A6, c6, D6, d6, rfl, hr6, hq6⟩ := ho6
        refine wp_stA ag_obj.info _ _ rfl b10 0 _ _ [.int .i64 13, .slice A6 1 c6, .slice D6 0 d6] _ rfl rfl rfl rfl (by intro u hu; simp at hu; rcases hu with rfl | rfl | rfl <;> rfl) hb10 (by decide) ?_
        intro wx11 hb11 hg11 hz11
        rw [splice_all _ _ (by rfl)] at hb11
        refine hK.out _ _ ?_
        clear hK K
        try simp only [Act.put, List.setIfInBounds_toArray, List.set_cons_zero, List.set_cons_succ]
        (first | (refine T_skip (by rfl) (by rfl) (fun _ _ _ h => h) ?_; try simp only [Act.put, List.setIfInBounds_toArray, List.set_cons_zero, List.set_cons_succ]) | (refine T_pass (by rfl) (by rfl) ?_; try simp only [Act.put, List.setIfInBounds_toArray, List.set_cons_zero, List.set_cons_succ]) | (refine T_load (by assumption) (by rfl) (by rfl) (fun _ _ _ _ h => h) rfl rfl (by assumption) (by first | exact (fun hn => hn) | assumption) ?_; try simp only [Act.put, List.setIfInBounds_toArray, List.set_cons_zero, List.set_cons_succ]) | (refine T_nil (by rfl) (by rfl) (fun _ _ _ _ h => h) rfl rfl ?_; try simp only [Act.put, List.setIfInBounds_toArray, List.set_cons_zero, List.set_cons_succ]) | (refine T_quietN (by rfl) (by rfl) (by rfl) (by rfl) (fun _ _ _ _ h => h) (fun K hK => ?_); go_big_quiet_op; refine hK _ ?_; clear hK K) | (refine T_two (by rfl) (by rfl) (by rfl) (by rfl) (fun _ _ _ _ h => h) (fun K hK => ?_); go_big_quiet_op; refine ⟨_, fun _ _ => rfl, ?_⟩; refine hK _ ?_; clear hK K; try simp only [Act.put, List.setIfInBounds_toArray, List.set_cons_zero, List.set_cons_succ]) | fail)
        refine T_done ?_
        go_wp2_with fail
        go_meet
        case rel =>
          refine ⟨b10, _, rfl, rfl, hb11, ⟨A6, c6, D6, d6, rfl, ?_, ?_⟩, hT.grown hg11 (fun q hq => by injection hq with hq; exact .inl (by omega))⟩
          · exact Rd.mono (Rd.grown hr6 hg11 (fun q hq hb => hb (Option.some.inj hq).symm)) (fun _ _ _ => trivial) (by decide)
          · exact Rd.mono (Rd.grown hq6 hg11 (fun q hq hb => hb (Option.some.inj hq).symm)) (fun _ _ _ => trivial) (by decide)
  case rest =>
    obtain ⟨g, cs, rfl, rfl, hbg, hog, hfc⟩ := hcut
    replace hbu := hbu.fr0 hfc
    go_upto_region 4 with fail
    go_cut [6] (fun s6 wx => s6 = .int .i64 30 ∧ Fr No wc wx)
    case first =>
      refine T_begin2 No [10] [2, 3, 0, 1, 4, 5, 6, 7, 8, 9, 10, 11] [0, 1, 4, 5, 9, 10, 1000, 1001, 1004, 1005] (by kernel_rfl) (by kernel_rfl) ?_
      simp only [pickOps, List.filterMap_cons, List.filterMap_nil, List.getElem?_cons_zero, List.getElem?_cons_succ, Act.put]
      have hT : Fr No wc wc.drew := (Fr.refl No wc).drew
      generalize hw2 : wc.drew = w2 at *
      replace hbu := hbu.fr0 hT
      clear hw2
      refine T_loadA (cs := [.int .i64 3, .int .i64 3]) ag_val (by rfl) (by rfl) (fun _ _ _ _ h => h) rfl rfl rfl hbu.all (fun hn => hn) ?_
      try simp only [Act.put, List.setIfInBounds_toArray, List.set_cons_zero, List.set_cons_succ]
      (first | (refine T_skip (by rfl) (by rfl) (fun _ _ _ h => h) ?_; try simp only [Act.put, List.setIfInBounds_toArray, List.set_cons_zero, List.set_cons_succ]) | (refine T_pass (by rfl) (by rfl) ?_; try simp only [Act.put, List.setIfInBounds_toArray, List.set_cons_zero, List.set_cons_succ]) | (refine T_load (by assumption) (by rfl) (by rfl) (fun _ _ _ _ h => h) rfl rfl (by assumption) (by first | exact (fun hn => hn) | assumption) ?_; try simp only [Act.put, List.setIfInBounds_toArray, List.set_cons_zero, List.set_cons_succ]) | (refine T_nil (by rfl) (by rfl) (fun _ _ _ _ h => h) rfl rfl ?_; try simp only [Act.put, List.setIfInBounds_toArray, List.set_cons_zero, List.set_cons_succ]) | (refine T_quietN (by rfl) (by rfl) (by rfl) (by rfl) (fun _ _ _ _ h => h) (fun K hK => ?_); go_big_quiet_op; refine hK _ ?_; clear hK K) | (refine T_two (by rfl) (by rfl) (by rfl) (by rfl) (fun _ _ _ _ h => h) (fun K hK => ?_); go_big_quiet_op; refine ⟨_, fun _ _ => rfl, ?_⟩; refine hK _ ?_; clear hK K; try simp only [Act.put, List.setIfInBounds_toArray, List.set_cons_zero, List.set_cons_succ]) | fail)
      refine T_fork3 (ord2 := [2, 3, 4, 0, 1, 5, 6, 7, 8, 9, 10, 11]) (calls2 := [0, 1, 4, 5, 9, 10, 1004, 1000, 1001, 1005]) (ord3 := [2, 3, 9, 0, 1, 4, 5, 6, 7, 8, 10, 11]) (calls3 := [0, 1, 4, 5, 9, 10, 1009, 1000, 1001]) (i := 0) (j := 4) (m := 9) (by kernel_rfl) rfl rfl rfl rfl rfl (by kernel_rfl) (by kernel_rfl) rfl rfl rfl rfl rfl (by rfl) (by rfl) (by rfl) (fun K hK => ?_) (fun K hK => ?_) (fun K hK => ?_)
      · go_wp2_with fail
        (refine hK.out _ _ (((Fr.refl _ _).alloc _)) ?_; clear hK K; try simp only [Act.put, List.setIfInBounds_toArray, List.set_cons_zero, List.set_cons_succ])
        have hb0 := Blk.new w2 2 #[.int .i64 1, .int .i64 2]
        have hf0 : Fr No w2 (w2.alloc (.cells #[.int .i64 1, .int .i64 2] 2)) := (Fr.refl No _).alloc _
        obtain ⟨b0, he0⟩ : ∃ b, b = w2.heap.size := ⟨_, rfl⟩
        rw [← he0] at hb0 ⊢
        generalize hw0 : w2.alloc (.cells #[.int .i64 1, .int .i64 2] 2) = wx0 at *
        clear hw0
        clear he0
        replace hT := Fr.tr hT hf0
        replace hbu := hbu.fr0 hf0
        refine T_fork3 (ord2 := [2, 3, 0, 4, 1, 5, 6, 7, 8, 9, 10, 11]) (calls2 := [0, 1, 4, 5, 9, 10, 1000, 1004, 1001, 1005]) (ord3 := [2, 3, 0, 9, 1, 4, 5, 6, 7, 8, 10, 11]) (calls3 := [0, 1, 4, 5, 9, 10, 1000, 1009, 1001]) (i := 1) (j := 4) (m := 9) (by kernel_rfl) rfl rfl rfl rfl rfl (by kernel_rfl) (by kernel_rfl) rfl rfl rfl rfl rfl (by rfl) (by rfl) (by rfl) (fun K hK => ?_) (fun K hK => ?_) (fun K hK => ?_)
        · go_wp2_with fail
          refine (bag_calls (fun _ => True) (some ⟨b0, 0, none⟩) 2 [1, 2] wx0 ⟨rfl, by decide, fun _ => ⟨_, rfl, trivial, hb0.all⟩⟩ (by decide)).mono ?_
          rintro e wx1 ⟨cs1, rfl, ho1, hf1⟩
          go_wp2_with fail
          (refine hK.out _ _ (hf1) ?_; clear hK K; try simp only [Act.put, List.setIfInBounds_toArray, List.set_cons_zero, List.set_cons_succ])
          replace hT := Fr.tr hT hf1
          replace hbu := hbu.fr0 hf1
          replace hb0 := hb0.fr0 hf1
          refine T_fork (ord2 := [2, 3, 0, 1, 9, 4, 5, 6, 7, 8, 10, 11]) (calls2 := [0, 1, 4, 5, 9, 10, 1000, 1001, 1009]) (i := 4) (j := 9) (by kernel_rfl) rfl rfl rfl (by kernel_rfl) rfl rfl rfl (by rfl) (by rfl) (fun K hK => ?_) (fun K hK => ?_)
          · go_wp2_with fail
            (refine hK.out _ _ (((Fr.refl _ _).alloc _)) ?_; clear hK K; try simp only [Act.put, List.setIfInBounds_toArray, List.set_cons_zero, List.set_cons_succ])
            have hb4 := Blk.new wx1 41 #[.int .i64 0, .bool false, .int .i64 3, .int .i64 3]
            have hf4 : Fr No wx1 (wx1.alloc (.cells #[.int .i64 0, .bool false, .int .i64 3, .int .i64 3] 41)) := (Fr.refl No _).alloc _
            obtain ⟨b4, he4⟩ : ∃ b, b = wx1.heap.size := ⟨_, rfl⟩
            rw [← he4] at hb4 ⊢
            generalize hw4 : wx1.alloc (.cells #[.int .i64 0, .bool false, .int .i64 3, .int .i64 3] 41) = wx4 at *
            clear hw4
            clear he4
            replace hT := Fr.tr hT hf4
            replace hbu := hbu.fr0 hf4
            replace hb0 := hb0.fr0 hf4
            replace ho1 := ho1.fr0 hf4
            refine T_fork (ord2 := [2, 3, 0, 1, 4, 9, 5, 6, 7, 8, 10, 11]) (calls2 := [0, 1, 4, 5, 9, 10, 1000, 1001, 1004, 1009]) (i := 5) (j := 9) (by kernel_rfl) rfl rfl rfl (by kernel_rfl) rfl rfl rfl (by rfl) (by rfl) (fun K hK => ?_) (fun K hK => ?_)
            · go_wp2_with fail
              have hrd : RdO wx4 (fun b => b < wx4.heap.size) (some ⟨b4, 0, none⟩) [⟨0, false, ⟨3, 3⟩⟩] := ⟨rfl, by decide, fun _ => ⟨_, rfl, hb4.lt, hb4.all⟩⟩
              refine (replay14_miss _ cs1 ⟨14, nums [1, 2], []⟩ wx4 (some ⟨b4, 0, none⟩) 1 [⟨0, false, ⟨3, 3⟩⟩] ho1 rfl (by decide) hrd (by decide) rfl (by decide)).mono ?_
              rintro e wx5 ⟨rfl, hf5⟩
              go_wp2_with fail
              (refine hK.out _ _ (hf5) ?_; clear hK K; try simp only [Act.put, List.setIfInBounds_toArray, List.set_cons_zero, List.set_cons_succ])
              replace hT := Fr.tr hT hf5
              replace hbu := hbu.fr0 hf5
              replace hb0 := hb0.fr0 hf5
              replace ho1 := ho1.fr0 hf5
              replace hb4 := hb4.fr0 hf5
              (first | (refine T_skip (by rfl) (by rfl) (fun _ _ _ h => h) ?_; try simp only [Act.put, List.setIfInBounds_toArray, List.set_cons_zero, List.set_cons_succ]) | (refine T_pass (by rfl) (by rfl) ?_; try simp only [Act.put, List.setIfInBounds_toArray, List.set_cons_zero, List.set_cons_succ]) | (refine T_load (by assumption) (by rfl) (by rfl) (fun _ _ _ _ h => h) rfl rfl (by assumption) (by first | exact (fun hn => hn) | assumption) ?_; try simp only [Act.put, List.setIfInBounds_toArray, List.set_cons_zero, List.set_cons_succ]) | (refine T_nil (by rfl) (by rfl) (fun _ _ _ _ h => h) rfl rfl ?_; try simp only [Act.put, List.setIfInBounds_toArray, List.set_cons_zero, List.set_cons_succ]) | (refine T_quietN (by rfl) (by rfl) (by rfl) (by rfl) (fun _ _ _ _ h => h) (fun K hK => ?_); go_big_quiet_op; refine hK _ ?_; clear hK K) | (refine T_two (by rfl) (by rfl) (by rfl) (by rfl) (fun _ _ _ _ h => h) (fun K hK => ?_); go_big_quiet_op; refine ⟨_, fun _ _ => rfl, ?_⟩; refine hK _ ?_; clear hK K; try simp only [Act.put, List.setIfInBounds_toArray, List.set_cons_zero, List.set_cons_succ]) | fail)
              (first | (refine T_skip (by rfl) (by rfl) (fun _ _ _ h => h) ?_; try simp only [Act.put, List.setIfInBounds_toArray, List.set_cons_zero, List.set_cons_succ]) | (refine T_pass (by rfl) (by rfl) ?_; try simp only [Act.put, List.setIfInBounds_toArray, List.set_cons_zero, List.set_cons_succ]) | (refine T_load (by assumption) (by rfl) (by rfl) (fun _ _ _ _ h => h) rfl rfl (by assumption) (by first | exact (fun hn => hn) | assumption) ?_; try simp only [Act.put, List.setIfInBounds_toArray, List.set_cons_zero, List.set_cons_succ]) | (refine T_nil (by rfl) (by rfl) (fun _ _ _ _ h => h) rfl rfl ?_; try simp only [Act.put, List.setIfInBounds_toArray, List.set_cons_zero, List.set_cons_succ]) | (refine T_quietN (by rfl) (by rfl) (by rfl) (by rfl) (fun _ _ _ _ h => h) (fun K hK => ?_); go_big_quiet_op; refine hK _ ?_; clear hK K) | (refine T_two (by rfl) (by rfl) (by rfl) (by rfl) (fun _ _ _ _ h => h) (fun K hK => ?_); go_big_quiet_op; refine ⟨_, fun _ _ => rfl, ?_⟩; refine hK _ ?_; clear hK K; try simp only [Act.put, List.setIfInBounds_toArray, List.set_cons_zero, List.set_cons_succ]) | fail)
              (first | (refine T_skip (by rfl) (by rfl) (fun _ _ _ h => h) ?_; try simp only [Act.put, List.setIfInBounds_toArray, List.set_cons_zero, List.set_cons_succ]) | (refine T_pass (by rfl) (by rfl) ?_; try simp only [Act.put, List.setIfInBounds_toArray, List.set_cons_zero, List.set_cons_succ]) | (refine T_load (by assumption) (by rfl) (by rfl) (fun _ _ _ _ h => h) rfl rfl (by assumption) (by first | exact (fun hn => hn) | assumption) ?_; try simp only [Act.put, List.setIfInBounds_toArray, List.set_cons_zero, List.set_cons_succ]) | (refine T_nil (by rfl) (by rfl) (fun _ _ _ _ h => h) rfl rfl ?_; try simp only [Act.put, List.setIfInBounds_toArray, List.set_cons_zero, List.set_cons_succ]) | (refine T_quietN (by rfl) (by rfl) (by rfl) (by rfl) (fun _ _ _ _ h => h) (fun K hK => ?_); go_big_quiet_op; refine hK _ ?_; clear hK K) | (refine T_two (by rfl) (by rfl) (by rfl) (by rfl) (fun _ _ _ _ h => h) (fun K hK => ?_); go_big_quiet_op; refine ⟨_, fun _ _ => rfl, ?_⟩; refine hK _ ?_; clear hK K; try simp only [Act.put, List.setIfInBounds_toArray, List.set_cons_zero, List.set_cons_succ]) | fail)
              refine T_call (by rfl) (by rfl) (fun K hK => ?_)
              go_wp2_with fail
              (refine hK.out _ _ (((Fr.refl _ _).alloc _)) ?_; clear hK K; try simp only [Act.put, List.setIfInBounds_toArray, List.set_cons_zero, List.set_cons_succ])
              have hb9 := Blk.new wx5 25 #[.int .i64 0, .slice none 0 0, .slice none 0 0]
              have hf9 : Fr No wx5 (wx5.alloc (.cells #[.int .i64 0, .slice none 0 0, .slice none 0 0] 25)) := (Fr.refl No _).alloc _
              obtain ⟨b9, he9⟩ : ∃ b, b = wx5.heap.size := ⟨_, rfl⟩
              rw [← he9] at hb9 ⊢
              generalize hw9 : wx5.alloc (.cells #[.int .i64 0, .slice none 0 0, .slice none 0 0] 25) = wx9 at *
              clear hw9
              have hle9 : wc.heap.size ≤ b9 := by rw [he9]; exact hT.size
              clear he9
              replace hT := Fr.tr hT hf9
              replace hbu := hbu.fr0 hf9
              replace hb0 := hb0.fr0 hf9
              replace ho1 := ho1.fr0 hf9
              replace hb4 := hb4.fr0 hf9
              refine T_turn No [] (by rfl) (by rfl) (by rfl) (fun K hK => ?_)
              refine wp_stA ag_obj.info _ _ rfl b9 0 _ _ [.int .i64 0, .slice none 0 0, .slice none 0 0] _ rfl rfl rfl rfl (by intro u hu; simp at hu; rcases hu with rfl | rfl | rfl <;> rfl) hb9 (by decide) ?_
              intro wx10 hb10 hg10 hz10
              rw [splice_all _ _ (by rfl)] at hb10
              refine hK.out _ _ ?_
              clear hK K
              try simp only [Act.put, List.setIfInBounds_toArray, List.set_cons_zero, List.set_cons_succ]
              (first | (refine T_skip (by rfl) (by rfl) (fun _ _ _ h => h) ?_; try simp only [Act.put, List.setIfInBounds_toArray, List.set_cons_zero, List.set_cons_succ]) | (refine T_pass (by rfl) (by rfl) ?_; try simp only [Act.put, List.setIfInBounds_toArray, List.set_cons_zero, List.set_cons_succ]) | (refine T_load (by assumption) (by rfl) (by rfl) (fun _ _ _ _ h => h) rfl rfl (by assumption) (by first | exact (fun hn => hn) | assumption) ?_; try simp only [Act.put, List.setIfInBounds_toArray, List.set_cons_zero, List.set_cons_succ]) | (refine T_nil (by rfl) (by rfl) (fun _ _ _ _ h => h) rfl rfl ?_; try simp only [Act.put, List.setIfInBounds_toArray, List.set_cons_zero, List.set_cons_succ]) | (refine T_quietN (by rfl) (by rfl) (by rfl) (by rfl) (fun _ _ _ _ h => h) (fun K hK => ?_); go_big_quiet_op; refine hK _ ?_; clear hK K) | (refine T_two (by rfl) (by rfl) (by rfl) (by rfl) (fun _ _ _ _ h => h) (fun K hK => ?_); go_big_quiet_op; refine ⟨_, fun _ _ => rfl, ?_⟩; refine hK _ ?_; clear hK K; try simp only [Act.put, List.setIfInBounds_toArray, List.set_cons_zero, List.set_cons_succ]) | fail)
              refine T_done ?_
              go_wp2_with fail
              go_meet
              case rel => exact ⟨rfl, hT.grown hg10 (fun q hq => by injection hq with hq; exact .inl (by omega))⟩
            · go_wp2_with fail
              (refine hK.out _ _ (((Fr.refl _ _).alloc _)) ?_; clear hK K; try simp only [Act.put, List.setIfInBounds_toArray, List.set_cons_zero, List.set_cons_succ])
              have hb9 := Blk.new wx4 25 #[.int .i64 0, .slice none 0 0, .slice none 0 0]
              have hf9 : Fr No wx4 (wx4.alloc (.cells #[.int .i64 0, .slice none 0 0, .slice none 0 0] 25)) := (Fr.refl No _).alloc _
              obtain ⟨b9, he9⟩ : ∃ b, b = wx4.heap.size := ⟨_, rfl⟩
              rw [← he9] at hb9 ⊢
              generalize hw9 : wx4.alloc (.cells #[.int .i64 0, .slice none 0 0, .slice none 0 0] 25) = wx9 at *
              clear hw9
              have hle9 : wc.heap.size ≤ b9 := by rw [he9]; exact hT.size
              clear he9
              replace hT := Fr.tr hT hf9
              replace hbu := hbu.fr0 hf9
              replace hb0 := hb0.fr0 hf9
              replace ho1 := ho1.fr0 hf9
              replace hb4 := hb4.fr0 hf9
              refine T_call (by rfl) (by rfl) (fun K hK => ?_)
              go_wp2_with fail
              have hrd : RdO wx9 (fun b => b < wx9.heap.size) (some ⟨b4, 0, none⟩) [⟨0, false, ⟨3, 3⟩⟩] := ⟨rfl, by decide, fun _ => ⟨_, rfl, hb4.lt, hb4.all⟩⟩
              refine (replay14_miss _ cs1 ⟨14, nums [1, 2], []⟩ wx9 (some ⟨b4, 0, none⟩) 1 [⟨0, false, ⟨3, 3⟩⟩] ho1 rfl (by decide) hrd (by decide) rfl (by decide)).mono ?_
              rintro e wx5 ⟨rfl, hf5⟩
              go_wp2_with fail
              (refine hK.out _ _ (hf5) ?_; clear hK K; try simp only [Act.put, List.setIfInBounds_toArray, List.set_cons_zero, List.set_cons_succ])
              replace hT := Fr.tr hT hf5
              replace hbu := hbu.fr0 hf5
              replace hb0 := hb0.fr0 hf5
              replace ho1 := ho1.fr0 hf5
              replace hb4 := hb4.fr0 hf5
              replace hb9 := hb9.fr0 hf5
              (first | (refine T_skip (by rfl) (by rfl) (fun _ _ _ h => h) ?_; try simp only [Act.put, List.setIfInBounds_toArray, List.set_cons_zero, List.set_cons_succ]) | (refine T_pass (by rfl) (by rfl) ?_; try simp only [Act.put, List.setIfInBounds_toArray, List.set_cons_zero, List.set_cons_succ]) | (refine T_load (by assumption) (by rfl) (by rfl) (fun _ _ _ _ h => h) rfl rfl (by assumption) (by first | exact (fun hn => hn) | assumption) ?_; try simp only [Act.put, List.setIfInBounds_toArray, List.set_cons_zero, List.set_cons_succ]) | (refine T_nil (by rfl) (by rfl) (fun _ _ _ _ h => h) rfl rfl ?_; try simp only [Act.put, List.setIfInBounds_toArray, List.set_cons_zero, List.set_cons_succ]) | (refine T_quietN (by rfl) (by rfl) (by rfl) (by rfl) (fun _ _ _ _ h => h) (fun K hK => ?_); go_big_quiet_op; refine hK _ ?_; clear hK K) | (refine T_two (by rfl) (by rfl) (by rfl) (by rfl) (fun _ _ _ _ h => h) (fun K hK => ?_); go_big_quiet_op; refine ⟨_, fun _ _ => rfl, ?_⟩; refine hK _ ?_; clear hK K; try simp only [Act.put, List.setIfInBounds_toArray, List.set_cons_zero, List.set_cons_succ]) | fail)
              (first | (refine T_skip (by rfl) (by rfl) (fun _ _ _ h => h) ?_; try simp only [Act.put, List.setIfInBounds_toArray, List.set_cons_zero, List.set_cons_succ]) | (refine T_pass (by rfl) (by rfl) ?_; try simp only [Act.put, List.setIfInBounds_toArray, List.set_cons_zero, List.set_cons_succ]) | (refine T_load (by assumption) (by rfl) (by rfl) (fun _ _ _ _ h => h) rfl rfl (by assumption) (by first | exact (fun hn => hn) | assumption) ?_; try simp only [Act.put, List.setIfInBounds_toArray, List.set_cons_zero, List.set_cons_succ]) | (refine T_nil (by rfl) (by rfl) (fun _ _ _ _ h => h) rfl rfl ?_; try simp only [Act.put, List.setIfInBounds_toArray, List.set_cons_zero, List.set_cons_succ]) | (refine T_quietN (by rfl) (by rfl) (by rfl) (by rfl) (fun _ _ _ _ h => h) (fun K hK => ?_); go_big_quiet_op; refine hK _ ?_; clear hK K) | (refine T_two (by rfl) (by rfl) (by rfl) (by rfl) (fun _ _ _ _ h => h) (fun K hK => ?_); go_big_quiet_op; refine ⟨_, fun _ _ => rfl, ?_⟩; refine hK _ ?_; clear hK K; try simp only [Act.put, List.setIfInBounds_toArray, List.set_cons_zero, List.set_cons_succ]) | fail)
              (first | (refine T_skip (by rfl) (by rfl) (fun _ _ _ h => h) ?_; try simp only [Act.put, List.setIfInBounds_toArray, List.set_cons_zero, List.set_cons_succ]) | (refine T_pass (by rfl) (by rfl) ?_; try simp only [Act.put, List.setIfInBounds_toArray, List.set_cons_zero, List.set_cons_succ]) | (refine T_load (by assumption) (by rfl) (by rfl) (fun _ _ _ _ h => h) rfl rfl (by assumption) (by first | exact (fun hn => hn) | assumption) ?_; try simp only [Act.put, List.setIfInBounds_toArray, List.set_cons_zero, List.set_cons_succ]) | (refine T_nil (by rfl) (by rfl) (fun _ _ _ _ h => h) rfl rfl ?_; try simp only [Act.put, List.setIfInBounds_toArray, List.set_cons_zero, List.set_cons_succ]) | (refine T_quietN (by rfl) (by rfl) (by rfl) (by rfl) (fun _ _ _ _ h => h) (fun K hK => ?_); go_big_quiet_op; refine hK _ ?_; clear hK K) | (refine T_two (by rfl) (by rfl) (by rfl) (by rfl) (fun _ _ _ _ h => h) (fun K hK => ?_); go_big_quiet_op; refine ⟨_, fun _ _ => rfl, ?_⟩; refine hK _ ?_; clear hK K; try simp only [Act.put, List.setIfInBounds_toArray, List.set_cons_zero, List.set_cons_succ]) | fail)
              refine T_turn No [] (by rfl) (by rfl) (by rfl) (fun K hK => ?_)
              refine wp_stA ag_obj.info _ _ rfl b9 0 _ _ [.int .i64 0, .slice none 0 0, .slice none 0 0] _ rfl rfl rfl rfl (by intro u hu; simp at hu; rcases hu with rfl | rfl | rfl <;> rfl) hb9 (by decide) ?_
              intro wx10 hb10 hg10 hz10
              rw [splice_all _ _ (by rfl)] at hb10
              refine hK.out _ _ ?_
              clear hK K
              try simp only [Act.put, List.setIfInBounds_toArray, List.set_cons_zero, List.set_cons_succ]
              (first | (refine T_skip (by rfl) (by rfl) (fun _ _ _ h => h) ?_; try simp only [Act.put, List.setIfInBounds_toArray, List.set_cons_zero, List.set_cons_succ]) | (refine T_pass (by rfl) (by rfl) ?_; try simp only [Act.put, List.setIfInBounds_toArray, List.set_cons_zero, List.set_cons_succ]) | (refine T_load (by assumption) (by rfl) (by rfl) (fun _ _ _ _ h => h) rfl rfl (by assumption) (by first | exact (fun hn => hn) | assumption) ?_; try simp only [Act.put, List.setIfInBounds_toArray, List.set_cons_zero, List.set_cons_succ]) | (refine T_nil (by rfl) (by rfl) (fun _ _ _ _ h => h) rfl rfl ?_; try simp only [Act.put, List.setIfInBounds_toArray, List.set_cons_zero, List.set_cons_succ]) | (refine T_quietN (by rfl) (by rfl) (by rfl) (by rfl) (fun _ _ _ _ h => h) (fun K hK => ?_); go_big_quiet_op; refine hK _ ?_; clear hK K) | (refine T_two (by rfl) (by rfl) (by rfl) (by rfl) (fun _ _ _ _ h => h) (fun K hK => ?_); go_big_quiet_op; refine ⟨_, fun _ _ => rfl, ?_⟩; refine hK _ ?_; clear hK K; try simp only [Act.put, List.setIfInBounds_toArray, List.set_cons_zero, List.set_cons_succ]) | fail)
              refine T_done ?_
              go_wp2_with fail
              go_meet
              case rel => exact ⟨rfl, hT.grown hg10 (fun q hq => by injection hq with hq; exact .inl (by omega))⟩
          · go_wp2_with fail
            (refine hK.out _ _ (((Fr.refl _ _).alloc _)) ?_; clear hK K; try simp only [Act.put, List.setIfInBounds_toArray, List.set_cons_zero, List.set_cons_succ])
            have hb9 := Blk.new wx1 25 #[.int .i64 0, .slice none 0 0, .slice none 0 0]
            have hf9 : Fr No wx1 (wx1.alloc (.cells #[.int .i64 0, .slice none 0 0, .slice none 0 0] 25)) := (Fr.refl No _).alloc _
            obtain ⟨b9, he9⟩ : ∃ b, b = wx1.heap.size := ⟨_, rfl⟩
            rw [← he9] at hb9 ⊢
            generalize hw9 : wx1.alloc (.cells #[.int .i64 0, .slice none 0 0, .slice none 0 0] 25) = wx9 at *
            clear hw9
            have hle9 : wc.heap.size ≤ b9 := by rw [he9]; exact hT.size
            clear he9
            replace hT := Fr.tr hT hf9
            replace hbu := hbu.fr0 hf9
            replace hb0 := hb0.fr0 hf9
            replace ho1 := ho1.fr0 hf9
            refine T_call (by rfl) (by rfl) (fun K hK => ?_)
            go_wp2_with fail
            (refine hK.out _ _ (((Fr.refl _ _).alloc _)) ?_; clear hK K; try simp only [Act.put, List.setIfInBounds_toArray, List.set_cons_zero, List.set_cons_succ])
            have hb4 := Blk.new wx9 41 #[.int .i64 0, .bool false, .int .i64 3, .int .i64 3]
            have hf4 : Fr No wx9 (wx9.alloc (.cells #[.int .i64 0, .bool false, .int .i64 3, .int .i64 3] 41)) := (Fr.refl No _).alloc _
            obtain ⟨b4, he4⟩ : ∃ b, b = wx9.heap.size := ⟨_, rfl⟩
            rw [← he4] at hb4 ⊢
            generalize hw4 : wx9.alloc (.cells #[.int .i64 0, .bool false, .int .i64 3, .int .i64 3] 41) = wx4 at *
            clear hw4
            clear he4
            replace hT := Fr.tr hT hf4
            replace hbu := hbu.fr0 hf4
            replace hb0 := hb0.fr0 hf4
            replace ho1 := ho1.fr0 hf4
            replace hb9 := hb9.fr0 hf4
            refine T_call (by rfl) (by rfl) (fun K hK => ?_)
            go_wp2_with fail
            have hrd : RdO wx4 (fun b => b < wx4.heap.size) (some ⟨b4, 0, none⟩) [⟨0, false, ⟨3, 3⟩⟩] := ⟨rfl, by decide, fun _ => ⟨_, rfl, hb4.lt, hb4.all⟩⟩
            refine (replay14_miss _ cs1 ⟨14, nums [1, 2], []⟩ wx4 (some ⟨b4, 0, none⟩) 1 [⟨0, false, ⟨3, 3⟩⟩] ho1 rfl (by decide) hrd (by decide) rfl (by decide)).mono ?_
            rintro e wx5 ⟨rfl, hf5⟩
            go_wp2_with fail
            (refine hK.out _ _ (hf5) ?_; clear hK K; try simp only [Act.put, List.setIfInBounds_toArray, List.set_cons_zero, List.set_cons_succ])
            replace hT := Fr.tr hT hf5
            replace hbu := hbu.fr0 hf5
            replace hb0 := hb0.fr0 hf5
            replace ho1 := ho1.fr0 hf5
            replace hb4 := hb4.fr0 hf5
            replace hb9 := hb9.fr0 hf5
            (first | (refine T_skip (by rfl) (by rfl) (fun _ _ _ h => h) ?_; try simp only [Act.put, List.setIfInBounds_toArray, List.set_cons_zero, List.set_cons_succ]) | (refine T_pass (by rfl) (by rfl) ?_; try simp only [Act.put, List.setIfInBounds_toArray, List.set_cons_zero, List.set_cons_succ]) | (refine T_load (by assumption) (by rfl) (by rfl) (fun _ _ _ _ h => h) rfl rfl (by assumption) (by first | exact (fun hn => hn) | assumption) ?_; try simp only [Act.put, List.setIfInBounds_toArray, List.set_cons_zero, List.set_cons_succ]) | (refine T_nil (by rfl) (by rfl) (fun _ _ _ _ h => h) rfl rfl ?_; try simp only [Act.put, List.setIfInBounds_toArray, List.set_cons_zero, List.set_cons_succ]) | (refine T_quietN (by rfl) (by rfl) (by rfl) (by rfl) (fun _ _ _ _ h => h) (fun K hK => ?_); go_big_quiet_op; refine hK _ ?_; clear hK K) | (refine T_two (by rfl) (by rfl) (by rfl) (by rfl) (fun _ _ _ _ h => h) (fun K hK => ?_); go_big_quiet_op; refine ⟨_, fun _ _ => rfl, ?_⟩; refine hK _ ?_; clear hK K; try simp only [Act.put, List.setIfInBounds_toArray, List.set_cons_zero, List.set_cons_succ]) | fail)
            (first | (refine T_skip (by rfl) (by rfl) (fun _ _ _ h => h) ?_; try simp only [Act.put, List.setIfInBounds_toArray, List.set_cons_zero, List.set_cons_succ]) | (refine T_pass (by rfl) (by rfl) ?_; try simp only [Act.put, List.setIfInBounds_toArray, List.set_cons_zero, List.set_cons_succ]) | (refine T_load (by assumption) (by rfl) (by rfl) (fun _ _ _ _ h => h) rfl rfl (by assumption) (by first | exact (fun hn => hn) | assumption) ?_; try simp only [Act.put, List.setIfInBounds_toArray, List.set_cons_zero, List.set_cons_succ]) | (refine T_nil (by rfl) (by rfl) (fun _ _ _ _ h => h) rfl rfl ?_; try simp only [Act.put, List.setIfInBounds_toArray, List.set_cons_zero, List.set_cons_succ]) | (refine T_quietN (by rfl) (by rfl) (by rfl) (by rfl) (fun _ _ _ _ h => h) (fun K hK => ?_); go_big_quiet_op; refine hK _ ?_; clear hK K) | (refine T_two (by rfl) (by rfl) (by rfl) (by rfl) (fun _ _ _ _ h => h) (fun K hK => ?_); go_big_quiet_op; refine ⟨_, fun _ _ => rfl, ?_⟩; refine hK _ ?_; clear hK K; try simp only [Act.put, List.setIfInBounds_toArray, List.set_cons_zero, List.set_cons_succ]) | fail)
            (first | (refine T_skip (by rfl) (by rfl) (fun _ _ _ h => h) ?_; try simp only [Act.put, List.setIfInBounds_toArray, List.set_cons_zero, List.set_cons_succ]) | (refine T_pass (by rfl) (by rfl) ?_; try simp only [Act.put, List.setIfInBounds_toArray, List.set_cons_zero, List.set_cons_succ]) | (refine T_load (by assumption) (by rfl) (by rfl) (fun _ _ _ _ h => h) rfl rfl (by assumption) (by first | exact (fun hn => hn) | assumption) ?_; try simp only [Act.put, List.setIfInBounds_toArray, List.set_cons_zero, List.set_cons_succ]) | (refine T_nil (by rfl) (by rfl) (fun _ _ _ _ h => h) rfl rfl ?_; try simp only [Act.put, List.setIfInBounds_toArray, List.set_cons_zero, List.set_cons_succ]) | (refine T_quietN (by rfl) (by rfl) (by rfl) (by rfl) (fun _ _ _ _ h => h) (fun K hK => ?_); go_big_quiet_op; refine hK _ ?_; clear hK K) | (refine T_two (by rfl) (by rfl) (by rfl) (by rfl) (fun _ _ _ _ h => h) (fun K hK => ?_); go_big_quiet_op; refine ⟨_, fun _ _ => rfl, ?_⟩; refine hK _ ?_; clear hK K; try simp only [Act.put, List.setIfInBounds_toArray, List.set_cons_zero, List.set_cons_succ]) | fail)
            refine T_turn No [] (by rfl) (by rfl) (by rfl) (fun K hK => ?_)
            refine wp_stA ag_obj.info _ _ rfl b9 0 _ _ [.int .i64 0, .slice none 0 0, .slice none 0 0] _ rfl rfl rfl rfl (by intro u hu; simp at hu; rcases hu with rfl | rfl | rfl <;> rfl) hb9 (by decide) ?_
            intro wx10 hb10 hg10 hz10
            rw [splice_all _ _ (by rfl)] at hb10
            refine hK.out _ _ ?_
            clear hK K
            try simp only [Act.put, List.setIfInBounds_toArray, List.set_cons_zero, List.set_cons_succ]
            (first | (refine T_skip (by rfl) (by rfl) (fun _ _ _ h => h) ?_; try simp only [Act.put, List.setIfInBounds_toArray, List.set_cons_zero, List.set_cons_succ]) | (refine T_pass (by rfl) (by rfl) ?_; try simp only [Act.put, List.setIfInBounds_toArray, List.set_cons_zero, List.set_cons_succ]) | (refine T_load (by assumption) (by rfl) (by rfl) (fun _ _ _ _ h => h) rfl rfl (by assumption) (by first | exact (fun hn => hn) | assumption) ?_; try simp only [Act.put, List.setIfInBounds_toArray, List.set_cons_zero, List.set_cons_succ]) | (refine T_nil (by rfl) (by rfl) (fun _ _ _ _ h => h) rfl rfl ?_; try simp only [Act.put, List.setIfInBounds_toArray, List.set_cons_zero, List.set_cons_succ]) | (refine T_quietN (by rfl) (by rfl) (by rfl) (by rfl) (fun _ _ _ _ h => h) (fun K hK => ?_); go_big_quiet_op; refine hK _ ?_; clear hK K) | (refine T_two (by rfl) (by rfl) (by rfl) (by rfl) (fun _ _ _ _ h => h) (fun K hK => ?_); go_big_quiet_op; refine ⟨_, fun _ _ => rfl, ?_⟩; refine hK _ ?_; clear hK K; try simp only [Act.put, List.setIfInBounds_toArray, List.set_cons_zero, List.set_cons_succ]) | fail)
            refine T_done ?_
            go_wp2_with fail
            go_meet
            case rel => exact ⟨rfl, hT.grown hg10 (fun q hq => by injection hq with hq; exact .inl (by omega))⟩
        · go_wp2_with fail
          (refine hK.out _ _ (((Fr.refl _ _).alloc _)) ?_; clear hK K; try simp only [Act.put, List.setIfInBounds_toArray, List.set_cons_zero, List.set_cons_succ])
          have hb4 := Blk.new wx0 41 #[.int .i64 0, .bool false, .int .i64 3, .int .i64 3]
          have hf4 : Fr No wx0 (wx0.alloc (.cells #[.int .i64 0, .bool false, .int .i64 3, .int .i64 3] 41)) := (Fr.refl No _).alloc _
          obtain ⟨b4, he4⟩ : ∃ b, b = wx0.heap.size := ⟨_, rfl⟩
          rw [← he4] at hb4 ⊢
          generalize hw4 : wx0.alloc (.cells #[.int .i64 0, .bool false, .int .i64 3, .int .i64 3] 41) = wx4 at *
          clear hw4
          clear he4
          replace hT := Fr.tr hT hf4
          replace hbu := hbu.fr0 hf4
          replace hb0 := hb0.fr0 hf4
          refine T_fork (ord2 := [2, 3, 0, 4, 9, 1, 5, 6, 7, 8, 10, 11]) (calls2 := [0, 1, 4, 5, 9, 10, 1000, 1004, 1009]) (i := 1) (j := 9) (by kernel_rfl) rfl rfl rfl (by kernel_rfl) rfl rfl rfl (by rfl) (by rfl) (fun K hK => ?_) (fun K hK => ?_)
          · go_wp2_with fail
            refine (bag_calls (fun _ => True) (some ⟨b0, 0, none⟩) 2 [1, 2] wx4 ⟨rfl, by decide, fun _ => ⟨_, rfl, trivial, hb0.all⟩⟩ (by decide)).mono ?_
            rintro e wx1 ⟨cs1, rfl, ho1, hf1⟩
            go_wp2_with fail
            (refine hK.out _ _ (hf1) ?_; clear hK K; try simp only [Act.put, List.setIfInBounds_toArray, List.set_cons_zero, List.set_cons_succ])
            replace hT := Fr.tr hT hf1
            replace hbu := hbu.fr0 hf1
            replace hb0 := hb0.fr0 hf1
            replace hb4 := hb4.fr0 hf1
            refine T_fork (ord2 := [2, 3, 0, 4, 1, 9, 5, 6, 7, 8, 10, 11]) (calls2 := [0, 1, 4, 5, 9, 10, 1000, 1004, 1001, 1009]) (i := 5) (j := 9) (by kernel_rfl) rfl rfl rfl (by kernel_rfl) rfl rfl rfl (by rfl) (by rfl) (fun K hK => ?_) (fun K hK => ?_)
            · go_wp2_with fail
              have hrd : RdO wx1 (fun b => b < wx1.heap.size) (some ⟨b4, 0, none⟩) [⟨0, false, ⟨3, 3⟩⟩] := ⟨rfl, by decide, fun _ => ⟨_, rfl, hb4.lt, hb4.all⟩⟩
              refine (replay14_miss _ cs1 ⟨14, nums [1, 2], []⟩ wx1 (some ⟨b4, 0, none⟩) 1 [⟨0, false, ⟨3, 3⟩⟩] ho1 rfl (by decide) hrd (by decide) rfl (by decide)).mono ?_
              rintro e wx5 ⟨rfl, hf5⟩
              go_wp2_with fail
              (refine hK.out _ _ (hf5) ?_; clear hK K; try simp only [Act.put, List.setIfInBounds_toArray, List.set_cons_zero, List.set_cons_succ])
              replace hT := Fr.tr hT hf5
              replace hbu := hbu.fr0 hf5
              replace hb0 := hb0.fr0 hf5
              replace ho1 := ho1.fr0 hf5
              replace hb4 := hb4.fr0 hf5
              (first | (refine T_skip (by rfl) (by rfl) (fun _ _ _ h => h) ?_; try simp only [Act.put, List.setIfInBounds_toArray, List.set_cons_zero, List.set_cons_succ]) | (refine T_pass (by rfl) (by rfl) ?_; try simp only [Act.put, List.setIfInBounds_toArray, List.set_cons_zero, List.set_cons_succ]) | (refine T_load (by assumption) (by rfl) (by rfl) (fun _ _ _ _ h => h) rfl rfl (by assumption) (by first | exact (fun hn => hn) | assumption) ?_; try simp only [Act.put, List.setIfInBounds_toArray, List.set_cons_zero, List.set_cons_succ]) | (refine T_nil (by rfl) (by rfl) (fun _ _ _ _ h => h) rfl rfl ?_; try simp only [Act.put, List.setIfInBounds_toArray, List.set_cons_zero, List.set_cons_succ]) | (refine T_quietN (by rfl) (by rfl) (by rfl) (by rfl) (fun _ _ _ _ h => h) (fun K hK => ?_); go_big_quiet_op; refine hK _ ?_; clear hK K) | (refine T_two (by rfl) (by rfl) (by rfl) (by rfl) (fun _ _ _ _ h => h) (fun K hK => ?_); go_big_quiet_op; refine ⟨_, fun _ _ => rfl, ?_⟩; refine hK _ ?_; clear hK K; try simp only [Act.put, List.setIfInBounds_toArray, List.set_cons_zero, List.set_cons_succ]) | fail)
              (first | (refine T_skip (by rfl) (by rfl) (fun _ _ _ h => h) ?_; try simp only [Act.put, List.setIfInBounds_toArray, List.set_cons_zero, List.set_cons_succ]) | (refine T_pass (by rfl) (by rfl) ?_; try simp only [Act.put, List.setIfInBounds_toArray, List.set_cons_zero, List.set_cons_succ]) | (refine T_load (by assumption) (by rfl) (by rfl) (fun _ _ _ _ h => h) rfl rfl (by assumption) (by first | exact (fun hn => hn) | assumption) ?_; try simp only [Act.put, List.setIfInBounds_toArray, List.set_cons_zero, List.set_cons_succ]) | (refine T_nil (by rfl) (by rfl) (fun _ _ _ _ h => h) rfl rfl ?_; try simp only [Act.put, List.setIfInBounds_toArray, List.set_cons_zero, List.set_cons_succ]) | (refine T_quietN (by rfl) (by rfl) (by rfl) (by rfl) (fun _ _ _ _ h => h) (fun K hK => ?_); go_big_quiet_op; refine hK _ ?_; clear hK K) | (refine T_two (by rfl) (by rfl) (by rfl) (by rfl) (fun _ _ _ _ h => h) (fun K hK => ?_); go_big_quiet_op; refine ⟨_, fun _ _ => rfl, ?_⟩; refine hK _ ?_; clear hK K; try simp only [Act.put, List.setIfInBounds_toArray, List.set_cons_zero, List.set_cons_succ]) | fail)
              (first | (refine T_skip (by rfl) (by rfl) (fun _ _ _ h => h) ?_; try simp only [Act.put, List.setIfInBounds_toArray, List.set_cons_zero, List.set_cons_succ]) | (refine T_pass (by rfl) (by rfl) ?_; try simp only [Act.put, List.setIfInBounds_toArray, List.set_cons_zero, List.set_cons_succ]) | (refine T_load (by assumption) (by rfl) (by rfl) (fun _ _ _ _ h => h) rfl rfl (by assumption) (by first | exact (fun hn => hn) | assumption) ?_; try simp only [Act.put, List.setIfInBounds_toArray, List.set_cons_zero, List.set_cons_succ]) | (refine T_nil (by rfl) (by rfl) (fun _ _ _ _ h => h) rfl rfl ?_; try simp only [Act.put, List.setIfInBounds_toArray, List.set_cons_zero, List.set_cons_succ]) | (refine T_quietN (by rfl) (by rfl) (by rfl) (by rfl) (fun _ _ _ _ h => h) (fun K hK => ?_); go_big_quiet_op; refine hK _ ?_; clear hK K) | (refine T_two (by rfl) (by rfl) (by rfl) (by rfl) (fun _ _ _ _ h => h) (fun K hK => ?_); go_big_quiet_op; refine ⟨_, fun _ _ => rfl, ?_⟩; refine hK _ ?_; clear hK K; try simp only [Act.put, List.setIfInBounds_toArray, List.set_cons_zero, List.set_cons_succ]) | fail)
              refine T_call (by rfl) (by rfl) (fun K hK => ?_)
              go_wp2_with fail
              (refine hK.out _ _ (((Fr.refl _ _).alloc _)) ?_; clear hK K; try simp only [Act.put, List.setIfInBounds_toArray, List.set_cons_zero, List.set_cons_succ])
              have hb9 := Blk.new wx5 25 #[.int .i64 0, .slice none 0 0, .slice none 0 0]
              have hf9 : Fr No wx5 (wx5.alloc (.cells #[.int .i64 0, .slice none 0 0, .slice none 0 0] 25)) := (Fr.refl No _).alloc _
              obtain ⟨b9, he9⟩ : ∃ b, b = wx5.heap.size := ⟨_, rfl⟩
              rw [← he9] at hb9 ⊢
              generalize hw9 : wx5.alloc (.cells #[.int .i64 0, .slice none 0 0, .slice none 0 0] 25) = wx9 at *
              clear hw9
              have hle9 : wc.heap.size ≤ b9 := by rw [he9]; exact hT.size
              clear he9
              replace hT := Fr.tr hT hf9
              replace hbu := hbu.fr0 hf9
              replace hb0 := hb0.fr0 hf9
              replace ho1 := ho1.fr0 hf9
              replace hb4 := hb4.fr0 hf9
              refine T_turn No [] (by rfl) (by rfl) (by rfl) (fun K hK => ?_)
              refine wp_stA ag_obj.info _ _ rfl b9 0 _ _ [.int .i64 0, .slice none 0 0, .slice none 0 0] _ rfl rfl rfl rfl (by intro u hu; simp at hu; rcases hu with rfl | rfl | rfl <;> rfl) hb9 (by decide) ?_
              intro wx10 hb10 hg10 hz10
              rw [splice_all _ _ (by rfl)] at hb10
              refine hK.out _ _ ?_
              clear hK K
              try simp only [Act.put, List.setIfInBounds_toArray, List.set_cons_zero, List.set_cons_succ]
              (first | (refine T_skip (by rfl) (by rfl) (fun _ _ _ h => h) ?_; try simp only [Act.put, List.setIfInBounds_toArray, List.set_cons_zero, List.set_cons_succ]) | (refine T_pass (by rfl) (by rfl) ?_; try simp only [Act.put, List.setIfInBounds_toArray, List.set_cons_zero, List.set_cons_succ]) | (refine T_load (by assumption) (by rfl) (by rfl) (fun _ _ _ _ h => h) rfl rfl (by assumption) (by first | exact (fun hn => hn) | assumption) ?_; try simp only [Act.put, List.setIfInBounds_toArray, List.set_cons_zero, List.set_cons_succ]) | (refine T_nil (by rfl) (by rfl) (fun _ _ _ _ h => h) rfl rfl ?_; try simp only [Act.put, List.setIfInBounds_toArray, List.set_cons_zero, List.set_cons_succ]) | (refine T_quietN (by rfl) (by rfl) (by rfl) (by rfl) (fun _ _ _ _ h => h) (fun K hK => ?_); go_big_quiet_op; refine hK _ ?_; clear hK K) | (refine T_two (by rfl) (by rfl) (by rfl) (by rfl) (fun _ _ _ _ h => h) (fun K hK => ?_); go_big_quiet_op; refine ⟨_, fun _ _ => rfl, ?_⟩; refine hK _ ?_; clear hK K; try simp only [Act.put, List.setIfInBounds_toArray, List.set_cons_zero, List.set_cons_succ]) | fail)
              refine T_done ?_
              go_wp2_with fail
              go_meet
              case rel => exact ⟨rfl, hT.grown hg10 (fun q hq => by injection hq with hq; exact .inl (by omega))⟩
            · go_wp2_with fail
              (refine hK.out _ _ (((Fr.refl _ _).alloc _)) ?_; clear hK K; try simp only [Act.put, List.setIfInBounds_toArray, List.set_cons_zero, List.set_cons_succ])
              have hb9 := Blk.new wx1 25 #[.int .i64 0, .slice none 0 0, .slice none 0 0]
              have hf9 : Fr No wx1 (wx1.alloc (.cells #[.int .i64 0, .slice none 0 0, .slice none 0 0] 25)) := (Fr.refl No _).alloc _
              obtain ⟨b9, he9⟩ : ∃ b, b = wx1.heap.size := ⟨_, rfl⟩
              rw [← he9] at hb9 ⊢
              generalize hw9 : wx1.alloc (.cells #[.int .i64 0, .slice none 0 0, .slice none 0 0] 25) = wx9 at *
              clear hw9
              have hle9 : wc.heap.size ≤ b9 := by rw [he9]; exact hT.size
              clear he9
              replace hT := Fr.tr hT hf9
              replace hbu := hbu.fr0 hf9
              replace hb0 := hb0.fr0 hf9
              replace ho1 := ho1.fr0 hf9
              replace hb4 := hb4.fr0 hf9
              refine T_call (by rfl) (by rfl) (fun K hK => ?_)
              go_wp2_with fail
              have hrd : RdO wx9 (fun b => b < wx9.heap.size) (some ⟨b4, 0, none⟩) [⟨0, false, ⟨3, 3⟩⟩] := ⟨rfl, by decide, fun _ => ⟨_, rfl, hb4.lt, hb4.all⟩⟩
              refine (replay14_miss _ cs1 ⟨14, nums [1, 2], []⟩ wx9 (some ⟨b4, 0, none⟩) 1 [⟨0, false, ⟨3, 3⟩⟩] ho1 rfl (by decide) hrd (by decide) rfl (by decide)).mono ?_
              rintro e wx5 ⟨rfl, hf5⟩
              go_wp2_with fail
              (refine hK.out _ _ (hf5) ?_; clear hK K; try simp only [Act.put, List.setIfInBounds_toArray, List.set_cons_zero, List.set_cons_succ])
              replace hT := Fr.tr hT hf5
              replace hbu := hbu.fr0 hf5
              replace hb0 := hb0.fr0 hf5
              replace ho1 := ho1.fr0 hf5
              replace hb4 := hb4.fr0 hf5
              replace hb9 := hb9.fr0 hf5
              (first | (refine T_skip (by rfl) (by rfl) (fun _ _ _ h => h) ?_; try simp only [Act.put, List.setIfInBounds_toArray, List.set_cons_zero, List.set_cons_succ]) | (refine T_pass (by rfl) (by rfl) ?_; try simp only [Act.put, List.setIfInBounds_toArray, List.set_cons_zero, List.set_cons_succ]) | (refine T_load (by assumption) (by rfl) (by rfl) (fun _ _ _ _ h => h) rfl rfl (by assumption) (by first | exact (fun hn => hn) | assumption) ?_; try simp only [Act.put, List.setIfInBounds_toArray, List.set_cons_zero, List.set_cons_succ]) | (refine T_nil (by rfl) (by rfl) (fun _ _ _ _ h => h) rfl rfl ?_; try simp only [Act.put, List.setIfInBounds_toArray, List.set_cons_zero, List.set_cons_succ]) | (refine T_quietN (by rfl) (by rfl) (by rfl) (by rfl) (fun _ _ _ _ h => h) (fun K hK => ?_); go_big_quiet_op; refine hK _ ?_; clear hK K) | (refine T_two (by rfl) (by rfl) (by rfl) (by rfl) (fun _ _ _ _ h => h) (fun K hK => ?_); go_big_quiet_op; refine ⟨_, fun _ _ => rfl, ?_⟩; refine hK _ ?_; clear hK K; try simp only [Act.put, List.setIfInBounds_toArray, List.set_cons_zero, List.set_cons_succ]) | fail)
              (first | (refine T_skip (by rfl) (by rfl) (fun _ _ _ h => h) ?_; try simp only [Act.put, List.setIfInBounds_toArray, List.set_cons_zero, List.set_cons_succ]) | (refine T_pass (by rfl) (by rfl) ?_; try simp only [Act.put, List.setIfInBounds_toArray, List.set_cons_zero, List.set_cons_succ]) | (refine T_load (by assumption) (by rfl) (by rfl) (fun _ _ _ _ h => h) rfl rfl (by assumption) (by first | exact (fun hn => hn) | assumption) ?_; try simp only [Act.put, List.setIfInBounds_toArray, List.set_cons_zero, List.set_cons_succ]) | (refine T_nil (by rfl) (by rfl) (fun _ _ _ _ h => h) rfl rfl ?_; try simp only [Act.put, List.setIfInBounds_toArray, List.set_cons_zero, List.set_cons_succ]) | (refine T_quietN (by rfl) (by rfl) (by rfl) (by rfl) (fun _ _ _ _ h => h) (fun K hK => ?_); go_big_quiet_op; refine hK _ ?_; clear hK K) | (refine T_two (by rfl) (by rfl) (by rfl) (by rfl) (fun _ _ _ _ h => h) (fun K hK => ?_); go_big_quiet_op; refine ⟨_, fun _ _ => rfl, ?_⟩; refine hK _ ?_; clear hK K; try simp only [Act.put, List.setIfInBounds_toArray, List.set_cons_zero, List.set_cons_succ]) | fail)
              (first | (refine T_skip (by rfl) (by rfl) (fun _ _ _ h => h) ?_; try simp only [Act.put, List.setIfInBounds_toArray, List.set_cons_zero, List.set_cons_succ]) | (refine T_pass (by rfl) (by rfl) ?_; try simp only [Act.put, List.setIfInBounds_toArray, List.set_cons_zero, List.set_cons_succ]) | (refine T_load (by assumption) (by rfl) (by rfl) (fun _ _ _ _ h => h) rfl rfl (by assumption) (by first | exact (fun hn => hn) | assumption) ?_; try simp only [Act.put, List.setIfInBounds_toArray, List.set_cons_zero, List.set_cons_succ]) | (refine T_nil (by rfl) (by rfl) (fun _ _ _ _ h => h) rfl rfl ?_; try simp only [Act.put, List.setIfInBounds_toArray, List.set_cons_zero, List.set_cons_succ]) | (refine T_quietN (by rfl) (by rfl) (by rfl) (by rfl) (fun _ _ _ _ h => h) (fun K hK => ?_); go_big_quiet_op; refine hK _ ?_; clear hK K) | (refine T_two (by rfl) (by rfl) (by rfl) (by rfl) (fun _ _ _ _ h => h) (fun K hK => ?_); go_big_quiet_op; refine ⟨_, fun _ _ => rfl, ?_⟩; refine hK _ ?_; clear hK K; try simp only [Act.put, List.setIfInBounds_toArray, List.set_cons_zero, List.set_cons_succ]) | fail)
              refine T_turn No [] (by rfl) (by rfl) (by rfl) (fun K hK => ?_)
              refine wp_stA ag_obj.info _ _ rfl b9 0 _ _ [.int .i64 0, .slice none 0 0, .slice none 0 0] _ rfl rfl rfl rfl (by intro u hu; simp at hu; rcases hu with rfl | rfl | rfl <;> rfl) hb9 (by decide) ?_
              intro wx10 hb10 hg10 hz10
              rw [splice_all _ _ (by rfl)] at hb10
              refine hK.out _ _ ?_
              clear hK K
              try simp only [Act.put, List.setIfInBounds_toArray, List.set_cons_zero, List.set_cons_succ]
              (first | (refine T_skip (by rfl) (by rfl) (fun _ _ _ h => h) ?_; try simp only [Act.put, List.setIfInBounds_toArray, List.set_cons_zero, List.set_cons_succ]) | (refine T_pass (by rfl) (by rfl) ?_; try simp only [Act.put, List.setIfInBounds_toArray, List.set_cons_zero, List.set_cons_succ]) | (refine T_load (by assumption) (by rfl) (by rfl) (fun _ _ _ _ h => h) rfl rfl (by assumption) (by first | exact (fun hn => hn) | assumption) ?_; try simp only [Act.put, List.setIfInBounds_toArray, List.set_cons_zero, List.set_cons_succ]) | (refine T_nil (by rfl) (by rfl) (fun _ _ _ _ h => h) rfl rfl ?_; try simp only [Act.put, List.setIfInBounds_toArray, List.set_cons_zero, List.set_cons_succ]) | (refine T_quietN (by rfl) (by rfl) (by rfl) (by rfl) (fun _ _ _ _ h => h) (fun K hK => ?_); go_big_quiet_op; refine hK _ ?_; clear hK K) | (refine T_two (by rfl) (by rfl) (by rfl) (by rfl) (fun _ _ _ _ h => h) (fun K hK => ?_); go_big_quiet_op; refine ⟨_, fun _ _ => rfl, ?_⟩; refine hK _ ?_; clear hK K; try simp only [Act.put, List.setIfInBounds_toArray, List.set_cons_zero, List.set_cons_succ]) | fail)
              refine T_done ?_
              go_wp2_with fail
              go_meet
              case rel => exact ⟨rfl, hT.grown hg10 (fun q hq => by injection hq with hq; exact .inl (by omega))⟩
          · go_wp2_with fail
            (refine hK.out _ _ (((Fr.refl _ _).alloc _)) ?_; clear hK K; try simp only [Act.put, List.setIfInBounds_toArray, List.set_cons_zero, List.set_cons_succ])
            have hb9 := Blk.new wx4 25 #[.int .i64 0, .slice none 0 0, .slice none 0 0]
            have hf9 : Fr No wx4 (wx4.alloc (.cells #[.int .i64 0, .slice none 0 0, .slice none 0 0] 25)) := (Fr.refl No _).alloc _
            obtain ⟨b9, he9⟩ : ∃ b, b = wx4.heap.size := ⟨_, rfl⟩
            rw [← he9] at hb9 ⊢
            generalize hw9 : wx4.alloc (.cells #[.int .i64 0, .slice none 0 0, .slice none 0 0] 25) = wx9 at *
            clear hw9
            have hle9 : wc.heap.size ≤ b9 := by rw [he9]; exact hT.size
            clear he9
            replace hT := Fr.tr hT hf9
            replace hbu := hbu.fr0 hf9
            replace hb0 := hb0.fr0 hf9
            replace hb4 := hb4.fr0 hf9
            refine T_call (by rfl) (by rfl) (fun K hK => ?_)
            go_wp2_with fail
            refine (bag_calls (fun _ => True) (some ⟨b0, 0, none⟩) 2 [1, 2] wx9 ⟨rfl, by decide, fun _ => ⟨_, rfl, trivial, hb0.all⟩⟩ (by decide)).mono ?_
            rintro e wx1 ⟨cs1, rfl, ho1, hf1⟩
            go_wp2_with fail
            (refine hK.out _ _ (hf1) ?_; clear hK K; try simp only [Act.put, List.setIfInBounds_toArray, List.set_cons_zero, List.set_cons_succ])
            replace hT := Fr.tr hT hf1
            replace hbu := hbu.fr0 hf1
            replace hb0 := hb0.fr0 hf1
            replace hb4 := hb4.fr0 hf1
            replace hb9 := hb9.fr0 hf1
            refine T_call (by rfl) (by rfl) (fun K hK => ?_)
            go_wp2_with fail
            have hrd : RdO wx1 (fun b => b < wx1.heap.size) (some ⟨b4, 0, none⟩) [⟨0, false, ⟨3, 3⟩⟩] := ⟨rfl, by decide, fun _ => ⟨_, rfl, hb4.lt, hb4.all⟩⟩
            refine (replay14_miss _ cs1 ⟨14, nums [1, 2], []⟩ wx1 (some ⟨b4, 0, none⟩) 1 [⟨0, false, ⟨3, 3⟩⟩] ho1 rfl (by decide) hrd (by decide) rfl (by decide)).mono ?_
            rintro e wx5 ⟨rfl, hf5⟩
            go_wp2_with fail
            (refine hK.out _ _ (hf5) ?_; clear hK K; try simp only [Act.put, List.setIfInBounds_toArray, List.set_cons_zero, List.set_cons_succ])
            replace hT := Fr.tr hT hf5
            replace hbu := hbu.fr0 hf5
            replace hb0 := hb0.fr0 hf5
            replace ho1 := ho1.fr0 hf5
            replace hb4 := hb4.fr0 hf5
            replace hb9 := hb9.fr0 hf5
            (first | (refine T_skip (by rfl) (by rfl) (fun _ _ _ h => h) ?_; try simp only [Act.put, List.setIfInBounds_toArray, List.set_cons_zero, List.set_cons_succ]) | (refine T_pass (by rfl) (by rfl) ?_; try simp only [Act.put, List.setIfInBounds_toArray, List.set_cons_zero, List.set_cons_succ]) | (refine T_load (by assumption) (by rfl) (by rfl) (fun _ _ _ _ h => h) rfl rfl (by assumption) (by first | exact (fun hn => hn) | assumption) ?_; try simp only [Act.put, List.setIfInBounds_toArray, List.set_cons_zero, List.set_cons_succ]) | (refine T_nil (by rfl) (by rfl) (fun _ _ _ _ h => h) rfl rfl ?_; try simp only [Act.put, List.setIfInBounds_toArray, List.set_cons_zero, List.set_cons_succ]) | (refine T_quietN (by rfl) (by rfl) (by rfl) (by rfl) (fun _ _ _ _ h => h) (fun K hK => ?_); go_big_quiet_op; refine hK _ ?_; clear hK K) | (refine T_two (by rfl) (by rfl) (by rfl) (by rfl) (fun _ _ _ _ h => h) (fun K hK => ?_); go_big_quiet_op; refine ⟨_, fun _ _ => rfl, ?_⟩; refine hK _ ?_; clear hK K; try simp only [Act.put, List.setIfInBounds_toArray, List.set_cons_zero, List.set_cons_succ]) | fail)
            (first | (refine T_skip (by rfl) (by rfl) (fun _ _ _ h => h) ?_; try simp only [Act.put, List.setIfInBounds_toArray, List.set_cons_zero, List.set_cons_succ]) | (refine T_pass (by rfl) (by rfl) ?_; try simp only [Act.put, List.setIfInBounds_toArray, List.set_cons_zero, List.set_cons_succ]) | (refine T_load (by assumption) (by rfl) (by rfl) (fun _ _ _ _ h => h) rfl rfl (by assumption) (by first | exact (fun hn => hn) | assumption) ?_; try simp only [Act.put, List.setIfInBounds_toArray, List.set_cons_zero, List.set_cons_succ]) | (refine T_nil (by rfl) (by rfl) (fun _ _ _ _ h => h) rfl rfl ?_; try simp only [Act.put, List.setIfInBounds_toArray, List.set_cons_zero, List.set_cons_succ]) | (refine T_quietN (by rfl) (by rfl) (by rfl) (by rfl) (fun _ _ _ _ h => h) (fun K hK => ?_); go_big_quiet_op; refine hK _ ?_; clear hK K) | (refine T_two (by rfl) (by rfl) (by rfl) (by rfl) (fun _ _ _ _ h => h) (fun K hK => ?_); go_big_quiet_op; refine ⟨_, fun _ _ => rfl, ?_⟩; refine hK _ ?_; clear hK K; try simp only [Act.put, List.setIfInBounds_toArray, List.set_cons_zero, List.set_cons_succ]) | fail)
            (first | (refine T_skip (by rfl) (by rfl) (fun _ _ _ h => h) ?_; try simp only [Act.put, List.setIfInBounds_toArray, List.set_cons_zero, List.set_cons_succ]) | (refine T_pass (by rfl) (by rfl) ?_; try simp only [Act.put, List.setIfInBounds_toArray, List.set_cons_zero, List.set_cons_succ]) | (refine T_load (by assumption) (by rfl) (by rfl) (fun _ _ _ _ h => h) rfl rfl (by assumption) (by first | exact (fun hn => hn) | assumption) ?_; try simp only [Act.put, List.setIfInBounds_toArray, List.set_cons_zero, List.set_cons_succ]) | (refine T_nil (by rfl) (by rfl) (fun _ _ _ _ h => h) rfl rfl ?_; try simp only [Act.put, List.setIfInBounds_toArray, List.set_cons_zero, List.set_cons_succ]) | (refine T_quietN (by rfl) (by rfl) (by rfl) (by rfl) (fun _ _ _ _ h => h) (fun K hK => ?_); go_big_quiet_op; refine hK _ ?_; clear hK K) | (refine T_two (by rfl) (by rfl) (by rfl) (by rfl) (fun _ _ _ _ h => h) (fun K hK => ?_); go_big_quiet_op; refine ⟨_, fun _ _ => rfl, ?_⟩; refine hK _ ?_; clear hK K; try simp only [Act.put, List.setIfInBounds_toArray, List.set_cons_zero, List.set_cons_succ]) | fail)
            refine T_turn No [] (by rfl) (by rfl) (by rfl) (fun K hK => ?_)
            refine wp_stA ag_obj.info _ _ rfl b9 0 _ _ [.int .i64 0, .slice none 0 0, .slice none 0 0] _ rfl rfl rfl rfl (by intro u hu; simp at hu; rcases hu with rfl | rfl | rfl <;> rfl) hb9 (by decide) ?_
            intro wx10 hb10 hg10 hz10
            rw [splice_all _ _ (by rfl)] at hb10
            refine hK.out _ _ ?_
            clear hK K
            try simp only [Act.put, List.setIfInBounds_toArray, List.set_cons_zero, List.set_cons_succ]
            (first | (refine T_skip (by rfl) (by rfl) (fun _ _ _ h => h) ?_; try simp only [Act.put, List.setIfInBounds_toArray, List.set_cons_zero, List.set_cons_succ]) | (refine T_pass (by rfl) (by rfl) ?_; try simp only [Act.put, List.setIfInBounds_toArray, List.set_cons_zero, List.set_cons_succ]) | (refine T_load (by assumption) (by rfl) (by rfl) (fun _ _ _ _ h => h) rfl rfl (by assumption) (by first | exact (fun hn => hn) | assumption) ?_; try simp only [Act.put, List.setIfInBounds_toArray, List.set_cons_zero, List.set_cons_succ]) | (refine T_nil (by rfl) (by rfl) (fun _ _ _ _ h => h) rfl rfl ?_; try simp only [Act.put, List.setIfInBounds_toArray, List.set_cons_zero, List.set_cons_succ]) | (refine T_quietN (by rfl) (by rfl) (by rfl) (by rfl) (fun _ _ _ _ h => h) (fun K hK => ?_); go_big_quiet_op; refine hK _ ?_; clear hK K) | (refine T_two (by rfl) (by rfl) (by rfl) (by rfl) (fun _ _ _ _ h => h) (fun K hK => ?_); go_big_quiet_op; refine ⟨_, fun _ _ => rfl, ?_⟩; refine hK _ ?_; clear hK K; try simp only [Act.put, List.setIfInBounds_toArray, List.set_cons_zero, List.set_cons_succ]) | fail)
            refine T_done ?_
            go_wp2_with fail
            go_meet
            case rel => exact ⟨rfl, hT.grown hg10 (fun q hq => by injection hq with hq; exact .inl (by omega))⟩
        · go_wp2_with fail
          (refine hK.out _ _ (((Fr.refl _ _).alloc _)) ?_; clear hK K; try simp only [Act.put, List.setIfInBounds_toArray, List.set_cons_zero, List.set_cons_succ])
          have hb9 := Blk.new wx0 25 #[.int .i64 0, .slice none 0 0, .slice none 0 0]
          have hf9 : Fr No wx0 (wx0.alloc (.cells #[.int .i64 0, .slice none 0 0, .slice none 0 0] 25)) := (Fr.refl No _).alloc _
          obtain ⟨b9, he9⟩ : ∃ b, b = wx0.heap.size := ⟨_, rfl⟩
          rw [← he9] at hb9 ⊢
          generalize hw9 : wx0.alloc (.cells #[.int .i64 0, .slice none 0 0, .slice none 0 0] 25) = wx9 at *
          clear hw9
          have hle9 : wc.heap.size ≤ b9 := by rw [he9]; exact hT.size
          clear he9
          replace hT := Fr.tr hT hf9
          replace hbu := hbu.fr0 hf9
          replace hb0 := hb0.fr0 hf9
          refine T_fork (ord2 := [2, 3, 0, 9, 4, 1, 5, 6, 7, 8, 10, 11]) (calls2 := [0, 1, 4, 5, 9, 10, 1000, 1009, 1004]) (i := 1) (j := 4) (by kernel_rfl) rfl rfl rfl (by kernel_rfl) rfl rfl rfl (by rfl) (by rfl) (fun K hK => ?_) (fun K hK => ?_)
          · go_wp2_with fail
            refine (bag_calls (fun _ => True) (some ⟨b0, 0, none⟩) 2 [1, 2] wx9 ⟨rfl, by decide, fun _ => ⟨_, rfl, trivial, hb0.all⟩⟩ (by decide)).mono ?_
            rintro e wx1 ⟨cs1, rfl, ho1, hf1⟩
            go_wp2_with fail
            (refine hK.out _ _ (hf1) ?_; clear hK K; try simp only [Act.put, List.setIfInBounds_toArray, List.set_cons_zero, List.set_cons_succ])
            replace hT := Fr.tr hT hf1
            replace hbu := hbu.fr0 hf1
            replace hb0 := hb0.fr0 hf1
            replace hb9 := hb9.fr0 hf1
            refine T_call (by rfl) (by rfl) (fun K hK => ?_)
            go_wp2_with fail
            (refine hK.out _ _ (((Fr.refl _ _).alloc _)) ?_; clear hK K; try simp only [Act.put, List.setIfInBounds_toArray, List.set_cons_zero, List.set_cons_succ])
            have hb4 := Blk.new wx1 41 #[.int .i64 0, .bool false, .int .i64 3, .int .i64 3]
            have hf4 : Fr No wx1 (wx1.alloc (.cells #[.int .i64 0, .bool false, .int .i64 3, .int .i64 3] 41)) := (Fr.refl No _).alloc _
            obtain ⟨b4, he4⟩ : ∃ b, b = wx1.heap.size := ⟨_, rfl⟩
            rw [← he4] at hb4 ⊢
            generalize hw4 : wx1.alloc (.cells #[.int .i64 0, .bool false, .int .i64 3, .int .i64 3] 41) = wx4 at *
            clear hw4
            clear he4
            replace hT := Fr.tr hT hf4
            replace hbu := hbu.fr0 hf4
            replace hb0 := hb0.fr0 hf4
            replace ho1 := ho1.fr0 hf4
            replace hb9 := hb9.fr0 hf4
            refine T_call (by rfl) (by rfl) (fun K hK => ?_)
            go_wp2_with fail
            have hrd : RdO wx4 (fun b => b < wx4.heap.size) (some ⟨b4, 0, none⟩) [⟨0, false, ⟨3, 3⟩⟩] := ⟨rfl, by decide, fun _ => ⟨_, rfl, hb4.lt, hb4.all⟩⟩
            refine (replay14_miss _ cs1 ⟨14, nums [1, 2], []⟩ wx4 (some ⟨b4, 0, none⟩) 1 [⟨0, false, ⟨3, 3⟩⟩] ho1 rfl (by decide) hrd (by decide) rfl (by decide)).mono ?_
            rintro e wx5 ⟨rfl, hf5⟩
            go_wp2_with fail
            (refine hK.out _ _ (hf5) ?_; clear hK K; try simp only [Act.put, List.setIfInBounds_toArray, List.set_cons_zero, List.set_cons_succ])
            replace hT := Fr.tr hT hf5
            replace hbu := hbu.fr0 hf5
            replace hb0 := hb0.fr0 hf5
            replace ho1 := ho1.fr0 hf5
            replace hb4 := hb4.fr0 hf5
            replace hb9 := hb9.fr0 hf5
            (first | (refine T_skip (by rfl) (by rfl) (fun _ _ _ h => h) ?_; try simp only [Act.put, List.setIfInBounds_toArray, List.set_cons_zero, List.set_cons_succ]) | (refine T_pass (by rfl) (by rfl) ?_; try simp only [Act.put, List.setIfInBounds_toArray, List.set_cons_zero, List.set_cons_succ]) | (refine T_load (by assumption) (by rfl) (by rfl) (fun _ _ _ _ h => h) rfl rfl (by assumption) (by first | exact (fun hn => hn) | assumption) ?_; try simp only [Act.put, List.setIfInBounds_toArray, List.set_cons_zero, List.set_cons_succ]) | (refine T_nil (by rfl) (by rfl) (fun _ _ _ _ h => h) rfl rfl ?_; try simp only [Act.put, List.setIfInBounds_toArray, List.set_cons_zero, List.set_cons_succ]) | (refine T_quietN (by rfl) (by rfl) (by rfl) (by rfl) (fun _ _ _ _ h => h) (fun K hK => ?_); go_big_quiet_op; refine hK _ ?_; clear hK K) | (refine T_two (by rfl) (by rfl) (by rfl) (by rfl) (fun _ _ _ _ h => h) (fun K hK => ?_); go_big_quiet_op; refine ⟨_, fun _ _ => rfl, ?_⟩; refine hK _ ?_; clear hK K; try simp only [Act.put, List.setIfInBounds_toArray, List.set_cons_zero, List.set_cons_succ]) | fail)
            (first | (refine T_skip (by rfl) (by rfl) (fun _ _ _ h => h) ?_; try simp only [Act.put, List.setIfInBounds_toArray, List.set_cons_zero, List.set_cons_succ]) | (refine T_pass (by rfl) (by rfl) ?_; try simp only [Act.put, List.setIfInBounds_toArray, List.set_cons_zero, List.set_cons_succ]) | (refine T_load (by assumption) (by rfl) (by rfl) (fun _ _ _ _ h => h) rfl rfl (by assumption) (by first | exact (fun hn => hn) | assumption) ?_; try simp only [Act.put, List.setIfInBounds_toArray, List.set_cons_zero, List.set_cons_succ]) | (refine T_nil (by rfl) (by rfl) (fun _ _ _ _ h => h) rfl rfl ?_; try simp only [Act.put, List.setIfInBounds_toArray, List.set_cons_zero, List.set_cons_succ]) | (refine T_quietN (by rfl) (by rfl) (by rfl) (by rfl) (fun _ _ _ _ h => h) (fun K hK => ?_); go_big_quiet_op; refine hK _ ?_; clear hK K) | (refine T_two (by rfl) (by rfl) (by rfl) (by rfl) (fun _ _ _ _ h => h) (fun K hK => ?_); go_big_quiet_op; refine ⟨_, fun _ _ => rfl, ?_⟩; refine hK _ ?_; clear hK K; try simp only [Act.put, List.setIfInBounds_toArray, List.set_cons_zero, List.set_cons_succ]) | fail)
            (first | (refine T_skip (by rfl) (by rfl) (fun _ _ _ h => h) ?_; try simp only [Act.put, List.setIfInBounds_toArray, List.set_cons_zero, List.set_cons_succ]) | (refine T_pass (by rfl) (by rfl) ?_; try simp only [Act.put, List.setIfInBounds_toArray, List.set_cons_zero, List.set_cons_succ]) | (refine T_load (by assumption) (by rfl) (by rfl) (fun _ _ _ _ h => h) rfl rfl (by assumption) (by first | exact (fun hn => hn) | assumption) ?_; try simp only [Act.put, List.setIfInBounds_toArray, List.set_cons_zero, List.set_cons_succ]) | (refine T_nil (by rfl) (by rfl) (fun _ _ _ _ h => h) rfl rfl ?_; try simp only [Act.put, List.setIfInBounds_toArray, List.set_cons_zero, List.set_cons_succ]) | (refine T_quietN (by rfl) (by rfl) (by rfl) (by rfl) (fun _ _ _ _ h => h) (fun K hK => ?_); go_big_quiet_op; refine hK _ ?_; clear hK K) | (refine T_two (by rfl) (by rfl) (by rfl) (by rfl) (fun _ _ _ _ h => h) (fun K hK => ?_); go_big_quiet_op; refine ⟨_, fun _ _ => rfl, ?_⟩; refine hK _ ?_; clear hK K; try simp only [Act.put, List.setIfInBounds_toArray, List.set_cons_zero, List.set_cons_succ]) | fail)
            refine T_turn No [] (by rfl) (by rfl) (by rfl) (fun K hK => ?_)
            refine wp_stA ag_obj.info _ _ rfl b9 0 _ _ [.int .i64 0, .slice none 0 0, .slice none 0 0] _ rfl rfl rfl rfl (by intro u hu; simp at hu; rcases hu with rfl | rfl | rfl <;> rfl) hb9 (by decide) ?_
            intro wx10 hb10 hg10 hz10
            rw [splice_all _ _ (by rfl)] at hb10
            refine hK.out _ _ ?_
            clear hK K
            try simp only [Act.put, List.setIfInBounds_toArray, List.set_cons_zero, List.set_cons_succ]
            (first | (refine T_skip (by rfl) (by rfl) (fun _ _ _ h => h) ?_; try simp only [Act.put, List.setIfInBounds_toArray, List.set_cons_zero, List.set_cons_succ]) | (refine T_pass (by rfl) (by rfl) ?_; try simp only [Act.put, List.setIfInBounds_toArray, List.set_cons_zero, List.set_cons_succ]) | (refine T_load (by assumption) (by rfl) (by rfl) (fun _ _ _ _ h => h) rfl rfl (by assumption) (by first | exact (fun hn => hn) | assumption) ?_; try simp only [Act.put, List.setIfInBounds_toArray, List.set_cons_zero, List.set_cons_succ]) | (refine T_nil (by rfl) (by rfl) (fun _ _ _ _ h => h) rfl rfl ?_; try simp only [Act.put, List.setIfInBounds_toArray, List.set_cons_zero, List.set_cons_succ]) | (refine T_quietN (by rfl) (by rfl) (by rfl) (by rfl) (fun _ _ _ _ h => h) (fun K hK => ?_); go_big_quiet_op; refine hK _ ?_; clear hK K) | (refine T_two (by rfl) (by rfl) (by rfl) (by rfl) (fun _ _ _ _ h => h) (fun K hK => ?_); go_big_quiet_op; refine ⟨_, fun _ _ => rfl, ?_⟩; refine hK _ ?_; clear hK K; try simp only [Act.put, List.setIfInBounds_toArray, List.set_cons_zero, List.set_cons_succ]) | fail)
            refine T_done ?_
            go_wp2_with fail
            go_meet
            case rel => exact ⟨rfl, hT.grown hg10 (fun q hq => by injection hq with hq; exact .inl (by omega))⟩
          · go_wp2_with fail
            (refine hK.out _ _ (((Fr.refl _ _).alloc _)) ?_; clear hK K; try simp only [Act.put, List.setIfInBounds_toArray, List.set_cons_zero, List.set_cons_succ])
            have hb4 := Blk.new wx9 41 #[.int .i64 0, .bool false, .int .i64 3, .int .i64 3]
            have hf4 : Fr No wx9 (wx9.alloc (.cells #[.int .i64 0, .bool false, .int .i64 3, .int .i64 3] 41)) := (Fr.refl No _).alloc _
            obtain ⟨b4, he4⟩ : ∃ b, b = wx9.heap.size := ⟨_, rfl⟩
            rw [← he4] at hb4 ⊢
            generalize hw4 : wx9.alloc (.cells #[.int .i64 0, .bool false, .int .i64 3, .int .i64 3] 41) = wx4 at *
            clear hw4
            clear he4
            replace hT := Fr.tr hT hf4
            replace hbu := hbu.fr0 hf4
            replace hb0 := hb0.fr0 hf4
            replace hb9 := hb9.fr0 hf4
            refine T_call (by rfl) (by rfl) (fun K hK => ?_)
            go_wp2_with fail
            refine (bag_calls (fun _ => True) (some ⟨b0, 0, none⟩) 2 [1, 2] wx4 ⟨rfl, by decide, fun _ => ⟨_, rfl, trivial, hb0.all⟩⟩ (by decide)).mono ?_
            rintro e wx1 ⟨cs1, rfl, ho1, hf1⟩
            go_wp2_with fail
            (refine hK.out _ _ (hf1) ?_; clear hK K; try simp only [Act.put, List.setIfInBounds_toArray, List.set_cons_zero, List.set_cons_succ])
            replace hT := Fr.tr hT hf1
            replace hbu := hbu.fr0 hf1
            replace hb0 := hb0.fr0 hf1
            replace hb4 := hb4.fr0 hf1
            replace hb9 := hb9.fr0 hf1
            refine T_call (by rfl) (by rfl) (fun K hK => ?_)
            go_wp2_with fail
            have hrd : RdO wx1 (fun b => b < wx1.heap.size) (some ⟨b4, 0, none⟩) [⟨0, false, ⟨3, 3⟩⟩] := ⟨rfl, by decide, fun _ => ⟨_, rfl, hb4.lt, hb4.all⟩⟩
            refine (replay14_miss _ cs1 ⟨14, nums [1, 2], []⟩ wx1 (some ⟨b4, 0, none⟩) 1 [⟨0, false, ⟨3, 3⟩⟩] ho1 rfl (by decide) hrd (by decide) rfl (by decide)).mono ?_
            rintro e wx5 ⟨rfl, hf5⟩
            go_wp2_with fail
            (refine hK.out _ _ (hf5) ?_; clear hK K; try simp only [Act.put, List.setIfInBounds_toArray, List.set_cons_zero, List.set_cons_succ])
            replace hT := Fr.tr hT hf5
            replace hbu := hbu.fr0 hf5
            replace hb0 := hb0.fr0 hf5
            replace ho1 := ho1.fr0 hf5
            replace hb4 := hb4.fr0 hf5
            replace hb9 := hb9.fr0 hf5
            (first | (refine T_skip (by rfl) (by rfl) (fun _ _ _ h => h) ?_; try simp only [Act.put, List.setIfInBounds_toArray, List.set_cons_zero, List.set_cons_succ]) | (refine T_pass (by rfl) (by rfl) ?_; try simp only [Act.put, List.setIfInBounds_toArray, List.set_cons_zero, List.set_cons_succ]) | (refine T_load (by assumption) (by rfl) (by rfl) (fun _ _ _ _ h => h) rfl rfl (by assumption) (by first | exact (fun hn => hn) | assumption) ?_; try simp only [Act.put, List.setIfInBounds_toArray, List.set_cons_zero, List.set_cons_succ]) | (refine T_nil (by rfl) (by rfl) (fun _ _ _ _ h => h) rfl rfl ?_; try simp only [Act.put, List.setIfInBounds_toArray, List.set_cons_zero, List.set_cons_succ]) | (refine T_quietN (by rfl) (by rfl) (by rfl) (by rfl) (fun _ _ _ _ h => h) (fun K hK => ?_); go_big_quiet_op; refine hK _ ?_; clear hK K) | (refine T_two (by rfl) (by rfl) (by rfl) (by rfl) (fun _ _ _ _ h => h) (fun K hK => ?_); go_big_quiet_op; refine ⟨_, fun _ _ => rfl, ?_⟩; refine hK _ ?_; clear hK K; try simp only [Act.put, List.setIfInBounds_toArray, List.set_cons_zero, List.set_cons_succ]) | fail)
            (first | (refine T_skip (by rfl) (by rfl) (fun _ _ _ h => h) ?_; try simp only [Act.put, List.setIfInBounds_toArray, List.set_cons_zero, List.set_cons_succ]) | (refine T_pass (by rfl) (by rfl) ?_; try simp only [Act.put, List.setIfInBounds_toArray, List.set_cons_zero, List.set_cons_succ]) | (refine T_load (by assumption) (by rfl) (by rfl) (fun _ _ _ _ h => h) rfl rfl (by assumption) (by first | exact (fun hn => hn) | assumption) ?_; try simp only [Act.put, List.setIfInBounds_toArray, List.set_cons_zero, List.set_cons_succ]) | (refine T_nil (by rfl) (by rfl) (fun _ _ _ _ h => h) rfl rfl ?_; try simp only [Act.put, List.setIfInBounds_toArray, List.set_cons_zero, List.set_cons_succ]) | (refine T_quietN (by rfl) (by rfl) (by rfl) (by rfl) (fun _ _ _ _ h => h) (fun K hK => ?_); go_big_quiet_op; refine hK _ ?_; clear hK K) | (refine T_two (by rfl) (by rfl) (by rfl) (by rfl) (fun _ _ _ _ h => h) (fun K hK => ?_); go_big_quiet_op; refine ⟨_, fun _ _ => rfl, ?_⟩; refine hK _ ?_; clear hK K; try simp only [Act.put, List.setIfInBounds_toArray, List.set_cons_zero, List.set_cons_succ]) | fail)
            (first | (refine T_skip (by rfl) (by rfl) (fun _ _ _ h => h) ?_; try simp only [Act.put, List.setIfInBounds_toArray, List.set_cons_zero, List.set_cons_succ]) | (refine T_pass (by rfl) (by rfl) ?_; try simp only [Act.put, List.setIfInBounds_toArray, List.set_cons_zero, List.set_cons_succ]) | (refine T_load (by assumption) (by rfl) (by rfl) (fun _ _ _ _ h => h) rfl rfl (by assumption) (by first | exact (fun hn => hn) | assumption) ?_; try simp only [Act.put, List.setIfInBounds_toArray, List.set_cons_zero, List.set_cons_succ]) | (refine T_nil (by rfl) (by rfl) (fun _ _ _ _ h => h) rfl rfl ?_; try simp only [Act.put, List.setIfInBounds_toArray, List.set_cons_zero, List.set_cons_succ]) | (refine T_quietN (by rfl) (by rfl) (by rfl) (by rfl) (fun _ _ _ _ h => h) (fun K hK => ?_); go_big_quiet_op; refine hK _ ?_; clear hK K) | (refine T_two (by rfl) (by rfl) (by rfl) (by rfl) (fun _ _ _ _ h => h) (fun K hK => ?_); go_big_quiet_op; refine ⟨_, fun _ _ => rfl, ?_⟩; refine hK _ ?_; clear hK K; try simp only [Act.put, List.setIfInBounds_toArray, List.set_cons_zero, List.set_cons_succ]) | fail)
            refine T_turn No [] (by rfl) (by rfl) (by rfl) (fun K hK => ?_)
            refine wp_stA ag_obj.info _ _ rfl b9 0 _ _ [.int .i64 0, .slice none 0 0, .slice none 0 0] _ rfl rfl rfl rfl (by intro u hu; simp at hu; rcases hu with rfl | rfl | rfl <;> rfl) hb9 (by decide) ?_
            intro wx10 hb10 hg10 hz10
            rw [splice_all _ _ (by rfl)] at hb10
            refine hK.out _ _ ?_
            clear hK K
            try simp only [Act.put, List.setIfInBounds_toArray, List.set_cons_zero, List.set_cons_succ]
            (first | (refine T_skip (by rfl) (by rfl) (fun _ _ _ h => h) ?_; try simp only [Act.put, List.setIfInBounds_toArray, List.set_cons_zero, List.set_cons_succ]) | (refine T_pass (by rfl) (by rfl) ?_; try simp only [Act.put, List.setIfInBounds_toArray, List.set_cons_zero, List.set_cons_succ]) | (refine T_load (by assumption) (by rfl) (by rfl) (fun _ _ _ _ h => h) rfl rfl (by assumption) (by first | exact (fun hn => hn) | assumption) ?_; try simp only [Act.put, List.setIfInBounds_toArray, List.set_cons_zero, List.set_cons_succ]) | (refine T_nil (by rfl) (by rfl) (fun _ _ _ _ h => h) rfl rfl ?_; try simp only [Act.put, List.setIfInBounds_toArray, List.set_cons_zero, List.set_cons_succ]) | (refine T_quietN (by rfl) (by rfl) (by rfl) (by rfl) (fun _ _ _ _ h => h) (fun K hK => ?_); go_big_quiet_op; refine hK _ ?_; clear hK K) | (refine T_two (by rfl) (by rfl) (by rfl) (by rfl) (fun _ _ _ _ h => h) (fun K hK => ?_); go_big_quiet_op; refine ⟨_, fun _ _ => rfl, ?_⟩; refine hK _ ?_; clear hK K; try simp only [Act.put, List.setIfInBounds_toArray, List.set_cons_zero, List.set_cons_succ]) | fail)
            refine T_done ?_
            go_wp2_with fail
            go_meet
            case rel => exact ⟨rfl, hT.grown hg10 (fun q hq => by injection hq with hq; exact .inl (by omega))⟩
      · go_wp2_with fail
        (refine hK.out _ _ (((Fr.refl _ _).alloc _)) ?_; clear hK K; try simp only [Act.put, List.setIfInBounds_toArray, List.set_cons_zero, List.set_cons_succ])
        have hb4 := Blk.new w2 41 #[.int .i64 0, .bool false, .int .i64 3, .int .i64 3]
        have hf4 : Fr No w2 (w2.alloc (.cells #[.int .i64 0, .bool false, .int .i64 3, .int .i64 3] 41)) := (Fr.refl No _).alloc _
        obtain ⟨b4, he4⟩ : ∃ b, b = w2.heap.size := ⟨_, rfl⟩
        rw [← he4] at hb4 ⊢
        generalize hw4 : w2.alloc (.cells #[.int .i64 0, .bool false, .int .i64 3, .int .i64 3] 41) = wx4 at *
        clear hw4
        clear he4
        replace hT := Fr.tr hT hf4
        replace hbu := hbu.fr0 hf4
        refine T_fork (ord2 := [2, 3, 4, 9, 0, 1, 5, 6, 7, 8, 10, 11]) (calls2 := [0, 1, 4, 5, 9, 10, 1004, 1009]) (i := 0) (j := 9) (by kernel_rfl) rfl rfl rfl (by kernel_rfl) rfl rfl rfl (by rfl) (by rfl) (fun K hK => ?_) (fun K hK => ?_)
        · go_wp2_with fail
          (refine hK.out _ _ (((Fr.refl _ _).alloc _)) ?_; clear hK K; try simp only [Act.put, List.setIfInBounds_toArray, List.set_cons_zero, List.set_cons_succ])
          have hb0 := Blk.new wx4 2 #[.int .i64 1, .int .i64 2]
          have hf0 : Fr No wx4 (wx4.alloc (.cells #[.int .i64 1, .int .i64 2] 2)) := (Fr.refl No _).alloc _
          obtain ⟨b0, he0⟩ : ∃ b, b = wx4.heap.size := ⟨_, rfl⟩
          rw [← he0] at hb0 ⊢
          generalize hw0 : wx4.alloc (.cells #[.int .i64 1, .int .i64 2] 2) = wx0 at *
          clear hw0
          clear he0
          replace hT := Fr.tr hT hf0
          replace hbu := hbu.fr0 hf0
          replace hb4 := hb4.fr0 hf0
          refine T_fork (ord2 := [2, 3, 4, 0, 9, 1, 5, 6, 7, 8, 10, 11]) (calls2 := [0, 1, 4, 5, 9, 10, 1004, 1000, 1009]) (i := 1) (j := 9) (by kernel_rfl) rfl rfl rfl (by kernel_rfl) rfl rfl rfl (by rfl) (by rfl) (fun K hK => ?_) (fun K hK => ?_)
          · go_wp2_with fail
            refine (bag_calls (fun _ => True) (some ⟨b0, 0, none⟩) 2 [1, 2] wx0 ⟨rfl, by decide, fun _ => ⟨_, rfl, trivial, hb0.all⟩⟩ (by decide)).mono ?_
            rintro e wx1 ⟨cs1, rfl, ho1, hf1⟩
            go_wp2_with fail
            (refine hK.out _ _ (hf1) ?_; clear hK K; try simp only [Act.put, List.setIfInBounds_toArray, List.set_cons_zero, List.set_cons_succ])
            replace hT := Fr.tr hT hf1
            replace hbu := hbu.fr0 hf1
            replace hb0 := hb0.fr0 hf1
            replace hb4 := hb4.fr0 hf1
            refine T_fork (ord2 := [2, 3, 4, 0, 1, 9, 5, 6, 7, 8, 10, 11]) (calls2 := [0, 1, 4, 5, 9, 10, 1004, 1000, 1001, 1009]) (i := 5) (j := 9) (by kernel_rfl) rfl rfl rfl (by kernel_rfl) rfl rfl rfl (by rfl) (by rfl) (fun K hK => ?_) (fun K hK => ?_)
            · go_wp2_with fail
              have hrd : RdO wx1 (fun b => b < wx1.heap.size) (some ⟨b4, 0, none⟩) [⟨0, false, ⟨3, 3⟩⟩] := ⟨rfl, by decide, fun _ => ⟨_, rfl, hb4.lt, hb4.all⟩⟩
              refine (replay14_miss _ cs1 ⟨14, nums [1, 2], []⟩ wx1 (some ⟨b4, 0, none⟩) 1 [⟨0, false, ⟨3, 3⟩⟩] ho1 rfl (by decide) hrd (by decide) rfl (by decide)).mono ?_
              rintro e wx5 ⟨rfl, hf5⟩
              go_wp2_with fail
              (refine hK.out _ _ (hf5) ?_; clear hK K; try simp only [Act.put, List.setIfInBounds_toArray, List.set_cons_zero, List.set_cons_succ])
              replace hT := Fr.tr hT hf5
              replace hbu := hbu.fr0 hf5
              replace hb0 := hb0.fr0 hf5
              replace ho1 := ho1.fr0 hf5
              replace hb4 := hb4.fr0 hf5
              (first | (refine T_skip (by rfl) (by rfl) (fun _ _ _ h => h) ?_; try simp only [Act.put, List.setIfInBounds_toArray, List.set_cons_zero, List.set_cons_succ]) | (refine T_pass (by rfl) (by rfl) ?_; try simp only [Act.put, List.setIfInBounds_toArray, List.set_cons_zero, List.set_cons_succ]) | (refine T_load (by assumption) (by rfl) (by rfl) (fun _ _ _ _ h => h) rfl rfl (by assumption) (by first | exact (fun hn => hn) | assumption) ?_; try simp only [Act.put, List.setIfInBounds_toArray, List.set_cons_zero, List.set_cons_succ]) | (refine T_nil (by rfl) (by rfl) (fun _ _ _ _ h => h) rfl rfl ?_; try simp only [Act.put, List.setIfInBounds_toArray, List.set_cons_zero, List.set_cons_succ]) | (refine T_quietN (by rfl) (by rfl) (by rfl) (by rfl) (fun _ _ _ _ h => h) (fun K hK => ?_); go_big_quiet_op; refine hK _ ?_; clear hK K) | (refine T_two (by rfl) (by rfl) (by rfl) (by rfl) (fun _ _ _ _ h => h) (fun K hK => ?_); go_big_quiet_op; refine ⟨_, fun _ _ => rfl, ?_⟩; refine hK _ ?_; clear hK K; try simp only [Act.put, List.setIfInBounds_toArray, List.set_cons_zero, List.set_cons_succ]) | fail)
              (first | (refine T_skip (by rfl) (by rfl) (fun _ _ _ h => h) ?_; try simp only [Act.put, List.setIfInBounds_toArray, List.set_cons_zero, List.set_cons_succ]) | (refine T_pass (by rfl) (by rfl) ?_; try simp only [Act.put, List.setIfInBounds_toArray, List.set_cons_zero, List.set_cons_succ]) | (refine T_load (by assumption) (by rfl) (by rfl) (fun _ _ _ _ h => h) rfl rfl (by assumption) (by first | exact (fun hn => hn) | assumption) ?_; try simp only [Act.put, List.setIfInBounds_toArray, List.set_cons_zero, List.set_cons_succ]) | (refine T_nil (by rfl) (by rfl) (fun _ _ _ _ h => h) rfl rfl ?_; try simp only [Act.put, List.setIfInBounds_toArray, List.set_cons_zero, List.set_cons_succ]) | (refine T_quietN (by rfl) (by rfl) (by rfl) (by rfl) (fun _ _ _ _ h => h) (fun K hK => ?_); go_big_quiet_op; refine hK _ ?_; clear hK K) | (refine T_two (by rfl) (by rfl) (by rfl) (by rfl) (fun _ _ _ _ h => h) (fun K hK => ?_); go_big_quiet_op; refine ⟨_, fun _ _ => rfl, ?_⟩; refine hK _ ?_; clear hK K; try simp only [Act.put, List.setIfInBounds_toArray, List.set_cons_zero, List.set_cons_succ]) | fail)
              (first | (refine T_skip (by rfl) (by rfl) (fun _ _ _ h => h) ?_; try simp only [Act.put, List.setIfInBounds_toArray, List.set_cons_zero, List.set_cons_succ]) | (refine T_pass (by rfl) (by rfl) ?_; try simp only [Act.put, List.setIfInBounds_toArray, List.set_cons_zero, List.set_cons_succ]) | (refine T_load (by assumption) (by rfl) (by rfl) (fun _ _ _ _ h => h) rfl rfl (by assumption) (by first | exact (fun hn => hn) | assumption) ?_; try simp only [Act.put, List.setIfInBounds_toArray, List.set_cons_zero, List.set_cons_succ]) | (refine T_nil (by rfl) (by rfl) (fun _ _ _ _ h => h) rfl rfl ?_; try simp only [Act.put, List.setIfInBounds_toArray, List.set_cons_zero, List.set_cons_succ]) | (refine T_quietN (by rfl) (by rfl) (by rfl) (by rfl) (fun _ _ _ _ h => h) (fun K hK => ?_); go_big_quiet_op; refine hK _ ?_; clear hK K) | (refine T_two (by rfl) (by rfl) (by rfl) (by rfl) (fun _ _ _ _ h => h) (fun K hK => ?_); go_big_quiet_op; refine ⟨_, fun _ _ => rfl, ?_⟩; refine hK _ ?_; clear hK K; try simp only [Act.put, List.setIfInBounds_toArray, List.set_cons_zero, List.set_cons_succ]) | fail)
              refine T_call (by rfl) (by rfl) (fun K hK => ?_)
              go_wp2_with fail
              (refine hK.out _ _ (((Fr.refl _ _).alloc _)) ?_; clear hK K; try simp only [Act.put, List.setIfInBounds_toArray, List.set_cons_zero, List.set_cons_succ])
              have hb9 := Blk.new wx5 25 #[.int .i64 0, .slice none 0 0, .slice none 0 0]
              have hf9 : Fr No wx5 (wx5.alloc (.cells #[.int .i64 0, .slice none 0 0, .slice none 0 0] 25)) := (Fr.refl No _).alloc _
              obtain ⟨b9, he9⟩ : ∃ b, b = wx5.heap.size := ⟨_, rfl⟩
              rw [← he9] at hb9 ⊢
              generalize hw9 : wx5.alloc (.cells #[.int .i64 0, .slice none 0 0, .slice none 0 0] 25) = wx9 at *
              clear hw9
              have hle9 : wc.heap.size ≤ b9 := by rw [he9]; exact hT.size
              clear he9
              replace hT := Fr.tr hT hf9
              replace hbu := hbu.fr0 hf9
              replace hb0 := hb0.fr0 hf9
              replace ho1 := ho1.fr0 hf9
              replace hb4 := hb4.fr0 hf9
              refine T_turn No [] (by rfl) (by rfl) (by rfl) (fun K hK => ?_)
              refine wp_stA ag_obj.info _ _ rfl b9 0 _ _ [.int .i64 0, .slice none 0 0, .slice none 0 0] _ rfl rfl rfl rfl (by intro u hu; simp at hu; rcases hu with rfl | rfl | rfl <;> rfl) hb9 (by decide) ?_
              intro wx10 hb10 hg10 hz10
              rw [splice_all _ _ (by rfl)] at hb10
              refine hK.out _ _ ?_
              clear hK K
              try simp only [Act.put, List.setIfInBounds_toArray, List.set_cons_zero, List.set_cons_succ]
              (first | (refine T_skip (by rfl) (by rfl) (fun _ _ _ h => h) ?_; try simp only [Act.put, List.setIfInBounds_toArray, List.set_cons_zero, List.set_cons_succ]) | (refine T_pass (by rfl) (by rfl) ?_; try simp only [Act.put, List.setIfInBounds_toArray, List.set_cons_zero, List.set_cons_succ]) | (refine T_load (by assumption) (by rfl) (by rfl) (fun _ _ _ _ h => h) rfl rfl (by assumption) (by first | exact (fun hn => hn) | assumption) ?_; try simp only [Act.put, List.setIfInBounds_toArray, List.set_cons_zero, List.set_cons_succ]) | (refine T_nil (by rfl) (by rfl) (fun _ _ _ _ h => h) rfl rfl ?_; try simp only [Act.put, List.setIfInBounds_toArray, List.set_cons_zero, List.set_cons_succ]) | (refine T_quietN (by rfl) (by rfl) (by rfl) (by rfl) (fun _ _ _ _ h => h) (fun K hK => ?_); go_big_quiet_op; refine hK _ ?_; clear hK K) | (refine T_two (by rfl) (by rfl) (by rfl) (by rfl) (fun _ _ _ _ h => h) (fun K hK => ?_); go_big_quiet_op; refine ⟨_, fun _ _ => rfl, ?_⟩; refine hK _ ?_; clear hK K; try simp only [Act.put, List.setIfInBounds_toArray, List.set_cons_zero, List.set_cons_succ]) | fail)
              refine T_done ?_
              go_wp2_with fail
              go_meet
              case rel => exact ⟨rfl, hT.grown hg10 (fun q hq => by injection hq with hq; exact .inl (by omega))⟩
            · go_wp2_with fail
              (refine hK.out _ _ (((Fr.refl _ _).alloc _)) ?_; clear hK K; try simp only [Act.put, List.setIfInBounds_toArray, List.set_cons_zero, List.set_cons_succ])
              have hb9 := Blk.new wx1 25 #[.int .i64 0, .slice none 0 0, .slice none 0 0]
              have hf9 : Fr No wx1 (wx1.alloc (.cells #[.int .i64 0, .slice none 0 0, .slice none 0 0] 25)) := (Fr.refl No _).alloc _
              obtain ⟨b9, he9⟩ : ∃ b, b = wx1.heap.size := ⟨_, rfl⟩
              rw [← he9] at hb9 ⊢
              generalize hw9 : wx1.alloc (.cells #[.int .i64 0, .slice none 0 0, .slice none 0 0] 25) = wx9 at *
              clear hw9
              have hle9 : wc.heap.size ≤ b9 := by rw [he9]; exact hT.size
              clear he9
              replace hT := Fr.tr hT hf9
              replace hbu := hbu.fr0 hf9
              replace hb0 := hb0.fr0 hf9
              replace ho1 := ho1.fr0 hf9
              replace hb4 := hb4.fr0 hf9
              refine T_call (by rfl) (by rfl) (fun K hK => ?_)
              go_wp2_with fail
              have hrd : RdO wx9 (fun b => b < wx9.heap.size) (some ⟨b4, 0, none⟩) [⟨0, false, ⟨3, 3⟩⟩] := ⟨rfl, by decide, fun _ => ⟨_, rfl, hb4.lt, hb4.all⟩⟩
              refine (replay14_miss _ cs1 ⟨14, nums [1, 2], []⟩ wx9 (some ⟨b4, 0, none⟩) 1 [⟨0, false, ⟨3, 3⟩⟩] ho1 rfl (by decide) hrd (by decide) rfl (by decide)).mono ?_
              rintro e wx5 ⟨rfl, hf5⟩
              go_wp2_with fail
              (refine hK.out _ _ (hf5) ?_; clear hK K; try simp only [Act.put, List.setIfInBounds_toArray, List.set_cons_zero, List.set_cons_succ])
              replace hT := Fr.tr hT hf5
              replace hbu := hbu.fr0 hf5
              replace hb0 := hb0.fr0 hf5
              replace ho1 := ho1.fr0 hf5
              replace hb4 := hb4.fr0 hf5
              replace hb9 := hb9.fr0 hf5
              (first | (refine T_skip (by rfl) (by rfl) (fun _ _ _ h => h) ?_; try simp only [Act.put, List.setIfInBounds_toArray, List.set_cons_zero, List.set_cons_succ]) | (refine T_pass (by rfl) (by rfl) ?_; try simp only [Act.put, List.setIfInBounds_toArray, List.set_cons_zero, List.set_cons_succ]) | (refine T_load (by assumption) (by rfl) (by rfl) (fun _ _ _ _ h => h) rfl rfl (by assumption) (by first | exact (fun hn => hn) | assumption) ?_; try simp only [Act.put, List.setIfInBounds_toArray, List.set_cons_zero, List.set_cons_succ]) | (refine T_nil (by rfl) (by rfl) (fun _ _ _ _ h => h) rfl rfl ?_; try simp only [Act.put, List.setIfInBounds_toArray, List.set_cons_zero, List.set_cons_succ]) | (refine T_quietN (by rfl) (by rfl) (by rfl) (by rfl) (fun _ _ _ _ h => h) (fun K hK => ?_); go_big_quiet_op; refine hK _ ?_; clear hK K) | (refine T_two (by rfl) (by rfl) (by rfl) (by rfl) (fun _ _ _ _ h => h) (fun K hK => ?_); go_big_quiet_op; refine ⟨_, fun _ _ => rfl, ?_⟩; refine hK _ ?_; clear hK K; try simp only [Act.put, List.setIfInBounds_toArray, List.set_cons_zero, List.set_cons_succ]) | fail)
              (first | (refine T_skip (by rfl) (by rfl) (fun _ _ _ h => h) ?_; try simp only [Act.put, List.setIfInBounds_toArray, List.set_cons_zero, List.set_cons_succ]) | (refine T_pass (by rfl) (by rfl) ?_; try simp only [Act.put, List.setIfInBounds_toArray, List.set_cons_zero, List.set_cons_succ]) | (refine T_load (by assumption) (by rfl) (by rfl) (fun _ _ _ _ h => h) rfl rfl (by assumption) (by first | exact (fun hn => hn) | assumption) ?_; try simp only [Act.put, List.setIfInBounds_toArray, List.set_cons_zero, List.set_cons_succ]) | (refine T_nil (by rfl) (by rfl) (fun _ _ _ _ h => h) rfl rfl ?_; try simp only [Act.put, List.setIfInBounds_toArray, List.set_cons_zero, List.set_cons_succ]) | (refine T_quietN (by rfl) (by rfl) (by rfl) (by rfl) (fun _ _ _ _ h => h) (fun K hK => ?_); go_big_quiet_op; refine hK _ ?_; clear hK K) | (refine T_two (by rfl) (by rfl) (by rfl) (by rfl) (fun _ _ _ _ h => h) (fun K hK => ?_); go_big_quiet_op; refine ⟨_, fun _ _ => rfl, ?_⟩; refine hK _ ?_; clear hK K; try simp only [Act.put, List.setIfInBounds_toArray, List.set_cons_zero, List.set_cons_succ]) | fail)
              (first | (refine T_skip (by rfl) (by rfl) (fun _ _ _ h => h) ?_; try simp only [Act.put, List.setIfInBounds_toArray, List.set_cons_zero, List.set_cons_succ]) | (refine T_pass (by rfl) (by rfl) ?_; try simp only [Act.put, List.setIfInBounds_toArray, List.set_cons_zero, List.set_cons_succ]) | (refine T_load (by assumption) (by rfl) (by rfl) (fun _ _ _ _ h => h) rfl rfl (by assumption) (by first | exact (fun hn => hn) | assumption) ?_; try simp only [Act.put, List.setIfInBounds_toArray, List.set_cons_zero, List.set_cons_succ]) | (refine T_nil (by rfl) (by rfl) (fun _ _ _ _ h => h) rfl rfl ?_; try simp only [Act.put, List.setIfInBounds_toArray, List.set_cons_zero, List.set_cons_succ]) | (refine T_quietN (by rfl) (by rfl) (by rfl) (by rfl) (fun _ _ _ _ h => h) (fun K hK => ?_); go_big_quiet_op; refine hK _ ?_; clear hK K) | (refine T_two (by rfl) (by rfl) (by rfl) (by rfl) (fun _ _ _ _ h => h) (fun K hK => ?_); go_big_quiet_op; refine ⟨_, fun _ _ => rfl, ?_⟩; refine hK _ ?_; clear hK K; try simp only [Act.put, List.setIfInBounds_toArray, List.set_cons_zero, List.set_cons_succ]) | fail)
              refine T_turn No [] (by rfl) (by rfl) (by rfl) (fun K hK => ?_)
              refine wp_stA ag_obj.info _ _ rfl b9 0 _ _ [.int .i64 0, .slice none 0 0, .slice none 0 0] _ rfl rfl rfl rfl (by intro u hu; simp at hu; rcases hu with rfl | rfl | rfl <;> rfl) hb9 (by decide) ?_
              intro wx10 hb10 hg10 hz10
              rw [splice_all _ _ (by rfl)] at hb10
              refine hK.out _ _ ?_
              clear hK K
              try simp only [Act.put, List.setIfInBounds_toArray, List.set_cons_zero, List.set_cons_succ]
              (first | (refine T_skip (by rfl) (by rfl) (fun _ _ _ h => h) ?_; try simp only [Act.put, List.setIfInBounds_toArray, List.set_cons_zero, List.set_cons_succ]) | (refine T_pass (by rfl) (by rfl) ?_; try simp only [Act.put, List.setIfInBounds_toArray, List.set_cons_zero, List.set_cons_succ]) | (refine T_load (by assumption) (by rfl) (by rfl) (fun _ _ _ _ h => h) rfl rfl (by assumption) (by first | exact (fun hn => hn) | assumption) ?_; try simp only [Act.put, List.setIfInBounds_toArray, List.set_cons_zero, List.set_cons_succ]) | (refine T_nil (by rfl) (by rfl) (fun _ _ _ _ h => h) rfl rfl ?_; try simp only [Act.put, List.setIfInBounds_toArray, List.set_cons_zero, List.set_cons_succ]) | (refine T_quietN (by rfl) (by rfl) (by rfl) (by rfl) (fun _ _ _ _ h => h) (fun K hK => ?_); go_big_quiet_op; refine hK _ ?_; clear hK K) | (refine T_two (by rfl) (by rfl) (by rfl) (by rfl) (fun _ _ _ _ h => h) (fun K hK => ?_); go_big_quiet_op; refine ⟨_, fun _ _ => rfl, ?_⟩; refine hK _ ?_; clear hK K; try simp only [Act.put, List.setIfInBounds_toArray, List.set_cons_zero, List.set_cons_succ]) | fail)
              refine T_done ?_
              go_wp2_with fail
              go_meet
              case rel => exact ⟨rfl, hT.grown hg10 (fun q hq => by injection hq with hq; exact .inl (by omega))⟩
          · go_wp2_with fail
            (refine hK.out _ _ (((Fr.refl _ _).alloc _)) ?_; clear hK K; try simp only [Act.put, List.setIfInBounds_toArray, List.set_cons_zero, List.set_cons_succ])
            have hb9 := Blk.new wx0 25 #[.int .i64 0, .slice none 0 0, .slice none 0 0]
            have hf9 : Fr No wx0 (wx0.alloc (.cells #[.int .i64 0, .slice none 0 0, .slice none 0 0] 25)) := (Fr.refl No _).alloc _
            obtain ⟨b9, he9⟩ : ∃ b, b = wx0.heap.size := ⟨_, rfl⟩
            rw [← he9] at hb9 ⊢
            generalize hw9 : wx0.alloc (.cells #[.int .i64 0, .slice none 0 0, .slice none 0 0] 25) = wx9 at *
            clear hw9
            have hle9 : wc.heap.size ≤ b9 := by rw [he9]; exact hT.size
            clear he9
            replace hT := Fr.tr hT hf9
            replace hbu := hbu.fr0 hf9
            replace hb0 := hb0.fr0 hf9
            replace hb4 := hb4.fr0 hf9
            refine T_call (by rfl) (by rfl) (fun K hK => ?_)
            go_wp2_with fail
            refine (bag_calls (fun _ => True) (some ⟨b0, 0, none⟩) 2 [1, 2] wx9 ⟨rfl, by decide, fun _ => ⟨_, rfl, trivial, hb0.all⟩⟩ (by decide)).mono ?_
            rintro e wx1 ⟨cs1, rfl, ho1, hf1⟩
            go_wp2_with fail
            (refine hK.out _ _ (hf1) ?_; clear hK K; try simp only [Act.put, List.setIfInBounds_toArray, List.set_cons_zero, List.set_cons_succ])
            replace hT := Fr.tr hT hf1
            replace hbu := hbu.fr0 hf1
            replace hb0 := hb0.fr0 hf1
            replace hb4 := hb4.fr0 hf1
            replace hb9 := hb9.fr0 hf1
            refine T_call (by rfl) (by rfl) (fun K hK => ?_)
            go_wp2_with fail
            have hrd : RdO wx1 (fun b => b < wx1.heap.size) (some ⟨b4, 0, none⟩) [⟨0, false, ⟨3, 3⟩⟩] := ⟨rfl, by decide, fun _ => ⟨_, rfl, hb4.lt, hb4.all⟩⟩
            refine (replay14_miss _ cs1 ⟨14, nums [1, 2], []⟩ wx1 (some ⟨b4, 0, none⟩) 1 [⟨0, false, ⟨3, 3⟩⟩] ho1 rfl (by decide) hrd (by decide) rfl (by decide)).mono ?_
            rintro e wx5 ⟨rfl, hf5⟩
            go_wp2_with fail
            (refine hK.out _ _ (hf5) ?_; clear hK K; try simp only [Act.put, List.setIfInBounds_toArray, List.set_cons_zero, List.set_cons_succ])
            replace hT := Fr.tr hT hf5
            replace hbu := hbu.fr0 hf5
            replace hb0 := hb0.fr0 hf5
            replace ho1 := ho1.fr0 hf5
            replace hb4 := hb4.fr0 hf5
            replace hb9 := hb9.fr0 hf5
            (first | (refine T_skip (by rfl) (by rfl) (fun _ _ _ h => h) ?_; try simp only [Act.put, List.setIfInBounds_toArray, List.set_cons_zero, List.set_cons_succ]) | (refine T_pass (by rfl) (by rfl) ?_; try simp only [Act.put, List.setIfInBounds_toArray, List.set_cons_zero, List.set_cons_succ]) | (refine T_load (by assumption) (by rfl) (by rfl) (fun _ _ _ _ h => h) rfl rfl (by assumption) (by first | exact (fun hn => hn) | assumption) ?_; try simp only [Act.put, List.setIfInBounds_toArray, List.set_cons_zero, List.set_cons_succ]) | (refine T_nil (by rfl) (by rfl) (fun _ _ _ _ h => h) rfl rfl ?_; try simp only [Act.put, List.setIfInBounds_toArray, List.set_cons_zero, List.set_cons_succ]) | (refine T_quietN (by rfl) (by rfl) (by rfl) (by rfl) (fun _ _ _ _ h => h) (fun K hK => ?_); go_big_quiet_op; refine hK _ ?_; clear hK K) | (refine T_two (by rfl) (by rfl) (by rfl) (by rfl) (fun _ _ _ _ h => h) (fun K hK => ?_); go_big_quiet_op; refine ⟨_, fun _ _ => rfl, ?_⟩; refine hK _ ?_; clear hK K; try simp only [Act.put, List.setIfInBounds_toArray, List.set_cons_zero, List.set_cons_succ]) | fail)
            (first | (refine T_skip (by rfl) (by rfl) (fun _ _ _ h => h) ?_; try simp only [Act.put, List.setIfInBounds_toArray, List.set_cons_zero, List.set_cons_succ]) | (refine T_pass (by rfl) (by rfl) ?_; try simp only [Act.put, List.setIfInBounds_toArray, List.set_cons_zero, List.set_cons_succ]) | (refine T_load (by assumption) (by rfl) (by rfl) (fun _ _ _ _ h => h) rfl rfl (by assumption) (by first | exact (fun hn => hn) | assumption) ?_; try simp only [Act.put, List.setIfInBounds_toArray, List.set_cons_zero, List.set_cons_succ]) | (refine T_nil (by rfl) (by rfl) (fun _ _ _ _ h => h) rfl rfl ?_; try simp only [Act.put, List.setIfInBounds_toArray, List.set_cons_zero, List.set_cons_succ]) | (refine T_quietN (by rfl) (by rfl) (by rfl) (by rfl) (fun _ _ _ _ h => h) (fun K hK => ?_); go_big_quiet_op; refine hK _ ?_; clear hK K) | (refine T_two (by rfl) (by rfl) (by rfl) (by rfl) (fun _ _ _ _ h => h) (fun K hK => ?_); go_big_quiet_op; refine ⟨_, fun _ _ => rfl, ?_⟩; refine hK _ ?_; clear hK K; try simp only [Act.put, List.setIfInBounds_toArray, List.set_cons_zero, List.set_cons_succ]) | fail)
            (first | (refine T_skip (by rfl) (by rfl) (fun _ _ _ h => h) ?_; try simp only [Act.put, List.setIfInBounds_toArray, List.set_cons_zero, List.set_cons_succ]) | (refine T_pass (by rfl) (by rfl) ?_; try simp only [Act.put, List.setIfInBounds_toArray, List.set_cons_zero, List.set_cons_succ]) | (refine T_load (by assumption) (by rfl) (by rfl) (fun _ _ _ _ h => h) rfl rfl (by assumption) (by first | exact (fun hn => hn) | assumption) ?_; try simp only [Act.put, List.setIfInBounds_toArray, List.set_cons_zero, List.set_cons_succ]) | (refine T_nil (by rfl) (by rfl) (fun _ _ _ _ h => h) rfl rfl ?_; try simp only [Act.put, List.setIfInBounds_toArray, List.set_cons_zero, List.set_cons_succ]) | (refine T_quietN (by rfl) (by rfl) (by rfl) (by rfl) (fun _ _ _ _ h => h) (fun K hK => ?_); go_big_quiet_op; refine hK _ ?_; clear hK K) | (refine T_two (by rfl) (by rfl) (by rfl) (by rfl) (fun _ _ _ _ h => h) (fun K hK => ?_); go_big_quiet_op; refine ⟨_, fun _ _ => rfl, ?_⟩; refine hK _ ?_; clear hK K; try simp only [Act.put, List.setIfInBounds_toArray, List.set_cons_zero, List.set_cons_succ]) | fail)
            refine T_turn No [] (by rfl) (by rfl) (by rfl) (fun K hK => ?_)
            refine wp_stA ag_obj.info _ _ rfl b9 0 _ _ [.int .i64 0, .slice none 0 0, .slice none 0 0] _ rfl rfl rfl rfl (by intro u hu; simp at hu; rcases hu with rfl | rfl | rfl <;> rfl) hb9 (by decide) ?_
            intro wx10 hb10 hg10 hz10
            rw [splice_all _ _ (by rfl)] at hb10
            refine hK.out _ _ ?_
            clear hK K
            try simp only [Act.put, List.setIfInBounds_toArray, List.set_cons_zero, List.set_cons_succ]
            (first | (refine T_skip (by rfl) (by rfl) (fun _ _ _ h => h) ?_; try simp only [Act.put, List.setIfInBounds_toArray, List.set_cons_zero, List.set_cons_succ]) | (refine T_pass (by rfl) (by rfl) ?_; try simp only [Act.put, List.setIfInBounds_toArray, List.set_cons_zero, List.set_cons_succ]) | (refine T_load (by assumption) (by rfl) (by rfl) (fun _ _ _ _ h => h) rfl rfl (by assumption) (by first | exact (fun hn => hn) | assumption) ?_; try simp only [Act.put, List.setIfInBounds_toArray, List.set_cons_zero, List.set_cons_succ]) | (refine T_nil (by rfl) (by rfl) (fun _ _ _ _ h => h) rfl rfl ?_; try simp only [Act.put, List.setIfInBounds_toArray, List.set_cons_zero, List.set_cons_succ]) | (refine T_quietN (by rfl) (by rfl) (by rfl) (by rfl) (fun _ _ _ _ h => h) (fun K hK => ?_); go_big_quiet_op; refine hK _ ?_; clear hK K) | (refine T_two (by rfl) (by rfl) (by rfl) (by rfl) (fun _ _ _ _ h => h) (fun K hK => ?_); go_big_quiet_op; refine ⟨_, fun _ _ => rfl, ?_⟩; refine hK _ ?_; clear hK K; try simp only [Act.put, List.setIfInBounds_toArray, List.set_cons_zero, List.set_cons_succ]) | fail)
            refine T_done ?_
            go_wp2_with fail
            go_meet
            case rel => exact ⟨rfl, hT.grown hg10 (fun q hq => by injection hq with hq; exact .inl (by omega))⟩
        · go_wp2_with fail
          (refine hK.out _ _ (((Fr.refl _ _).alloc _)) ?_; clear hK K; try simp only [Act.put, List.setIfInBounds_toArray, List.set_cons_zero, List.set_cons_succ])
          have hb9 := Blk.new wx4 25 #[.int .i64 0, .slice none 0 0, .slice none 0 0]
          have hf9 : Fr No wx4 (wx4.alloc (.cells #[.int .i64 0, .slice none 0 0, .slice none 0 0] 25)) := (Fr.refl No _).alloc _
          obtain ⟨b9, he9⟩ : ∃ b, b = wx4.heap.size := ⟨_, rfl⟩
          rw [← he9] at hb9 ⊢
          generalize hw9 : wx4.alloc (.cells #[.int .i64 0, .slice none 0 0, .slice none 0 0] 25) = wx9 at *
          clear hw9
          have hle9 : wc.heap.size ≤ b9 := by rw [he9]; exact hT.size
          clear he9
          replace hT := Fr.tr hT hf9
          replace hbu := hbu.fr0 hf9
          replace hb4 := hb4.fr0 hf9
          refine T_call (by rfl) (by rfl) (fun K hK => ?_)
          go_wp2_with fail
          (refine hK.out _ _ (((Fr.refl _ _).alloc _)) ?_; clear hK K; try simp only [Act.put, List.setIfInBounds_toArray, List.set_cons_zero, List.set_cons_succ])
          have hb0 := Blk.new wx9 2 #[.int .i64 1, .int .i64 2]
          have hf0 : Fr No wx9 (wx9.alloc (.cells #[.int .i64 1, .int .i64 2] 2)) := (Fr.refl No _).alloc _
          obtain ⟨b0, he0⟩ : ∃ b, b = wx9.heap.size := ⟨_, rfl⟩
          rw [← he0] at hb0 ⊢
          generalize hw0 : wx9.alloc (.cells #[.int .i64 1, .int .i64 2] 2) = wx0 at *
          clear hw0
          clear he0
          replace hT := Fr.tr hT hf0
          replace hbu := hbu.fr0 hf0
          replace hb4 := hb4.fr0 hf0
          replace hb9 := hb9.fr0 hf0
          refine T_call (by rfl) (by rfl) (fun K hK => ?_)
          go_wp2_with fail
          refine (bag_calls (fun _ => True) (some ⟨b0, 0, none⟩) 2 [1, 2] wx0 ⟨rfl, by decide, fun _ => ⟨_, rfl, trivial, hb0.all⟩⟩ (by decide)).mono ?_
          rintro e wx1 ⟨cs1, rfl, ho1, hf1⟩
          go_wp2_with fail
          (refine hK.out _ _ (hf1) ?_; clear hK K; try simp only [Act.put, List.setIfInBounds_toArray, List.set_cons_zero, List.set_cons_succ])
          replace hT := Fr.tr hT hf1
          replace hbu := hbu.fr0 hf1
          replace hb0 := hb0.fr0 hf1
          replace hb4 := hb4.fr0 hf1
          replace hb9 := hb9.fr0 hf1
          refine T_call (by rfl) (by rfl) (fun K hK => ?_)
          go_wp2_with fail
          have hrd : RdO wx1 (fun b => b < wx1.heap.size) (some ⟨b4, 0, none⟩) [⟨0, false, ⟨3, 3⟩⟩] := ⟨rfl, by decide, fun _ => ⟨_, rfl, hb4.lt, hb4.all⟩⟩
          refine (replay14_miss _ cs1 ⟨14, nums [1, 2], []⟩ wx1 (some ⟨b4, 0, none⟩) 1 [⟨0, false, ⟨3, 3⟩⟩] ho1 rfl (by decide) hrd (by decide) rfl (by decide)).mono ?_
          rintro e wx5 ⟨rfl, hf5⟩
          go_wp2_with fail
          (refine hK.out _ _ (hf5) ?_; clear hK K; try simp only [Act.put, List.setIfInBounds_toArray, List.set_cons_zero, List.set_cons_succ])
          replace hT := Fr.tr hT hf5
          replace hbu := hbu.fr0 hf5
          replace hb0 := hb0.fr0 hf5
          replace ho1 := ho1.fr0 hf5
          replace hb4 := hb4.fr0 hf5
          replace hb9 := hb9.fr0 hf5
          (first | (refine T_skip (by rfl) (by rfl) (fun _ _ _ h => h) ?_; try simp only [Act.put, List.setIfInBounds_toArray, List.set_cons_zero, List.set_cons_succ]) | (refine T_pass (by rfl) (by rfl) ?_; try simp only [Act.put, List.setIfInBounds_toArray, List.set_cons_zero, List.set_cons_succ]) | (refine T_load (by assumption) (by rfl) (by rfl) (fun _ _ _ _ h => h) rfl rfl (by assumption) (by first | exact (fun hn => hn) | assumption) ?_; try simp only [Act.put, List.setIfInBounds_toArray, List.set_cons_zero, List.set_cons_succ]) | (refine T_nil (by rfl) (by rfl) (fun _ _ _ _ h => h) rfl rfl ?_; try simp only [Act.put, List.setIfInBounds_toArray, List.set_cons_zero, List.set_cons_succ]) | (refine T_quietN (by rfl) (by rfl) (by rfl) (by rfl) (fun _ _ _ _ h => h) (fun K hK => ?_); go_big_quiet_op; refine hK _ ?_; clear hK K) | (refine T_two (by rfl) (by rfl) (by rfl) (by rfl) (fun _ _ _ _ h => h) (fun K hK => ?_); go_big_quiet_op; refine ⟨_, fun _ _ => rfl, ?_⟩; refine hK _ ?_; clear hK K; try simp only [Act.put, List.setIfInBounds_toArray, List.set_cons_zero, List.set_cons_succ]) | fail)
          (first | (refine T_skip (by rfl) (by rfl) (fun _ _ _ h => h) ?_; try simp only [Act.put, List.setIfInBounds_toArray, List.set_cons_zero, List.set_cons_succ]) | (refine T_pass (by rfl) (by rfl) ?_; try simp only [Act.put, List.setIfInBounds_toArray, List.set_cons_zero, List.set_cons_succ]) | (refine T_load (by assumption) (by rfl) (by rfl) (fun _ _ _ _ h => h) rfl rfl (by assumption) (by first | exact (fun hn => hn) | assumption) ?_; try simp only [Act.put, List.setIfInBounds_toArray, List.set_cons_zero, List.set_cons_succ]) | (refine T_nil (by rfl) (by rfl) (fun _ _ _ _ h => h) rfl rfl ?_; try simp only [Act.put, List.setIfInBounds_toArray, List.set_cons_zero, List.set_cons_succ]) | (refine T_quietN (by rfl) (by rfl) (by rfl) (by rfl) (fun _ _ _ _ h => h) (fun K hK => ?_); go_big_quiet_op; refine hK _ ?_; clear hK K) | (refine T_two (by rfl) (by rfl) (by rfl) (by rfl) (fun _ _ _ _ h => h) (fun K hK => ?_); go_big_quiet_op; refine ⟨_, fun _ _ => rfl, ?_⟩; refine hK _ ?_; clear hK K; try simp only [Act.put, List.setIfInBounds_toArray, List.set_cons_zero, List.set_cons_succ]) | fail)
          (first | (refine T_skip (by rfl) (by rfl) (fun _ _ _ h => h) ?_; try simp only [Act.put, List.setIfInBounds_toArray, List.set_cons_zero, List.set_cons_succ]) | (refine T_pass (by rfl) (by rfl) ?_; try simp only [Act.put, List.setIfInBounds_toArray, List.set_cons_zero, List.set_cons_succ]) | (refine T_load (by assumption) (by rfl) (by rfl) (fun _ _ _ _ h => h) rfl rfl (by assumption) (by first | exact (fun hn => hn) | assumption) ?_; try simp only [Act.put, List.setIfInBounds_toArray, List.set_cons_zero, List.set_cons_succ]) | (refine T_nil (by rfl) (by rfl) (fun _ _ _ _ h => h) rfl rfl ?_; try simp only [Act.put, List.setIfInBounds_toArray, List.set_cons_zero, List.set_cons_succ]) | (refine T_quietN (by rfl) (by rfl) (by rfl) (by rfl) (fun _ _ _ _ h => h) (fun K hK => ?_); go_big_quiet_op; refine hK _ ?_; clear hK K) | (refine T_two (by rfl) (by rfl) (by rfl) (by rfl) (fun _ _ _ _ h => h) (fun K hK => ?_); go_big_quiet_op; refine ⟨_, fun _ _ => rfl, ?_⟩; refine hK _ ?_; clear hK K; try simp only [Act.put, List.setIfInBounds_toArray, List.set_cons_zero, List.set_cons_succ]) | fail)
          refine T_turn No [] (by rfl) (by rfl) (by rfl) (fun K hK => ?_)
          refine wp_stA ag_obj.info _ _ rfl b9 0 _ _ [.int .i64 0, .slice none 0 0, .slice none 0 0] _ rfl rfl rfl rfl (by intro u hu; simp at hu; rcases hu with rfl | rfl | rfl <;> rfl) hb9 (by decide) ?_
          intro wx10 hb10 hg10 hz10
          rw [splice_all _ _ (by rfl)] at hb10
          refine hK.out _ _ ?_
          clear hK K
          try simp only [Act.put, List.setIfInBounds_toArray, List.set_cons_zero, List.set_cons_succ]
          (first | (refine T_skip (by rfl) (by rfl) (fun _ _ _ h => h) ?_; try simp only [Act.put, List.setIfInBounds_toArray, List.set_cons_zero, List.set_cons_succ]) | (refine T_pass (by rfl) (by rfl) ?_; try simp only [Act.put, List.setIfInBounds_toArray, List.set_cons_zero, List.set_cons_succ]) | (refine T_load (by assumption) (by rfl) (by rfl) (fun _ _ _ _ h => h) rfl rfl (by assumption) (by first | exact (fun hn => hn) | assumption) ?_; try simp only [Act.put, List.setIfInBounds_toArray, List.set_cons_zero, List.set_cons_succ]) | (refine T_nil (by rfl) (by rfl) (fun _ _ _ _ h => h) rfl rfl ?_; try simp only [Act.put, List.setIfInBounds_toArray, List.set_cons_zero, List.set_cons_succ]) | (refine T_quietN (by rfl) (by rfl) (by rfl) (by rfl) (fun _ _ _ _ h => h) (fun K hK => ?_); go_big_quiet_op; refine hK _ ?_; clear hK K) | (refine T_two (by rfl) (by rfl) (by rfl) (by rfl) (fun _ _ _ _ h => h) (fun K hK => ?_); go_big_quiet_op; refine ⟨_, fun _ _ => rfl, ?_⟩; refine hK _ ?_; clear hK K; try simp only [Act.put, List.setIfInBounds_toArray, List.set_cons_zero, List.set_cons_succ]) | fail)
          refine T_done ?_
          go_wp2_with fail
          go_meet
          case rel => exact ⟨rfl, hT.grown hg10 (fun q hq => by injection hq with hq; exact .inl (by omega))⟩
      · go_wp2_with fail
        (refine hK.out _ _ (((Fr.refl _ _).alloc _)) ?_; clear hK K; try simp only [Act.put, List.setIfInBounds_toArray, List.set_cons_zero, List.set_cons_succ])
        have hb9 := Blk.new w2 25 #[.int .i64 0, .slice none 0 0, .slice none 0 0]
        have hf9 : Fr No w2 (w2.alloc (.cells #[.int .i64 0, .slice none 0 0, .slice none 0 0] 25)) := (Fr.refl No _).alloc _
        obtain ⟨b9, he9⟩ : ∃ b, b = w2.heap.size := ⟨_, rfl⟩
        rw [← he9] at hb9 ⊢
        generalize hw9 : w2.alloc (.cells #[.int .i64 0, .slice none 0 0, .slice none 0 0] 25) = wx9 at *
        clear hw9
        have hle9 : wc.heap.size ≤ b9 := by rw [he9]; exact hT.size
        clear he9
        replace hT := Fr.tr hT hf9
        replace hbu := hbu.fr0 hf9
        refine T_fork (ord2 := [2, 3, 9, 4, 0, 1, 5, 6, 7, 8, 10, 11]) (calls2 := [0, 1, 4, 5, 9, 10, 1009, 1004]) (i := 0) (j := 4) (by kernel_rfl) rfl rfl rfl (by kernel_rfl) rfl rfl rfl (by rfl) (by rfl) (fun K hK => ?_) (fun K hK => ?_)
        · go_wp2_with fail
          (refine hK.out _ _ (((Fr.refl _ _).alloc _)) ?_; clear hK K; try simp only [Act.put, List.setIfInBounds_toArray, List.set_cons_zero, List.set_cons_succ])
          have hb0 := Blk.new wx9 2 #[.int .i64 1, .int .i64 2]
          have hf0 : Fr No wx9 (wx9.alloc (.cells #[.int .i64 1, .int .i64 2] 2)) := (Fr.refl No _).alloc _
          obtain ⟨b0, he0⟩ : ∃ b, b = wx9.heap.size := ⟨_, rfl⟩
          rw [← he0] at hb0 ⊢
          generalize hw0 : wx9.alloc (.cells #[.int .i64 1, .int .i64 2] 2) = wx0 at *
          clear hw0
          clear he0
          replace hT := Fr.tr hT hf0
          replace hbu := hbu.fr0 hf0
          replace hb9 := hb9.fr0 hf0
          refine T_fork (ord2 := [2, 3, 9, 0, 4, 1, 5, 6, 7, 8, 10, 11]) (calls2 := [0, 1, 4, 5, 9, 10, 1009, 1000, 1004]) (i := 1) (j := 4) (by kernel_rfl) rfl rfl rfl (by kernel_rfl) rfl rfl rfl (by rfl) (by rfl) (fun K hK => ?_) (fun K hK => ?_)
          · go_wp2_with fail
            refine (bag_calls (fun _ => True) (some ⟨b0, 0, none⟩) 2 [1, 2] wx0 ⟨rfl, by decide, fun _ => ⟨_, rfl, trivial, hb0.all⟩⟩ (by decide)).mono ?_
            rintro e wx1 ⟨cs1, rfl, ho1, hf1⟩
            go_wp2_with fail
            (refine hK.out _ _ (hf1) ?_; clear hK K; try simp only [Act.put, List.setIfInBounds_toArray, List.set_cons_zero, List.set_cons_succ])
            replace hT := Fr.tr hT hf1
            replace hbu := hbu.fr0 hf1
            replace hb0 := hb0.fr0 hf1
            replace hb9 := hb9.fr0 hf1
            refine T_call (by rfl) (by rfl) (fun K hK => ?_)
            go_wp2_with fail
            (refine hK.out _ _ (((Fr.refl _ _).alloc _)) ?_; clear hK K; try simp only [Act.put, List.setIfInBounds_toArray, List.set_cons_zero, List.set_cons_succ])
            have hb4 := Blk.new wx1 41 #[.int .i64 0, .bool false, .int .i64 3, .int .i64 3]
            have hf4 : Fr No wx1 (wx1.alloc (.cells #[.int .i64 0, .bool false, .int .i64 3, .int .i64 3] 41)) := (Fr.refl No _).alloc _
            obtain ⟨b4, he4⟩ : ∃ b, b = wx1.heap.size := ⟨_, rfl⟩
            rw [← he4] at hb4 ⊢
            generalize hw4 : wx1.alloc (.cells #[.int .i64 0, .bool false, .int .i64 3, .int .i64 3] 41) = wx4 at *
            clear hw4
            clear he4
            replace hT := Fr.tr hT hf4
            replace hbu := hbu.fr0 hf4
            replace hb0 := hb0.fr0 hf4
            replace ho1 := ho1.fr0 hf4
            replace hb9 := hb9.fr0 hf4
            refine T_call (by rfl) (by rfl) (fun K hK => ?_)
            go_wp2_with fail
            have hrd : RdO wx4 (fun b => b < wx4.heap.size) (some ⟨b4, 0, none⟩) [⟨0, false, ⟨3, 3⟩⟩] := ⟨rfl, by decide, fun _ => ⟨_, rfl, hb4.lt, hb4.all⟩⟩
            refine (replay14_miss _ cs1 ⟨14, nums [1, 2], []⟩ wx4 (some ⟨b4, 0, none⟩) 1 [⟨0, false, ⟨3, 3⟩⟩] ho1 rfl (by decide) hrd (by decide) rfl (by decide)).mono ?_
            rintro e wx5 ⟨rfl, hf5⟩
            go_wp2_with fail
            (refine hK.out _ _ (hf5) ?_; clear hK K; try simp only [Act.put, List.setIfInBounds_toArray, List.set_cons_zero, List.set_cons_succ])
            replace hT := Fr.tr hT hf5
            replace hbu := hbu.fr0 hf5
            replace hb0 := hb0.fr0 hf5
            replace ho1 := ho1.fr0 hf5
            replace hb4 := hb4.fr0 hf5
            replace hb9 := hb9.fr0 hf5
            (first | (refine T_skip (by rfl) (by rfl) (fun _ _ _ h => h) ?_; try simp only [Act.put, List.setIfInBounds_toArray, List.set_cons_zero, List.set_cons_succ]) | (refine T_pass (by rfl) (by rfl) ?_; try simp only [Act.put, List.setIfInBounds_toArray, List.set_cons_zero, List.set_cons_succ]) | (refine T_load (by assumption) (by rfl) (by rfl) (fun _ _ _ _ h => h) rfl rfl (by assumption) (by first | exact (fun hn => hn) | assumption) ?_; try simp only [Act.put, List.setIfInBounds_toArray, List.set_cons_zero, List.set_cons_succ]) | (refine T_nil (by rfl) (by rfl) (fun _ _ _ _ h => h) rfl rfl ?_; try simp only [Act.put, List.setIfInBounds_toArray, List.set_cons_zero, List.set_cons_succ]) | (refine T_quietN (by rfl) (by rfl) (by rfl) (by rfl) (fun _ _ _ _ h => h) (fun K hK => ?_); go_big_quiet_op; refine hK _ ?_; clear hK K) | (refine T_two (by rfl) (by rfl) (by rfl) (by rfl) (fun _ _ _ _ h => h) (fun K hK => ?_); go_big_quiet_op; refine ⟨_, fun _ _ => rfl, ?_⟩; refine hK _ ?_; clear hK K; try simp only [Act.put, List.setIfInBounds_toArray, List.set_cons_zero, List.set_cons_succ]) | fail)
            (first | (refine T_skip (by rfl) (by rfl) (fun _ _ _ h => h) ?_; try simp only [Act.put, List.setIfInBounds_toArray, List.set_cons_zero, List.set_cons_succ]) | (refine T_pass (by rfl) (by rfl) ?_; try simp only [Act.put, List.setIfInBounds_toArray, List.set_cons_zero, List.set_cons_succ]) | (refine T_load (by assumption) (by rfl) (by rfl) (fun _ _ _ _ h => h) rfl rfl (by assumption) (by first | exact (fun hn => hn) | assumption) ?_; try simp only [Act.put, List.setIfInBounds_toArray, List.set_cons_zero, List.set_cons_succ]) | (refine T_nil (by rfl) (by rfl) (fun _ _ _ _ h => h) rfl rfl ?_; try simp only [Act.put, List.setIfInBounds_toArray, List.set_cons_zero, List.set_cons_succ]) | (refine T_quietN (by rfl) (by rfl) (by rfl) (by rfl) (fun _ _ _ _ h => h) (fun K hK => ?_); go_big_quiet_op; refine hK _ ?_; clear hK K) | (refine T_two (by rfl) (by rfl) (by rfl) (by rfl) (fun _ _ _ _ h => h) (fun K hK => ?_); go_big_quiet_op; refine ⟨_, fun _ _ => rfl, ?_⟩; refine hK _ ?_; clear hK K; try simp only [Act.put, List.setIfInBounds_toArray, List.set_cons_zero, List.set_cons_succ]) | fail)
            (first | (refine T_skip (by rfl) (by rfl) (fun _ _ _ h => h) ?_; try simp only [Act.put, List.setIfInBounds_toArray, List.set_cons_zero, List.set_cons_succ]) | (refine T_pass (by rfl) (by rfl) ?_; try simp only [Act.put, List.setIfInBounds_toArray, List.set_cons_zero, List.set_cons_succ]) | (refine T_load (by assumption) (by rfl) (by rfl) (fun _ _ _ _ h => h) rfl rfl (by assumption) (by first | exact (fun hn => hn) | assumption) ?_; try simp only [Act.put, List.setIfInBounds_toArray, List.set_cons_zero, List.set_cons_succ]) | (refine T_nil (by rfl) (by rfl) (fun _ _ _ _ h => h) rfl rfl ?_; try simp only [Act.put, List.setIfInBounds_toArray, List.set_cons_zero, List.set_cons_succ]) | (refine T_quietN (by rfl) (by rfl) (by rfl) (by rfl) (fun _ _ _ _ h => h) (fun K hK => ?_); go_big_quiet_op; refine hK _ ?_; clear hK K) | (refine T_two (by rfl) (by rfl) (by rfl) (by rfl) (fun _ _ _ _ h => h) (fun K hK => ?_); go_big_quiet_op; refine ⟨_, fun _ _ => rfl, ?_⟩; refine hK _ ?_; clear hK K; try simp only [Act.put, List.setIfInBounds_toArray, List.set_cons_zero, List.set_cons_succ]) | fail)
            refine T_turn No [] (by rfl) (by rfl) (by rfl) (fun K hK => ?_)
            refine wp_stA ag_obj.info _ _ rfl b9 0 _ _ [.int .i64 0, .slice none 0 0, .slice none 0 0] _ rfl rfl rfl rfl (by intro u hu; simp at hu; rcases hu with rfl | rfl | rfl <;> rfl) hb9 (by decide) ?_
            intro wx10 hb10 hg10 hz10
            rw [splice_all _ _ (by rfl)] at hb10
            refine hK.out _ _ ?_
            clear hK K
            try simp only [Act.put, List.setIfInBounds_toArray, List.set_cons_zero, List.set_cons_succ]
            (first | (refine T_skip (by rfl) (by rfl) (fun _ _ _ h => h) ?_; try simp only [Act.put, List.setIfInBounds_toArray, List.set_cons_zero, List.set_cons_succ]) | (refine T_pass (by rfl) (by rfl) ?_; try simp only [Act.put, List.setIfInBounds_toArray, List.set_cons_zero, List.set_cons_succ]) | (refine T_load (by assumption) (by rfl) (by rfl) (fun _ _ _ _ h => h) rfl rfl (by assumption) (by first | exact (fun hn => hn) | assumption) ?_; try simp only [Act.put, List.setIfInBounds_toArray, List.set_cons_zero, List.set_cons_succ]) | (refine T_nil (by rfl) (by rfl) (fun _ _ _ _ h => h) rfl rfl ?_; try simp only [Act.put, List.setIfInBounds_toArray, List.set_cons_zero, List.set_cons_succ]) | (refine T_quietN (by rfl) (by rfl) (by rfl) (by rfl) (fun _ _ _ _ h => h) (fun K hK => ?_); go_big_quiet_op; refine hK _ ?_; clear hK K) | (refine T_two (by rfl) (by rfl) (by rfl) (by rfl) (fun _ _ _ _ h => h) (fun K hK => ?_); go_big_quiet_op; refine ⟨_, fun _ _ => rfl, ?_⟩; refine hK _ ?_; clear hK K; try simp only [Act.put, List.setIfInBounds_toArray, List.set_cons_zero, List.set_cons_succ]) | fail)
            refine T_done ?_
            go_wp2_with fail
            go_meet
            case rel => exact ⟨rfl, hT.grown hg10 (fun q hq => by injection hq with hq; exact .inl (by omega))⟩
          · go_wp2_with fail
            (refine hK.out _ _ (((Fr.refl _ _).alloc _)) ?_; clear hK K; try simp only [Act.put, List.setIfInBounds_toArray, List.set_cons_zero, List.set_cons_succ])
            have hb4 := Blk.new wx0 41 #[.int .i64 0, .bool false, .int .i64 3, .int .i64 3]
            have hf4 : Fr No wx0 (wx0.alloc (.cells #[.int .i64 0, .bool false, .int .i64 3, .int .i64 3] 41)) := (Fr.refl No _).alloc _
            obtain ⟨b4, he4⟩ : ∃ b, b = wx0.heap.size := ⟨_, rfl⟩
            rw [← he4] at hb4 ⊢
            generalize hw4 : wx0.alloc (.cells #[.int .i64 0, .bool false, .int .i64 3, .int .i64 3] 41) = wx4 at *
            clear hw4
            clear he4
            replace hT := Fr.tr hT hf4
            replace hbu := hbu.fr0 hf4
            replace hb0 := hb0.fr0 hf4
            replace hb9 := hb9.fr0 hf4
            refine T_call (by rfl) (by rfl) (fun K hK => ?_)
            go_wp2_with fail
            refine (bag_calls (fun _ => True) (some ⟨b0, 0, none⟩) 2 [1, 2] wx4 ⟨rfl, by decide, fun _ => ⟨_, rfl, trivial, hb0.all⟩⟩ (by decide)).mono ?_
            rintro e wx1 ⟨cs1, rfl, ho1, hf1⟩
            go_wp2_with fail
            (refine hK.out _ _ (hf1) ?_; clear hK K; try simp only [Act.put, List.setIfInBounds_toArray, List.set_cons_zero, List.set_cons_succ])
            replace hT := Fr.tr hT hf1
            replace hbu := hbu.fr0 hf1
            replace hb0 := hb0.fr0 hf1
            replace hb4 := hb4.fr0 hf1
            replace hb9 := hb9.fr0 hf1
            refine T_call (by rfl) (by rfl) (fun K hK => ?_)
            go_wp2_with fail
            have hrd : RdO wx1 (fun b => b < wx1.heap.size) (some ⟨b4, 0, none⟩) [⟨0, false, ⟨3, 3⟩⟩] := ⟨rfl, by decide, fun _ => ⟨_, rfl, hb4.lt, hb4.all⟩⟩
            refine (replay14_miss _ cs1 ⟨14, nums [1, 2], []⟩ wx1 (some ⟨b4, 0, none⟩) 1 [⟨0, false, ⟨3, 3⟩⟩] ho1 rfl (by decide) hrd (by decide) rfl (by decide)).mono ?_
            rintro e wx5 ⟨rfl, hf5⟩
            go_wp2_with fail
            (refine hK.out _ _ (hf5) ?_; clear hK K; try simp only [Act.put, List.setIfInBounds_toArray, List.set_cons_zero, List.set_cons_succ])
            replace hT := Fr.tr hT hf5
            replace hbu := hbu.fr0 hf5
            replace hb0 := hb0.fr0 hf5
            replace ho1 := ho1.fr0 hf5
            replace hb4 := hb4.fr0 hf5
            replace hb9 := hb9.fr0 hf5
            (first | (refine T_skip (by rfl) (by rfl) (fun _ _ _ h => h) ?_; try simp only [Act.put, List.setIfInBounds_toArray, List.set_cons_zero, List.set_cons_succ]) | (refine T_pass (by rfl) (by rfl) ?_; try simp only [Act.put, List.setIfInBounds_toArray, List.set_cons_zero, List.set_cons_succ]) | (refine T_load (by assumption) (by rfl) (by rfl) (fun _ _ _ _ h => h) rfl rfl (by assumption) (by first | exact (fun hn => hn) | assumption) ?_; try simp only [Act.put, List.setIfInBounds_toArray, List.set_cons_zero, List.set_cons_succ]) | (refine T_nil (by rfl) (by rfl) (fun _ _ _ _ h => h) rfl rfl ?_; try simp only [Act.put, List.setIfInBounds_toArray, List.set_cons_zero, List.set_cons_succ]) | (refine T_quietN (by rfl) (by rfl) (by rfl) (by rfl) (fun _ _ _ _ h => h) (fun K hK => ?_); go_big_quiet_op; refine hK _ ?_; clear hK K) | (refine T_two (by rfl) (by rfl) (by rfl) (by rfl) (fun _ _ _ _ h => h) (fun K hK => ?_); go_big_quiet_op; refine ⟨_, fun _ _ => rfl, ?_⟩; refine hK _ ?_; clear hK K; try simp only [Act.put, List.setIfInBounds_toArray, List.set_cons_zero, List.set_cons_succ]) | fail)
            (first | (refine T_skip (by rfl) (by rfl) (fun _ _ _ h => h) ?_; try simp only [Act.put, List.setIfInBounds_toArray, List.set_cons_zero, List.set_cons_succ]) | (refine T_pass (by rfl) (by rfl) ?_; try simp only [Act.put, List.setIfInBounds_toArray, List.set_cons_zero, List.set_cons_succ]) | (refine T_load (by assumption) (by rfl) (by rfl) (fun _ _ _ _ h => h) rfl rfl (by assumption) (by first | exact (fun hn => hn) | assumption) ?_; try simp only [Act.put, List.setIfInBounds_toArray, List.set_cons_zero, List.set_cons_succ]) | (refine T_nil (by rfl) (by rfl) (fun _ _ _ _ h => h) rfl rfl ?_; try simp only [Act.put, List.setIfInBounds_toArray, List.set_cons_zero, List.set_cons_succ]) | (refine T_quietN (by rfl) (by rfl) (by rfl) (by rfl) (fun _ _ _ _ h => h) (fun K hK => ?_); go_big_quiet_op; refine hK _ ?_; clear hK K) | (refine T_two (by rfl) (by rfl) (by rfl) (by rfl) (fun _ _ _ _ h => h) (fun K hK => ?_); go_big_quiet_op; refine ⟨_, fun _ _ => rfl, ?_⟩; refine hK _ ?_; clear hK K; try simp only [Act.put, List.setIfInBounds_toArray, List.set_cons_zero, List.set_cons_succ]) | fail)
            (first | (refine T_skip (by rfl) (by rfl) (fun _ _ _ h => h) ?_; try simp only [Act.put, List.setIfInBounds_toArray, List.set_cons_zero, List.set_cons_succ]) | (refine T_pass (by rfl) (by rfl) ?_; try simp only [Act.put, List.setIfInBounds_toArray, List.set_cons_zero, List.set_cons_succ]) | (refine T_load (by assumption) (by rfl) (by rfl) (fun _ _ _ _ h => h) rfl rfl (by assumption) (by first | exact (fun hn => hn) | assumption) ?_; try simp only [Act.put, List.setIfInBounds_toArray, List.set_cons_zero, List.set_cons_succ]) | (refine T_nil (by rfl) (by rfl) (fun _ _ _ _ h => h) rfl rfl ?_; try simp only [Act.put, List.setIfInBounds_toArray, List.set_cons_zero, List.set_cons_succ]) | (refine T_quietN (by rfl) (by rfl) (by rfl) (by rfl) (fun _ _ _ _ h => h) (fun K hK => ?_); go_big_quiet_op; refine hK _ ?_; clear hK K) | (refine T_two (by rfl) (by rfl) (by rfl) (by rfl) (fun _ _ _ _ h => h) (fun K hK => ?_); go_big_quiet_op; refine ⟨_, fun _ _ => rfl, ?_⟩; refine hK _ ?_; clear hK K; try simp only [Act.put, List.setIfInBounds_toArray, List.set_cons_zero, List.set_cons_succ]) | fail)
            refine T_turn No [] (by rfl) (by rfl) (by rfl) (fun K hK => ?_)
            refine wp_stA ag_obj.info _ _ rfl b9 0 _ _ [.int .i64 0, .slice none 0 0, .slice none 0 0] _ rfl rfl rfl rfl (by intro u hu; simp at hu; rcases hu with rfl | rfl | rfl <;> rfl) hb9 (by decide) ?_
            intro wx10 hb10 hg10 hz10
            rw [splice_all _ _ (by rfl)] at hb10
            refine hK.out _ _ ?_
            clear hK K
            try simp only [Act.put, List.setIfInBounds_toArray, List.set_cons_zero, List.set_cons_succ]
            (first | (refine T_skip (by rfl) (by rfl) (fun _ _ _ h => h) ?_; try simp only [Act.put, List.setIfInBounds_toArray, List.set_cons_zero, List.set_cons_succ]) | (refine T_pass (by rfl) (by rfl) ?_; try simp only [Act.put, List.setIfInBounds_toArray, List.set_cons_zero, List.set_cons_succ]) | (refine T_load (by assumption) (by rfl) (by rfl) (fun _ _ _ _ h => h) rfl rfl (by assumption) (by first | exact (fun hn => hn) | assumption) ?_; try simp only [Act.put, List.setIfInBounds_toArray, List.set_cons_zero, List.set_cons_succ]) | (refine T_nil (by rfl) (by rfl) (fun _ _ _ _ h => h) rfl rfl ?_; try simp only [Act.put, List.setIfInBounds_toArray, List.set_cons_zero, List.set_cons_succ]) | (refine T_quietN (by rfl) (by rfl) (by rfl) (by rfl) (fun _ _ _ _ h => h) (fun K hK => ?_); go_big_quiet_op; refine hK _ ?_; clear hK K) | (refine T_two (by rfl) (by rfl) (by rfl) (by rfl) (fun _ _ _ _ h => h) (fun K hK => ?_); go_big_quiet_op; refine ⟨_, fun _ _ => rfl, ?_⟩; refine hK _ ?_; clear hK K; try simp only [Act.put, List.setIfInBounds_toArray, List.set_cons_zero, List.set_cons_succ]) | fail)
            refine T_done ?_
            go_wp2_with fail
            go_meet
            case rel => exact ⟨rfl, hT.grown hg10 (fun q hq => by injection hq with hq; exact .inl (by omega))⟩
        · go_wp2_with fail
          (refine hK.out _ _ (((Fr.refl _ _).alloc _)) ?_; clear hK K; try simp only [Act.put, List.setIfInBounds_toArray, List.set_cons_zero, List.set_cons_succ])
          have hb4 := Blk.new wx9 41 #[.int .i64 0, .bool false, .int .i64 3, .int .i64 3]
          have hf4 : Fr No wx9 (wx9.alloc (.cells #[.int .i64 0, .bool false, .int .i64 3, .int .i64 3] 41)) := (Fr.refl No _).alloc _
          obtain ⟨b4, he4⟩ : ∃ b, b = wx9.heap.size := ⟨_, rfl⟩
          rw [← he4] at hb4 ⊢
          generalize hw4 : wx9.alloc (.cells #[.int .i64 0, .bool false, .int .i64 3, .int .i64 3] 41) = wx4 at *
          clear hw4
          clear he4
          replace hT := Fr.tr hT hf4
          replace hbu := hbu.fr0 hf4
          replace hb9 := hb9.fr0 hf4
          refine T_call (by rfl) (by rfl) (fun K hK => ?_)
          go_wp2_with fail
          (refine hK.out _ _ (((Fr.refl _ _).alloc _)) ?_; clear hK K; try simp only [Act.put, List.setIfInBounds_toArray, List.set_cons_zero, List.set_cons_succ])
          have hb0 := Blk.new wx4 2 #[.int .i64 1, .int .i64 2]
          have hf0 : Fr No wx4 (wx4.alloc (.cells #[.int .i64 1, .int .i64 2] 2)) := (Fr.refl No _).alloc _
          obtain ⟨b0, he0⟩ : ∃ b, b = wx4.heap.size := ⟨_, rfl⟩
          rw [← he0] at hb0 ⊢
          generalize hw0 : wx4.alloc (.cells #[.int .i64 1, .int .i64 2] 2) = wx0 at *
          clear hw0
          clear he0
          replace hT := Fr.tr hT hf0
          replace hbu := hbu.fr0 hf0
          replace hb4 := hb4.fr0 hf0
          replace hb9 := hb9.fr0 hf0
          refine T_call (by rfl) (by rfl) (fun K hK => ?_)
          go_wp2_with fail
          refine (bag_calls (fun _ => True) (some ⟨b0, 0, none⟩) 2 [1, 2] wx0 ⟨rfl, by decide, fun _ => ⟨_, rfl, trivial, hb0.all⟩⟩ (by decide)).mono ?_
          rintro e wx1 ⟨cs1, rfl, ho1, hf1⟩
          go_wp2_with fail
          (refine hK.out _ _ (hf1) ?_; clear hK K; try simp only [Act.put, List.setIfInBounds_toArray, List.set_cons_zero, List.set_cons_succ])
          replace hT := Fr.tr hT hf1
          replace hbu := hbu.fr0 hf1
          replace hb0 := hb0.fr0 hf1
          replace hb4 := hb4.fr0 hf1
          replace hb9 := hb9.fr0 hf1
          refine T_call (by rfl) (by rfl) (fun K hK => ?_)
          go_wp2_with fail
          have hrd : RdO wx1 (fun b => b < wx1.heap.size) (some ⟨b4, 0, none⟩) [⟨0, false, ⟨3, 3⟩⟩] := ⟨rfl, by decide, fun _ => ⟨_, rfl, hb4.lt, hb4.all⟩⟩
          refine (replay14_miss _ cs1 ⟨14, nums [1, 2], []⟩ wx1 (some ⟨b4, 0, none⟩) 1 [⟨0, false, ⟨3, 3⟩⟩] ho1 rfl (by decide) hrd (by decide) rfl (by decide)).mono ?_
          rintro e wx5 ⟨rfl, hf5⟩
          go_wp2_with fail
          (refine hK.out _ _ (hf5) ?_; clear hK K; try simp only [Act.put, List.setIfInBounds_toArray, List.set_cons_zero, List.set_cons_succ])
          replace hT := Fr.tr hT hf5
          replace hbu := hbu.fr0 hf5
          replace hb0 := hb0.fr0 hf5
          replace ho1 := ho1.fr0 hf5
          replace hb4 := hb4.fr0 hf5
          replace hb9 := hb9.fr0 hf5
          (first | (refine T_skip (by rfl) (by rfl) (fun _ _ _ h => h) ?_; try simp only [Act.put, List.setIfInBounds_toArray, List.set_cons_zero, List.set_cons_succ]) | (refine T_pass (by rfl) (by rfl) ?_; try simp only [Act.put, List.setIfInBounds_toArray, List.set_cons_zero, List.set_cons_succ]) | (refine T_load (by assumption) (by rfl) (by rfl) (fun _ _ _ _ h => h) rfl rfl (by assumption) (by first | exact (fun hn => hn) | assumption) ?_; try simp only [Act.put, List.setIfInBounds_toArray, List.set_cons_zero, List.set_cons_succ]) | (refine T_nil (by rfl) (by rfl) (fun _ _ _ _ h => h) rfl rfl ?_; try simp only [Act.put, List.setIfInBounds_toArray, List.set_cons_zero, List.set_cons_succ]) | (refine T_quietN (by rfl) (by rfl) (by rfl) (by rfl) (fun _ _ _ _ h => h) (fun K hK => ?_); go_big_quiet_op; refine hK _ ?_; clear hK K) | (refine T_two (by rfl) (by rfl) (by rfl) (by rfl) (fun _ _ _ _ h => h) (fun K hK => ?_); go_big_quiet_op; refine ⟨_, fun _ _ => rfl, ?_⟩; refine hK _ ?_; clear hK K; try simp only [Act.put, List.setIfInBounds_toArray, List.set_cons_zero, List.set_cons_succ]) | fail)
          (first | (refine T_skip (by rfl) (by rfl) (fun _ _ _ h => h) ?_; try simp only [Act.put, List.setIfInBounds_toArray, List.set_cons_zero, List.set_cons_succ]) | (refine T_pass (by rfl) (by rfl) ?_; try simp only [Act.put, List.setIfInBounds_toArray, List.set_cons_zero, List.set_cons_succ]) | (refine T_load (by assumption) (by rfl) (by rfl) (fun _ _ _ _ h => h) rfl rfl (by assumption) (by first | exact (fun hn => hn) | assumption) ?_; try simp only [Act.put, List.setIfInBounds_toArray, List.set_cons_zero, List.set_cons_succ]) | (refine T_nil (by rfl) (by rfl) (fun _ _ _ _ h => h) rfl rfl ?_; try simp only [Act.put, List.setIfInBounds_toArray, List.set_cons_zero, List.set_cons_succ]) | (refine T_quietN (by rfl) (by rfl) (by rfl) (by rfl) (fun _ _ _ _ h => h) (fun K hK => ?_); go_big_quiet_op; refine hK _ ?_; clear hK K) | (refine T_two (by rfl) (by rfl) (by rfl) (by rfl) (fun _ _ _ _ h => h) (fun K hK => ?_); go_big_quiet_op; refine ⟨_, fun _ _ => rfl, ?_⟩; refine hK _ ?_; clear hK K; try simp only [Act.put, List.setIfInBounds_toArray, List.set_cons_zero, List.set_cons_succ]) | fail)
          (first | (refine T_skip (by rfl) (by rfl) (fun _ _ _ h => h) ?_; try simp only [Act.put, List.setIfInBounds_toArray, List.set_cons_zero, List.set_cons_succ]) | (refine T_pass (by rfl) (by rfl) ?_; try simp only [Act.put, List.setIfInBounds_toArray, List.set_cons_zero, List.set_cons_succ]) | (refine T_load (by assumption) (by rfl) (by rfl) (fun _ _ _ _ h => h) rfl rfl (by assumption) (by first | exact (fun hn => hn) | assumption) ?_; try simp only [Act.put, List.setIfInBounds_toArray, List.set_cons_zero, List.set_cons_succ]) | (refine T_nil (by rfl) (by rfl) (fun _ _ _ _ h => h) rfl rfl ?_; try simp only [Act.put, List.setIfInBounds_toArray, List.set_cons_zero, List.set_cons_succ]) | (refine T_quietN (by rfl) (by rfl) (by rfl) (by rfl) (fun _ _ _ _ h => h) (fun K hK => ?_); go_big_quiet_op; refine hK _ ?_; clear hK K) | (refine T_two (by rfl) (by rfl) (by rfl) (by rfl) (fun _ _ _ _ h => h) (fun K hK => ?_); go_big_quiet_op; refine ⟨_, fun _ _ => rfl, ?_⟩; refine hK _ ?_; clear hK K; try simp only [Act.put, List.setIfInBounds_toArray, List.set_cons_zero, List.set_cons_succ]) | fail)
          refine T_turn No [] (by rfl) (by rfl) (by rfl) (fun K hK => ?_)
          refine wp_stA ag_obj.info _ _ rfl b9 0 _ _ [.int .i64 0, .slice none 0 0, .slice none 0 0] _ rfl rfl rfl rfl (by intro u hu; simp at hu; rcases hu with rfl | rfl | rfl <;> rfl) hb9 (by decide) ?_
          intro wx10 hb10 hg10 hz10
          rw [splice_all _ _ (by rfl)] at hb10
          refine hK.out _ _ ?_
          clear hK K
          try simp only [Act.put, List.setIfInBounds_toArray, List.set_cons_zero, List.set_cons_succ]
          (first | (refine T_skip (by rfl) (by rfl) (fun _ _ _ h => h) ?_; try simp only [Act.put, List.setIfInBounds_toArray, List.set_cons_zero, List.set_cons_succ]) | (refine T_pass (by rfl) (by rfl) ?_; try simp only [Act.put, List.setIfInBounds_toArray, List.set_cons_zero, List.set_cons_succ]) | (refine T_load (by assumption) (by rfl) (by rfl) (fun _ _ _ _ h => h) rfl rfl (by assumption) (by first | exact (fun hn => hn) | assumption) ?_; try simp only [Act.put, List.setIfInBounds_toArray, List.set_cons_zero, List.set_cons_succ]) | (refine T_nil (by rfl) (by rfl) (fun _ _ _ _ h => h) rfl rfl ?_; try simp only [Act.put, List.setIfInBounds_toArray, List.set_cons_zero, List.set_cons_succ]) | (refine T_quietN (by rfl) (by rfl) (by rfl) (by rfl) (fun _ _ _ _ h => h) (fun K hK => ?_); go_big_quiet_op; refine hK _ ?_; clear hK K) | (refine T_two (by rfl) (by rfl) (by rfl) (by rfl) (fun _ _ _ _ h => h) (fun K hK => ?_); go_big_quiet_op; refine ⟨_, fun _ _ => rfl, ?_⟩; refine hK _ ?_; clear hK K; try simp only [Act.put, List.setIfInBounds_toArray, List.set_cons_zero, List.set_cons_succ]) | fail)
          refine T_done ?_
          go_wp2_with fail
          go_meet
          case rel => exact ⟨rfl, hT.grown hg10 (fun q hq => by injection hq with hq; exact .inl (by omega))⟩
    case rest =>
      obtain ⟨rfl, hfd⟩ := hcut
      replace hbg := hbg.fr0 hfd
      replace hog := hog.fr0 hfd
      have hcl : cs.length = 3 := by obtain ⟨_, _, _, _, rfl, _⟩ := id hog; rfl
      have hcc : ∀ j u, cs[j]? = some u → wc.cell? ((⟨g, 0, none⟩ : Addr).add j) = some u := fun j u hu => hbg.all j u (by simpa using hu)
      go_upto_region 5 with fail
      (refine T_begin No [0, 1, 2, 3, 4, 5, 6, 7, 8, 9, 10, 11] [4, 5] (by kernel_rfl) (by kernel_rfl) ?_; simp only [pickOps, List.filterMap_cons, List.filterMap_nil, List.getElem?_cons_zero, List.getElem?_cons_succ, Act.put])
      repeat (first | (refine T_skip (by rfl) (by rfl) (fun _ _ _ h => h) ?_; try simp only [Act.put, List.setIfInBounds_toArray, List.set_cons_zero, List.set_cons_succ]) | (refine T_pass (by rfl) (by rfl) ?_; try simp only [Act.put, List.setIfInBounds_toArray, List.set_cons_zero, List.set_cons_succ]) | (refine T_load (by assumption) (by rfl) (by rfl) (fun _ _ _ _ h => h) rfl rfl (by assumption) (by first | exact (fun hn => hn) | assumption) ?_; try simp only [Act.put, List.setIfInBounds_toArray, List.set_cons_zero, List.set_cons_succ]) | (refine T_nil (by rfl) (by rfl) (fun _ _ _ _ h => h) rfl rfl ?_; try simp only [Act.put, List.setIfInBounds_toArray, List.set_cons_zero, List.set_cons_succ]) | (refine T_quietN (by rfl) (by rfl) (by rfl) (by rfl) (fun _ _ _ _ h => h) (fun K hK => ?_); go_big_quiet_op; refine hK _ ?_; clear hK K) | (refine T_two (by rfl) (by rfl) (by rfl) (by rfl) (fun _ _ _ _ h => h) (fun K hK => ?_); go_big_quiet_op; refine ⟨_, fun _ _ => rfl, ?_⟩; refine hK _ ?_; clear hK K; try simp only [Act.put, List.setIfInBounds_toArray, List.set_cons_zero, List.set_cons_succ]) | fail)
      refine T_loadA (cs := cs) ag_obj (by rfl) (by rfl) (fun _ _ _ _ h => h) rfl rfl hcl hcc (fun hn => hn) ?_
      try simp only [Act.put, List.setIfInBounds_toArray, List.set_cons_zero, List.set_cons_succ]
      refine T_call (by rfl) (by rfl) (fun K hK => ?_)
      go_wp2_with fail
      refine (counter_calls 7 _).mono ?_
      rintro e wp ⟨cs2, rfl, ho2, hf2⟩
      go_wp2_with fail
      (refine hK.out _ _ (hf2) ?_; clear hK K; try simp only [Act.put, List.setIfInBounds_toArray, List.set_cons_zero, List.set_cons_succ])
      refine T_call (by rfl) (by rfl) (fun K hK => ?_)
      go_wp2_with fail
      refine (same_calls _ _ cs cs2 ⟨13, [⟨3, 7⟩], []⟩ wp (hog.fr0 ((Fr.refl No wc).drew.tr hf2)) ho2).mono ?_
      rintro e wq ⟨rfl, hf3⟩
      go_wp2_with fail
      (refine hK.out _ _ (hf3) ?_; clear hK K; try simp only [Act.put, List.setIfInBounds_toArray, List.set_cons_zero, List.set_cons_succ])
      repeat (first | (refine T_skip (by rfl) (by rfl) (fun _ _ _ h => h) ?_; try simp only [Act.put, List.setIfInBounds_toArray, List.set_cons_zero, List.set_cons_succ]) | (refine T_pass (by rfl) (by rfl) ?_; try simp only [Act.put, List.setIfInBounds_toArray, List.set_cons_zero, List.set_cons_succ]) | (refine T_load (by assumption) (by rfl) (by rfl) (fun _ _ _ _ h => h) rfl rfl (by assumption) (by first | exact (fun hn => hn) | assumption) ?_; try simp only [Act.put, List.setIfInBounds_toArray, List.set_cons_zero, List.set_cons_succ]) | (refine T_nil (by rfl) (by rfl) (fun _ _ _ _ h => h) rfl rfl ?_; try simp only [Act.put, List.setIfInBounds_toArray, List.set_cons_zero, List.set_cons_succ]) | (refine T_quietN (by rfl) (by rfl) (by rfl) (by rfl) (fun _ _ _ _ h => h) (fun K hK => ?_); go_big_quiet_op; refine hK _ ?_; clear hK K) | (refine T_two (by rfl) (by rfl) (by rfl) (by rfl) (fun _ _ _ _ h => h) (fun K hK => ?_); go_big_quiet_op; refine ⟨_, fun _ _ => rfl, ?_⟩; refine hK _ ?_; clear hK K; try simp only [Act.put, List.setIfInBounds_toArray, List.set_cons_zero, List.set_cons_succ]) | fail)
      refine T_done ?_
      go_wp2
      go_ret
      exact ⟨rfl, ((hfB.tr hfc).tr hfd).tr (((Fr.refl No wc).drew.tr hf2).tr hf3)⟩
end Go.Proofs.Ytgchpfennbggoaa
