/- bag: an object of numbers. No condition but size. -/
import Derived.Test.YtgchpfennbggoaaRcMiss
namespace Go.Proofs.Ytgchpfennbggoaa
set_option linter.unusedVariables false
set_option linter.unusedSimpArgs false
open Go.RowKit

def nums (l : List Int) : List VL := l.map fun n => ⟨3, n⟩
set_option maxHeartbeats 2000000 in
set_option maxRecDepth 100000 in
theorem bag_calls (S : Nat → Prop) (A0 : Option Addr) (c0 : Nat) (l : List Int) (w : World) (h : Rd w S 1 A0 l.length (l.map (Value.int .i64))) (hl : l.length ≤ 1048576) :
    Calls Try.prog 24 #[.slice A0 l.length c0] w fun e w' => ∃ cs, e = .returned (.agg cs.toArray) ∧ ObjC w' (fun b => w.heap.size ≤ b) cs ⟨14, nums l, []⟩ ∧ Fr No w w' := by
  have g2 := plain_lval
  have g4 := plain_i64
  go_enter Try.func24, Try.ntmps24
  go_wp2_with fail
  have hf0 : Fr No w ((w.alloc (.cells #[.int .i64 0, .slice none 0 0, .slice none 0 0] 25)).alloc (.cells #[.int .i64 14, .slice none 0 0, .slice none 0 0] 25)) := ((Fr.refl No w).alloc _).alloc _
  have hbr : Blk ((w.alloc (.cells #[.int .i64 0, .slice none 0 0, .slice none 0 0] 25)).alloc (.cells #[.int .i64 14, .slice none 0 0, .slice none 0 0] 25)) w.heap.size 25 #[.int .i64 0, .slice none 0 0, .slice none 0 0] := (Blk.new w _ _).alloc _
  have hbo : Blk ((w.alloc (.cells #[.int .i64 0, .slice none 0 0, .slice none 0 0] 25)).alloc (.cells #[.int .i64 14, .slice none 0 0, .slice none 0 0] 25)) (w.heap.size + 1) 25 #[.int .i64 14, .slice none 0 0, .slice none 0 0] := Blk.newAt (by simp)
  have hz : ((w.alloc (.cells #[.int .i64 0, .slice none 0 0, .slice none 0 0] 25)).alloc (.cells #[.int .i64 14, .slice none 0 0, .slice none 0 0] 25)).heap.size = w.heap.size + 1 + 1 := by simp
  generalize hw1 : ((w.alloc (.cells #[.int .i64 0, .slice none 0 0, .slice none 0 0] 25)).alloc (.cells #[.int .i64 14, .slice none 0 0, .slice none 0 0] 25)) = w1 at *
  clear hw1
  go_loopw [4] (fun i wr => ∃ (k : Nat) (A : Option Addr) (c : Nat), k ≤ l.length ∧ i = .int .i64 (k : Int) ∧ Blk wr (w.heap.size + 1) 25 #[.int .i64 14, .slice A k c, .slice none 0 0] ∧ wr.ownsRow (w.heap.size + 1 + 1) 30 2 (.slice A k c) k (vals (nums (l.take k))) ∧ Fr (fun b => w.heap.size + 1 ≤ b) w1 wr) (fun i _ => l.length - (intOf i).toNat)
  case atStart => exact ⟨0, none, 0, by omega, rfl, hbo, by simpa [nums, vals] using World.ownsRow_nil _ _ _ _, Fr.refl _ _⟩
  case round =>
    obtain ⟨k, A, c, hk, rfl, hb, hown, hf⟩ := hrel
    have hsr := hf.size
    have hfW : Fr No w wr := hf0.trans hf (fun b hb hT => by omega)
    have hbR := hbr.fr hf (fun hT => by omega)
    by_cases hlt : k < l.length
    · have ek : decide ((k : Int) < l.length) = true := by simpa using (by omega : (k : Int) < l.length)
      obtain ⟨g, of, rfl, _, hc⟩ := Rd.plain h (by omega) (by decide)
      have hc0 := hc k (.int .i64 l[k]) (by simp [hlt])
      have hgl : g < w.heap.size := World.block_lt_of_cell? w _ hc0
      have hcx := hfW.cell_some hc0 (fun hn => hn)
      have hSG : ¬ ((Value.slice A k c).ownBlock = some g) := fun hh => by have := (hown.lt _ hh).1; omega
      have HT := Lib.hid (show vals (nums (l.take (k + 1))) = vals (nums (l.take k)) ++ vcells ⟨3, l[k]⟩ by
        have e : nums (l.take (k + 1)) = nums (l.take k) ++ [⟨3, l[k]⟩] := by unfold nums; rw [← List.take_append_getElem hlt, List.map_append]; rfl
        rw [e, vals_append]; simp [vals])
      generalize l[k] = x at *
      have q1 := hb.cell 1
      simp only [List.getElem?_toArray, List.getElem?_cons_zero, List.getElem?_cons_succ] at q1
      clear hc hc0
      go_wp2_with fail
      have hSH : ¬ ((Value.slice A k c).ownBlock = some (w.heap.size + 1)) := fun hh => by have := (hown.lt _ hh).1; omega
      refine T_begin2 (fun b => (Value.slice A k c).ownBlock = some b) [10] [0, 1, 2, 3, 4, 5, 6, 7, 8, 9, 10] [7, 8, 10] (by kernel_rfl) (by kernel_rfl) ?_
      simp only [pickOps, List.filterMap_cons, List.filterMap_nil, List.getElem?_cons_zero, List.getElem?_cons_succ, Act.put]
      repeat (first | (refine T_skip (by rfl) (by rfl) (fun _ _ _ h => h) ?_; try simp only [Act.put, List.setIfInBounds_toArray, List.set_cons_zero, List.set_cons_succ]) | (refine T_pass (by rfl) (by rfl) ?_; try simp only [Act.put, List.setIfInBounds_toArray, List.set_cons_zero, List.set_cons_succ]) | (refine T_load (by assumption) (by rfl) (by rfl) (fun _ _ _ _ h => h) rfl rfl (by assumption) (by first | exact (fun hn => hn) | assumption) ?_; try simp only [Act.put, List.setIfInBounds_toArray, List.set_cons_zero, List.set_cons_succ]) | (refine T_nil (by rfl) (by rfl) (fun _ _ _ _ h => h) rfl rfl ?_; try simp only [Act.put, List.setIfInBounds_toArray, List.set_cons_zero, List.set_cons_succ]) | (refine T_quietN (by rfl) (by rfl) (by rfl) (by rfl) (fun _ _ _ _ h => h) (fun K hK => ?_); go_big_quiet_op; refine hK _ ?_; clear hK K) | (refine T_two (by rfl) (by rfl) (by rfl) (by rfl) (fun _ _ _ _ h => h) (fun K hK => ?_); go_big_quiet_op; refine ⟨_, fun _ _ => rfl, ?_⟩; refine hK _ ?_; clear hK K; try simp only [Act.put, List.setIfInBounds_toArray, List.set_cons_zero, List.set_cons_succ]) | fail)
      refine T_call (by rfl) (by rfl) (fun K hK => ?_)
      refine wp_buildOne so_val (by decide) (vcells ⟨3, x⟩) rfl rfl rfl ?_
      (refine hK.out _ _ (((Fr.refl _ _).alloc _)) ?_; clear hK K; try simp only [Act.put, List.setIfInBounds_toArray, List.set_cons_zero, List.set_cons_succ])
      refine T_call (by rfl) (by rfl) (fun K hK => ?_)
      refine wp_app_at so_val (own_fr0 hown ((Fr.refl No _).drew.alloc (.cells (vcells ⟨3, x⟩).toArray 30))) ((Blk.new _ _ _).rd (size := 2) (n := 1) (by rfl) (by decide)) (by intro u hu; simp [vcells] at hu; rcases hu with rfl | rfl <;> rfl) (by omega) (by simp; omega) rfl rfl rfl ?_
      intro v5 w5 hown5 hg5 hat5
      refine hK.out _ _ ((Fr.refl _ _).grown hg5 (fun q hq => .inr hq)) ?_
      clear hK K
      try simp only [Act.put, List.setIfInBounds_toArray, List.set_cons_zero, List.set_cons_succ]
      have hb5 := (hb.drew.alloc (.cells (vcells ⟨3, x⟩).toArray 30)).grown hg5 (fun hh => hSH hh.symm)
      obtain ⟨A3, c3, rfl, hc3, _, hA3⟩ := own_form hown5
      have q52 := hb5.cell 1
      have z52 := hb5.frozen 1
      simp only [List.getElem?_toArray, List.getElem?_cons_zero, List.getElem?_cons_succ] at q52
      repeat (first | (refine T_skip (by rfl) (by rfl) (fun _ _ _ h => h) ?_; try simp only [Act.put, List.setIfInBounds_toArray, List.set_cons_zero, List.set_cons_succ]) | (refine T_pass (by rfl) (by rfl) ?_; try simp only [Act.put, List.setIfInBounds_toArray, List.set_cons_zero, List.set_cons_succ]) | (refine T_load (by assumption) (by rfl) (by rfl) (fun _ _ _ _ h => h) rfl rfl (by assumption) (by first | exact (fun hn => hn) | assumption) ?_; try simp only [Act.put, List.setIfInBounds_toArray, List.set_cons_zero, List.set_cons_succ]) | (refine T_nil (by rfl) (by rfl) (fun _ _ _ _ h => h) rfl rfl ?_; try simp only [Act.put, List.setIfInBounds_toArray, List.set_cons_zero, List.set_cons_succ]) | (refine T_quietN (by rfl) (by rfl) (by rfl) (by rfl) (fun _ _ _ _ h => h) (fun K hK => ?_); go_big_quiet_op; refine hK _ ?_; clear hK K) | (refine T_two (by rfl) (by rfl) (by rfl) (by rfl) (fun _ _ _ _ h => h) (fun K hK => ?_); go_big_quiet_op; refine ⟨_, fun _ _ => rfl, ?_⟩; refine hK _ ?_; clear hK K; try simp only [Act.put, List.setIfInBounds_toArray, List.set_cons_zero, List.set_cons_succ]) | fail)
      refine T_turn No [] (by rfl) (by rfl) (by rfl) (fun K hK => ?_)
      go_wp2_with fail
      refine hK.out _ _ ?_
      clear hK K
      refine T_done ?_
      go_wp2
      go_roundw
      case rel =>
        refine ⟨k + 1, A3, c3, by omega, by go_num, hb5.put 1 _, ?_, ?_⟩
        · rw [HT.out]
          exact own_fr hown5 ((Fr.refl (fun b => b = w.heap.size + 1) w5).set (p := ⟨w.heap.size + 1, 1, none⟩) (.inr rfl) _) (fun b hb hT => by have := (hown5.lt _ hb).1; omega)
        · refine (((hf.drew.alloc (.cells (vcells ⟨3, x⟩).toArray 30)).grown hg5 (fun q hq => .inr ?_)).set (p := ⟨w.heap.size + 1, 1, none⟩) (.inr (Nat.le_refl _)) _)
          have := (hown.lt _ hq).1
          omega
      case measure => simp [intOf]; omega
    · obtain rfl : k = l.length := by omega
      have ek : decide ((l.length : Int) < l.length) = false := by simp
      rw [List.take_length] at hown
      have hcs := hb.all
      go_wp2_with (first
        | (refine wpList_ldA ag_obj rfl _ rfl ⟨w.heap.size + 1, 0, none⟩ [.int .i64 14, .slice A l.length c, .slice none 0 0] rfl rfl hcs ?_)
        | (refine wpList_stA ag_obj.info rfl _ _ rfl w.heap.size 0 _ _ [.int .i64 14, .slice A l.length c, .slice none 0 0] _ rfl rfl rfl rfl (by intro u hu; simp at hu; rcases hu with rfl | rfl | rfl <;> rfl) hbR (by decide) ?_; intro w5 hb5 hg5 hz5)
        | fail)
      rw [splice_all _ _ (by rfl)] at hb5
      refine bodyPost_ret (results_blk ag_obj rfl _ _ _ _ _ rfl hb5 rfl) rfl ?_
      obtain ⟨_, _, e9, _, _, hDl⟩ := own_form hown
      injection e9 with e91 e92 e93
      subst e91
      have hnl : (nums l).length = l.length := by simp [nums]
      refine ⟨_, rfl, ⟨A, c, none, 0, by simp [nums], ?_, Rd.nil_⟩, hfW.grown hg5 (fun q hq => by injection hq with hq; exact .inl (by omega))⟩
      unfold RdV
      rw [hnl]
      refine Rd.mono (Rd.grown (own_rd hown (show l.length ≤ 211106232532992 by omega)) hg5 (fun q hq hb => ?_)) (fun b _ hb => ?_) (by decide)
      · injection hq with hq; have := (hown.lt q ((hDl q).2 hb)).1; omega
      · have := (hown.lt b ((hDl b).2 hb)).1; omega
end Go.Proofs.Ytgchpfennbggoaa
