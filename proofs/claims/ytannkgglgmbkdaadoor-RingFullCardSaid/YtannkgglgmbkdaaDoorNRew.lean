/- ring: Append that finds no room, Rewrite by no records. No condition but size. -/
import Derived.Test.YtannkgglgmbkdaaDoorNApp
namespace Go.Proofs.YtannkgglgmbkdaaDoor
set_option linter.unusedVariables false
set_option linter.unusedSimpArgs false
open Go.RowKit

theorem ag_log : AggOf Tryd.prog 71 8 := ⟨⟨_, Tryd.underlying71, rfl⟩, by kernel_rfl⟩
set_option maxRecDepth 100000 in
theorem append_full (w : World) (X : Nat → Prop) (L H : Nat) (l : LogM) (d : DiskM) (A : Option Addr) (c n : Nat) (hlg : LogAt w L H l) (hbad : l.bad = false) (hd : DiskAt w X H d) (h4 : 4 ≤ d.now.length)
    (hr1 : 1 ≤ n) (hr2 : n ≤ 60000) (hat : l.at_ ≤ halfN d.now.length) (hroom : halfN d.now.length < l.at_ + recN n) :
    Calls Tryd.prog 18 #[.pointer (some ⟨L, 0, none⟩), .slice A n c] w fun e w' => e = .returned (.int .i64 4) ∧ Fr No w w' := by
  have hsec : ∀ w', Calls Tryd.prog 9 #[.int .i64 (n : Int)] w' fun e w'' => e = .returned (.int .i64 (recN n : Int)) ∧ w'' = w' := fun w' => by
    have := sectors_calls (n : Int) w'
    rw [sectorsM_recN hr1 hr2] at this
    exact this
  have hrm := room_calls w X L H l d hlg hd h4 hat
  have hrn1 : 1 ≤ recN n := by unfold recN; omega
  have hroom2 : halfN d.now.length - l.at_ < recN n := by omega
  have hb := hlg.lit
  clear hroom hat
  generalize recN n = rn at *
  generalize halfN d.now.length - l.at_ = ro at *
  obtain ⟨⟨life, half, first, since⟩, seq, at_, bad⟩ := l
  simp only at hbad hb hrm ⊢
  subst hbad
  have e0 : ((rn : Int) == 0) = false := by rw [beq_eq_false_iff_ne]; omega
  have e1 : decide ((ro : Int) < (rn : Int)) = true := by simp; omega
  (have y0 := hb.cell 0; have y1 := hb.cell 1; have y2 := hb.cell 2; have y3 := hb.cell 3; have y4 := hb.cell 4; have y5 := hb.cell 5; have y6 := hb.cell 6; have y7 := hb.cell 7; have yf0 := hb.frozen 0; have yf1 := hb.frozen 1; have yf2 := hb.frozen 2; have yf3 := hb.frozen 3; have yf4 := hb.frozen 4; have yf5 := hb.frozen 5; have yf6 := hb.frozen 6; have yf7 := hb.frozen 7; simp only [List.getElem?_toArray, List.getElem?_cons_zero, List.getElem?_cons_succ] at y0 y1 y2 y3 y4 y5 y6 y7)
  go_enter Tryd.func18, Tryd.ntmps18
  go_wp2_with fail
  refine (hsec _).mono ?_
  rintro e w1 ⟨rfl, hw1⟩
  replace hw1 := hw1.symm
  subst hw1
  go_wp2_with fail
  refine (hsec _).mono ?_
  rintro e w1 ⟨rfl, hw1⟩
  replace hw1 := hw1.symm
  subst hw1
  go_wp2_with fail
  refine hrm.mono ?_
  rintro e w1 ⟨rfl, hf1⟩
  go_wp2_with fail
  go_ret
  exact ⟨rfl, hf1⟩
theorem sum_nil (w : World) : Calls Tryd.prog 39 #[.slice none 0 0] w fun e w' => e = .returned (.tuple #[.int .i64 0, .bool true]) ∧ w' = w := by
  go_enter Tryd.func39, Tryd.ntmps39
  go_wp2_with fail
  go_loopw [4, 10] (fun s4 i wr => s4 = .int .i64 0 ∧ i = .int .i64 0 ∧ wr = w) (fun _ _ _ => 0)
  case atStart => exact ⟨rfl, rfl, rfl⟩
  case round =>
    obtain ⟨rfl, rfl, rfl⟩ := hrel
    go_wp2
    go_ret2
    exact ⟨rfl, rfl⟩
set_option maxRecDepth 100000 in
set_option maxHeartbeats 4000000 in
theorem all_nil (w : World) (X : Nat → Prop) (L H : Nat) (l : LogM) (d d' : DiskM) (hlg : LogAt w L H l) (hL : ¬ X L) (hd : DiskAt w X H d) (h4 : 4 ≤ d.now.length) (hdead : d.dead = false) (hlife : 0 ≤ l.h.life) (hleft : d.left ≤ 1000000) (hlay : layM { d with safe := d.now, way := [] } l.h = (d', true)) :
    Calls Tryd.prog 40 #[.pointer (some ⟨L, 0, none⟩), .slice none 0 0] w fun e w' => e = .returned (.int .i64 0) ∧ DiskAt w' (fun b => (X b ∧ b < w.heap.size) ∨ w.heap.size ≤ b) H d' ∧ Fr X w w' := by
  have g1 : ∀ w, (isAgg 2).run Tryd.prog w = .ok false w := plain_of Tryd.underlying2 rfl
  have g2 := plain_int
  have g4 := plain_pdisk
  have hX1 : DiskAt w (fun b => X b ∧ b < w.heap.size) H d := hd.mono (fun b hb hx => ⟨hx, hb⟩)
  have hly : ∀ w' Y, DiskAt w' Y H { d with safe := d.now, way := [] } → Calls Tryd.prog 37 #[.pointer (some ⟨H, 0, none⟩), headV l.h] w' fun e w'' => e = .returned (.int .i64 0) ∧ Left w' Y (Wid Y w') H d' w'' := fun w' Y hdy => by
    have := lay_calls w' Y H _ l.h hdy hlife (by show 2 ≤ d.now.length; omega) (by show ([] : List (Nat × Sec)).length ≤ 50000; simp) hleft
    rw [hlay] at this
    exact this
  have hfl := flush_calls w (fun b => X b ∧ b < w.heap.size) H d hX1 hdead
  have hb := hlg.lit
  have hLw := hb.lt
  unfold headV at hly
  obtain ⟨⟨life, half, first, since⟩, seq, at_, bad⟩ := l
  simp only at hb hly ⊢
  (have y0 := hb.cell 0; have y1 := hb.cell 1; have y2 := hb.cell 2; have y3 := hb.cell 3; have y4 := hb.cell 4; have y5 := hb.cell 5; have y6 := hb.cell 6; have y7 := hb.cell 7; have yf0 := hb.frozen 0; have yf1 := hb.frozen 1; have yf2 := hb.frozen 2; have yf3 := hb.frozen 3; have yf4 := hb.frozen 4; have yf5 := hb.frozen 5; have yf6 := hb.frozen 6; have yf7 := hb.frozen 7; simp only [List.getElem?_toArray, List.getElem?_cons_zero, List.getElem?_cons_succ] at y0 y1 y2 y3 y4 y5 y6 y7)
  go_enter Tryd.func40, Tryd.ntmps40
  go_upto_block 0 with fail
  go_cut [] (fun wx => wx = w)
  case first =>
    go_wp2_with fail
    go_loopw [11] (fun i wr => i = .int .i64 0 ∧ wr = w) (fun _ _ => 0)
    case atStart => exact ⟨rfl, rfl⟩
    case round =>
      obtain ⟨rfl, rfl⟩ := hrel
      go_wp2_with fail
      go_meet
      case rel => rfl
  case rest =>
    replace hcut := hcut.symm
    subst hcut
    go_wp2_with fail
    refine hfl.mono ?_
    rintro e w1 ⟨rfl, hd1, hf1⟩
    have hb1 := hb.fr hf1 (fun h => hL h.1)
    have hsz1 := hf1.size
    clear y0 y1 y2 y3 y4 y5 y6 y7 yf0 yf1 yf2 yf3 yf4 yf5 yf6 yf7
    (have y0 := hb1.cell 0; have y1 := hb1.cell 1; have y2 := hb1.cell 2; have y3 := hb1.cell 3; have y4 := hb1.cell 4; have y5 := hb1.cell 5; have y6 := hb1.cell 6; have y7 := hb1.cell 7; have yf0 := hb1.frozen 0; have yf1 := hb1.frozen 1; have yf2 := hb1.frozen 2; have yf3 := hb1.frozen 3; have yf4 := hb1.frozen 4; have yf5 := hb1.frozen 5; have yf6 := hb1.frozen 6; have yf7 := hb1.frozen 7; simp only [List.getElem?_toArray, List.getElem?_cons_zero, List.getElem?_cons_succ] at y0 y1 y2 y3 y4 y5 y6 y7)
    have hc1 := hb1.cells 1 [.int .i64 life, .int .i64 half, .int .i64 first, .int .i64 since] (fun j u hu => by
      rcases j with _ | _ | _ | _ | j
      · exact hu
      · exact hu
      · exact hu
      · exact hu
      · simp at hu)
    have hns : ¬ ((X L ∧ L < w.heap.size) ∨ w1.heap.size ≤ L) := fun h => h.elim (fun h => hL h.1) (fun h => by omega)
    go_wp2_with fail
    (refine T_begin (fun b => (X b ∧ b < w.heap.size) ∨ w1.heap.size ≤ b) [0, 1, 2, 3, 4, 5, 6, 7, 8, 9] [8] (by kernel_rfl) (by kernel_rfl) ?_; simp only [pickOps, List.filterMap_cons, List.filterMap_nil, List.getElem?_cons_zero, List.getElem?_cons_succ, Act.put])
    repeat (first | (refine T_skip (by rfl) (by rfl) (fun _ _ _ h => h) ?_; try simp only [Act.put, List.setIfInBounds_toArray, List.set_cons_zero, List.set_cons_succ]) | (refine T_pass (by rfl) (by rfl) ?_; try simp only [Act.put, List.setIfInBounds_toArray, List.set_cons_zero, List.set_cons_succ]) | (refine T_load (by assumption) (by rfl) (by rfl) (fun _ _ _ _ h => h) rfl rfl (by assumption) (by first | exact (fun hn => hn) | assumption) ?_; try simp only [Act.put, List.setIfInBounds_toArray, List.set_cons_zero, List.set_cons_succ]) | (refine T_nil (by rfl) (by rfl) (fun _ _ _ _ h => h) rfl rfl ?_; try simp only [Act.put, List.setIfInBounds_toArray, List.set_cons_zero, List.set_cons_succ]) | (refine T_quietN (by rfl) (by rfl) (by rfl) (by rfl) (fun _ _ _ _ h => h) (fun K hK => ?_); go_big_quiet_op; refine hK _ ?_; clear hK K) | (refine T_two (by rfl) (by rfl) (by rfl) (by rfl) (fun _ _ _ _ h => h) (fun K hK => ?_); go_big_quiet_op; refine ⟨_, fun _ _ => rfl, ?_⟩; refine hK _ ?_; clear hK K; try simp only [Act.put, List.setIfInBounds_toArray, List.set_cons_zero, List.set_cons_succ]) | fail)
    (refine T_loadA (cs := [.int .i64 life, .int .i64 half, .int .i64 first, .int .i64 since]) ag_head (by rfl) (by rfl) (fun _ _ _ _ h => h) rfl rfl rfl hc1 hns ?_; try simp only [Act.put, List.setIfInBounds_toArray, List.set_cons_zero, List.set_cons_succ])
    (refine T_call (by rfl) (by rfl) (fun K hK => ?_); go_wp2_with fail)
    refine (hly _ _ (hd1.fr0 (Fr.refl No w1).drew)).mono ?_
    rintro e w2 ⟨rfl, hd2, hf2⟩
    go_wp2_with fail
    (refine hK.out _ _ (hf2.mono (fun b _ hb => .inl hb)) ?_; clear hK K; try simp only [Act.put, List.setIfInBounds_toArray, List.set_cons_zero, List.set_cons_succ])
    repeat (first | (refine T_skip (by rfl) (by rfl) (fun _ _ _ h => h) ?_; try simp only [Act.put, List.setIfInBounds_toArray, List.set_cons_zero, List.set_cons_succ]) | (refine T_pass (by rfl) (by rfl) ?_; try simp only [Act.put, List.setIfInBounds_toArray, List.set_cons_zero, List.set_cons_succ]) | (refine T_load (by assumption) (by rfl) (by rfl) (fun _ _ _ _ h => h) rfl rfl (by assumption) (by first | exact (fun hn => hn) | assumption) ?_; try simp only [Act.put, List.setIfInBounds_toArray, List.set_cons_zero, List.set_cons_succ]) | (refine T_nil (by rfl) (by rfl) (fun _ _ _ _ h => h) rfl rfl ?_; try simp only [Act.put, List.setIfInBounds_toArray, List.set_cons_zero, List.set_cons_succ]) | (refine T_quietN (by rfl) (by rfl) (by rfl) (by rfl) (fun _ _ _ _ h => h) (fun K hK => ?_); go_big_quiet_op; refine hK _ ?_; clear hK K) | (refine T_two (by rfl) (by rfl) (by rfl) (by rfl) (fun _ _ _ _ h => h) (fun K hK => ?_); go_big_quiet_op; refine ⟨_, fun _ _ => rfl, ?_⟩; refine hK _ ?_; clear hK K; try simp only [Act.put, List.setIfInBounds_toArray, List.set_cons_zero, List.set_cons_succ]) | fail)
    refine T_done ?_
    go_wp2_with fail
    go_ret
    exact ⟨rfl, hd2.mono (fun b _ hb => hb.elim .inl (fun h => .inr (Nat.le_trans hsz1 h))), (hf1.mono (fun b _ hb => hb.1)).trans ((Fr.refl _ w1).drew.trans hf2 (fun _ _ hb => hb)) (fun b _ hb => hb.1)⟩
set_option maxRecDepth 100000 in
set_option maxHeartbeats 8000000 in
theorem rewrite_nil_ok (w : World) (X : Nat → Prop) (L H : Nat) (l : LogM) (d d' : DiskM) (hlg : LogAt w L H l) (hbad : l.bad = false) (hL : ¬ X L) (hd : DiskAt w X H d) (h4 : 4 ≤ d.now.length) (hdead : d.dead = false) (hlife : 1 ≤ l.h.life ∧ l.h.life < 1099511627776) (hhalf : 0 ≤ l.h.half ∧ l.h.half ≤ 1)
    (hseq : 1 ≤ l.seq ∧ l.seq ≤ 1099511627776) (hleft : d.left ≤ 1000000) (hlay : layM { d with safe := d.now, way := [] } ⟨l.h.life + 1, 1 - l.h.half, l.seq, l.h.life + 1⟩ = (d', true)) :
    Calls Tryd.prog 21 #[.pointer (some ⟨L, 0, none⟩), .slice none 0 0] w fun e w' => e = .returned (.int .i64 0) ∧ LogAt w' L H ⟨⟨l.h.life + 1, 1 - l.h.half, l.seq, l.h.life + 1⟩, l.seq, 0, false⟩ ∧
      DiskAt w' (fun b => (X b ∧ b < w.heap.size) ∨ w.heap.size ≤ b) H d' ∧ Fr (fun b => X b ∨ b = L) w w' := by
  have g1 : ∀ w, (isAgg 2).run Tryd.prog w = .ok false w := plain_of Tryd.underlying2 rfl
  have g2 := plain_int
  have g4 := plain_pdisk
  have hmax : d.now.length ≤ 4096 := by obtain ⟨gs, cs, gn, cn, A, c, hP⟩ := hd; exact hP.2.2.2.2.2.2.2.2.1
  have hX1 : DiskAt w (fun b => X b ∧ b < w.heap.size) H d := hd.mono (fun b hb hx => ⟨hx, hb⟩)
  have hhf := half_calls w X H d hd (by omega) hmax
  have hal : ∀ w' L', LogAt w' L' H ⟨⟨l.h.life + 1, 1 - l.h.half, l.seq, l.h.life + 1⟩, l.seq, 0, false⟩ → ¬ (X L' ∧ L' < w.heap.size) → DiskAt w' (fun b => X b ∧ b < w.heap.size) H d → Calls Tryd.prog 40 #[.pointer (some ⟨L', 0, none⟩), .slice none 0 0] w' fun e w'' => e = .returned (.int .i64 0) ∧
      DiskAt w'' (fun b => ((X b ∧ b < w.heap.size) ∧ b < w'.heap.size) ∨ w'.heap.size ≤ b) H d' ∧ Fr (fun b => X b ∧ b < w.heap.size) w' w'' := fun w' L' h1 h2 h3 =>
    all_nil w' _ L' H _ d d' h1 h2 h3 h4 hdead (by show 0 ≤ l.h.life + 1; omega) hleft hlay
  have hb := hlg.lit
  have hLw := hb.lt
  obtain ⟨⟨life, half, first, since⟩, seq, at_, bad⟩ := l
  simp only at hbad hlife hhalf hseq hb hal ⊢
  subst hbad
  obtain ⟨hl1, hl2⟩ := hlife
  obtain ⟨hs1, hs2⟩ := hseq
  obtain ⟨hh1, hh2⟩ := hhalf
  clear hlay hlg
  generalize (d.now.length - 2) / 2 = hn at *
  have e0 : decide ((hn : Int) < 0) = false := by simp
  have e1 : (life == 1099511627776) = false := by rw [beq_eq_false_iff_ne]; omega
  have e2 : decide (1099511627776 < seq) = false := by simp; omega
  have r1 : life + 1 ≤ 9223372036854775807 := by omega
  have r2 : -9223372036854775808 ≤ 1 - half := by omega
  have r3 : 1 - half ≤ 9223372036854775807 := by omega
  (have y0 := hb.cell 0; have y1 := hb.cell 1; have y2 := hb.cell 2; have y3 := hb.cell 3; have y4 := hb.cell 4; have y5 := hb.cell 5; have y6 := hb.cell 6; have y7 := hb.cell 7; have yf0 := hb.frozen 0; have yf1 := hb.frozen 1; have yf2 := hb.frozen 2; have yf3 := hb.frozen 3; have yf4 := hb.frozen 4; have yf5 := hb.frozen 5; have yf6 := hb.frozen 6; have yf7 := hb.frozen 7; simp only [List.getElem?_toArray, List.getElem?_cons_zero, List.getElem?_cons_succ] at y0 y1 y2 y3 y4 y5 y6 y7)
  go_enter Tryd.func21, Tryd.ntmps21
  go_wp2_with fail
  refine (sum_nil w).mono ?_
  rintro e w1 ⟨rfl, hw1⟩
  replace hw1 := hw1.symm
  subst hw1
  go_wp2_with fail
  refine hhf.mono ?_
  rintro e w1 ⟨rfl, hw1⟩
  replace hw1 := hw1.symm
  subst hw1
  go_wp2_with fail
  (refine T_begin No [0, 1, 2, 3, 4, 5, 6, 7, 8, 9, 10, 11, 12, 13, 14, 15, 16, 17, 18, 19, 20, 21, 22, 23, 24, 25, 26, 27, 28, 29, 30, 31, 32, 33] [32] (by kernel_rfl) (by kernel_rfl) ?_; simp only [pickOps, List.filterMap_cons, List.filterMap_nil, List.getElem?_cons_zero, List.getElem?_cons_succ, Act.put])
  repeat (first | (refine T_skip (by rfl) (by rfl) (fun _ _ _ h => h) ?_; try simp only [Act.put, List.setIfInBounds_toArray, List.set_cons_zero, List.set_cons_succ]) | (refine T_pass (by rfl) (by rfl) ?_; try simp only [Act.put, List.setIfInBounds_toArray, List.set_cons_zero, List.set_cons_succ]) | (refine T_load (by assumption) (by rfl) (by rfl) (fun _ _ _ _ h => h) rfl rfl (by assumption) (by first | exact (fun hn => hn) | assumption) ?_; try simp only [Act.put, List.setIfInBounds_toArray, List.set_cons_zero, List.set_cons_succ]) | (refine T_nil (by rfl) (by rfl) (fun _ _ _ _ h => h) rfl rfl ?_; try simp only [Act.put, List.setIfInBounds_toArray, List.set_cons_zero, List.set_cons_succ]) | (refine T_quietN (by rfl) (by rfl) (by rfl) (by rfl) (fun _ _ _ _ h => h) (fun K hK => ?_); go_big_quiet_op; refine hK _ ?_; clear hK K) | (refine T_two (by rfl) (by rfl) (by rfl) (by rfl) (fun _ _ _ _ h => h) (fun K hK => ?_); go_big_quiet_op; refine ⟨_, fun _ _ => rfl, ?_⟩; refine hK _ ?_; clear hK K; try simp only [Act.put, List.setIfInBounds_toArray, List.set_cons_zero, List.set_cons_succ]) | fail)
  (refine T_call (by rfl) (by rfl) (fun K hK => ?_); go_wp2_with fail)
  (refine hK.out _ _ (((Fr.refl _ _).alloc _)) ?_; clear hK K; try simp only [Act.put, List.setIfInBounds_toArray, List.set_cons_zero, List.set_cons_succ])
  repeat (first | (refine T_skip (by rfl) (by rfl) (fun _ _ _ h => h) ?_; try simp only [Act.put, List.setIfInBounds_toArray, List.set_cons_zero, List.set_cons_succ]) | (refine T_pass (by rfl) (by rfl) ?_; try simp only [Act.put, List.setIfInBounds_toArray, List.set_cons_zero, List.set_cons_succ]) | (refine T_load (by assumption) (by rfl) (by rfl) (fun _ _ _ _ h => h) rfl rfl (by assumption) (by first | exact (fun hn => hn) | assumption) ?_; try simp only [Act.put, List.setIfInBounds_toArray, List.set_cons_zero, List.set_cons_succ]) | (refine T_nil (by rfl) (by rfl) (fun _ _ _ _ h => h) rfl rfl ?_; try simp only [Act.put, List.setIfInBounds_toArray, List.set_cons_zero, List.set_cons_succ]) | (refine T_quietN (by rfl) (by rfl) (by rfl) (by rfl) (fun _ _ _ _ h => h) (fun K hK => ?_); go_big_quiet_op; refine hK _ ?_; clear hK K) | (refine T_two (by rfl) (by rfl) (by rfl) (by rfl) (fun _ _ _ _ h => h) (fun K hK => ?_); go_big_quiet_op; refine ⟨_, fun _ _ => rfl, ?_⟩; refine hK _ ?_; clear hK K; try simp only [Act.put, List.setIfInBounds_toArray, List.set_cons_zero, List.set_cons_succ]) | fail)
  refine T_done ?_
  have hlx : LogAt (w.drew.alloc (.cells (logC H ⟨⟨life + 1, 1 - half, seq, life + 1⟩, seq, 0, false⟩).toArray 71)) w.heap.size H ⟨⟨life + 1, 1 - half, seq, life + 1⟩, seq, 0, false⟩ := Blk.new w.drew _ _
  have hfx : Fr No w (w.drew.alloc (.cells (logC H ⟨⟨life + 1, 1 - half, seq, life + 1⟩, seq, 0, false⟩).toArray 71)) := ((Fr.refl No w).drew).alloc _
  have hszx : (w.drew.alloc (.cells (logC H ⟨⟨life + 1, 1 - half, seq, life + 1⟩, seq, 0, false⟩).toArray 71)).heap.size = w.heap.size + 1 := by show (w.drew.heap.push _).size = _; rw [Array.size_push]; rfl
  have hbx : Blk (w.drew.alloc (.cells (logC H ⟨⟨life + 1, 1 - half, seq, life + 1⟩, seq, 0, false⟩).toArray 71)) L 71 _ := hb.fr0 hfx
  have hdx := hX1.fr0 hfx
  clear y0 y1 y2 y3 y4 y5 y6 y7 yf0 yf1 yf2 yf3 yf4 yf5 yf6 yf7 hhf hd hX1
  go_wp2_with fail
  refine (hal _ _ hlx (fun h => absurd h.2 (Nat.lt_irrefl _)) hdx).mono ?_
  rintro e w4 ⟨rfl, hd4, hf4⟩
  have hz4 := hf4.size
  rw [hszx] at hd4 hz4
  have hb4 := hbx.fr hf4 (fun h => hL h.1)
  have hlx4 : Blk w4 w.heap.size 71 (logC H ⟨⟨life + 1, 1 - half, seq, life + 1⟩, seq, 0, false⟩).toArray := Blk.fr hlx hf4 (fun h => absurd h.2 (Nat.lt_irrefl _))
  have hF4 : Fr X w w4 := (hfx.mono (T := X) (fun _ _ hn => hn.elim)).trans hf4 (fun b _ hb => hb.1)
  have hd5 : DiskAt w4 (fun b => (X b ∧ b < w.heap.size) ∨ w.heap.size < b) H d' := hd4.mono (fun b _ hb => hb.elim (fun h => .inl h.1) (fun h => .inr (by omega)))
  clear hbx hlx hfx hszx hdx hf4 hd4 hal
  (have y0 := hb4.cell 0; have y1 := hb4.cell 1; have y2 := hb4.cell 2; have y3 := hb4.cell 3; have y4 := hb4.cell 4; have y5 := hb4.cell 5; have y6 := hb4.cell 6; have y7 := hb4.cell 7; have yf0 := hb4.frozen 0; have yf1 := hb4.frozen 1; have yf2 := hb4.frozen 2; have yf3 := hb4.frozen 3; have yf4 := hb4.frozen 4; have yf5 := hb4.frozen 5; have yf6 := hb4.frozen 6; have yf7 := hb4.frozen 7; simp only [List.getElem?_toArray, List.getElem?_cons_zero, List.getElem?_cons_succ] at y0 y1 y2 y3 y4 y5 y6 y7)
  go_upto_region 13 with fail
  have hb5 : Blk (w4.setCell ⟨L, 7, none⟩ (.bool false)) L 71 #[.pointer (some ⟨H, 0, none⟩), .int .i64 life, .int .i64 half, .int .i64 first, .int .i64 since, .int .i64 seq, .int .i64 (at_ : Int), .bool false] := hb4.put 7 _
  have hfL : Fr (fun b => b = L) w4 (w4.setCell ⟨L, 7, none⟩ (.bool false)) := (Fr.refl (fun b => b = L) w4).set (p := ⟨L, 7, none⟩) (.inr rfl) _
  clear y0 y1 y2 y3 y4 y5 y6 y7 yf0 yf1 yf2 yf3 yf4 yf5 yf6 yf7 hb4
  generalize w4.setCell ⟨L, 7, none⟩ (.bool false) = w5 at *
  have hne : ¬ (w.heap.size = L) := by omega
  have hlx5 := hlx4.fr hfL hne
  (have y0 := hb5.cell 0; have y1 := hb5.cell 1; have y2 := hb5.cell 2; have y3 := hb5.cell 3; have y4 := hb5.cell 4; have y5 := hb5.cell 5; have y6 := hb5.cell 6; have y7 := hb5.cell 7; have yf0 := hb5.frozen 0; have yf1 := hb5.frozen 1; have yf2 := hb5.frozen 2; have yf3 := hb5.frozen 3; have yf4 := hb5.frozen 4; have yf5 := hb5.frozen 5; have yf6 := hb5.frozen 6; have yf7 := hb5.frozen 7; simp only [List.getElem?_toArray, List.getElem?_cons_zero, List.getElem?_cons_succ] at y0 y1 y2 y3 y4 y5 y6 y7)
  go_wp2_with (first
    | (refine wpList_ldA ag_log rfl _ rfl ⟨w.heap.size, 0, none⟩ (logC H ⟨⟨life + 1, 1 - half, seq, life + 1⟩, seq, 0, false⟩) rfl rfl hlx5.all ?_)
    | (refine wpList_stA ag_log.info rfl _ _ rfl L 0 _ _ (logC H ⟨⟨life + 1, 1 - half, seq, life + 1⟩, seq, 0, false⟩) _ rfl rfl rfl rfl (by intro u hu; simp [logC] at hu; rcases hu with rfl | rfl | rfl | rfl | rfl | rfl | rfl | rfl <;> rfl) hb5 (Nat.le_refl 8) ?_; intro w6 hb6 hg6 hz6)
    | fail)
  rw [splice_all _ _ (by rfl)] at hb6
  have hf6 : Fr (fun b => b = L) w4 w6 := hfL.grown hg6 (fun q hq => by injection hq with hq; exact .inr hq.symm)
  go_ret
  exact ⟨rfl, hb6, (hd5.fr hf6 (fun b hX e => by rw [e] at hX; exact hX.elim (fun h => hL h.1) (fun h => by omega))).mono (fun b _ hb => hb.elim .inl (fun h => .inr (by omega))), (hF4.mono (T := fun b => X b ∨ b = L) (fun b _ hb => .inl hb)).trans hf6 (fun b _ hb => .inr hb)⟩
end Go.Proofs.YtannkgglgmbkdaaDoor
