/- ring: Room, Life, Seq, Append where it goes well. No condition but size. -/
import Derived.Test.YtannkgglgmbkdaaDoorNOpen
import Derived.Test.YtannkgglgmbkdaaDoorNSectors
namespace Go.Proofs.YtannkgglgmbkdaaDoor
set_option linter.unusedVariables false
set_option linter.unusedSimpArgs false
open Go.RowKit

theorem plain_pdisk : ∀ w, (isAgg 26).run Tryd.prog w = .ok false w := plain_of Tryd.underlying26 rfl
theorem LogAt.lit {w : World} {L H : Nat} {l : LogM} (h : LogAt w L H l) : Blk w L 71 #[.pointer (some ⟨H, 0, none⟩), .int .i64 l.h.life, .int .i64 l.h.half, .int .i64 l.h.first, .int .i64 l.h.since, .int .i64 l.seq, .int .i64 (l.at_ : Int), .bool l.bad] := h
theorem sectorsM_recN {n : Nat} (h1 : 1 ≤ n) (h2 : n ≤ 60000) : sectorsM (n : Int) = (recN n : Int) := by
  rw [(sectorsM_in (n := (n : Int)) (by omega) (by omega)).2]
  unfold recN
  omega
theorem seq_calls (w : World) (L H : Nat) (l : LogM) (h : LogAt w L H l) : Calls Tryd.prog 16 #[.pointer (some ⟨L, 0, none⟩)] w fun e w' => e = .returned (.int .i64 l.seq) ∧ w' = w := by
  have hb := h.lit
  (have y0 := hb.cell 0; have y1 := hb.cell 1; have y2 := hb.cell 2; have y3 := hb.cell 3; have y4 := hb.cell 4; have y5 := hb.cell 5; have y6 := hb.cell 6; have y7 := hb.cell 7; have yf0 := hb.frozen 0; have yf1 := hb.frozen 1; have yf2 := hb.frozen 2; have yf3 := hb.frozen 3; have yf4 := hb.frozen 4; have yf5 := hb.frozen 5; have yf6 := hb.frozen 6; have yf7 := hb.frozen 7; simp only [List.getElem?_toArray, List.getElem?_cons_zero, List.getElem?_cons_succ] at y0 y1 y2 y3 y4 y5 y6 y7)
  go_enter Tryd.func16, Tryd.ntmps16
  go_wp2
  go_ret
  exact ⟨rfl, rfl⟩
theorem life_calls (w : World) (L H : Nat) (l : LogM) (h : LogAt w L H l) : Calls Tryd.prog 20 #[.pointer (some ⟨L, 0, none⟩)] w fun e w' => e = .returned (.int .i64 l.h.life) ∧ w' = w := by
  have hb := h.lit
  (have y0 := hb.cell 0; have y1 := hb.cell 1; have y2 := hb.cell 2; have y3 := hb.cell 3; have y4 := hb.cell 4; have y5 := hb.cell 5; have y6 := hb.cell 6; have y7 := hb.cell 7; have yf0 := hb.frozen 0; have yf1 := hb.frozen 1; have yf2 := hb.frozen 2; have yf3 := hb.frozen 3; have yf4 := hb.frozen 4; have yf5 := hb.frozen 5; have yf6 := hb.frozen 6; have yf7 := hb.frozen 7; simp only [List.getElem?_toArray, List.getElem?_cons_zero, List.getElem?_cons_succ] at y0 y1 y2 y3 y4 y5 y6 y7)
  go_enter Tryd.func20, Tryd.ntmps20
  go_wp2
  go_ret
  exact ⟨rfl, rfl⟩
set_option maxRecDepth 100000 in
theorem room_calls (w : World) (X : Nat → Prop) (L H : Nat) (l : LogM) (d : DiskM) (h : LogAt w L H l) (hd : DiskAt w X H d) (h4 : 4 ≤ d.now.length) (hat : l.at_ ≤ halfN d.now.length) :
    Calls Tryd.prog 17 #[.pointer (some ⟨L, 0, none⟩)] w fun e w' => e = .returned (.int .i64 ((halfN d.now.length - l.at_ : Nat) : Int)) ∧ Fr No w w' := by
  have g2 := plain_int
  have g4 := plain_pdisk
  have hb := h.lit
  have hmax : d.now.length ≤ 4096 := by obtain ⟨gs, cs, gn, cn, A, c, hP⟩ := hd; exact hP.2.2.2.2.2.2.2.2.1
  have hhf : ∀ w', Fr No w w' → Calls Tryd.prog 35 #[.pointer (some ⟨H, 0, none⟩)] w' fun e w'' => e = .returned (.int .i64 (halfN d.now.length : Nat)) ∧ w'' = w' := fun w' hf => half_calls w' X H d (hd.fr0 hf) (by omega) hmax
  have HR := Lib.hid (show ((halfN d.now.length - l.at_ : Nat) : Int) = (halfN d.now.length : Int) - l.at_ by omega)
  have hr1 : -9223372036854775808 ≤ (halfN d.now.length : Int) - l.at_ := by omega
  have hr2 : (halfN d.now.length : Int) - l.at_ ≤ 9223372036854775807 := by unfold halfN at *; omega
  generalize halfN d.now.length = hn at *
  (have y0 := hb.cell 0; have y1 := hb.cell 1; have y2 := hb.cell 2; have y3 := hb.cell 3; have y4 := hb.cell 4; have y5 := hb.cell 5; have y6 := hb.cell 6; have y7 := hb.cell 7; have yf0 := hb.frozen 0; have yf1 := hb.frozen 1; have yf2 := hb.frozen 2; have yf3 := hb.frozen 3; have yf4 := hb.frozen 4; have yf5 := hb.frozen 5; have yf6 := hb.frozen 6; have yf7 := hb.frozen 7; simp only [List.getElem?_toArray, List.getElem?_cons_zero, List.getElem?_cons_succ] at y0 y1 y2 y3 y4 y5 y6 y7)
  go_enter Tryd.func17, Tryd.ntmps17
  go_wp2_with fail
  (refine T_begin No [0, 1, 2, 3, 5, 6, 7, 8, 4, 9, 10] [4] (by kernel_rfl) (by kernel_rfl) ?_; simp only [pickOps, List.filterMap_cons, List.filterMap_nil, List.getElem?_cons_zero, List.getElem?_cons_succ, Act.put])
  repeat (first | (refine T_skip (by rfl) (by rfl) (fun _ _ _ h => h) ?_; try simp only [Act.put, List.setIfInBounds_toArray, List.set_cons_zero, List.set_cons_succ]) | (refine T_pass (by rfl) (by rfl) ?_; try simp only [Act.put, List.setIfInBounds_toArray, List.set_cons_zero, List.set_cons_succ]) | (refine T_load (by assumption) (by rfl) (by rfl) (fun _ _ _ _ h => h) rfl rfl (by assumption) (by first | exact (fun hn => hn) | assumption) ?_; try simp only [Act.put, List.setIfInBounds_toArray, List.set_cons_zero, List.set_cons_succ]) | (refine T_nil (by rfl) (by rfl) (fun _ _ _ _ h => h) rfl rfl ?_; try simp only [Act.put, List.setIfInBounds_toArray, List.set_cons_zero, List.set_cons_succ]) | (refine T_quietN (by rfl) (by rfl) (by rfl) (by rfl) (fun _ _ _ _ h => h) (fun K hK => ?_); go_big_quiet_op; refine hK _ ?_; clear hK K) | (refine T_two (by rfl) (by rfl) (by rfl) (by rfl) (fun _ _ _ _ h => h) (fun K hK => ?_); go_big_quiet_op; refine ⟨_, fun _ _ => rfl, ?_⟩; refine hK _ ?_; clear hK K; try simp only [Act.put, List.setIfInBounds_toArray, List.set_cons_zero, List.set_cons_succ]) | fail)
  (refine T_call (by rfl) (by rfl) (fun K hK => ?_); go_wp2_with fail)
  refine (hhf _ ((Fr.refl No w).drew)).mono ?_
  rintro e w2 ⟨rfl, hw2⟩
  replace hw2 := hw2.symm
  subst hw2
  go_wp2_with fail
  (refine hK.out _ _ ((Fr.refl _ _)) ?_; clear hK K; try simp only [Act.put, List.setIfInBounds_toArray, List.set_cons_zero, List.set_cons_succ])
  repeat (first | (refine T_skip (by rfl) (by rfl) (fun _ _ _ h => h) ?_; try simp only [Act.put, List.setIfInBounds_toArray, List.set_cons_zero, List.set_cons_succ]) | (refine T_pass (by rfl) (by rfl) ?_; try simp only [Act.put, List.setIfInBounds_toArray, List.set_cons_zero, List.set_cons_succ]) | (refine T_load (by assumption) (by rfl) (by rfl) (fun _ _ _ _ h => h) rfl rfl (by assumption) (by first | exact (fun hn => hn) | assumption) ?_; try simp only [Act.put, List.setIfInBounds_toArray, List.set_cons_zero, List.set_cons_succ]) | (refine T_nil (by rfl) (by rfl) (fun _ _ _ _ h => h) rfl rfl ?_; try simp only [Act.put, List.setIfInBounds_toArray, List.set_cons_zero, List.set_cons_succ]) | (refine T_quietN (by rfl) (by rfl) (by rfl) (by rfl) (fun _ _ _ _ h => h) (fun K hK => ?_); go_big_quiet_op; refine hK _ ?_; clear hK K) | (refine T_two (by rfl) (by rfl) (by rfl) (by rfl) (fun _ _ _ _ h => h) (fun K hK => ?_); go_big_quiet_op; refine ⟨_, fun _ _ => rfl, ?_⟩; refine hK _ ?_; clear hK K; try simp only [Act.put, List.setIfInBounds_toArray, List.set_cons_zero, List.set_cons_succ]) | fail)
  refine T_done ?_
  go_wp2_with fail
  go_ret
  exact ⟨by rw [HR.out]; rfl, (Fr.refl No w).drew⟩
set_option maxHeartbeats 8000000 in
set_option maxRecDepth 100000 in
theorem append_calls (w : World) (X : Nat → Prop) (L H : Nat) (l : LogM) (d d' : DiskM) (A : Option Addr) (c : Nat) (rec : List UInt8) (half : Nat) (hlg : LogAt w L H l) (hbad : l.bad = false) (hL : ¬ X L) (hd : DiskAt w X H d) (h4 : 4 ≤ d.now.length)
    (hhalf : l.h.half = (half : Int)) (hh1 : half ≤ 1) (hr : RdB w (fun _ => True) A rec) (hr1 : 1 ≤ rec.length) (hr2 : rec.length ≤ 60000) (hc : rec.length ≤ c) (hcm : c ≤ maxLen) (hroom : l.at_ + recN rec.length ≤ halfN d.now.length)
    (hseq : 1 ≤ l.seq ∧ l.seq < 1099511627776) (hway : d.way.length ≤ 50000) (hleft : d.left ≤ 1000000) (hs : safelyM d (2 + half * halfN d.now.length + l.at_) (recB l.h.life l.seq rec) = (d', true)) :
    Calls Tryd.prog 18 #[.pointer (some ⟨L, 0, none⟩), .slice A rec.length c] w fun e w' => e = .returned (.int .i64 0) ∧ LogAt w' L H { l with seq := l.seq + 1, at_ := l.at_ + recN rec.length } ∧
      DiskAt w' (fun b => (X b ∧ b < w.heap.size) ∨ w.heap.size ≤ b) H d' ∧ Fr (fun b => X b ∨ b = L) w w' := by
  have g1 : ∀ w, (isAgg 2).run Tryd.prog w = .ok false w := plain_of Tryd.underlying2 rfl
  have g2 := plain_int
  have g4 := plain_pdisk
  have g5 := plain_bool
  have hmax : d.now.length ≤ 4096 := by obtain ⟨gs, cs, gn, cn, A, c, hP⟩ := hd; exact hP.2.2.2.2.2.2.2.2.1
  have hhn : halfN d.now.length ≤ 2047 := by unfold halfN; omega
  have hat2 : l.at_ ≤ 2047 := by omega
  have hrn1 : 1 ≤ recN rec.length := by unfold recN; omega
  have hX1 : DiskAt w (fun b => X b ∧ b < w.heap.size) H d := hd.mono (fun b hb hx => ⟨hx, hb⟩)
  have hst : ∀ w', Fr No w w' → Calls Tryd.prog 34 #[.pointer (some ⟨H, 0, none⟩), .int .i64 (half : Int)] w' fun e w'' => e = .returned (.int .i64 (2 + half * halfN d.now.length : Nat)) ∧ w'' = w' := fun w' hf => start_calls w' X H d half (hd.fr0 hf) (by omega) hmax hh1
  have hsec : ∀ w', Calls Tryd.prog 9 #[.int .i64 (rec.length : Int)] w' fun e w'' => e = .returned (.int .i64 (recN rec.length : Int)) ∧ w'' = w' := fun w' => by
    have := sectors_calls (rec.length : Int) w'
    rw [sectorsM_recN hr1 hr2] at this
    exact this
  have hrm := room_calls w X L H l d hlg hd h4 (by omega)
  have hrecs : ∀ w', Fr No w w' → Calls Tryd.prog 38 #[.int .i64 l.h.life, .int .i64 l.seq, .slice A rec.length c] w' fun e w'' => ∃ v, e = .returned v ∧ w''.ownsRow w'.heap.size 5 1 v (recN rec.length * 128) (U8 (recB l.h.life l.seq rec).flatten) ∧ Fr No w' w'' := fun w' hf => by
    exact recs_calls w' _ _ A c rec ((Rd.fr0 hr hf).mono (fun b hb _ => hb) (by decide)) hr2 hc hcm
  obtain ⟨PL, hPL⟩ : ∃ PL, PL = 2 + half * halfN d.now.length := ⟨_, rfl⟩
  have hh2 : half * halfN d.now.length ≤ 1 * halfN d.now.length := Nat.mul_le_mul_right _ hh1
  have hfit : PL + l.at_ + recN rec.length ≤ d.now.length := by
    unfold halfN at *
    rw [hPL]
    rcases Nat.lt_or_ge half 1 with h | h
    · obtain rfl : half = 0 := by omega
      omega
    · obtain rfl : half = 1 := by omega
      omega
  rw [← hPL] at hst hs
  have hPL2 : PL ≤ 4096 := by omega
  have hsafe : ∀ w' A' c', DiskAt w' (fun b => X b ∧ b < w.heap.size) H d → Rd w' (fun b => ¬ (X b ∧ b < w.heap.size)) 1 A' (recN rec.length * 128) (U8 (recB l.h.life l.seq rec).flatten) → recN rec.length * 128 ≤ c' → c' ≤ maxLen →
      Calls Tryd.prog 30 #[.pointer (some ⟨H, 0, none⟩), .int .i64 ((PL + l.at_ : Nat) : Int), .slice A' (recN rec.length * 128) c'] w' fun e w'' => e = .returned (.int .i64 0) ∧ Left w' (fun b => X b ∧ b < w.heap.size) (Wid (fun b => X b ∧ b < w.heap.size) w') H d' w'' := fun w' A' c' hd' hr' hc' hcm' => by
    have hbl := recB_len l.h.life l.seq rec
    have := safely_calls w' _ H d (PL + l.at_) (recB l.h.life l.seq rec) A' c' hd' (by rw [hbl]; exact hr') (recB_128 _ _ _) (by rw [hbl]; exact hc') hcm' (by rw [hbl]; exact hrn1) (by rw [hbl]; omega) hway hleft
    rw [hbl, hs] at this
    exact this
  have HAT := Lib.hid (show (PL : Int) + (l.at_ : Int) = ((PL + l.at_ : Nat) : Int) by omega)
  have hroom2 : recN rec.length ≤ halfN d.now.length - l.at_ := by omega
  have hb := hlg.lit
  have hbl2 : (U8 (recB l.h.life l.seq rec).flatten).length = recN rec.length * 128 := by rw [U8_length, flat_len (recB_128 _ _ _), recB_len]
  have HPL := Lib.hid hPL
  clear hPL hh2 hs hr
  generalize recN rec.length = rn at *
  generalize U8 (recB l.h.life l.seq rec).flatten = rv at *
  generalize halfN d.now.length - l.at_ = ro at *
  generalize halfN d.now.length = hn at *
  obtain ⟨⟨life, hf_, first, since⟩, seq, at_, bad⟩ := l
  simp only at hbad hhalf hseq hlg hb hrm hrecs hsafe HAT hfit hroom hat2 ⊢
  subst hbad hhalf
  obtain ⟨hs1, hs2⟩ := hseq
  have e0 : ((rn : Int) == 0) = false := by rw [beq_eq_false_iff_ne]; omega
  have e1 : decide ((ro : Int) < (rn : Int)) = false := by simp; omega
  have e2 : (seq == 1099511627776) = false := by rw [beq_eq_false_iff_ne]; omega
  have hLw := hb.lt
  (have y0 := hb.cell 0; have y1 := hb.cell 1; have y2 := hb.cell 2; have y3 := hb.cell 3; have y4 := hb.cell 4; have y5 := hb.cell 5; have y6 := hb.cell 6; have y7 := hb.cell 7; have yf0 := hb.frozen 0; have yf1 := hb.frozen 1; have yf2 := hb.frozen 2; have yf3 := hb.frozen 3; have yf4 := hb.frozen 4; have yf5 := hb.frozen 5; have yf6 := hb.frozen 6; have yf7 := hb.frozen 7; simp only [List.getElem?_toArray, List.getElem?_cons_zero, List.getElem?_cons_succ] at y0 y1 y2 y3 y4 y5 y6 y7)
  go_enter Tryd.func18, Tryd.ntmps18
  go_wp2_with fail
  refine (hsec _).mono ?_
  rintro e w1 ⟨rfl, hw1⟩
  replace hw1 := hw1.symm
  subst hw1
  go_wp2_with fail
  refine (hsec _).mono ?_
  rintro e w1 ⟨rfl, hw1⟩
  replace hw1 := hw1.symm
  subst hw1
  go_wp2_with fail
  refine hrm.mono ?_
  rintro e w1 ⟨rfl, hf1⟩
  have hb1 := hb.fr0 hf1
  clear y0 y1 y2 y3 y4 y5 y6 y7 yf0 yf1 yf2 yf3 yf4 yf5 yf6 yf7
  (have y0 := hb1.cell 0; have y1 := hb1.cell 1; have y2 := hb1.cell 2; have y3 := hb1.cell 3; have y4 := hb1.cell 4; have y5 := hb1.cell 5; have y6 := hb1.cell 6; have y7 := hb1.cell 7; have yf0 := hb1.frozen 0; have yf1 := hb1.frozen 1; have yf2 := hb1.frozen 2; have yf3 := hb1.frozen 3; have yf4 := hb1.frozen 4; have yf5 := hb1.frozen 5; have yf6 := hb1.frozen 6; have yf7 := hb1.frozen 7; simp only [List.getElem?_toArray, List.getElem?_cons_zero, List.getElem?_cons_succ] at y0 y1 y2 y3 y4 y5 y6 y7)
  go_wp2_with fail
  have hz1 := hf1.size
  have hns : ¬ ((X L ∧ L < w.heap.size) ∨ w1.heap.size ≤ L) := fun h => h.elim (fun h => hL h.1) (fun h => by omega)
  (refine T_begin (fun b => (X b ∧ b < w.heap.size) ∨ w1.heap.size ≤ b) [0, 1, 2, 3, 4, 5, 6, 7, 8, 9, 10, 11, 12, 14, 15, 16, 17, 19, 20, 21, 22, 23, 24, 25, 26, 27, 28, 13, 18, 29, 30, 31] [13, 29, 30] (by kernel_rfl) (by kernel_rfl) ?_; simp only [pickOps, List.filterMap_cons, List.filterMap_nil, List.getElem?_cons_zero, List.getElem?_cons_succ, Act.put])
  repeat (first | (refine T_skip (by rfl) (by rfl) (fun _ _ _ h => h) ?_; try simp only [Act.put, List.setIfInBounds_toArray, List.set_cons_zero, List.set_cons_succ]) | (refine T_pass (by rfl) (by rfl) ?_; try simp only [Act.put, List.setIfInBounds_toArray, List.set_cons_zero, List.set_cons_succ]) | (refine T_load (by assumption) (by rfl) (by rfl) (fun _ _ _ _ h => h) rfl rfl (by assumption) (by first | exact (fun hn => hn) | assumption) ?_; try simp only [Act.put, List.setIfInBounds_toArray, List.set_cons_zero, List.set_cons_succ]) | (refine T_nil (by rfl) (by rfl) (fun _ _ _ _ h => h) rfl rfl ?_; try simp only [Act.put, List.setIfInBounds_toArray, List.set_cons_zero, List.set_cons_succ]) | (refine T_quietN (by rfl) (by rfl) (by rfl) (by rfl) (fun _ _ _ _ h => h) (fun K hK => ?_); go_big_quiet_op; refine hK _ ?_; clear hK K) | (refine T_two (by rfl) (by rfl) (by rfl) (by rfl) (fun _ _ _ _ h => h) (fun K hK => ?_); go_big_quiet_op; refine ⟨_, fun _ _ => rfl, ?_⟩; refine hK _ ?_; clear hK K; try simp only [Act.put, List.setIfInBounds_toArray, List.set_cons_zero, List.set_cons_succ]) | fail)
  (refine T_call (by rfl) (by rfl) (fun K hK => ?_); go_wp2_with fail)
  refine (hst _ (hf1.drew)).mono ?_
  rintro e w2 ⟨rfl, hw2⟩
  replace hw2 := hw2.symm
  subst hw2
  go_wp2_with fail
  (refine hK.out _ _ ((Fr.refl _ _)) ?_; clear hK K; try simp only [Act.put, List.setIfInBounds_toArray, List.set_cons_zero, List.set_cons_succ])
  repeat (first | (refine T_skip (by rfl) (by rfl) (fun _ _ _ h => h) ?_; try simp only [Act.put, List.setIfInBounds_toArray, List.set_cons_zero, List.set_cons_succ]) | (refine T_pass (by rfl) (by rfl) ?_; try simp only [Act.put, List.setIfInBounds_toArray, List.set_cons_zero, List.set_cons_succ]) | (refine T_load (by assumption) (by rfl) (by rfl) (fun _ _ _ _ h => h) rfl rfl (by assumption) (by first | exact (fun hn => hn) | assumption) ?_; try simp only [Act.put, List.setIfInBounds_toArray, List.set_cons_zero, List.set_cons_succ]) | (refine T_nil (by rfl) (by rfl) (fun _ _ _ _ h => h) rfl rfl ?_; try simp only [Act.put, List.setIfInBounds_toArray, List.set_cons_zero, List.set_cons_succ]) | (refine T_quietN (by rfl) (by rfl) (by rfl) (by rfl) (fun _ _ _ _ h => h) (fun K hK => ?_); go_big_quiet_op; refine hK _ ?_; clear hK K) | (refine T_two (by rfl) (by rfl) (by rfl) (by rfl) (fun _ _ _ _ h => h) (fun K hK => ?_); go_big_quiet_op; refine ⟨_, fun _ _ => rfl, ?_⟩; refine hK _ ?_; clear hK K; try simp only [Act.put, List.setIfInBounds_toArray, List.set_cons_zero, List.set_cons_succ]) | fail)
  try rw [HAT.out]
  (refine T_call (by rfl) (by rfl) (fun K hK => ?_); go_wp2_with fail)
  refine (hrecs _ (hf1.drew)).mono ?_
  rintro e w3 ⟨v, rfl, hown3, hf3⟩
  obtain ⟨A3, c3, rfl, hc3, hc3m, hA3⟩ := own_form hown3
  go_wp2_with fail
  (refine hK.out _ _ ((hf3.mono (fun _ _ hn => hn.elim))) ?_; clear hK K; try simp only [Act.put, List.setIfInBounds_toArray, List.set_cons_zero, List.set_cons_succ])
  have hF3 := hf1.drew.tr hf3
  have hrn5 : rn * 128 ≤ 524288 := by omega
  have hrd3 : Rd w3 (fun b => ¬ (X b ∧ b < w.heap.size)) 1 A3 (rn * 128) rv := (own_rd hown3 (by omega)).mono (fun b hb hx hh => by
    have h1 := (hown3.lt b (by rcases A3 with _ | ad; cases hx; injection hx with hx; exact congrArg some hx)).1
    have h2 : w1.heap.size ≤ b := h1
    have := hh.2
    omega) (by decide)
  (refine T_call (by rfl) (by rfl) (fun K hK => ?_); go_wp2_with fail)
  refine (hsafe _ _ _ (hX1.fr0 hF3) hrd3 hc3 hc3m).mono ?_
  rintro e w4 ⟨rfl, hd4, hf4⟩
  go_wp2_with fail
  (refine hK.out _ _ ((hf4.mono (fun _ _ hb => .inl hb))) ?_; clear hK K; try simp only [Act.put, List.setIfInBounds_toArray, List.set_cons_zero, List.set_cons_succ])
  repeat (first | (refine T_skip (by rfl) (by rfl) (fun _ _ _ h => h) ?_; try simp only [Act.put, List.setIfInBounds_toArray, List.set_cons_zero, List.set_cons_succ]) | (refine T_pass (by rfl) (by rfl) ?_; try simp only [Act.put, List.setIfInBounds_toArray, List.set_cons_zero, List.set_cons_succ]) | (refine T_load (by assumption) (by rfl) (by rfl) (fun _ _ _ _ h => h) rfl rfl (by assumption) (by first | exact (fun hn => hn) | assumption) ?_; try simp only [Act.put, List.setIfInBounds_toArray, List.set_cons_zero, List.set_cons_succ]) | (refine T_nil (by rfl) (by rfl) (fun _ _ _ _ h => h) rfl rfl ?_; try simp only [Act.put, List.setIfInBounds_toArray, List.set_cons_zero, List.set_cons_succ]) | (refine T_quietN (by rfl) (by rfl) (by rfl) (by rfl) (fun _ _ _ _ h => h) (fun K hK => ?_); go_big_quiet_op; refine hK _ ?_; clear hK K) | (refine T_two (by rfl) (by rfl) (by rfl) (by rfl) (fun _ _ _ _ h => h) (fun K hK => ?_); go_big_quiet_op; refine ⟨_, fun _ _ => rfl, ?_⟩; refine hK _ ?_; clear hK K; try simp only [Act.put, List.setIfInBounds_toArray, List.set_cons_zero, List.set_cons_succ]) | fail)
  refine T_done ?_
  have hlg4 := (hb1.drew.fr0 hf3).fr hf4 (fun h => hL h.1)
  have hF4 : Fr X w w4 := (hF3.mono (T := X) (fun _ _ hn => hn.elim)).trans hf4 (fun b _ hb => hb.1)
  have hd5 : DiskAt w4 (fun b => (X b ∧ b < w.heap.size) ∨ w.heap.size ≤ b) H d' := hd4.mono (fun b _ hb => hb.elim .inl (fun h => .inr (Nat.le_trans hF3.size h)))
  clear y0 y1 y2 y3 y4 y5 y6 y7 yf0 yf1 yf2 yf3 yf4 yf5 yf6 yf7 hb1 hown3 hrd3 hf3 hf4 hd4 hsafe hrecs hst hrm hA3
  (have y0 := hlg4.cell 0; have y1 := hlg4.cell 1; have y2 := hlg4.cell 2; have y3 := hlg4.cell 3; have y4 := hlg4.cell 4; have y5 := hlg4.cell 5; have y6 := hlg4.cell 6; have y7 := hlg4.cell 7; have yf0 := hlg4.frozen 0; have yf1 := hlg4.frozen 1; have yf2 := hlg4.frozen 2; have yf3 := hlg4.frozen 3; have yf4 := hlg4.frozen 4; have yf5 := hlg4.frozen 5; have yf6 := hlg4.frozen 6; have yf7 := hlg4.frozen 7; simp only [List.getElem?_toArray, List.getElem?_cons_zero, List.getElem?_cons_succ] at y0 y1 y2 y3 y4 y5 y6 y7)
  go_upto_region 11 with fail
  have hlg5 : Blk (w4.setCell ⟨L, 7, none⟩ (.bool false)) L 71 #[.pointer (some ⟨H, 0, none⟩), .int .i64 life, .int .i64 (half : Int), .int .i64 first, .int .i64 since, .int .i64 seq, .int .i64 (at_ : Int), .bool false] := hlg4.put 7 _
  have hfL : Fr (fun b => b = L) w4 (w4.setCell ⟨L, 7, none⟩ (.bool false)) := (Fr.refl (fun b => b = L) w4).set (p := ⟨L, 7, none⟩) (.inr rfl) _
  clear y0 y1 y2 y3 y4 y5 y6 y7 yf0 yf1 yf2 yf3 yf4 yf5 yf6 yf7 hlg4
  generalize w4.setCell ⟨L, 7, none⟩ (.bool false) = w5 at *
  (have y0 := hlg5.cell 0; have y1 := hlg5.cell 1; have y2 := hlg5.cell 2; have y3 := hlg5.cell 3; have y4 := hlg5.cell 4; have y5 := hlg5.cell 5; have y6 := hlg5.cell 6; have y7 := hlg5.cell 7; have yf0 := hlg5.frozen 0; have yf1 := hlg5.frozen 1; have yf2 := hlg5.frozen 2; have yf3 := hlg5.frozen 3; have yf4 := hlg5.frozen 4; have yf5 := hlg5.frozen 5; have yf6 := hlg5.frozen 6; have yf7 := hlg5.frozen 7; simp only [List.getElem?_toArray, List.getElem?_cons_zero, List.getElem?_cons_succ] at y0 y1 y2 y3 y4 y5 y6 y7)
  go_wp2_with fail
  have HAR := Lib.hid (show (at_ : Int) + (rn : Int) = ((at_ + rn : Nat) : Int) by omega)
  refine T_begin2 No [10] [0, 1, 2, 3, 4, 5, 6, 7, 8, 9, 10] [6, 10] (by kernel_rfl) (by kernel_rfl) ?_
  simp only [pickOps, List.filterMap_cons, List.filterMap_nil, List.getElem?_cons_zero, List.getElem?_cons_succ, Act.put]
  have hlg5d := hlg5.drew
  have hfLd := hfL.drew
  clear y0 y1 y2 y3 y4 y5 y6 y7 yf0 yf1 yf2 yf3 yf4 yf5 yf6 yf7 hlg5 hfL
  generalize w5.drew = w6 at *
  (have y0 := hlg5d.cell 0; have y1 := hlg5d.cell 1; have y2 := hlg5d.cell 2; have y3 := hlg5d.cell 3; have y4 := hlg5d.cell 4; have y5 := hlg5d.cell 5; have y6 := hlg5d.cell 6; have y7 := hlg5d.cell 7; have yf0 := hlg5d.frozen 0; have yf1 := hlg5d.frozen 1; have yf2 := hlg5d.frozen 2; have yf3 := hlg5d.frozen 3; have yf4 := hlg5d.frozen 4; have yf5 := hlg5d.frozen 5; have yf6 := hlg5d.frozen 6; have yf7 := hlg5d.frozen 7; simp only [List.getElem?_toArray, List.getElem?_cons_zero, List.getElem?_cons_succ] at y0 y1 y2 y3 y4 y5 y6 y7)
  repeat (first | (refine T_skip (by rfl) (by rfl) (fun _ _ _ h => h) ?_; try simp only [Act.put, List.setIfInBounds_toArray, List.set_cons_zero, List.set_cons_succ]) | (refine T_pass (by rfl) (by rfl) ?_; try simp only [Act.put, List.setIfInBounds_toArray, List.set_cons_zero, List.set_cons_succ]) | (refine T_load (by assumption) (by rfl) (by rfl) (fun _ _ _ _ h => h) rfl rfl (by assumption) (by first | exact (fun hn => hn) | assumption) ?_; try simp only [Act.put, List.setIfInBounds_toArray, List.set_cons_zero, List.set_cons_succ]) | (refine T_nil (by rfl) (by rfl) (fun _ _ _ _ h => h) rfl rfl ?_; try simp only [Act.put, List.setIfInBounds_toArray, List.set_cons_zero, List.set_cons_succ]) | (refine T_quietN (by rfl) (by rfl) (by rfl) (by rfl) (fun _ _ _ _ h => h) (fun K hK => ?_); go_big_quiet_op; refine hK _ ?_; clear hK K) | (refine T_two (by rfl) (by rfl) (by rfl) (by rfl) (fun _ _ _ _ h => h) (fun K hK => ?_); go_big_quiet_op; refine ⟨_, fun _ _ => rfl, ?_⟩; refine hK _ ?_; clear hK K; try simp only [Act.put, List.setIfInBounds_toArray, List.set_cons_zero, List.set_cons_succ]) | fail)
  (refine T_call (by rfl) (by rfl) (fun K hK => ?_); go_wp2_with fail)
  refine (hsec _).mono ?_
  rintro e w7 ⟨rfl, hw7⟩
  replace hw7 := hw7.symm
  subst hw7
  go_wp2_with fail
  (refine hK.out _ _ ((Fr.refl _ _)) ?_; clear hK K; try simp only [Act.put, List.setIfInBounds_toArray, List.set_cons_zero, List.set_cons_succ])
  repeat (first | (refine T_skip (by rfl) (by rfl) (fun _ _ _ h => h) ?_; try simp only [Act.put, List.setIfInBounds_toArray, List.set_cons_zero, List.set_cons_succ]) | (refine T_pass (by rfl) (by rfl) ?_; try simp only [Act.put, List.setIfInBounds_toArray, List.set_cons_zero, List.set_cons_succ]) | (refine T_load (by assumption) (by rfl) (by rfl) (fun _ _ _ _ h => h) rfl rfl (by assumption) (by first | exact (fun hn => hn) | assumption) ?_; try simp only [Act.put, List.setIfInBounds_toArray, List.set_cons_zero, List.set_cons_succ]) | (refine T_nil (by rfl) (by rfl) (fun _ _ _ _ h => h) rfl rfl ?_; try simp only [Act.put, List.setIfInBounds_toArray, List.set_cons_zero, List.set_cons_succ]) | (refine T_quietN (by rfl) (by rfl) (by rfl) (by rfl) (fun _ _ _ _ h => h) (fun K hK => ?_); go_big_quiet_op; refine hK _ ?_; clear hK K) | (refine T_two (by rfl) (by rfl) (by rfl) (by rfl) (fun _ _ _ _ h => h) (fun K hK => ?_); go_big_quiet_op; refine ⟨_, fun _ _ => rfl, ?_⟩; refine hK _ ?_; clear hK K; try simp only [Act.put, List.setIfInBounds_toArray, List.set_cons_zero, List.set_cons_succ]) | fail)
  refine T_turn No [] (by rfl) (by rfl) (by rfl) (fun K hK => ?_)
  go_wp2_with fail
  refine hK.out _ _ ?_
  clear hK K
  try simp only [Act.put, List.setIfInBounds_toArray, List.set_cons_zero, List.set_cons_succ]
  refine T_done ?_
  have hlg7 : Blk (w6.setCell ⟨L, 6, none⟩ (.int .i64 ((at_ : Int) + (rn : Int)))) L 71 #[.pointer (some ⟨H, 0, none⟩), .int .i64 life, .int .i64 (half : Int), .int .i64 first, .int .i64 since, .int .i64 seq, .int .i64 ((at_ : Int) + (rn : Int)), .bool false] := hlg5d.put 6 _
  have hfL7 : Fr (fun b => b = L) w4 (w6.setCell ⟨L, 6, none⟩ (.int .i64 ((at_ : Int) + (rn : Int)))) := hfLd.set (p := ⟨L, 6, none⟩) (.inr rfl) _
  clear y0 y1 y2 y3 y4 y5 y6 y7 yf0 yf1 yf2 yf3 yf4 yf5 yf6 yf7 hlg5d hfLd
  generalize w6.setCell ⟨L, 6, none⟩ (.int .i64 ((at_ : Int) + (rn : Int))) = w8 at *
  (have y0 := hlg7.cell 0; have y1 := hlg7.cell 1; have y2 := hlg7.cell 2; have y3 := hlg7.cell 3; have y4 := hlg7.cell 4; have y5 := hlg7.cell 5; have y6 := hlg7.cell 6; have y7 := hlg7.cell 7; have yf0 := hlg7.frozen 0; have yf1 := hlg7.frozen 1; have yf2 := hlg7.frozen 2; have yf3 := hlg7.frozen 3; have yf4 := hlg7.frozen 4; have yf5 := hlg7.frozen 5; have yf6 := hlg7.frozen 6; have yf7 := hlg7.frozen 7; simp only [List.getElem?_toArray, List.getElem?_cons_zero, List.getElem?_cons_succ] at y0 y1 y2 y3 y4 y5 y6 y7)
  have hq1 : seq + 1 ≤ 9223372036854775807 := by omega
  go_wp2_with fail
  have hlg9 : Blk (w8.setCell ⟨L, 5, none⟩ (.int .i64 (seq + 1))) L 71 #[.pointer (some ⟨H, 0, none⟩), .int .i64 life, .int .i64 (half : Int), .int .i64 first, .int .i64 since, .int .i64 (seq + 1), .int .i64 ((at_ : Int) + (rn : Int)), .bool false] := hlg7.put 5 _
  have hfL9 : Fr (fun b => b = L) w4 (w8.setCell ⟨L, 5, none⟩ (.int .i64 (seq + 1))) := hfL7.set (p := ⟨L, 5, none⟩) (.inr rfl) _
  rw [HAR.out] at hlg9
  go_ret
  exact ⟨rfl, hlg9, hd5.fr hfL9 (fun b hX e => by rw [e] at hX; exact hX.elim (fun h => hL h.1) (fun h => by omega)), (hF4.mono (T := fun b => X b ∨ b = L) (fun b _ hb => .inl hb)).trans hfL9 (fun b _ hb => .inr hb)⟩
end Go.Proofs.YtannkgglgmbkdaaDoor
