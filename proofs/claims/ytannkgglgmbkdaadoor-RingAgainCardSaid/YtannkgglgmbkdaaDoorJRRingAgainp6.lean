/- ring: Room, Life, Seq, Append where it goes well. No condition but size. ring: Append that finds no room, Rewrite by no records. No condition but size. law04.text; devices that do not fail. No condition but size. ring: plain facts: a head's sector tells the head; what known does. No condition. ring: a record's sectors tell the record; plain. No condition. law04's device, known. No condition. ring: a device that was formatted, and opened: plain and in memory. No condition. ring: records that were placed one behind the other are told by Open; plain. No condition. ring: what stands behind the records ends them; plain. No condition. ring: records and what stands behind them; a crash behind a write that fails; plain. No condition. -/
import Derived.Test.YtannkgglgmbkdaaDoorJRRingAgainp5
import Derived.Test.YtannkgglgmbkdaaDoorJRRingAgainp1
import Derived.Lib.SlBytesConst
namespace Go.Proofs.YtannkgglgmbkdaaDoor
set_option linter.unusedVariables false
set_option linter.unusedSimpArgs false
open Go.RowKit

theorem plain_pdisk : ∀ w, (isAgg 26).run Tryd.prog w = .ok false w := plain_of Tryd.underlying26 rfl
theorem LogAt.lit {w : World} {L H : Nat} {l : LogM} (h : LogAt w L H l) : Blk w L 71 #[.pointer (some ⟨H, 0, none⟩), .int .i64 l.h.life, .int .i64 l.h.half, .int .i64 l.h.first, .int .i64 l.h.since, .int .i64 l.seq, .int .i64 (l.at_ : Int), .bool l.bad] := h
theorem sectorsM_recN {n : Nat} (h1 : 1 ≤ n) (h2 : n ≤ 60000) : sectorsM (n : Int) = (recN n : Int) := by
  rw [(sectorsM_in (n := (n : Int)) (by omega) (by omega)).2]
  unfold recN
  omega
theorem seq_calls (w : World) (L H : Nat) (l : LogM) (h : LogAt w L H l) : Calls Tryd.prog 16 #[.pointer (some ⟨L, 0, none⟩)] w fun e w' => e = .returned (.int .i64 l.seq) ∧ w' = w := by
  have hb := h.lit
  (have y0 := hb.cell 0; have y1 := hb.cell 1; have y2 := hb.cell 2; have y3 := hb.cell 3; have y4 := hb.cell 4; have y5 := hb.cell 5; have y6 := hb.cell 6; have y7 := hb.cell 7; have yf0 := hb.frozen 0; have yf1 := hb.frozen 1; have yf2 := hb.frozen 2; have yf3 := hb.frozen 3; have yf4 := hb.frozen 4; have yf5 := hb.frozen 5; have yf6 := hb.frozen 6; have yf7 := hb.frozen 7; simp only [List.getElem?_toArray, List.getElem?_cons_zero, List.getElem?_cons_succ] at y0 y1 y2 y3 y4 y5 y6 y7)
  go_enter Tryd.func16, Tryd.ntmps16
  go_wp2
  go_ret
  exact ⟨rfl, rfl⟩
theorem life_calls (w : World) (L H : Nat) (l : LogM) (h : LogAt w L H l) : Calls Tryd.prog 20 #[.pointer (some ⟨L, 0, none⟩)] w fun e w' => e = .returned (.int .i64 l.h.life) ∧ w' = w := by
  have hb := h.lit
  (have y0 := hb.cell 0; have y1 := hb.cell 1; have y2 := hb.cell 2; have y3 := hb.cell 3; have y4 := hb.cell 4; have y5 := hb.cell 5; have y6 := hb.cell 6; have y7 := hb.cell 7; have yf0 := hb.frozen 0; have yf1 := hb.frozen 1; have yf2 := hb.frozen 2; have yf3 := hb.frozen 3; have yf4 := hb.frozen 4; have yf5 := hb.frozen 5; have yf6 := hb.frozen 6; have yf7 := hb.frozen 7; simp only [List.getElem?_toArray, List.getElem?_cons_zero, List.getElem?_cons_succ] at y0 y1 y2 y3 y4 y5 y6 y7)
  go_enter Tryd.func20, Tryd.ntmps20
  go_wp2
  go_ret
  exact ⟨rfl, rfl⟩
set_option maxRecDepth 100000 in
theorem room_calls (w : World) (X : Nat → Prop) (L H : Nat) (l : LogM) (d : DiskM) (h : LogAt w L H l) (hd : DiskAt w X H d) (h4 : 4 ≤ d.now.length) (hat : l.at_ ≤ halfN d.now.length) :
    Calls Tryd.prog 17 #[.pointer (some ⟨L, 0, none⟩)] w fun e w' => e = .returned (.int .i64 ((halfN d.now.length - l.at_ : Nat) : Int)) ∧ Fr No w w' := by
  have g2 := plain_int
  have g4 := plain_pdisk
  have hb := h.lit
  have hmax : d.now.length ≤ 4096 := by obtain ⟨gs, cs, gn, cn, A, c, hP⟩ := hd; exact hP.2.2.2.2.2.2.2.2.1
  have hhf : ∀ w', Fr No w w' → Calls Tryd.prog 35 #[.pointer (some ⟨H, 0, none⟩)] w' fun e w'' => e = .returned (.int .i64 (halfN d.now.length : Nat)) ∧ w'' = w' := fun w' hf => half_calls w' X H d (hd.fr0 hf) (by omega) hmax
  have HR := Lib.hid (show ((halfN d.now.length - l.at_ : Nat) : Int) = (halfN d.now.length : Int) - l.at_ by omega)
  have hr1 : -9223372036854775808 ≤ (halfN d.now.length : Int) - l.at_ := by omega
  have hr2 : (halfN d.now.length : Int) - l.at_ ≤ 9223372036854775807 := by unfold halfN at *; omega
  generalize halfN d.now.length = hn at *
  (have y0 := hb.cell 0; have y1 := hb.cell 1; have y2 := hb.cell 2; have y3 := hb.cell 3; have y4 := hb.cell 4; have y5 := hb.cell 5; have y6 := hb.cell 6; have y7 := hb.cell 7; have yf0 := hb.frozen 0; have yf1 := hb.frozen 1; have yf2 := hb.frozen 2; have yf3 := hb.frozen 3; have yf4 := hb.frozen 4; have yf5 := hb.frozen 5; have yf6 := hb.frozen 6; have yf7 := hb.frozen 7; simp only [List.getElem?_toArray, List.getElem?_cons_zero, List.getElem?_cons_succ] at y0 y1 y2 y3 y4 y5 y6 y7)
  go_enter Tryd.func17, Tryd.ntmps17
  go_wp2_with fail
  (refine T_begin No [0, 1, 2, 3, 5, 6, 7, 8, 4, 9, 10] [4] (by kernel_rfl) (by kernel_rfl) ?_; simp only [pickOps, List.filterMap_cons, List.filterMap_nil, List.getElem?_cons_zero, List.getElem?_cons_succ, Act.put])
  repeat (first | (refine T_skip (by rfl) (by rfl) (fun _ _ _ h => h) ?_; try simp only [Act.put, List.setIfInBounds_toArray, List.set_cons_zero, List.set_cons_succ]) | (refine T_pass (by rfl) (by rfl) ?_; try simp only [Act.put, List.setIfInBounds_toArray, List.set_cons_zero, List.set_cons_succ]) | (refine T_load (by assumption) (by rfl) (by rfl) (fun _ _ _ _ h => h) rfl rfl (by assumption) (by first | exact (fun hn => hn) | assumption) ?_; try simp only [Act.put, List.setIfInBounds_toArray, List.set_cons_zero, List.set_cons_succ]) | (refine T_nil (by rfl) (by rfl) (fun _ _ _ _ h => h) rfl rfl ?_; try simp only [Act.put, List.setIfInBounds_toArray, List.set_cons_zero, List.set_cons_succ]) | (refine T_quietN (by rfl) (by rfl) (by rfl) (by rfl) (fun _ _ _ _ h => h) (fun K hK => ?_); go_big_quiet_op; refine hK _ ?_; clear hK K) | (refine T_two (by rfl) (by rfl) (by rfl) (by rfl) (fun _ _ _ _ h => h) (fun K hK => ?_); go_big_quiet_op; refine ⟨_, fun _ _ => rfl, ?_⟩; refine hK _ ?_; clear hK K; try simp only [Act.put, List.setIfInBounds_toArray, List.set_cons_zero, List.set_cons_succ]) | fail)
  (refine T_call (by rfl) (by rfl) (fun K hK => ?_); go_wp2_with fail)
  refine (hhf _ ((Fr.refl No w).drew)).mono ?_
  rintro e w2 ⟨rfl, hw2⟩
  replace hw2 := hw2.symm
  subst hw2
  go_wp2_with fail
  (refine hK.out _ _ ((Fr.refl _ _)) ?_; clear hK K; try simp only [Act.put, List.setIfInBounds_toArray, List.set_cons_zero, List.set_cons_succ])
  repeat (first | (refine T_skip (by rfl) (by rfl) (fun _ _ _ h => h) ?_; try simp only [Act.put, List.setIfInBounds_toArray, List.set_cons_zero, List.set_cons_succ]) | (refine T_pass (by rfl) (by rfl) ?_; try simp only [Act.put, List.setIfInBounds_toArray, List.set_cons_zero, List.set_cons_succ]) | (refine T_load (by assumption) (by rfl) (by rfl) (fun _ _ _ _ h => h) rfl rfl (by assumption) (by first | exact (fun hn => hn) | assumption) ?_; try simp only [Act.put, List.setIfInBounds_toArray, List.set_cons_zero, List.set_cons_succ]) | (refine T_nil (by rfl) (by rfl) (fun _ _ _ _ h => h) rfl rfl ?_; try simp only [Act.put, List.setIfInBounds_toArray, List.set_cons_zero, List.set_cons_succ]) | (refine T_quietN (by rfl) (by rfl) (by rfl) (by rfl) (fun _ _ _ _ h => h) (fun K hK => ?_); go_big_quiet_op; refine hK _ ?_; clear hK K) | (refine T_two (by rfl) (by rfl) (by rfl) (by rfl) (fun _ _ _ _ h => h) (fun K hK => ?_); go_big_quiet_op; refine ⟨_, fun _ _ => rfl, ?_⟩; refine hK _ ?_; clear hK K; try simp only [Act.put, List.setIfInBounds_toArray, List.set_cons_zero, List.set_cons_succ]) | fail)
  refine T_done ?_
  go_wp2_with fail
  go_ret
  exact ⟨by rw [HR.out]; rfl, (Fr.refl No w).drew⟩
set_option maxHeartbeats 8000000 in
set_option maxRecDepth 100000 in
theorem append_calls (w : World) (X : Nat → Prop) (L H : Nat) (l : LogM) (d d' : DiskM) (A : Option Addr) (c : Nat) (rec : List UInt8) (half : Nat) (hlg : LogAt w L H l) (hbad : l.bad = false) (hL : ¬ X L) (hd : DiskAt w X H d) (h4 : 4 ≤ d.now.length)
    (hhalf : l.h.half = (half : Int)) (hh1 : half ≤ 1) (hr : RdB w (fun _ => True) A rec) (hr1 : 1 ≤ rec.length) (hr2 : rec.length ≤ 60000) (hc : rec.length ≤ c) (hcm : c ≤ maxLen) (hroom : l.at_ + recN rec.length ≤ halfN d.now.length)
    (hseq : 1 ≤ l.seq ∧ l.seq < 1099511627776) (hway : d.way.length ≤ 50000) (hleft : d.left ≤ 1000000) (hs : safelyM d (2 + half * halfN d.now.length + l.at_) (recB l.h.life l.seq rec) = (d', true)) :
    Calls Tryd.prog 18 #[.pointer (some ⟨L, 0, none⟩), .slice A rec.length c] w fun e w' => e = .returned (.int .i64 0) ∧ LogAt w' L H { l with seq := l.seq + 1, at_ := l.at_ + recN rec.length } ∧
      DiskAt w' (fun b => (X b ∧ b < w.heap.size) ∨ w.heap.size ≤ b) H d' ∧ Fr (fun b => X b ∨ b = L) w w' := by
  have g1 : ∀ w, (isAgg 2).run Tryd.prog w = .ok false w := plain_of Tryd.underlying2 rfl
  have g2 := plain_int
  have g4 := plain_pdisk
  have g5 := plain_bool
  have hmax : d.now.length ≤ 4096 := by obtain ⟨gs, cs, gn, cn, A, c, hP⟩ := hd; exact hP.2.2.2.2.2.2.2.2.1
  have hhn : halfN d.now.length ≤ 2047 := by unfold halfN; omega
  have hat2 : l.at_ ≤ 2047 := by omega
  have hrn1 : 1 ≤ recN rec.length := by unfold recN; omega
  have hX1 : DiskAt w (fun b => X b ∧ b < w.heap.size) H d := hd.mono (fun b hb hx => ⟨hx, hb⟩)
  have hst : ∀ w', Fr No w w' → Calls Tryd.prog 34 #[.pointer (some ⟨H, 0, none⟩), .int .i64 (half : Int)] w' fun e w'' => e = .returned (.int .i64 (2 + half * halfN d.now.length : Nat)) ∧ w'' = w' := fun w' hf => start_calls w' X H d half (hd.fr0 hf) (by omega) hmax hh1
  have hsec : ∀ w', Calls Tryd.prog 9 #[.int .i64 (rec.length : Int)] w' fun e w'' => e = .returned (.int .i64 (recN rec.length : Int)) ∧ w'' = w' := fun w' => by
    have := sectors_calls (rec.length : Int) w'
    rw [sectorsM_recN hr1 hr2] at this
    exact this
  have hrm := room_calls w X L H l d hlg hd h4 (by omega)
  have hrecs : ∀ w', Fr No w w' → Calls Tryd.prog 38 #[.int .i64 l.h.life, .int .i64 l.seq, .slice A rec.length c] w' fun e w'' => ∃ v, e = .returned v ∧ w''.ownsRow w'.heap.size 5 1 v (recN rec.length * 128) (U8 (recB l.h.life l.seq rec).flatten) ∧ Fr No w' w'' := fun w' hf => by
    exact recs_calls w' _ _ A c rec ((Rd.fr0 hr hf).mono (fun b hb _ => hb) (by decide)) hr2 hc hcm
  obtain ⟨PL, hPL⟩ : ∃ PL, PL = 2 + half * halfN d.now.length := ⟨_, rfl⟩
  have hh2 : half * halfN d.now.length ≤ 1 * halfN d.now.length := Nat.mul_le_mul_right _ hh1
  have hfit : PL + l.at_ + recN rec.length ≤ d.now.length := by
    unfold halfN at *
    rw [hPL]
    rcases Nat.lt_or_ge half 1 with h | h
    · obtain rfl : half = 0 := by omega
      omega
    · obtain rfl : half = 1 := by omega
      omega
  rw [← hPL] at hst hs
  have hPL2 : PL ≤ 4096 := by omega
  have hsafe : ∀ w' A' c', DiskAt w' (fun b => X b ∧ b < w.heap.size) H d → Rd w' (fun b => ¬ (X b ∧ b < w.heap.size)) 1 A' (recN rec.length * 128) (U8 (recB l.h.life l.seq rec).flatten) → recN rec.length * 128 ≤ c' → c' ≤ maxLen →
      Calls Tryd.prog 30 #[.pointer (some ⟨H, 0, none⟩), .int .i64 ((PL + l.at_ : Nat) : Int), .slice A' (recN rec.length * 128) c'] w' fun e w'' => e = .returned (.int .i64 0) ∧ Left w' (fun b => X b ∧ b < w.heap.size) (Wid (fun b => X b ∧ b < w.heap.size) w') H d' w'' := fun w' A' c' hd' hr' hc' hcm' => by
    have hbl := recB_len l.h.life l.seq rec
    have := safely_calls w' _ H d (PL + l.at_) (recB l.h.life l.seq rec) A' c' hd' (by rw [hbl]; exact hr') (recB_128 _ _ _) (by rw [hbl]; exact hc') hcm' (by rw [hbl]; exact hrn1) (by rw [hbl]; omega) hway hleft
    rw [hbl, hs] at this
    exact this
  have HAT := Lib.hid (show (PL : Int) + (l.at_ : Int) = ((PL + l.at_ : Nat) : Int) by omega)
  have hroom2 : recN rec.length ≤ halfN d.now.length - l.at_ := by omega
  have hb := hlg.lit
  have hbl2 : (U8 (recB l.h.life l.seq rec).flatten).length = recN rec.length * 128 := by rw [U8_length, flat_len (recB_128 _ _ _), recB_len]
  have HPL := Lib.hid hPL
  clear hPL hh2 hs hr
  generalize recN rec.length = rn at *
  generalize U8 (recB l.h.life l.seq rec).flatten = rv at *
  generalize halfN d.now.length - l.at_ = ro at *
  generalize halfN d.now.length = hn at *
  obtain ⟨⟨life, hf_, first, since⟩, seq, at_, bad⟩ := l
  simp only at hbad hhalf hseq hlg hb hrm hrecs hsafe HAT hfit hroom hat2 ⊢
  subst hbad hhalf
  obtain ⟨hs1, hs2⟩ := hseq
  have e0 : ((rn : Int) == 0) = false := by rw [beq_eq_false_iff_ne]; omega
  have e1 : decide ((ro : Int) < (rn : Int)) = false := by simp; omega
  have e2 : (seq == 1099511627776) = false := by rw [beq_eq_false_iff_ne]; omega
  have hLw := hb.lt
  (have y0 := hb.cell 0; have y1 := hb.cell 1; have y2 := hb.cell 2; have y3 := hb.cell 3; have y4 := hb.cell 4; have y5 := hb.cell 5; have y6 := hb.cell 6; have y7 := hb.cell 7; have yf0 := hb.frozen 0; have yf1 := hb.frozen 1; have yf2 := hb.frozen 2; have yf3 := hb.frozen 3; have yf4 := hb.frozen 4; have yf5 := hb.frozen 5; have yf6 := hb.frozen 6; have yf7 := hb.frozen 7; simp only [List.getElem?_toArray, List.getElem?_cons_zero, List.getElem?_cons_succ] at y0 y1 y2 y3 y4 y5 y6 y7)
  go_enter Tryd.func18, Tryd.ntmps18
  go_wp2_with fail
  refine (hsec _).mono ?_
  rintro e w1 ⟨rfl, hw1⟩
  replace hw1 := hw1.symm
  subst hw1
  go_wp2_with fail
  refine (hsec _).mono ?_
  rintro e w1 ⟨rfl, hw1⟩
  replace hw1 := hw1.symm
  subst hw1
  go_wp2_with fail
  refine hrm.mono ?_
  rintro e w1 ⟨rfl, hf1⟩
  have hb1 := hb.fr0 hf1
  clear y0 y1 y2 y3 y4 y5 y6 y7 yf0 yf1 yf2 yf3 yf4 yf5 yf6 yf7
  (have y0 := hb1.cell 0; have y1 := hb1.cell 1; have y2 := hb1.cell 2; have y3 := hb1.cell 3; have y4 := hb1.cell 4; have y5 := hb1.cell 5; have y6 := hb1.cell 6; have y7 := hb1.cell 7; have yf0 := hb1.frozen 0; have yf1 := hb1.frozen 1; have yf2 := hb1.frozen 2; have yf3 := hb1.frozen 3; have yf4 := hb1.frozen 4; have yf5 := hb1.frozen 5; have yf6 := hb1.frozen 6; have yf7 := hb1.frozen 7; simp only [List.getElem?_toArray, List.getElem?_cons_zero, List.getElem?_cons_succ] at y0 y1 y2 y3 y4 y5 y6 y7)
  go_wp2_with fail
  have hz1 := hf1.size
  have hns : ¬ ((X L ∧ L < w.heap.size) ∨ w1.heap.size ≤ L) := fun h => h.elim (fun h => hL h.1) (fun h => by omega)
  (refine T_begin (fun b => (X b ∧ b < w.heap.size) ∨ w1.heap.size ≤ b) [0, 1, 2, 3, 4, 5, 6, 7, 8, 9, 10, 11, 12, 14, 15, 16, 17, 19, 20, 21, 22, 23, 24, 25, 26, 27, 28, 13, 18, 29, 30, 31] [13, 29, 30] (by kernel_rfl) (by kernel_rfl) ?_; simp only [pickOps, List.filterMap_cons, List.filterMap_nil, List.getElem?_cons_zero, List.getElem?_cons_succ, Act.put])
  repeat (first | (refine T_skip (by rfl) (by rfl) (fun _ _ _ h => h) ?_; try simp only [Act.put, List.setIfInBounds_toArray, List.set_cons_zero, List.set_cons_succ]) | (refine T_pass (by rfl) (by rfl) ?_; try simp only [Act.put, List.setIfInBounds_toArray, List.set_cons_zero, List.set_cons_succ]) | (refine T_load (by assumption) (by rfl) (by rfl) (fun _ _ _ _ h => h) rfl rfl (by assumption) (by first | exact (fun hn => hn) | assumption) ?_; try simp only [Act.put, List.setIfInBounds_toArray, List.set_cons_zero, List.set_cons_succ]) | (refine T_nil (by rfl) (by rfl) (fun _ _ _ _ h => h) rfl rfl ?_; try simp only [Act.put, List.setIfInBounds_toArray, List.set_cons_zero, List.set_cons_succ]) | (refine T_quietN (by rfl) (by rfl) (by rfl) (by rfl) (fun _ _ _ _ h => h) (fun K hK => ?_); go_big_quiet_op; refine hK _ ?_; clear hK K) | (refine T_two (by rfl) (by rfl) (by rfl) (by rfl) (fun _ _ _ _ h => h) (fun K hK => ?_); go_big_quiet_op; refine ⟨_, fun _ _ => rfl, ?_⟩; refine hK _ ?_; clear hK K; try simp only [Act.put, List.setIfInBounds_toArray, List.set_cons_zero, List.set_cons_succ]) | fail)
  (refine T_call (by rfl) (by rfl) (fun K hK => ?_); go_wp2_with fail)
  refine (hst _ (hf1.drew)).mono ?_
  rintro e w2 ⟨rfl, hw2⟩
  replace hw2 := hw2.symm
  subst hw2
  go_wp2_with fail
  (refine hK.out _ _ ((Fr.refl _ _)) ?_; clear hK K; try simp only [Act.put, List.setIfInBounds_toArray, List.set_cons_zero, List.set_cons_succ])
  repeat (first | (refine T_skip (by rfl) (by rfl) (fun _ _ _ h => h) ?_; try simp only [Act.put, List.setIfInBounds_toArray, List.set_cons_zero, List.set_cons_succ]) | (refine T_pass (by rfl) (by rfl) ?_; try simp only [Act.put, List.setIfInBounds_toArray, List.set_cons_zero, List.set_cons_succ]) | (refine T_load (by assumption) (by rfl) (by rfl) (fun _ _ _ _ h => h) rfl rfl (by assumption) (by first | exact (fun hn => hn) | assumption) ?_; try simp only [Act.put, List.setIfInBounds_toArray, List.set_cons_zero, List.set_cons_succ]) | (refine T_nil (by rfl) (by rfl) (fun _ _ _ _ h => h) rfl rfl ?_; try simp only [Act.put, List.setIfInBounds_toArray, List.set_cons_zero, List.set_cons_succ]) | (refine T_quietN (by rfl) (by rfl) (by rfl) (by rfl) (fun _ _ _ _ h => h) (fun K hK => ?_); go_big_quiet_op; refine hK _ ?_; clear hK K) | (refine T_two (by rfl) (by rfl) (by rfl) (by rfl) (fun _ _ _ _ h => h) (fun K hK => ?_); go_big_quiet_op; refine ⟨_, fun _ _ => rfl, ?_⟩; refine hK _ ?_; clear hK K; try simp only [Act.put, List.setIfInBounds_toArray, List.set_cons_zero, List.set_cons_succ]) | fail)
  try rw [HAT.out]
  (refine T_call (by rfl) (by rfl) (fun K hK => ?_); go_wp2_with fail)
  refine (hrecs _ (hf1.drew)).mono ?_
  rintro e w3 ⟨v, rfl, hown3, hf3⟩
  obtain ⟨A3, c3, rfl, hc3, hc3m, hA3⟩ := own_form hown3
  go_wp2_with fail
  (refine hK.out _ _ ((hf3.mono (fun _ _ hn => hn.elim))) ?_; clear hK K; try simp only [Act.put, List.setIfInBounds_toArray, List.set_cons_zero, List.set_cons_succ])
  have hF3 := hf1.drew.tr hf3
  have hrn5 : rn * 128 ≤ 524288 := by omega
  have hrd3 : Rd w3 (fun b => ¬ (X b ∧ b < w.heap.size)) 1 A3 (rn * 128) rv := (own_rd hown3 (by omega)).mono (fun b hb hx hh => by
    have h1 := (hown3.lt b (by rcases A3 with _ | ad; cases hx; injection hx with hx; exact congrArg some hx)).1
    have h2 : w1.heap.size ≤ b := h1
    have := hh.2
    omega) (by decide)
  (refine T_call (by rfl) (by rfl) (fun K hK => ?_); go_wp2_with fail)
  refine (hsafe _ _ _ (hX1.fr0 hF3) hrd3 hc3 hc3m).mono ?_
  rintro e w4 ⟨rfl, hd4, hf4⟩
  go_wp2_with fail
  (refine hK.out _ _ ((hf4.mono (fun _ _ hb => .inl hb))) ?_; clear hK K; try simp only [Act.put, List.setIfInBounds_toArray, List.set_cons_zero, List.set_cons_succ])
  repeat (first | (refine T_skip (by rfl) (by rfl) (fun _ _ _ h => h) ?_; try simp only [Act.put, List.setIfInBounds_toArray, List.set_cons_zero, List.set_cons_succ]) | (refine T_pass (by rfl) (by rfl) ?_; try simp only [Act.put, List.setIfInBounds_toArray, List.set_cons_zero, List.set_cons_succ]) | (refine T_load (by assumption) (by rfl) (by rfl) (fun _ _ _ _ h => h) rfl rfl (by assumption) (by first | exact (fun hn => hn) | assumption) ?_; try simp only [Act.put, List.setIfInBounds_toArray, List.set_cons_zero, List.set_cons_succ]) | (refine T_nil (by rfl) (by rfl) (fun _ _ _ _ h => h) rfl rfl ?_; try simp only [Act.put, List.setIfInBounds_toArray, List.set_cons_zero, List.set_cons_succ]) | (refine T_quietN (by rfl) (by rfl) (by rfl) (by rfl) (fun _ _ _ _ h => h) (fun K hK => ?_); go_big_quiet_op; refine hK _ ?_; clear hK K) | (refine T_two (by rfl) (by rfl) (by rfl) (by rfl) (fun _ _ _ _ h => h) (fun K hK => ?_); go_big_quiet_op; refine ⟨_, fun _ _ => rfl, ?_⟩; refine hK _ ?_; clear hK K; try simp only [Act.put, List.setIfInBounds_toArray, List.set_cons_zero, List.set_cons_succ]) | fail)
  refine T_done ?_
  have hlg4 := (hb1.drew.fr0 hf3).fr hf4 (fun h => hL h.1)
  have hF4 : Fr X w w4 := (hF3.mono (T := X) (fun _ _ hn => hn.elim)).trans hf4 (fun b _ hb => hb.1)
  have hd5 : DiskAt w4 (fun b => (X b ∧ b < w.heap.size) ∨ w.heap.size ≤ b) H d' := hd4.mono (fun b _ hb => hb.elim .inl (fun h => .inr (Nat.le_trans hF3.size h)))
  clear y0 y1 y2 y3 y4 y5 y6 y7 yf0 yf1 yf2 yf3 yf4 yf5 yf6 yf7 hb1 hown3 hrd3 hf3 hf4 hd4 hsafe hrecs hst hrm hA3
  (have y0 := hlg4.cell 0; have y1 := hlg4.cell 1; have y2 := hlg4.cell 2; have y3 := hlg4.cell 3; have y4 := hlg4.cell 4; have y5 := hlg4.cell 5; have y6 := hlg4.cell 6; have y7 := hlg4.cell 7; have yf0 := hlg4.frozen 0; have yf1 := hlg4.frozen 1; have yf2 := hlg4.frozen 2; have yf3 := hlg4.frozen 3; have yf4 := hlg4.frozen 4; have yf5 := hlg4.frozen 5; have yf6 := hlg4.frozen 6; have yf7 := hlg4.frozen 7; simp only [List.getElem?_toArray, List.getElem?_cons_zero, List.getElem?_cons_succ] at y0 y1 y2 y3 y4 y5 y6 y7)
  go_upto_region 11 with fail
  have hlg5 : Blk (w4.setCell ⟨L, 7, none⟩ (.bool false)) L 71 #[.pointer (some ⟨H, 0, none⟩), .int .i64 life, .int .i64 (half : Int), .int .i64 first, .int .i64 since, .int .i64 seq, .int .i64 (at_ : Int), .bool false] := hlg4.put 7 _
  have hfL : Fr (fun b => b = L) w4 (w4.setCell ⟨L, 7, none⟩ (.bool false)) := (Fr.refl (fun b => b = L) w4).set (p := ⟨L, 7, none⟩) (.inr rfl) _
  clear y0 y1 y2 y3 y4 y5 y6 y7 yf0 yf1 yf2 yf3 yf4 yf5 yf6 yf7 hlg4
  generalize w4.setCell ⟨L, 7, none⟩ (.bool false) = w5 at *
  (have y0 := hlg5.cell 0; have y1 := hlg5.cell 1; have y2 := hlg5.cell 2; have y3 := hlg5.cell 3; have y4 := hlg5.cell 4; have y5 := hlg5.cell 5; have y6 := hlg5.cell 6; have y7 := hlg5.cell 7; have yf0 := hlg5.frozen 0; have yf1 := hlg5.frozen 1; have yf2 := hlg5.frozen 2; have yf3 := hlg5.frozen 3; have yf4 := hlg5.frozen 4; have yf5 := hlg5.frozen 5; have yf6 := hlg5.frozen 6; have yf7 := hlg5.frozen 7; simp only [List.getElem?_toArray, List.getElem?_cons_zero, List.getElem?_cons_succ] at y0 y1 y2 y3 y4 y5 y6 y7)
  go_wp2_with fail
  have HAR := Lib.hid (show (at_ : Int) + (rn : Int) = ((at_ + rn : Nat) : Int) by omega)
  refine T_begin2 No [10] [0, 1, 2, 3, 4, 5, 6, 7, 8, 9, 10] [6, 10] (by kernel_rfl) (by kernel_rfl) ?_
  simp only [pickOps, List.filterMap_cons, List.filterMap_nil, List.getElem?_cons_zero, List.getElem?_cons_succ, Act.put]
  have hlg5d := hlg5.drew
  have hfLd := hfL.drew
  clear y0 y1 y2 y3 y4 y5 y6 y7 yf0 yf1 yf2 yf3 yf4 yf5 yf6 yf7 hlg5 hfL
  generalize w5.drew = w6 at *
  (have y0 := hlg5d.cell 0; have y1 := hlg5d.cell 1; have y2 := hlg5d.cell 2; have y3 := hlg5d.cell 3; have y4 := hlg5d.cell 4; have y5 := hlg5d.cell 5; have y6 := hlg5d.cell 6; have y7 := hlg5d.cell 7; have yf0 := hlg5d.frozen 0; have yf1 := hlg5d.frozen 1; have yf2 := hlg5d.frozen 2; have yf3 := hlg5d.frozen 3; have yf4 := hlg5d.frozen 4; have yf5 := hlg5d.frozen 5; have yf6 := hlg5d.frozen 6; have yf7 := hlg5d.frozen 7; simp only [List.getElem?_toArray, List.getElem?_cons_zero, List.getElem?_cons_succ] at y0 y1 y2 y3 y4 y5 y6 y7)
  repeat (first | (refine T_skip (by rfl) (by rfl) (fun _ _ _ h => h) ?_; try simp only [Act.put, List.setIfInBounds_toArray, List.set_cons_zero, List.set_cons_succ]) | (refine T_pass (by rfl) (by rfl) ?_; try simp only [Act.put, List.setIfInBounds_toArray, List.set_cons_zero, List.set_cons_succ]) | (refine T_load (by assumption) (by rfl) (by rfl) (fun _ _ _ _ h => h) rfl rfl (by assumption) (by first | exact (fun hn => hn) | assumption) ?_; try simp only [Act.put, List.setIfInBounds_toArray, List.set_cons_zero, List.set_cons_succ]) | (refine T_nil (by rfl) (by rfl) (fun _ _ _ _ h => h) rfl rfl ?_; try simp only [Act.put, List.setIfInBounds_toArray, List.set_cons_zero, List.set_cons_succ]) | (refine T_quietN (by rfl) (by rfl) (by rfl) (by rfl) (fun _ _ _ _ h => h) (fun K hK => ?_); go_big_quiet_op; refine hK _ ?_; clear hK K) | (refine T_two (by rfl) (by rfl) (by rfl) (by rfl) (fun _ _ _ _ h => h) (fun K hK => ?_); go_big_quiet_op; refine ⟨_, fun _ _ => rfl, ?_⟩; refine hK _ ?_; clear hK K; try simp only [Act.put, List.setIfInBounds_toArray, List.set_cons_zero, List.set_cons_succ]) | fail)
  (refine T_call (by rfl) (by rfl) (fun K hK => ?_); go_wp2_with fail)
  refine (hsec _).mono ?_
  rintro e w7 ⟨rfl, hw7⟩
  replace hw7 := hw7.symm
  subst hw7
  go_wp2_with fail
  (refine hK.out _ _ ((Fr.refl _ _)) ?_; clear hK K; try simp only [Act.put, List.setIfInBounds_toArray, List.set_cons_zero, List.set_cons_succ])
  repeat (first | (refine T_skip (by rfl) (by rfl) (fun _ _ _ h => h) ?_; try simp only [Act.put, List.setIfInBounds_toArray, List.set_cons_zero, List.set_cons_succ]) | (refine T_pass (by rfl) (by rfl) ?_; try simp only [Act.put, List.setIfInBounds_toArray, List.set_cons_zero, List.set_cons_succ]) | (refine T_load (by assumption) (by rfl) (by rfl) (fun _ _ _ _ h => h) rfl rfl (by assumption) (by first | exact (fun hn => hn) | assumption) ?_; try simp only [Act.put, List.setIfInBounds_toArray, List.set_cons_zero, List.set_cons_succ]) | (refine T_nil (by rfl) (by rfl) (fun _ _ _ _ h => h) rfl rfl ?_; try simp only [Act.put, List.setIfInBounds_toArray, List.set_cons_zero, List.set_cons_succ]) | (refine T_quietN (by rfl) (by rfl) (by rfl) (by rfl) (fun _ _ _ _ h => h) (fun K hK => ?_); go_big_quiet_op; refine hK _ ?_; clear hK K) | (refine T_two (by rfl) (by rfl) (by rfl) (by rfl) (fun _ _ _ _ h => h) (fun K hK => ?_); go_big_quiet_op; refine ⟨_, fun _ _ => rfl, ?_⟩; refine hK _ ?_; clear hK K; try simp only [Act.put, List.setIfInBounds_toArray, List.set_cons_zero, List.set_cons_succ]) | fail)
  refine T_turn No [] (by rfl) (by rfl) (by rfl) (fun K hK => ?_)
  go_wp2_with fail
  refine hK.out _ _ ?_
  clear hK K
  try simp only [Act.put, List.setIfInBounds_toArray, List.set_cons_zero, List.set_cons_succ]
  refine T_done ?_
  have hlg7 : Blk (w6.setCell ⟨L, 6, none⟩ (.int .i64 ((at_ : Int) + (rn : Int)))) L 71 #[.pointer (some ⟨H, 0, none⟩), .int .i64 life, .int .i64 (half : Int), .int .i64 first, .int .i64 since, .int .i64 seq, .int .i64 ((at_ : Int) + (rn : Int)), .bool false] := hlg5d.put 6 _
  have hfL7 : Fr (fun b => b = L) w4 (w6.setCell ⟨L, 6, none⟩ (.int .i64 ((at_ : Int) + (rn : Int)))) := hfLd.set (p := ⟨L, 6, none⟩) (.inr rfl) _
  clear y0 y1 y2 y3 y4 y5 y6 y7 yf0 yf1 yf2 yf3 yf4 yf5 yf6 yf7 hlg5d hfLd
  generalize w6.setCell ⟨L, 6, none⟩ (.int .i64 ((at_ : Int) + (rn : Int))) = w8 at *
  (have y0 := hlg7.cell 0; have y1 := hlg7.cell 1; have y2 := hlg7.cell 2; have y3 := hlg7.cell 3; have y4 := hlg7.cell 4; have y5 := hlg7.cell 5; have y6 := hlg7.cell 6; have y7 := hlg7.cell 7; have yf0 := hlg7.frozen 0; have yf1 := hlg7.frozen 1; have yf2 := hlg7.frozen 2; have yf3 := hlg7.frozen 3; have yf4 := hlg7.frozen 4; have yf5 := hlg7.frozen 5; have yf6 := hlg7.frozen 6; have yf7 := hlg7.frozen 7; simp only [List.getElem?_toArray, List.getElem?_cons_zero, List.getElem?_cons_succ] at y0 y1 y2 y3 y4 y5 y6 y7)
  have hq1 : seq + 1 ≤ 9223372036854775807 := by omega
  go_wp2_with fail
  have hlg9 : Blk (w8.setCell ⟨L, 5, none⟩ (.int .i64 (seq + 1))) L 71 #[.pointer (some ⟨H, 0, none⟩), .int .i64 life, .int .i64 (half : Int), .int .i64 first, .int .i64 since, .int .i64 (seq + 1), .int .i64 ((at_ : Int) + (rn : Int)), .bool false] := hlg7.put 5 _
  have hfL9 : Fr (fun b => b = L) w4 (w8.setCell ⟨L, 5, none⟩ (.int .i64 (seq + 1))) := hfL7.set (p := ⟨L, 5, none⟩) (.inr rfl) _
  rw [HAR.out] at hlg9
  go_ret
  exact ⟨rfl, hlg9, hd5.fr hfL9 (fun b hX e => by rw [e] at hX; exact hX.elim (fun h => hL h.1) (fun h => by omega)), (hF4.mono (T := fun b => X b ∨ b = L) (fun b _ hb => .inl hb)).trans hfL9 (fun b _ hb => .inr hb)⟩
end Go.Proofs.YtannkgglgmbkdaaDoor
namespace Go.Proofs.YtannkgglgmbkdaaDoor
set_option linter.unusedVariables false
set_option linter.unusedSimpArgs false
open Go.RowKit

theorem ag_log : AggOf Tryd.prog 71 8 := ⟨⟨_, Tryd.underlying71, rfl⟩, by kernel_rfl⟩
set_option maxRecDepth 100000 in
theorem append_full (w : World) (X : Nat → Prop) (L H : Nat) (l : LogM) (d : DiskM) (A : Option Addr) (c n : Nat) (hlg : LogAt w L H l) (hbad : l.bad = false) (hd : DiskAt w X H d) (h4 : 4 ≤ d.now.length)
    (hr1 : 1 ≤ n) (hr2 : n ≤ 60000) (hat : l.at_ ≤ halfN d.now.length) (hroom : halfN d.now.length < l.at_ + recN n) :
    Calls Tryd.prog 18 #[.pointer (some ⟨L, 0, none⟩), .slice A n c] w fun e w' => e = .returned (.int .i64 4) ∧ Fr No w w' := by
  have hsec : ∀ w', Calls Tryd.prog 9 #[.int .i64 (n : Int)] w' fun e w'' => e = .returned (.int .i64 (recN n : Int)) ∧ w'' = w' := fun w' => by
    have := sectors_calls (n : Int) w'
    rw [sectorsM_recN hr1 hr2] at this
    exact this
  have hrm := room_calls w X L H l d hlg hd h4 hat
  have hrn1 : 1 ≤ recN n := by unfold recN; omega
  have hroom2 : halfN d.now.length - l.at_ < recN n := by omega
  have hb := hlg.lit
  clear hroom hat
  generalize recN n = rn at *
  generalize halfN d.now.length - l.at_ = ro at *
  obtain ⟨⟨life, half, first, since⟩, seq, at_, bad⟩ := l
  simp only at hbad hb hrm ⊢
  subst hbad
  have e0 : ((rn : Int) == 0) = false := by rw [beq_eq_false_iff_ne]; omega
  have e1 : decide ((ro : Int) < (rn : Int)) = true := by simp; omega
  (have y0 := hb.cell 0; have y1 := hb.cell 1; have y2 := hb.cell 2; have y3 := hb.cell 3; have y4 := hb.cell 4; have y5 := hb.cell 5; have y6 := hb.cell 6; have y7 := hb.cell 7; have yf0 := hb.frozen 0; have yf1 := hb.frozen 1; have yf2 := hb.frozen 2; have yf3 := hb.frozen 3; have yf4 := hb.frozen 4; have yf5 := hb.frozen 5; have yf6 := hb.frozen 6; have yf7 := hb.frozen 7; simp only [List.getElem?_toArray, List.getElem?_cons_zero, List.getElem?_cons_succ] at y0 y1 y2 y3 y4 y5 y6 y7)
  go_enter Tryd.func18, Tryd.ntmps18
  go_wp2_with fail
  refine (hsec _).mono ?_
  rintro e w1 ⟨rfl, hw1⟩
  replace hw1 := hw1.symm
  subst hw1
  go_wp2_with fail
  refine (hsec _).mono ?_
  rintro e w1 ⟨rfl, hw1⟩
  replace hw1 := hw1.symm
  subst hw1
  go_wp2_with fail
  refine hrm.mono ?_
  rintro e w1 ⟨rfl, hf1⟩
  go_wp2_with fail
  go_ret
  exact ⟨rfl, hf1⟩
theorem sum_nil (w : World) : Calls Tryd.prog 39 #[.slice none 0 0] w fun e w' => e = .returned (.tuple #[.int .i64 0, .bool true]) ∧ w' = w := by
  go_enter Tryd.func39, Tryd.ntmps39
  go_wp2_with fail
  go_loopw [4, 10] (fun s4 i wr => s4 = .int .i64 0 ∧ i = .int .i64 0 ∧ wr = w) (fun _ _ _ => 0)
  case atStart => exact ⟨rfl, rfl, rfl⟩
  case round =>
    obtain ⟨rfl, rfl, rfl⟩ := hrel
    go_wp2
    go_ret2
    exact ⟨rfl, rfl⟩
set_option maxRecDepth 100000 in
set_option maxHeartbeats 4000000 in
theorem all_nil (w : World) (X : Nat → Prop) (L H : Nat) (l : LogM) (d d' : DiskM) (hlg : LogAt w L H l) (hL : ¬ X L) (hd : DiskAt w X H d) (h4 : 4 ≤ d.now.length) (hdead : d.dead = false) (hlife : 0 ≤ l.h.life) (hleft : d.left ≤ 1000000) (hlay : layM { d with safe := d.now, way := [] } l.h = (d', true)) :
    Calls Tryd.prog 40 #[.pointer (some ⟨L, 0, none⟩), .slice none 0 0] w fun e w' => e = .returned (.int .i64 0) ∧ DiskAt w' (fun b => (X b ∧ b < w.heap.size) ∨ w.heap.size ≤ b) H d' ∧ Fr X w w' := by
  have g1 : ∀ w, (isAgg 2).run Tryd.prog w = .ok false w := plain_of Tryd.underlying2 rfl
  have g2 := plain_int
  have g4 := plain_pdisk
  have hX1 : DiskAt w (fun b => X b ∧ b < w.heap.size) H d := hd.mono (fun b hb hx => ⟨hx, hb⟩)
  have hly : ∀ w' Y, DiskAt w' Y H { d with safe := d.now, way := [] } → Calls Tryd.prog 37 #[.pointer (some ⟨H, 0, none⟩), headV l.h] w' fun e w'' => e = .returned (.int .i64 0) ∧ Left w' Y (Wid Y w') H d' w'' := fun w' Y hdy => by
    have := lay_calls w' Y H _ l.h hdy hlife (by show 2 ≤ d.now.length; omega) (by show ([] : List (Nat × Sec)).length ≤ 50000; simp) hleft
    rw [hlay] at this
    exact this
  have hfl := flush_calls w (fun b => X b ∧ b < w.heap.size) H d hX1 hdead
  have hb := hlg.lit
  have hLw := hb.lt
  unfold headV at hly
  obtain ⟨⟨life, half, first, since⟩, seq, at_, bad⟩ := l
  simp only at hb hly ⊢
  (have y0 := hb.cell 0; have y1 := hb.cell 1; have y2 := hb.cell 2; have y3 := hb.cell 3; have y4 := hb.cell 4; have y5 := hb.cell 5; have y6 := hb.cell 6; have y7 := hb.cell 7; have yf0 := hb.frozen 0; have yf1 := hb.frozen 1; have yf2 := hb.frozen 2; have yf3 := hb.frozen 3; have yf4 := hb.frozen 4; have yf5 := hb.frozen 5; have yf6 := hb.frozen 6; have yf7 := hb.frozen 7; simp only [List.getElem?_toArray, List.getElem?_cons_zero, List.getElem?_cons_succ] at y0 y1 y2 y3 y4 y5 y6 y7)
  go_enter Tryd.func40, Tryd.ntmps40
  go_upto_block 0 with fail
  go_cut [] (fun wx => wx = w)
  case first =>
    go_wp2_with fail
    go_loopw [11] (fun i wr => i = .int .i64 0 ∧ wr = w) (fun _ _ => 0)
    case atStart => exact ⟨rfl, rfl⟩
    case round =>
      obtain ⟨rfl, rfl⟩ := hrel
      go_wp2_with fail
      go_meet
      case rel => rfl
  case rest =>
    replace hcut := hcut.symm
    subst hcut
    go_wp2_with fail
    refine hfl.mono ?_
    rintro e w1 ⟨rfl, hd1, hf1⟩
    have hb1 := hb.fr hf1 (fun h => hL h.1)
    have hsz1 := hf1.size
    clear y0 y1 y2 y3 y4 y5 y6 y7 yf0 yf1 yf2 yf3 yf4 yf5 yf6 yf7
    (have y0 := hb1.cell 0; have y1 := hb1.cell 1; have y2 := hb1.cell 2; have y3 := hb1.cell 3; have y4 := hb1.cell 4; have y5 := hb1.cell 5; have y6 := hb1.cell 6; have y7 := hb1.cell 7; have yf0 := hb1.frozen 0; have yf1 := hb1.frozen 1; have yf2 := hb1.frozen 2; have yf3 := hb1.frozen 3; have yf4 := hb1.frozen 4; have yf5 := hb1.frozen 5; have yf6 := hb1.frozen 6; have yf7 := hb1.frozen 7; simp only [List.getElem?_toArray, List.getElem?_cons_zero, List.getElem?_cons_succ] at y0 y1 y2 y3 y4 y5 y6 y7)
    have hc1 := hb1.cells 1 [.int .i64 life, .int .i64 half, .int .i64 first, .int .i64 since] (fun j u hu => by
      rcases j with _ | _ | _ | _ | j
      · exact hu
      · exact hu
      · exact hu
      · exact hu
      · simp at hu)
    have hns : ¬ ((X L ∧ L < w.heap.size) ∨ w1.heap.size ≤ L) := fun h => h.elim (fun h => hL h.1) (fun h => by omega)
    go_wp2_with fail
    (refine T_begin (fun b => (X b ∧ b < w.heap.size) ∨ w1.heap.size ≤ b) [0, 1, 2, 3, 4, 5, 6, 7, 8, 9] [8] (by kernel_rfl) (by kernel_rfl) ?_; simp only [pickOps, List.filterMap_cons, List.filterMap_nil, List.getElem?_cons_zero, List.getElem?_cons_succ, Act.put])
    repeat (first | (refine T_skip (by rfl) (by rfl) (fun _ _ _ h => h) ?_; try simp only [Act.put, List.setIfInBounds_toArray, List.set_cons_zero, List.set_cons_succ]) | (refine T_pass (by rfl) (by rfl) ?_; try simp only [Act.put, List.setIfInBounds_toArray, List.set_cons_zero, List.set_cons_succ]) | (refine T_load (by assumption) (by rfl) (by rfl) (fun _ _ _ _ h => h) rfl rfl (by assumption) (by first | exact (fun hn => hn) | assumption) ?_; try simp only [Act.put, List.setIfInBounds_toArray, List.set_cons_zero, List.set_cons_succ]) | (refine T_nil (by rfl) (by rfl) (fun _ _ _ _ h => h) rfl rfl ?_; try simp only [Act.put, List.setIfInBounds_toArray, List.set_cons_zero, List.set_cons_succ]) | (refine T_quietN (by rfl) (by rfl) (by rfl) (by rfl) (fun _ _ _ _ h => h) (fun K hK => ?_); go_big_quiet_op; refine hK _ ?_; clear hK K) | (refine T_two (by rfl) (by rfl) (by rfl) (by rfl) (fun _ _ _ _ h => h) (fun K hK => ?_); go_big_quiet_op; refine ⟨_, fun _ _ => rfl, ?_⟩; refine hK _ ?_; clear hK K; try simp only [Act.put, List.setIfInBounds_toArray, List.set_cons_zero, List.set_cons_succ]) | fail)
    (refine T_loadA (cs := [.int .i64 life, .int .i64 half, .int .i64 first, .int .i64 since]) ag_head (by rfl) (by rfl) (fun _ _ _ _ h => h) rfl rfl rfl hc1 hns ?_; try simp only [Act.put, List.setIfInBounds_toArray, List.set_cons_zero, List.set_cons_succ])
    (refine T_call (by rfl) (by rfl) (fun K hK => ?_); go_wp2_with fail)
    refine (hly _ _ (hd1.fr0 (Fr.refl No w1).drew)).mono ?_
    rintro e w2 ⟨rfl, hd2, hf2⟩
    go_wp2_with fail
    (refine hK.out _ _ (hf2.mono (fun b _ hb => .inl hb)) ?_; clear hK K; try simp only [Act.put, List.setIfInBounds_toArray, List.set_cons_zero, List.set_cons_succ])
    repeat (first | (refine T_skip (by rfl) (by rfl) (fun _ _ _ h => h) ?_; try simp only [Act.put, List.setIfInBounds_toArray, List.set_cons_zero, List.set_cons_succ]) | (refine T_pass (by rfl) (by rfl) ?_; try simp only [Act.put, List.setIfInBounds_toArray, List.set_cons_zero, List.set_cons_succ]) | (refine T_load (by assumption) (by rfl) (by rfl) (fun _ _ _ _ h => h) rfl rfl (by assumption) (by first | exact (fun hn => hn) | assumption) ?_; try simp only [Act.put, List.setIfInBounds_toArray, List.set_cons_zero, List.set_cons_succ]) | (refine T_nil (by rfl) (by rfl) (fun _ _ _ _ h => h) rfl rfl ?_; try simp only [Act.put, List.setIfInBounds_toArray, List.set_cons_zero, List.set_cons_succ]) | (refine T_quietN (by rfl) (by rfl) (by rfl) (by rfl) (fun _ _ _ _ h => h) (fun K hK => ?_); go_big_quiet_op; refine hK _ ?_; clear hK K) | (refine T_two (by rfl) (by rfl) (by rfl) (by rfl) (fun _ _ _ _ h => h) (fun K hK => ?_); go_big_quiet_op; refine ⟨_, fun _ _ => rfl, ?_⟩; refine hK _ ?_; clear hK K; try simp only [Act.put, List.setIfInBounds_toArray, List.set_cons_zero, List.set_cons_succ]) | fail)
    refine T_done ?_
    go_wp2_with fail
    go_ret
    exact ⟨rfl, hd2.mono (fun b _ hb => hb.elim .inl (fun h => .inr (Nat.le_trans hsz1 h))), (hf1.mono (fun b _ hb => hb.1)).trans ((Fr.refl _ w1).drew.trans hf2 (fun _ _ hb => hb)) (fun b _ hb => hb.1)⟩
set_option maxRecDepth 100000 in
set_option maxHeartbeats 8000000 in
theorem rewrite_nil_ok (w : World) (X : Nat → Prop) (L H : Nat) (l : LogM) (d d' : DiskM) (hlg : LogAt w L H l) (hbad : l.bad = false) (hL : ¬ X L) (hd : DiskAt w X H d) (h4 : 4 ≤ d.now.length) (hdead : d.dead = false) (hlife : 1 ≤ l.h.life ∧ l.h.life < 1099511627776) (hhalf : 0 ≤ l.h.half ∧ l.h.half ≤ 1)
    (hseq : 1 ≤ l.seq ∧ l.seq ≤ 1099511627776) (hleft : d.left ≤ 1000000) (hlay : layM { d with safe := d.now, way := [] } ⟨l.h.life + 1, 1 - l.h.half, l.seq, l.h.life + 1⟩ = (d', true)) :
    Calls Tryd.prog 21 #[.pointer (some ⟨L, 0, none⟩), .slice none 0 0] w fun e w' => e = .returned (.int .i64 0) ∧ LogAt w' L H ⟨⟨l.h.life + 1, 1 - l.h.half, l.seq, l.h.life + 1⟩, l.seq, 0, false⟩ ∧
      DiskAt w' (fun b => (X b ∧ b < w.heap.size) ∨ w.heap.size ≤ b) H d' ∧ Fr (fun b => X b ∨ b = L) w w' := by
  have g1 : ∀ w, (isAgg 2).run Tryd.prog w = .ok false w := plain_of Tryd.underlying2 rfl
  have g2 := plain_int
  have g4 := plain_pdisk
  have hmax : d.now.length ≤ 4096 := by obtain ⟨gs, cs, gn, cn, A, c, hP⟩ := hd; exact hP.2.2.2.2.2.2.2.2.1
  have hX1 : DiskAt w (fun b => X b ∧ b < w.heap.size) H d := hd.mono (fun b hb hx => ⟨hx, hb⟩)
  have hhf := half_calls w X H d hd (by omega) hmax
  have hal : ∀ w' L', LogAt w' L' H ⟨⟨l.h.life + 1, 1 - l.h.half, l.seq, l.h.life + 1⟩, l.seq, 0, false⟩ → ¬ (X L' ∧ L' < w.heap.size) → DiskAt w' (fun b => X b ∧ b < w.heap.size) H d → Calls Tryd.prog 40 #[.pointer (some ⟨L', 0, none⟩), .slice none 0 0] w' fun e w'' => e = .returned (.int .i64 0) ∧
      DiskAt w'' (fun b => ((X b ∧ b < w.heap.size) ∧ b < w'.heap.size) ∨ w'.heap.size ≤ b) H d' ∧ Fr (fun b => X b ∧ b < w.heap.size) w' w'' := fun w' L' h1 h2 h3 =>
    all_nil w' _ L' H _ d d' h1 h2 h3 h4 hdead (by show 0 ≤ l.h.life + 1; omega) hleft hlay
  have hb := hlg.lit
  have hLw := hb.lt
  obtain ⟨⟨life, half, first, since⟩, seq, at_, bad⟩ := l
  simp only at hbad hlife hhalf hseq hb hal ⊢
  subst hbad
  obtain ⟨hl1, hl2⟩ := hlife
  obtain ⟨hs1, hs2⟩ := hseq
  obtain ⟨hh1, hh2⟩ := hhalf
  clear hlay hlg
  generalize (d.now.length - 2) / 2 = hn at *
  have e0 : decide ((hn : Int) < 0) = false := by simp
  have e1 : (life == 1099511627776) = false := by rw [beq_eq_false_iff_ne]; omega
  have e2 : decide (1099511627776 < seq) = false := by simp; omega
  have r1 : life + 1 ≤ 9223372036854775807 := by omega
  have r2 : -9223372036854775808 ≤ 1 - half := by omega
  have r3 : 1 - half ≤ 9223372036854775807 := by omega
  (have y0 := hb.cell 0; have y1 := hb.cell 1; have y2 := hb.cell 2; have y3 := hb.cell 3; have y4 := hb.cell 4; have y5 := hb.cell 5; have y6 := hb.cell 6; have y7 := hb.cell 7; have yf0 := hb.frozen 0; have yf1 := hb.frozen 1; have yf2 := hb.frozen 2; have yf3 := hb.frozen 3; have yf4 := hb.frozen 4; have yf5 := hb.frozen 5; have yf6 := hb.frozen 6; have yf7 := hb.frozen 7; simp only [List.getElem?_toArray, List.getElem?_cons_zero, List.getElem?_cons_succ] at y0 y1 y2 y3 y4 y5 y6 y7)
  go_enter Tryd.func21, Tryd.ntmps21
  go_wp2_with fail
  refine (sum_nil w).mono ?_
  rintro e w1 ⟨rfl, hw1⟩
  replace hw1 := hw1.symm
  subst hw1
  go_wp2_with fail
  refine hhf.mono ?_
  rintro e w1 ⟨rfl, hw1⟩
  replace hw1 := hw1.symm
  subst hw1
  go_wp2_with fail
  (refine T_begin No [0, 1, 2, 3, 4, 5, 6, 7, 8, 9, 10, 11, 12, 13, 14, 15, 16, 17, 18, 19, 20, 21, 22, 23, 24, 25, 26, 27, 28, 29, 30, 31, 32, 33] [32] (by kernel_rfl) (by kernel_rfl) ?_; simp only [pickOps, List.filterMap_cons, List.filterMap_nil, List.getElem?_cons_zero, List.getElem?_cons_succ, Act.put])
  repeat (first | (refine T_skip (by rfl) (by rfl) (fun _ _ _ h => h) ?_; try simp only [Act.put, List.setIfInBounds_toArray, List.set_cons_zero, List.set_cons_succ]) | (refine T_pass (by rfl) (by rfl) ?_; try simp only [Act.put, List.setIfInBounds_toArray, List.set_cons_zero, List.set_cons_succ]) | (refine T_load (by assumption) (by rfl) (by rfl) (fun _ _ _ _ h => h) rfl rfl (by assumption) (by first | exact (fun hn => hn) | assumption) ?_; try simp only [Act.put, List.setIfInBounds_toArray, List.set_cons_zero, List.set_cons_succ]) | (refine T_nil (by rfl) (by rfl) (fun _ _ _ _ h => h) rfl rfl ?_; try simp only [Act.put, List.setIfInBounds_toArray, List.set_cons_zero, List.set_cons_succ]) | (refine T_quietN (by rfl) (by rfl) (by rfl) (by rfl) (fun _ _ _ _ h => h) (fun K hK => ?_); go_big_quiet_op; refine hK _ ?_; clear hK K) | (refine T_two (by rfl) (by rfl) (by rfl) (by rfl) (fun _ _ _ _ h => h) (fun K hK => ?_); go_big_quiet_op; refine ⟨_, fun _ _ => rfl, ?_⟩; refine hK _ ?_; clear hK K; try simp only [Act.put, List.setIfInBounds_toArray, List.set_cons_zero, List.set_cons_succ]) | fail)
  (refine T_call (by rfl) (by rfl) (fun K hK => ?_); go_wp2_with fail)
  (refine hK.out _ _ (((Fr.refl _ _).alloc _)) ?_; clear hK K; try simp only [Act.put, List.setIfInBounds_toArray, List.set_cons_zero, List.set_cons_succ])
  repeat (first | (refine T_skip (by rfl) (by rfl) (fun _ _ _ h => h) ?_; try simp only [Act.put, List.setIfInBounds_toArray, List.set_cons_zero, List.set_cons_succ]) | (refine T_pass (by rfl) (by rfl) ?_; try simp only [Act.put, List.setIfInBounds_toArray, List.set_cons_zero, List.set_cons_succ]) | (refine T_load (by assumption) (by rfl) (by rfl) (fun _ _ _ _ h => h) rfl rfl (by assumption) (by first | exact (fun hn => hn) | assumption) ?_; try simp only [Act.put, List.setIfInBounds_toArray, List.set_cons_zero, List.set_cons_succ]) | (refine T_nil (by rfl) (by rfl) (fun _ _ _ _ h => h) rfl rfl ?_; try simp only [Act.put, List.setIfInBounds_toArray, List.set_cons_zero, List.set_cons_succ]) | (refine T_quietN (by rfl) (by rfl) (by rfl) (by rfl) (fun _ _ _ _ h => h) (fun K hK => ?_); go_big_quiet_op; refine hK _ ?_; clear hK K) | (refine T_two (by rfl) (by rfl) (by rfl) (by rfl) (fun _ _ _ _ h => h) (fun K hK => ?_); go_big_quiet_op; refine ⟨_, fun _ _ => rfl, ?_⟩; refine hK _ ?_; clear hK K; try simp only [Act.put, List.setIfInBounds_toArray, List.set_cons_zero, List.set_cons_succ]) | fail)
  refine T_done ?_
  have hlx : LogAt (w.drew.alloc (.cells (logC H ⟨⟨life + 1, 1 - half, seq, life + 1⟩, seq, 0, false⟩).toArray 71)) w.heap.size H ⟨⟨life + 1, 1 - half, seq, life + 1⟩, seq, 0, false⟩ := Blk.new w.drew _ _
  have hfx : Fr No w (w.drew.alloc (.cells (logC H ⟨⟨life + 1, 1 - half, seq, life + 1⟩, seq, 0, false⟩).toArray 71)) := ((Fr.refl No w).drew).alloc _
  have hszx : (w.drew.alloc (.cells (logC H ⟨⟨life + 1, 1 - half, seq, life + 1⟩, seq, 0, false⟩).toArray 71)).heap.size = w.heap.size + 1 := by show (w.drew.heap.push _).size = _; rw [Array.size_push]; rfl
  have hbx : Blk (w.drew.alloc (.cells (logC H ⟨⟨life + 1, 1 - half, seq, life + 1⟩, seq, 0, false⟩).toArray 71)) L 71 _ := hb.fr0 hfx
  have hdx := hX1.fr0 hfx
  clear y0 y1 y2 y3 y4 y5 y6 y7 yf0 yf1 yf2 yf3 yf4 yf5 yf6 yf7 hhf hd hX1
  go_wp2_with fail
  refine (hal _ _ hlx (fun h => absurd h.2 (Nat.lt_irrefl _)) hdx).mono ?_
  rintro e w4 ⟨rfl, hd4, hf4⟩
  have hz4 := hf4.size
  rw [hszx] at hd4 hz4
  have hb4 := hbx.fr hf4 (fun h => hL h.1)
  have hlx4 : Blk w4 w.heap.size 71 (logC H ⟨⟨life + 1, 1 - half, seq, life + 1⟩, seq, 0, false⟩).toArray := Blk.fr hlx hf4 (fun h => absurd h.2 (Nat.lt_irrefl _))
  have hF4 : Fr X w w4 := (hfx.mono (T := X) (fun _ _ hn => hn.elim)).trans hf4 (fun b _ hb => hb.1)
  have hd5 : DiskAt w4 (fun b => (X b ∧ b < w.heap.size) ∨ w.heap.size < b) H d' := hd4.mono (fun b _ hb => hb.elim (fun h => .inl h.1) (fun h => .inr (by omega)))
  clear hbx hlx hfx hszx hdx hf4 hd4 hal
  (have y0 := hb4.cell 0; have y1 := hb4.cell 1; have y2 := hb4.cell 2; have y3 := hb4.cell 3; have y4 := hb4.cell 4; have y5 := hb4.cell 5; have y6 := hb4.cell 6; have y7 := hb4.cell 7; have yf0 := hb4.frozen 0; have yf1 := hb4.frozen 1; have yf2 := hb4.frozen 2; have yf3 := hb4.frozen 3; have yf4 := hb4.frozen 4; have yf5 := hb4.frozen 5; have yf6 := hb4.frozen 6; have yf7 := hb4.frozen 7; simp only [List.getElem?_toArray, List.getElem?_cons_zero, List.getElem?_cons_succ] at y0 y1 y2 y3 y4 y5 y6 y7)
  go_upto_region 13 with fail
  have hb5 : Blk (w4.setCell ⟨L, 7, none⟩ (.bool false)) L 71 #[.pointer (some ⟨H, 0, none⟩), .int .i64 life, .int .i64 half, .int .i64 first, .int .i64 since, .int .i64 seq, .int .i64 (at_ : Int), .bool false] := hb4.put 7 _
  have hfL : Fr (fun b => b = L) w4 (w4.setCell ⟨L, 7, none⟩ (.bool false)) := (Fr.refl (fun b => b = L) w4).set (p := ⟨L, 7, none⟩) (.inr rfl) _
  clear y0 y1 y2 y3 y4 y5 y6 y7 yf0 yf1 yf2 yf3 yf4 yf5 yf6 yf7 hb4
  generalize w4.setCell ⟨L, 7, none⟩ (.bool false) = w5 at *
  have hne : ¬ (w.heap.size = L) := by omega
  have hlx5 := hlx4.fr hfL hne
  (have y0 := hb5.cell 0; have y1 := hb5.cell 1; have y2 := hb5.cell 2; have y3 := hb5.cell 3; have y4 := hb5.cell 4; have y5 := hb5.cell 5; have y6 := hb5.cell 6; have y7 := hb5.cell 7; have yf0 := hb5.frozen 0; have yf1 := hb5.frozen 1; have yf2 := hb5.frozen 2; have yf3 := hb5.frozen 3; have yf4 := hb5.frozen 4; have yf5 := hb5.frozen 5; have yf6 := hb5.frozen 6; have yf7 := hb5.frozen 7; simp only [List.getElem?_toArray, List.getElem?_cons_zero, List.getElem?_cons_succ] at y0 y1 y2 y3 y4 y5 y6 y7)
  go_wp2_with (first
    | (refine wpList_ldA ag_log rfl _ rfl ⟨w.heap.size, 0, none⟩ (logC H ⟨⟨life + 1, 1 - half, seq, life + 1⟩, seq, 0, false⟩) rfl rfl hlx5.all ?_)
    | (refine wpList_stA ag_log.info rfl _ _ rfl L 0 _ _ (logC H ⟨⟨life + 1, 1 - half, seq, life + 1⟩, seq, 0, false⟩) _ rfl rfl rfl rfl (by intro u hu; simp [logC] at hu; rcases hu with rfl | rfl | rfl | rfl | rfl | rfl | rfl | rfl <;> rfl) hb5 (Nat.le_refl 8) ?_; intro w6 hb6 hg6 hz6)
    | fail)
  rw [splice_all _ _ (by rfl)] at hb6
  have hf6 : Fr (fun b => b = L) w4 w6 := hfL.grown hg6 (fun q hq => by injection hq with hq; exact .inr hq.symm)
  go_ret
  exact ⟨rfl, hb6, (hd5.fr hf6 (fun b hX e => by rw [e] at hX; exact hX.elim (fun h => hL h.1) (fun h => by omega))).mono (fun b _ hb => hb.elim .inl (fun h => .inr (by omega))), (hF4.mono (T := fun b => X b ∨ b = L) (fun b _ hb => .inl hb)).trans hf6 (fun b _ hb => .inr hb)⟩
end Go.Proofs.YtannkgglgmbkdaaDoor
namespace Go.Proofs.YtannkgglgmbkdaaDoor
set_option linter.unusedVariables false
set_option linter.unusedSimpArgs false
open Go.RowKit

set_option maxHeartbeats 1000000 in
/-- So many bytes. -/
theorem text_calls (m : Nat) (b : UInt8) (w : World) (hm : m ≤ 524288) :
    Calls Tryd.prog 19 #[.int .i64 (m : Int), .int .u8 (b.toNat : Int)] w fun e w' => e = .returned (.slice (some ⟨w.heap.size, 0, none⟩) m m) ∧ Blk w' w.heap.size 5 (U8 (List.replicate m b)).toArray ∧ Fr No w w' := by
  have hbz : b.toNat < 256 := b.toNat_lt
  go_enter Tryd.func19, Tryd.ntmps19
  go_wp2_with (refine wpList_make so_u8 (n := m) (c := m) (Nat.le_refl _) (by omega) rfl rfl rfl rfl ?_)
  have hb0 : Blk (w.alloc (.cells (madeCells #[Value.int .u8 0] m) 5)) w.heap.size 5 (U8 (List.replicate 0 b ++ List.replicate (m - 0) 0)).toArray := by
    have := Blk.new w 5 (madeCells #[Value.int .u8 0] m)
    rw [made_u8] at this
    simpa [made_u8] using this
  have hf0 : Fr No w (w.alloc (.cells (madeCells #[Value.int .u8 0] m) 5)) := (Fr.refl No w).alloc _
  go_loopw [6] (fun i wr => ∃ k : Nat, k ≤ m ∧ i = .int .i64 k ∧ Blk wr w.heap.size 5 (U8 (List.replicate k b ++ List.replicate (m - k) 0)).toArray ∧ Fr No w wr) (fun i _ => m - (intOf i).toNat)
  case atStart => exact ⟨0, by omega, rfl, hb0, hf0⟩
  case round =>
    obtain ⟨k, hk, rfl, hb, hf⟩ := hrel
    by_cases hlt : k < m
    · have ek : decide ((k : Int) < m) = true := by simpa using (by omega : (k : Int) < m)
      have hc := (hb.cell k).trans (Array.getElem?_eq_getElem (by simp [U8_length]; omega))
      have hz := hb.frozen k
      have hp := hb.put k (.int .u8 (b.toNat : Int))
      rw [fill_set k m b hlt] at hp
      have HP := Lib.hid hp
      clear hp
      generalize (U8 (List.replicate k b ++ List.replicate (m - k) 0)).toArray[k]'_ = old at hc
      go_wp2
      go_roundw
      case rel => exact ⟨k + 1, by omega, by go_num, HP.out, hf.set (.inl (Nat.le_refl _)) _⟩
      case measure => simp [intOf]; omega
    · obtain rfl : k = m := by omega
      have ek : decide ((k : Int) < k) = false := by simp
      rw [Nat.sub_self, List.replicate_zero, List.append_nil] at hb
      go_wp2
      go_ret
      exact ⟨rfl, hb, hf⟩
theorem text_rd {w : World} {g m : Nat} {b : UInt8} (h : Blk w g 5 (U8 (List.replicate m b)).toArray) (hn : m ≤ 524288) : RdB w (fun _ => True) (some ⟨g, 0, none⟩) (List.replicate m b) := by
  have h1 := h.rd (size := 1) (n := m) (by simp [U8_length]) (by omega)
  have h2 := h1.mono (T := fun _ => True) (fun _ _ _ => trivial) (by decide)
  unfold RdB
  rw [List.length_replicate]
  exact h2
/-- Sectors laid one behind the other. -/
def putN : List Sec → Nat → List Sec → List Sec
  | now, _, [] => now
  | now, k, s :: ss => putN (now.set k s) (k + 1) ss
theorem putN_len : ∀ (ss now : List Sec) (k : Nat), (putN now k ss).length = now.length
  | [], _, _ => rfl
  | s :: ss, now, k => by rw [putN, putN_len ss]; simp
/-- A device that does not fail, and has nothing on the way. -/
def Quiet (d : DiskM) (n : Nat) : Prop := d.dead = false ∧ d.left = 0 ∧ d.way = [] ∧ d.now.length = n
theorem putsM_ok : ∀ (ss : List Sec) (d : DiskM) (k : Nat), d.dead = false → d.left = 0 → (putsM d k ss).2 = true ∧ (putsM d k ss).1.now = putN d.now k ss ∧ (putsM d k ss).1.dead = false ∧ (putsM d k ss).1.left = 0
  | [], d, k, h1, h2 => ⟨rfl, rfl, h1, h2⟩
  | s :: ss, d, k, h1, h2 => by
    have ho : oneM d k s = ({ d with left := d.left - 1, now := d.now.set k s, way := d.way ++ [(k, s)] }, true) := by
      unfold oneM
      rw [if_neg (by omega), if_neg (by rw [h1]; exact Bool.false_ne_true)]
    rw [putsM_cons, ho, if_pos rfl]
    exact putsM_ok ss _ _ h1 (by show d.left - 1 = 0; omega)
theorem safely_quiet {d : DiskM} {n : Nat} (h : Quiet d n) (k : Nat) (ss : List Sec) : ∃ d', safelyM d k ss = (d', true) ∧ Quiet d' n ∧ d'.now = putN d.now k ss ∧ d'.safe = d'.now := by
  obtain ⟨h1, h2, h3, h4⟩ := h
  obtain ⟨a1, a2, a3, a4⟩ := putsM_ok ss d k h1 h2
  refine ⟨{ (putsM d k ss).1 with safe := (putsM d k ss).1.now, way := [] }, by unfold safelyM; rw [if_pos a1], ⟨a3, a4, rfl, ?_⟩, a2, rfl⟩
  show (putsM d k ss).1.now.length = n
  rw [a2, putN_len]; exact h4
end Go.Proofs.YtannkgglgmbkdaaDoor
namespace Go.Proofs.YtannkgglgmbkdaaDoor
set_option linter.unusedVariables false
set_option linter.unusedSimpArgs false
open Go.RowKit

theorem subB_mid (a b c : List UInt8) (o n : Nat) (ho : a.length = o) (hn : b.length = n) : subB (a ++ b ++ c) o n = b := by
  unfold subB
  subst ho hn
  rw [List.append_assoc, List.drop_left, List.take_left]
/-- A head that can stand on a device. -/
def HeadIn (h : HeadM) : Prop := (1 ≤ h.life ∧ h.life ≤ 1099511627776) ∧ (h.half = 0 ∨ h.half = 1) ∧ (1 ≤ h.first ∧ h.first ≤ 1099511627776) ∧ (1 ≤ h.since ∧ h.since ≤ 1099511627776)
theorem p256 : ((256 ^ 6 : Nat) : Int) = 281474976710656 := by decide
theorem getH_headB (h : HeadM) (hh : HeadIn h) : getH (headB h) = h := by
  obtain ⟨h1, h2, h3, h4⟩ := hh
  have hT : headB h = headS h ++ (putL 4 ((crc (headS h)).toNat : Int) ++ List.replicate 97 0) := by rw [headB, List.append_assoc]
  generalize putL 4 ((crc (headS h)).toNat : Int) ++ List.replicate 97 0 = T at hT
  have e1 : subB (headB h) 8 6 = putL 6 h.life := by
    rw [hT, headS, show [76, 65, 80, 73, 68, 65, 82, 89] ++ putL 6 h.life ++ [UInt8.ofNat (h.half % 256).toNat] ++ putL 6 h.first ++ putL 6 h.since ++ T = [76, 65, 80, 73, 68, 65, 82, 89] ++ putL 6 h.life ++ ([UInt8.ofNat (h.half % 256).toNat] ++ putL 6 h.first ++ putL 6 h.since ++ T) by simp only [List.append_assoc]]
    exact subB_mid _ _ _ 8 6 rfl (putL_len _ _)
  have e2 : (headB h).getD 14 0 = UInt8.ofNat (h.half % 256).toNat := by
    rw [hT, headS, show [76, 65, 80, 73, 68, 65, 82, 89] ++ putL 6 h.life ++ [UInt8.ofNat (h.half % 256).toNat] ++ putL 6 h.first ++ putL 6 h.since ++ T = ([76, 65, 80, 73, 68, 65, 82, 89] ++ putL 6 h.life) ++ ([UInt8.ofNat (h.half % 256).toNat] ++ (putL 6 h.first ++ putL 6 h.since ++ T)) by simp only [List.append_assoc]]
    rw [List.getD_eq_getElem?_getD, List.getElem?_append_right (by simp [putL_len]), show 14 - ([76, 65, 80, 73, 68, 65, 82, 89] ++ putL 6 h.life : List UInt8).length = 0 by simp [putL_len]]
    rfl
  have e3 : subB (headB h) 15 6 = putL 6 h.first := by
    rw [hT, headS, show [76, 65, 80, 73, 68, 65, 82, 89] ++ putL 6 h.life ++ [UInt8.ofNat (h.half % 256).toNat] ++ putL 6 h.first ++ putL 6 h.since ++ T = ([76, 65, 80, 73, 68, 65, 82, 89] ++ putL 6 h.life ++ [UInt8.ofNat (h.half % 256).toNat]) ++ putL 6 h.first ++ (putL 6 h.since ++ T) by simp only [List.append_assoc]]
    exact subB_mid _ _ _ 15 6 (by simp [putL_len]) (putL_len _ _)
  have e4 : subB (headB h) 21 6 = putL 6 h.since := by
    rw [hT, headS]
    exact subB_mid _ _ _ 21 6 (by simp [putL_len]) (putL_len _ _)
  unfold getH
  rw [e1, e2, e3, e4, get_put 6 h.life (by omega) (by rw [p256]; omega), get_put 6 h.first (by omega) (by rw [p256]; omega), get_put 6 h.since (by omega) (by rw [p256]; omega)]
  obtain ⟨life, half, first, since⟩ := h
  simp only at h2 ⊢
  rcases h2 with rfl | rfl <;> rfl
theorem headOk_headB (h : HeadM) (hh : HeadIn h) : headOk (headB h) = true := by
  unfold headOk
  rw [getH_headB h hh]
  obtain ⟨h1, h2, h3, h4⟩ := hh
  have a1 : goodB h.life = true := by unfold goodB; simp; omega
  have a3 : goodB h.first = true := by unfold goodB; simp; omega
  have a4 : goodB h.since = true := by unfold goodB; simp; omega
  have a2 : decide (h.half ≤ 1) = true := by simp; omega
  rw [a1, a2, a3, a4]
  simp
theorem headOk_zsec : headOk zsec = false := by decide +kernel
def kSec : Sec := recSec 2 1 [97] 0
theorem kRec : recB 2 1 [97] = [kSec] := rfl
theorem kSec_len : kSec.length = 128 := recSec_len _ _ _ _
theorem kGo1 : openGo 1 5 1 1 0 [] [zsec, zsec, zsec, zsec] = ([], 1, 0) := by decide +kernel
theorem kGo2 : openGo 2 5 1 1 0 [] [kSec, zsec, zsec, zsec] = ([[97]], 2, 1) := by decide +kernel
def kH (n : Int) : HeadM := ⟨n, 0, 1, 1⟩
theorem kH_in {n : Int} (h : 1 ≤ n ∧ n ≤ 3) : HeadIn (kH n) := ⟨⟨by show 1 ≤ n; omega, by show n ≤ 1099511627776; omega⟩, .inl rfl, ⟨Int.le_refl 1, (by decide : (1 : Int) ≤ 1099511627776)⟩, ⟨Int.le_refl 1, (by decide : (1 : Int) ≤ 1099511627776)⟩⟩
def kNow (a b c : Sec) : List Sec := [a, b, c, zsec, zsec, zsec, zsec, zsec, zsec, zsec]
def kD (a b c : Sec) : DiskM := ⟨kNow a b c, kNow a b c, [], false, 0⟩
theorem kF : formatM (zeroM 10) = (kD zsec (headB (kH 1)) zsec, true) := by
  unfold formatM
  show safelyM (zeroM 10) 0 [zsec, headB (kH 1)] = _
  generalize headB (kH 1) = x
  rfl
theorem kN1 : newestM zsec (headB (kH 1)) = (kH 1, true) := by
  unfold newestM
  rw [if_pos ⟨headOk_headB _ (kH_in (by decide)), .inl headOk_zsec⟩, getH_headB _ (kH_in (by decide))]
theorem kL1 : layM (kD zsec (headB (kH 1)) zsec) (kH 2) = (kD (headB (kH 2)) (headB (kH 1)) zsec, true) := by
  unfold layM
  show safelyM (kD zsec (headB (kH 1)) zsec) 0 [headB (kH 2)] = _
  generalize headB (kH 1) = x
  generalize headB (kH 2) = y
  rfl
theorem kA : safelyM (kD (headB (kH 2)) (headB (kH 1)) zsec) 2 [kSec] = (kD (headB (kH 2)) (headB (kH 1)) kSec, true) := by
  generalize headB (kH 1) = x
  generalize headB (kH 2) = y
  generalize kSec = z
  rfl
theorem kC (a b c : Sec) : crashM (kD a b c) [] = kD a b c := rfl
theorem kN2 : newestM (headB (kH 2)) (headB (kH 1)) = (kH 2, true) := by
  unfold newestM
  rw [if_neg ?_, getH_headB _ (kH_in (by decide)), headOk_headB _ (kH_in (by decide))]
  rintro ⟨_, h | h⟩
  · rw [headOk_headB _ (kH_in (by decide))] at h; cases h
  · rw [getH_headB _ (kH_in (by decide)), getH_headB _ (kH_in (by decide))] at h
    exact absurd h (by decide)
theorem kL2 : layM (kD (headB (kH 2)) (headB (kH 1)) kSec) (kH 3) = (kD (headB (kH 2)) (headB (kH 3)) kSec, true) := by
  unfold layM
  show safelyM (kD (headB (kH 2)) (headB (kH 1)) kSec) 1 [headB (kH 3)] = _
  generalize headB (kH 1) = x
  generalize headB (kH 2) = y
  generalize headB (kH 3) = u
  generalize kSec = z
  rfl
end Go.Proofs.YtannkgglgmbkdaaDoor
namespace Go.Proofs.YtannkgglgmbkdaaDoor
set_option linter.unusedVariables false
set_option linter.unusedSimpArgs false
open Go.RowKit

theorem getD_mid (a b : List UInt8) (x : UInt8) (o : Nat) (ho : a.length = o) : (a ++ [x] ++ b).getD o 0 = x := by
  subst ho
  rw [List.append_assoc, List.getD_eq_getElem?_getD, List.getElem?_append_right (Nat.le_refl _), Nat.sub_self]
  rfl
theorem recSec_facts (life seq : Int) (rec : List UInt8) (j : Nat) (hl : 0 ≤ life ∧ life < 281474976710656) :
    (recSec life seq rec j).getD 14 0 = (if rec.length ≤ 112 * (j + 1) then 1 else 0) ∧ (recSec life seq rec j).getD 15 0 = UInt8.ofNat (recPart rec j).length ∧ ((recSec life seq rec j).getD 15 0).toNat = (recPart rec j).length ∧
      subB (recSec life seq rec j) 16 (recPart rec j).length = recPart rec j ∧ getN (subB (recSec life seq rec j) 0 6) = life := by
  have hpl := recPart_len rec j
  have hp := recPre_len life seq rec j
  obtain ⟨x, hx⟩ : ∃ x : UInt8, x = (if rec.length ≤ 112 * (j + 1) then 1 else 0) := ⟨_, rfl⟩
  have hs : recSec life seq rec j = recPre life seq rec j ++ [x] ++ [UInt8.ofNat (recPart rec j).length] ++ recPart rec j ++ List.replicate (112 - (recPart rec j).length) 0 := by unfold recSec; rw [← hx]
  have hn : (UInt8.ofNat (recPart rec j).length).toNat = (recPart rec j).length := by rw [UInt8.toNat_ofNat']; omega
  have e15 : (recSec life seq rec j).getD 15 0 = UInt8.ofNat (recPart rec j).length := by
    rw [hs, show recPre life seq rec j ++ [x] ++ [UInt8.ofNat (recPart rec j).length] ++ recPart rec j ++ List.replicate (112 - (recPart rec j).length) 0 = (recPre life seq rec j ++ [x]) ++ [UInt8.ofNat (recPart rec j).length] ++ (recPart rec j ++ List.replicate (112 - (recPart rec j).length) 0) by simp only [List.append_assoc]]
    exact getD_mid _ _ _ 15 (by rw [List.length_append, hp]; rfl)
  refine ⟨?_, e15, by rw [e15, hn], ?_, ?_⟩
  · rw [← hx, hs, show recPre life seq rec j ++ [x] ++ [UInt8.ofNat (recPart rec j).length] ++ recPart rec j ++ List.replicate (112 - (recPart rec j).length) 0 = recPre life seq rec j ++ [x] ++ ([UInt8.ofNat (recPart rec j).length] ++ (recPart rec j ++ List.replicate (112 - (recPart rec j).length) 0)) by simp only [List.append_assoc]]
    exact getD_mid _ _ _ 14 hp
  · rw [hs]
    exact subB_mid _ _ _ 16 _ (by rw [List.length_append, List.length_append, hp]; rfl) rfl
  · have e : subB (recSec life seq rec j) 0 6 = putL 6 life := by
      rw [hs, recPre, show [] ++ putL 6 life ++ putL 6 seq ++ putL 2 (j : Int) ++ [x] ++ [UInt8.ofNat (recPart rec j).length] ++ recPart rec j ++ List.replicate (112 - (recPart rec j).length) 0 = [] ++ putL 6 life ++ (putL 6 seq ++ putL 2 (j : Int) ++ [x] ++ [UInt8.ofNat (recPart rec j).length] ++ recPart rec j ++ List.replicate (112 - (recPart rec j).length) 0) by simp only [List.append_assoc, List.nil_append]]
      exact subB_mid _ _ _ 0 6 rfl (putL_len _ _)
    rw [e, get_put 6 life hl.1 (by rw [p256]; exact hl.2)]
theorem want_recSec (life seq : Int) (rec : List UInt8) (j : Nat) (hl : 0 ≤ life ∧ life < 281474976710656) : wantB life seq j (recSec life seq rec j) = recSec life seq rec j := by
  obtain ⟨h14, h15, h15n, hsub, _⟩ := recSec_facts life seq rec j hl
  unfold wantB
  rw [h14, h15n, hsub, h15]
  have hx : ((if rec.length ≤ 112 * (j + 1) then 1 else 0 : UInt8) &&& 1) = (if rec.length ≤ 112 * (j + 1) then 1 else 0) := by split <;> rfl
  rw [hx]
  rfl
theorem recPart_step (rec : List UInt8) (j : Nat) : rec.take (112 * j) ++ recPart rec j = rec.take (112 * (j + 1)) := by
  unfold recPart
  rw [show 112 * (j + 1) = 112 * j + 112 by omega, List.take_add]
theorem recGo_fwd (life seq : Int) (rec : List UInt8) (rest : List Sec) (hl : 0 ≤ life ∧ life < 281474976710656) (h1 : 1 ≤ rec.length) (h2 : rec.length ≤ 60000) :
    ∀ (k j : Nat) (lf : Int), j + (k + 1) = recN rec.length → (j = 0 ∨ lf = life) → recGo seq j lf (rec.take (112 * j)) ((List.range' j (k + 1)).map (recSec life seq rec) ++ rest) = some (rec, life, recN rec.length) := by
  intro k
  induction k with
  | zero =>
    intro j lf hj hlf
    obtain ⟨h14, h15, h15n, hsub, hlife⟩ := recSec_facts life seq rec j hl
    have hpl := recPart_len rec j
    unfold recN at hj
    have hlfe : lifeOf j lf (recSec life seq rec j) = life := by
      unfold lifeOf
      rcases hlf with rfl | rfl
      · rw [if_pos rfl]; exact hlife
      · split
        · exact hlife
        · rfl
    have hbad : ¬ recBad (rec.take (112 * j)).length (recSec life seq rec j) := by
      unfold recBad
      rw [h15n, h14, List.length_take]
      rintro (h | h | h | ⟨h, h'⟩)
      · omega
      · omega
      · omega
      · rw [if_pos (by omega)] at h; exact h rfl
    show recGo seq j lf _ (recSec life seq rec j :: rest) = _
    rw [recGo_end hbad (by rw [hlfe]; exact want_recSec life seq rec j hl) (by rw [h14, if_pos (by omega)]), h15n, hsub, hlfe, recPart_step, List.take_of_length_le (by omega)]
    unfold recN
    rw [hj]
  | succ k ih =>
    intro j lf hj hlf
    obtain ⟨h14, h15, h15n, hsub, hlife⟩ := recSec_facts life seq rec j hl
    have hpl := recPart_len rec j
    have hj2 := hj
    unfold recN at hj2
    have hlfe : lifeOf j lf (recSec life seq rec j) = life := by
      unfold lifeOf
      rcases hlf with rfl | rfl
      · rw [if_pos rfl]; exact hlife
      · split
        · exact hlife
        · rfl
    have hbad : ¬ recBad (rec.take (112 * j)).length (recSec life seq rec j) := by
      unfold recBad
      rw [h15n, h14, List.length_take]
      rintro (h | h | h | ⟨h, h'⟩) <;> omega
    rw [List.range'_succ]
    show recGo seq j lf _ (recSec life seq rec j :: ((List.range' (j + 1) (k + 1)).map (recSec life seq rec) ++ rest)) = _
    rw [recGo_on hbad (by rw [hlfe]; exact want_recSec life seq rec j hl) (by rw [h14, if_neg (by omega)]; decide), h15n, hsub, hlfe, recPart_step]
    exact ih (j + 1) life (by omega) (.inr rfl)
/-- A record's sectors tell the record, whatever stands behind. -/
theorem recGo_recB (life seq : Int) (rec : List UInt8) (rest : List Sec) (hl : 0 ≤ life ∧ life < 281474976710656) (h1 : 1 ≤ rec.length) (h2 : rec.length ≤ 60000) :
    recGo seq 0 0 [] (recB life seq rec ++ rest) = some (rec, life, recN rec.length) := by
  obtain ⟨k, hk⟩ : ∃ k, recN rec.length = k + 1 := ⟨recN rec.length - 1, by unfold recN; omega⟩
  have := recGo_fwd life seq rec rest hl h1 h2 k 0 0 (by omega) (.inl rfl)
  rw [← hk, ← List.range_eq_range'] at this
  exact this
theorem recGo_zero (seq : Int) (i : Nat) (life : Int) (acc : List UInt8) (ss : List Sec) : recGo seq i life acc (zsec :: ss) = none :=
  recGo_no (.inl (.inl (by decide)))
end Go.Proofs.YtannkgglgmbkdaaDoor
namespace Go.Proofs.YtannkgglgmbkdaaDoor
set_option linter.unusedVariables false
set_option linter.unusedSimpArgs false
open Go.RowKit

set_option maxRecDepth 100000 in
theorem refnew_calls (n : Nat) (h1 : 1 ≤ n) (h2 : n ≤ 4096) (w : World) :
    Calls Tryd.prog 27 #[.int .i64 (n : Int)] w fun e w' => ∃ R, e = .returned (.pointer (some ⟨R, 0, none⟩)) ∧ w.heap.size ≤ R ∧ Fr No w w' := by
  have e1 : decide ((n : Int) < 1) = false := by simp; omega
  have e2 : decide ((4096 : Int) < n) = false := by simp; omega
  obtain ⟨m, hm⟩ : ∃ m, m = n * 128 := ⟨_, rfl⟩
  have HM := Lib.hid (show (n : Int) * 128 = (m : Int) by omega)
  have hm4 : m ≤ 524288 := by omega
  clear hm h1
  go_enter Tryd.func27, Tryd.ntmps27
  go_wp2_with (first
    | (refine wpList_make so_u8 (n := m) (c := m) (Nat.le_refl _) (by omega) rfl rfl (show _ = Value.int .i64 (m : Int) from congrArg _ HM.out) (show _ = Value.int .i64 (m : Int) from congrArg _ HM.out) ?_)
    | fail)
  go_ret
  exact ⟨_, rfl, by simp, ((Fr.refl No w).alloc _).alloc _⟩
set_option maxRecDepth 100000 in
theorem device_calls (n : Nat) (h1 : 1 ≤ n) (h2 : n ≤ 4096) (w : World) :
    Calls Tryd.prog 12 #[.int .i64 (n : Int)] w fun e w' => ∃ H R, e = .returned (.tuple #[.pointer (some ⟨H, 0, none⟩), .pointer (some ⟨R, 0, none⟩)]) ∧ DiskAt w' (fun b => w.heap.size ≤ b) H (zeroM n) ∧ Fr No w w' := by
  go_enter Tryd.func12, Tryd.ntmps12
  go_wp2_with fail
  refine (new_calls n h1 h2 _).mono ?_
  rintro e w1 ⟨H, hH, rfl, hd, hf⟩
  go_wp2_with fail
  refine (refnew_calls n h1 h2 _).mono ?_
  rintro e w2 ⟨R, rfl, hR, hf2⟩
  go_wp2_with fail
  go_ret2
  exact ⟨H, R, rfl, hd.fr0 hf2, hf.tr hf2⟩
/-- '[]byte("..")' of a constant. -/
theorem wpList_bytesC {w : World} {ops : Array Oper} {rest : List Oper} {o : Oper} {a : Act} {Q : Exit → Act → World → Prop} {C : Array Value} {n c : Nat} (hw : Region.wanted o (yielded ops a.tmps) = true) {x : Operand} (ho : o.op = .convert 40 40 x)
    (hx : a.eval x = .slice (some ⟨w.heap.size, 0, none⟩) n c) (h : wpList Tryd.prog ops Q rest (a.put o.dst (.slice (some ⟨w.heap.size, 0, none⟩) n c)) (w.alloc (.cells C 5 (C.size, C.size + 1)))) : wpList Tryd.prog ops Q (o :: rest) a (w.alloc (.cells C 5)) := by
  have hr := Lib.run_convert_bytes_const (P := Tryd.prog) w 40 5 C n c Tryd.underlying40 Tryd.underlying5
  refine BigFrame.wpList_want hw fun K hK => ?_
  unfold Oper.wp execOp
  simp only [ho, hx, hr, Sem.run_bind, Result.andThen_ok, Sem.run_pure]
  exact hK _ _ h
set_option maxHeartbeats 8000000 in
set_option maxRecDepth 100000 in
theorem known_calls (w : World) : Calls Tryd.prog 11 #[] w fun e w' => e = .returned (.bool true) ∧ Fr No w w' := by
  have hop1 : ∀ w' H, DiskAt w' (fun b => w.heap.size ≤ b) H (kD zsec (headB (kH 1)) zsec) → _ := fun w' H hd =>
    open_calls w' _ H _ (kD (headB (kH 2)) (headB (kH 1)) zsec) zsec (headB (kH 1)) (kH 1) 0 [] 1 0 hd (by decide) rfl (by decide) (by decide) rfl rfl kN1 rfl (by decide) (by decide) (by decide) kGo1 (by decide) kL1
  have hop2 : ∀ w' H, DiskAt w' (fun b => w.heap.size ≤ b) H (kD (headB (kH 2)) (headB (kH 1)) kSec) → _ := fun w' H hd =>
    open_calls w' _ H _ (kD (headB (kH 2)) (headB (kH 3)) kSec) (headB (kH 2)) (headB (kH 1)) (kH 2) 0 [[97]] 2 1 hd (by decide) rfl (by decide) (by decide) rfl rfl kN2 rfl (by decide) (by decide) (by decide) kGo2 (by decide) kL2
  have hfm : ∀ w' H, DiskAt w' (fun b => w.heap.size ≤ b) H (zeroM 10) → Calls Tryd.prog 13 #[.pointer (some ⟨H, 0, none⟩)] w' fun e w'' => e = .returned (.int .i64 0) ∧ Left w' (fun b => w.heap.size ≤ b) (Wid (fun b => w.heap.size ≤ b) w') H (kD zsec (headB (kH 1)) zsec) w'' := fun w' H hd => by
    have := format_calls w' _ H _ hd (by decide) (by decide) (by decide)
    rw [kF] at this
    exact this
  go_enter Tryd.func11, Tryd.ntmps11
  go_wp2_with fail
  refine (device_calls 10 (by decide) (by decide) _).mono ?_
  rintro e w1 ⟨H, R, rfl, hd1, hf1⟩
  go_wp2_with fail
  refine (hfm _ H hd1).mono ?_
  rintro e w2 ⟨rfl, hd2, hf2⟩
  have hz1 := hf1.size
  have hz2 := hf2.size
  have hF2 : Fr No w w2 := hf1.trans hf2 (fun b hb h => by omega)
  replace hd2 : DiskAt w2 (fun b => w.heap.size ≤ b) H (kD zsec (headB (kH 1)) zsec) := hd2.mono (fun b _ hb => hb.elim id (fun h => by omega))
  go_wp2_with fail
  refine (hop1 _ H hd2).mono ?_
  rintro e w3 ⟨L, N, v, cs, rfl, ⟨hle, hlt, hlN, hlog, hdisk, hown, hownN, hcells, hf3⟩⟩
  have hF3 : Fr No w w3 := hF2.trans hf3 (fun b hb h => by omega)
  have hz3 := hf3.size
  obtain ⟨A3, c3, rfl, _, _, _⟩ := own_form hown
  have hf4 : Fr No w3 (w3.alloc (.cells #[.int .u8 97] 5 (1, 2))) := (Fr.refl No w3).alloc _
  have hrd4 : RdB (w3.alloc (.cells #[.int .u8 97] 5 (1, 2))) (fun _ => True) (some ⟨w3.heap.size, 0, none⟩) [97] :=
    ⟨rfl, by decide, fun _ => ⟨_, rfl, trivial, fun j u hu => by
      rw [add_plain, cell_of_row _ _ j #[.int .u8 97] 5 (1, 2) (heap_alloc_new w3 _)]
      simpa [U8] using hu⟩⟩
  have hlog4 := hlog.fr0 hf4
  have hdisk4 := hdisk.fr0 hf4
  have hX4 : ¬ ((w.heap.size ≤ L ∧ L < w2.heap.size) ∨ N ≤ L) := fun h => h.elim (fun h => by omega) (fun h => by omega)
  have hap := append_calls (w3.alloc (.cells #[.int .u8 97] 5 (1, 2))) _ L H _ _ (kD (headB (kH 2)) (headB (kH 1)) kSec) (some ⟨w3.heap.size, 0, none⟩) 1 [97] 0 hlog4 rfl hX4 hdisk4 (by decide) rfl (by decide) hrd4 (by decide) (by decide) (by decide) (by decide) (by decide) ⟨by decide, by decide⟩ (by decide) (by decide) kA
  have hsz4 : (w3.alloc (.cells #[.int .u8 97] 5 (1, 2))).heap.size = w3.heap.size + 1 := by simp
  clear hlog hdisk hown hownN hcells hlog4 hdisk4 hrd4
  go_wp2_with (first
    | (refine wpList_bytesC (C := #[.int .u8 97]) rfl rfl rfl ?_)
    | fail)
  refine hap.mono ?_
  rintro e w5 ⟨rfl, hlog5, hd5, hf5⟩
  have hF5 : Fr No w w5 := (hF3.tr hf4).trans hf5 (fun b hb h => by rcases h with (h | h) | h <;> omega)
  replace hd5 : DiskAt w5 (fun b => w.heap.size ≤ b) H (kD (headB (kH 2)) (headB (kH 1)) kSec) := hd5.mono (fun b _ hb => by rcases hb with ⟨hb | hb, _⟩ | hb <;> omega)
  clear hap hf5 hf4
  go_wp2_with fail
  refine (crash_calls w5 _ No H _ [] none 0 hd5 Rd.nil_ (fun _ h => h.elim) (by decide)).mono ?_
  rintro e w6 ⟨rfl, hd6, hf6⟩
  rw [kC] at hd6
  have hF6 : Fr No w w6 := hF5.trans hf6 (fun b hb h => by omega)
  go_wp2_with fail
  refine (hop2 _ H hd6).mono ?_
  rintro e w7 ⟨L7, N7, v7, cs7, rfl, ⟨hle7, hlt7, hlN7, hlog7, hdisk7, hown7, hownN7, hcells7, hf7⟩⟩
  have hF7 : Fr No w w7 := hF6.trans hf7 (fun b hb h => by omega)
  obtain ⟨A7, c7, rfl, _, _, _⟩ := own_form hown7
  obtain ⟨g7, cap7, hv7, _, _⟩ := hown7.form (by decide)
  injection hv7 with hA7
  subst hA7
  obtain ⟨Ar, cr, hcr, hrr⟩ := hcells7.2 0 [97] rfl
  have hcell : w7.cell? ⟨g7, 0, none⟩ = some (.slice Ar 1 cr) := by
    have := hown7.cells (g := g7) rfl 0 _ hcr
    rwa [add_plain] at this
  have HST := Lib.hid (show (⟨([97] : List UInt8).toArray⟩ : ByteArray) = ⟨#[97]⟩ from rfl)
  clear hlog7 hdisk7 hown7 hownN7 hcells7 hf7 hf6 hd6 hd5 hlog5 hop1 hop2 hfm
  go_wp2_with (first
    | (refine wpList_str Tryd.underlying40 Tryd.underlying5 Tryd.underlying9 rfl _ rfl (n := 1) (l := [97]) rfl rfl hrr ?_)
    | fail)
  refine (sectors_calls 112 w7).mono ?_
  rintro e w8 ⟨rfl, hw8⟩
  replace hw8 := hw8.symm
  subst hw8
  rw [show sectorsM 112 = 1 from rfl]
  go_wp2_with fail
  refine (sectors_calls 113 w7).mono ?_
  rintro e w8 ⟨rfl, hw8⟩
  replace hw8 := hw8.symm
  subst hw8
  rw [show sectorsM 113 = 2 from rfl]
  go_wp2_with fail
  go_ret
  exact ⟨rfl, hF7⟩
end Go.Proofs.YtannkgglgmbkdaaDoor
namespace Go.Proofs.YtannkgglgmbkdaaDoor
set_option linter.unusedVariables false
set_option linter.unusedSimpArgs false
open Go.RowKit

theorem zero_quiet (n : Nat) : Quiet (zeroM n) n := ⟨rfl, rfl, rfl, by show (zeros n).length = n; simp [zeros]⟩
theorem format_quiet (n : Nat) (h4 : 4 ≤ n) : ∃ d, formatM (zeroM n) = (d, true) ∧ Quiet d n ∧ d.now = zsec :: headB (kH 1) :: List.replicate (n - 2) zsec := by
  obtain ⟨d, h1, h2, h3, _⟩ := safely_quiet (zero_quiet n) 0 [zsec, headB (kH 1)]
  refine ⟨d, h1, h2, ?_⟩
  obtain ⟨m, rfl⟩ : ∃ m, n = m + 2 := ⟨n - 2, by omega⟩
  rw [h3]
  generalize headB (kH 1) = x
  show ((zeros (m + 2)).set 0 zsec).set 1 x = _
  rw [show zeros (m + 2) = zsec :: zsec :: List.replicate m zsec from rfl]
  rfl
theorem rest_form (n : Nat) (x : Sec) (h4 : 4 ≤ n) (now : List Sec) (a : Sec) (hn : now = a :: x :: List.replicate (n - 2) zsec) : restOf now 0 = List.replicate (halfN n) zsec := by
  have hl : now.length = n := by rw [hn]; simp; omega
  unfold restOf
  rw [hl, hn, Nat.zero_mul]
  show ((List.replicate (n - 2) zsec).drop 0).take (halfN n) = _
  rw [List.drop_zero, List.take_replicate]
  congr 1
  unfold halfN
  omega
theorem go_zeros (top : Int) (k : Nat) (was seq : Int) (at_ f : Nat) (recs : List (List UInt8)) : openGo top (f + 1) was seq at_ recs (List.replicate k zsec) = (recs, seq, at_) := by
  cases k with
  | zero => exact openGo_none rfl
  | succ k => exact openGo_none (recGo_zero _ _ _ _ _)
/-- A new log on n sectors. -/
theorem start_calls0 (n : Nat) (h4 : 4 ≤ n) (hm : n ≤ 4096) (w : World) (X : Nat → Prop) (H : Nat) (hd : DiskAt w X H (zeroM n)) :
    ∃ d1, Quiet d1 n ∧ Calls Tryd.prog 13 #[.pointer (some ⟨H, 0, none⟩)] w (fun e w' => e = .returned (.int .i64 0) ∧ Left w X (Wid X w) H d1 w') ∧
      ∃ d2, Quiet d2 n ∧ d2.now = headB (kH 2) :: headB (kH 1) :: List.replicate (n - 2) zsec ∧ ∀ w' Y, DiskAt w' Y H d1 → Calls Tryd.prog 14 #[.pointer (some ⟨H, 0, none⟩)] w' fun e w'' => ∃ L N v cs, e = .returned (.tuple #[.pointer (some ⟨L, 0, none⟩), v, .int .i64 0]) ∧ OpenR w' Y H ⟨kH 2, 1, 0, false⟩ [] d2 L N v cs w'' := by
  obtain ⟨d1, f1, q1, n1⟩ := format_quiet n h4
  obtain ⟨d2, f2, q2, n2, _⟩ := safely_quiet q1 0 [headB (kH 2)]
  refine ⟨d1, q1, ?_, d2, q2, ?_, fun w' Y hdy => ?_⟩
  · have hl : (zeroM n).now.length = n := (zero_quiet n).2.2.2
    have := format_calls w X H _ hd (by rw [hl]; exact h4) (by show ([] : List (Nat × Sec)).length ≤ 50000; simp) (by show 0 ≤ 1000000; omega)
    rw [f1] at this
    exact this
  · rw [n2, n1]; rfl
  · obtain ⟨a1, a2, a3, a4⟩ := q1
    have hr := rest_form n _ h4 d1.now _ n1
    have hgo : openGo (kH 1).life (halfN d1.now.length + 1) (kH 1).since (kH 1).first 0 [] (restOf d1.now 0) = ([], 1, 0) := by rw [hr]; exact go_zeros _ _ _ _ _ _ _
    exact open_calls w' Y H d1 d2 zsec (headB (kH 1)) (kH 1) 0 [] 1 0 hdy (by rw [a4]; exact h4) a1 (by rw [a3]; simp) (by rw [a2]; omega) (by rw [n1]; rfl) (by rw [n1]; rfl) kN1 rfl (by decide) (by decide) (by decide) hgo (by decide) f2
end Go.Proofs.YtannkgglgmbkdaaDoor
namespace Go.Proofs.YtannkgglgmbkdaaDoor
set_option linter.unusedVariables false
set_option linter.unusedSimpArgs false
open Go.RowKit

def placed : Int → List (Int × List UInt8) → List Sec
  | _, [] => []
  | seq, p :: ps => recB p.1 seq p.2 ++ placed (seq + 1) ps
theorem placed_snoc : ∀ (ps : List (Int × List UInt8)) (seq : Int) (p : Int × List UInt8), placed seq (ps ++ [p]) = placed seq ps ++ recB p.1 (seq + ps.length) p.2
  | [], seq, p => by simp [placed]
  | q :: ps, seq, p => by
    show recB q.1 seq q.2 ++ placed (seq + 1) (ps ++ [p]) = recB q.1 seq q.2 ++ placed (seq + 1) ps ++ _
    rw [placed_snoc ps, List.append_assoc, List.length_cons, show seq + 1 + (ps.length : Int) = seq + ((ps.length + 1 : Nat) : Int) by omega]
/-- Lifes that rise, from one on up to one. -/
def Rising (top : Int) : Int → List (Int × List UInt8) → Prop
  | _, [] => True
  | was, p :: ps => was ≤ p.1 ∧ p.1 ≤ top ∧ (1 ≤ p.2.length ∧ p.2.length ≤ 60000) ∧ Rising top p.1 ps
theorem Rising.mono {top top' : Int} (h : top ≤ top') : ∀ {ps : List (Int × List UInt8)} {was : Int}, Rising top was ps → Rising top' was ps
  | [], _, _ => True.intro
  | p :: ps, was, hr => ⟨hr.1, by have := hr.2.1; omega, hr.2.2.1, hr.2.2.2.mono h⟩
theorem Rising.snoc {top : Int} {r : List UInt8} (hr1 : 1 ≤ r.length ∧ r.length ≤ 60000) : ∀ {ps : List (Int × List UInt8)} {was : Int}, was ≤ top → Rising top was ps → Rising top was (ps ++ [(top, r)])
  | [], was, hw, _ => ⟨hw, Int.le_refl _, hr1, True.intro⟩
  | p :: ps, was, hw, h => ⟨h.1, h.2.1, h.2.2.1, h.2.2.2.snoc hr1 h.2.1⟩
theorem go_placed (top : Int) (ht : top < 281474976710656) : ∀ (ps : List (Int × List UInt8)) (f : Nat) (was seq : Int) (at_ : Nat) (recs : List (List UInt8)) (m : Nat), 0 ≤ was → Rising top was ps → ps.length < f →
    openGo top f was seq at_ recs (placed seq ps ++ List.replicate m zsec) = (recs ++ ps.map (·.2), seq + ps.length, at_ + (placed seq ps).length)
  | [], f, was, seq, at_, recs, m, _, _, hf => by
    obtain ⟨f, rfl⟩ : ∃ g, f = g + 1 := ⟨f - 1, by simp at hf; omega⟩
    show openGo top (f + 1) was seq at_ recs (List.replicate m zsec) = _
    rw [go_zeros]
    simp [placed]
  | p :: ps, f, was, seq, at_, recs, m, hw, hr, hf => by
    obtain ⟨f, rfl⟩ : ∃ g, f = g + 1 := ⟨f - 1, by simp at hf; omega⟩
    obtain ⟨h1, h2, h3, h4⟩ := hr
    have hg := recGo_recB p.1 seq p.2 (placed (seq + 1) ps ++ List.replicate m zsec) ⟨by omega, by omega⟩ h3.1 h3.2
    have he : placed seq (p :: ps) ++ List.replicate m zsec = recB p.1 seq p.2 ++ (placed (seq + 1) ps ++ List.replicate m zsec) := by rw [placed, List.append_assoc]
    rw [he, openGo_on hg (by omega)]
    have hd : (recB p.1 seq p.2 ++ (placed (seq + 1) ps ++ List.replicate m zsec)).drop (recN p.2.length) = placed (seq + 1) ps ++ List.replicate m zsec := by
      have := recB_len p.1 seq p.2
      rw [← this, List.drop_left]
    rw [hd, go_placed top ht ps f _ _ _ _ m (by omega) h4 (by simp at hf; omega)]
    have hpl : (placed seq (p :: ps)).length = recN p.2.length + (placed (seq + 1) ps).length := by rw [placed, List.length_append, recB_len]
    rw [hpl, List.map_cons, List.append_assoc, List.length_cons]
    refine Prod.ext rfl (Prod.ext ?_ ?_)
    · show seq + 1 + (ps.length : Int) = seq + ((ps.length + 1 : Nat) : Int); omega
    · show at_ + recN p.2.length + (placed (seq + 1) ps).length = at_ + (recN p.2.length + (placed (seq + 1) ps).length); omega
theorem putN_pre : ∀ (ss : List Sec) (a b c : List Sec), b.length = ss.length → putN (a ++ b ++ c) a.length ss = a ++ ss ++ c
  | [], a, b, c, h => by
    obtain rfl := List.eq_nil_of_length_eq_zero h
    rfl
  | s :: ss, a, b, c, h => by
    obtain ⟨x, b, rfl⟩ : ∃ x b', b = x :: b' := by
      cases b with
      | nil => simp at h
      | cons x b => exact ⟨x, b, rfl⟩
    have e1 : (a ++ x :: b ++ c).set a.length s = (a ++ [s]) ++ b ++ c := by
      rw [List.append_assoc, List.set_append_right _ _ (Nat.le_refl _), Nat.sub_self]
      simp
    rw [putN, e1, show a.length + 1 = (a ++ [s]).length by simp, putN_pre ss (a ++ [s]) b c (by simpa using h)]
    simp
/-- The heads of a device whose log is at a life. -/
def heads (n : Nat) : Sec × Sec := if n % 2 = 0 then (headB (kH n), headB (kH (n - 1 : Nat))) else (headB (kH (n - 1 : Nat)), headB (kH n))
/-- A device with records of a log at life n. -/
def Dev (d : DiskM) (n : Nat) (ps : List (Int × List UInt8)) : Prop :=
  Quiet d 300 ∧ 2 ≤ n ∧ Rising n 1 ps ∧ (placed 1 ps).length ≤ 149 ∧ d.now = (heads n).1 :: (heads n).2 :: (placed 1 ps ++ List.replicate (298 - (placed 1 ps).length) zsec)
theorem kH_at {n : Nat} (h : 1 ≤ n ∧ n ≤ 1099511627776) : HeadIn (kH n) := ⟨⟨by show (1 : Int) ≤ n; omega, by show (n : Int) ≤ 1099511627776; omega⟩, .inl rfl, ⟨Int.le_refl 1, (by decide : (1 : Int) ≤ 1099511627776)⟩, ⟨Int.le_refl 1, (by decide : (1 : Int) ≤ 1099511627776)⟩⟩
theorem newest_heads (n : Nat) (h2 : 2 ≤ n) (hm : n ≤ 1099511627776) : newestM (heads n).1 (heads n).2 = (kH n, true) := by
  have i1 := kH_at (n := n) ⟨by omega, hm⟩
  have i2 := kH_at (n := n - 1) ⟨by omega, by omega⟩
  unfold heads
  split
  · show newestM (headB (kH n)) (headB (kH (n - 1 : Nat))) = _
    unfold newestM
    rw [if_neg ?_, getH_headB _ i1, headOk_headB _ i1]
    rintro ⟨_, h | h⟩
    · rw [headOk_headB _ i1] at h; cases h
    · rw [getH_headB _ i1, getH_headB _ i2] at h
      have : (n : Int) < ((n - 1 : Nat) : Int) := h
      omega
  · show newestM (headB (kH (n - 1 : Nat))) (headB (kH n)) = _
    have hlt : (getH (headB (kH (n - 1 : Nat)))).life < (getH (headB (kH n))).life := by
      rw [getH_headB _ i1, getH_headB _ i2]
      show ((n - 1 : Nat) : Int) < (n : Int)
      omega
    unfold newestM
    rw [if_pos ⟨headOk_headB _ i1, .inr hlt⟩, getH_headB _ i1]
theorem heads_next (n : Nat) (h2 : 1 ≤ n) (R : List Sec) : ((heads n).1 :: (heads n).2 :: R).set ((n + 1) % 2) (headB (kH (n + 1 : Nat))) = (heads (n + 1)).1 :: (heads (n + 1)).2 :: R := by
  unfold heads
  rcases Nat.mod_two_eq_zero_or_one n with h | h
  · rw [if_pos h, if_neg (by omega), show (n + 1) % 2 = 1 by omega]
    rfl
  · rw [if_neg (by omega), if_pos (by omega), show (n + 1) % 2 = 0 by omega]
    rfl
theorem Dev.rest {d : DiskM} {n : Nat} {ps : List (Int × List UInt8)} (h : Dev d n ps) : restOf d.now 0 = placed 1 ps ++ List.replicate (149 - (placed 1 ps).length) zsec := by
  obtain ⟨h1, h2, h3, h4, h5⟩ := h
  have hl : d.now.length = 300 := h1.2.2.2
  unfold restOf
  rw [hl, h5]
  show ((placed 1 ps ++ List.replicate (298 - (placed 1 ps).length) zsec)).take 149 = _
  rw [List.take_append, List.take_of_length_le h4, List.take_replicate]
  congr 2
  omega
/-- Opened it tells all records. -/
theorem Dev.opens {d : DiskM} {n : Nat} {ps : List (Int × List UInt8)} (h : Dev d n ps) (hm : n ≤ 1099511627776) (hp : ps.length ≤ 149) : openGo (kH n).life (halfN d.now.length + 1) (kH n).since (kH n).first 0 [] (restOf d.now 0) = (ps.map (·.2), 1 + (ps.length : Int), (placed 1 ps).length) := by
  rw [h.rest, h.1.2.2.2]
  have := go_placed (n : Int) (by omega) ps (halfN 300 + 1) 1 1 0 [] (149 - (placed 1 ps).length) (by decide) h.2.2.1 (by show ps.length < 150; omega)
  rw [List.nil_append, Nat.zero_add] at this
  exact this
/-- The next head laid. -/
theorem Dev.lays {d : DiskM} {n : Nat} {ps : List (Int × List UInt8)} (h : Dev d n ps) : ∃ d', layM d { kH n with life := (kH n).life + 1 } = (d', true) ∧ Dev d' (n + 1) ps := by
  obtain ⟨h1, h2, h3, h4, h5⟩ := h
  have e : ({ kH n with life := (kH n).life + 1 } : HeadM) = kH (n + 1 : Nat) := by show HeadM.mk ((n : Int) + 1) 0 1 1 = HeadM.mk ((n + 1 : Nat) : Int) 0 1 1; congr 1
  rw [e]
  unfold layM
  have e2 : ((kH (n + 1 : Nat)).life % 2).toNat = (n + 1) % 2 := by show (((n + 1 : Nat) : Int) % 2).toNat = _; omega
  rw [e2]
  obtain ⟨d', hs, hq, hn, _⟩ := safely_quiet h1 ((n + 1) % 2) [headB (kH (n + 1 : Nat))]
  refine ⟨d', hs, hq, by omega, h3.mono (by omega), h4, ?_⟩
  rw [hn, h5]
  exact heads_next n (by omega) _
/-- A record laid behind the last. -/
theorem Dev.appends {d : DiskM} {n : Nat} {ps : List (Int × List UInt8)} (h : Dev d n ps) {r : List UInt8} (hr : 1 ≤ r.length ∧ r.length ≤ 60000) (hfit : (placed 1 ps).length + recN r.length ≤ 149) :
    ∃ d', safelyM d (2 + 0 * halfN d.now.length + (placed 1 ps).length) (recB (kH n).life (1 + (ps.length : Int)) r) = (d', true) ∧ Dev d' n (ps ++ [((n : Int), r)]) ∧ (placed 1 (ps ++ [((n : Int), r)])).length = (placed 1 ps).length + recN r.length := by
  obtain ⟨h1, h2, h3, h4, h5⟩ := h
  obtain ⟨d', hs, hq, hn, _⟩ := safely_quiet h1 (2 + 0 * halfN d.now.length + (placed 1 ps).length) (recB (kH n).life (1 + (ps.length : Int)) r)
  have hpl : (placed 1 (ps ++ [((n : Int), r)])).length = (placed 1 ps).length + recN r.length := by rw [placed_snoc, List.length_append, recB_len]
  have hbl : (recB (kH n).life (1 + (ps.length : Int)) r).length = recN r.length := recB_len _ _ _
  refine ⟨d', hs, ⟨hq, h2, h3.snoc hr (by omega), by rw [hpl]; exact hfit, ?_⟩, hpl⟩
  rw [hn, h5, hpl, placed_snoc]
  have e1 : List.replicate (298 - (placed 1 ps).length) zsec = List.replicate (recN r.length) zsec ++ List.replicate (298 - ((placed 1 ps).length + recN r.length)) zsec := by
    rw [List.replicate_append_replicate]; congr 1; omega
  have e2 : (heads n).1 :: (heads n).2 :: (placed 1 ps ++ List.replicate (298 - (placed 1 ps).length) zsec) = ((heads n).1 :: (heads n).2 :: placed 1 ps) ++ List.replicate (recN r.length) zsec ++ List.replicate (298 - ((placed 1 ps).length + recN r.length)) zsec := by
    rw [e1]; simp
  rw [e2, show 2 + 0 * halfN ((heads n).1 :: (heads n).2 :: placed 1 ps ++ List.replicate (recN r.length) zsec ++ List.replicate (298 - ((placed 1 ps).length + recN r.length)) zsec).length + (placed 1 ps).length = ((heads n).1 :: (heads n).2 :: placed 1 ps).length by simp; omega]
  rw [putN_pre _ _ _ _ (by rw [hbl, List.length_replicate])]
  simp only [List.cons_append, List.append_assoc]
  rfl
end Go.Proofs.YtannkgglgmbkdaaDoor
namespace Go.Proofs.YtannkgglgmbkdaaDoor
set_option linter.unusedVariables false
set_option linter.unusedSimpArgs false
open Go.RowKit

/-- What a sector says of its life and number. -/
def secLife (s : Sec) : Int := getN (subB s 0 6)
def secSeq (s : Sec) : Int := getN (subB s 6 6)
theorem want_says {life seq : Int} {i : Nat} {s : Sec} (h : wantB life seq i s = s) (hl : 0 ≤ life ∧ life < 281474976710656) (hs : 0 ≤ seq ∧ seq < 281474976710656) : secLife s = life ∧ secSeq s = seq := by
  obtain ⟨T, hT⟩ : ∃ T, T = putL 2 (i : Int) ++ [s.getD 14 0 &&& 1] ++ [s.getD 15 0] ++ subB s 16 (s.getD 15 0).toNat ++ List.replicate (112 - (s.getD 15 0).toNat) 0 := ⟨_, rfl⟩
  have e : s = [] ++ putL 6 life ++ (putL 6 seq ++ T) := by
    conv => lhs; rw [← h]
    rw [hT]
    unfold wantB
    simp only [List.append_assoc]
  have e2 : s = putL 6 life ++ putL 6 seq ++ T := by rw [e]; simp only [List.nil_append, List.append_assoc]
  constructor
  · unfold secLife
    rw [e, subB_mid _ _ _ 0 6 rfl (putL_len _ _), get_put 6 life hl.1 (by rw [p256]; exact hl.2)]
  · unfold secSeq
    rw [e2, subB_mid _ _ _ 6 6 (putL_len _ _) (putL_len _ _), get_put 6 seq hs.1 (by rw [p256]; exact hs.2)]
theorem getN6 (s : Sec) (o : Nat) : 0 ≤ getN (subB s o 6) ∧ getN (subB s o 6) < 281474976710656 := by
  have h := getN_range (subB s o 6)
  have hl : (subB s o 6).length ≤ 6 := by unfold subB; rw [List.length_take]; omega
  have h2 : (256 ^ (subB s o 6).length : Nat) ≤ 256 ^ 6 := Nat.pow_le_pow_right (by decide) hl
  have h3 : (256 ^ 6 : Nat) = 281474976710656 := by decide
  exact ⟨h.1, by have := h.2; omega⟩
/-- A record that is told has a last sector. -/
theorem recGo_last (seq : Int) : ∀ (ss : List Sec) (i : Nat) (lf : Int) (acc r : List UInt8) (life : Int) (n : Nat), recGo seq i lf acc ss = some (r, life, n) → ∃ s ∈ ss, s.getD 14 0 = 1 ∧ ∃ j, wantB life seq j s = s
  | [], _, _, _, _, _, _, h => by cases h
  | s :: ss, i, lf, acc, r, life, n, h => by
    by_cases hb : recBad acc.length s ∨ wantB (lifeOf i lf s) seq i s ≠ s
    · rw [recGo_no hb] at h; cases h
    · have hb1 : ¬ recBad acc.length s := fun h => hb (.inl h)
      have hb2 : wantB (lifeOf i lf s) seq i s = s := Classical.byContradiction fun h => hb (.inr h)
      by_cases h14 : s.getD 14 0 = 1
      · rw [recGo_end hb1 hb2 h14] at h
        injection h with h
        injection h with h1 h2
        injection h2 with h2 h3
        exact ⟨s, by simp, h14, i, by rw [← h2]; exact hb2⟩
      · rw [recGo_on hb1 hb2 h14] at h
        obtain ⟨x, hx, h1, j, h2⟩ := recGo_last seq ss _ _ _ _ _ _ h
        exact ⟨x, by simp [hx], h1, j, h2⟩
theorem recGo_life (seq : Int) : ∀ (ss : List Sec) (i : Nat) (lf : Int) (acc r : List UInt8) (life : Int) (n : Nat), recGo seq i lf acc ss = some (r, life, n) → (i = 0 ∨ (0 ≤ lf ∧ lf < 281474976710656)) → 0 ≤ life ∧ life < 281474976710656
  | [], _, _, _, _, _, _, h, _ => by cases h
  | s :: ss, i, lf, acc, r, life, n, h, hi => by
    have hlf : 0 ≤ lifeOf i lf s ∧ lifeOf i lf s < 281474976710656 := by
      unfold lifeOf
      split
      · exact getN6 s 0
      · rcases hi with hi | hi
        · contradiction
        · exact hi
    by_cases hb : recBad acc.length s ∨ wantB (lifeOf i lf s) seq i s ≠ s
    · rw [recGo_no hb] at h; cases h
    · have hb1 : ¬ recBad acc.length s := fun h => hb (.inl h)
      have hb2 : wantB (lifeOf i lf s) seq i s = s := Classical.byContradiction fun h => hb (.inr h)
      by_cases h14 : s.getD 14 0 = 1
      · rw [recGo_end hb1 hb2 h14] at h
        injection h with h
        injection h with h1 h2
        injection h2 with h2 h3
        rw [← h2]; exact hlf
      · rw [recGo_on hb1 hb2 h14] at h
        exact recGo_life seq ss _ _ _ _ _ _ h (.inr hlf)
/-- Sectors that end what stands ahead of them: of an elder life, of an elder number, or no record's last. -/
def Waste (since seq : Int) (ss : List Sec) : Prop := ∀ s ∈ ss, secLife s < since ∨ secSeq s < seq ∨ s.getD 14 0 ≠ 1
theorem go_waste (top was since sq : Int) (f at_ : Nat) (recs : List (List UInt8)) (ss : List Sec) (h : Waste since sq ss) (hw : since ≤ was) (hs : 0 ≤ sq ∧ sq < 281474976710656) : openGo top (f + 1) was sq at_ recs ss = (recs, sq, at_) := by
  cases hg : recGo sq 0 0 [] ss with
  | none => exact openGo_none hg
  | some p =>
    obtain ⟨r, life, n⟩ := p
    obtain ⟨s, hm, h14, j, hwant⟩ := recGo_last sq ss _ _ _ _ _ _ hg
    obtain ⟨h1, h2⟩ := want_says hwant (recGo_life sq ss _ _ _ _ _ _ hg (.inl rfl)) hs
    refine openGo_stop hg (.inl ?_)
    rcases h s hm with h | h | h
    · omega
    · omega
    · exact absurd h14 h
theorem Waste.later {since seq since' seq' : Int} {ss : List Sec} (h : Waste since seq ss) (h1 : since ≤ since') (h2 : seq ≤ seq') : Waste since' seq' ss := fun s hs => by
  rcases h s hs with h | h | h
  · exact .inl (by omega)
  · exact .inr (.inl (by omega))
  · exact .inr (.inr h)
end Go.Proofs.YtannkgglgmbkdaaDoor
namespace Go.Proofs.YtannkgglgmbkdaaDoor
set_option linter.unusedVariables false
set_option linter.unusedSimpArgs false
open Go.RowKit

theorem go_placedW (top since : Int) (ht : top < 281474976710656) : ∀ (ps : List (Int × List UInt8)) (f : Nat) (was seq : Int) (at_ : Nat) (recs : List (List UInt8)) (ss : List Sec), 0 ≤ was → since ≤ was → 0 ≤ seq → seq + ps.length < 281474976710656 → Rising top was ps → Waste since (seq + ps.length) ss → ps.length < f →
    openGo top f was seq at_ recs (placed seq ps ++ ss) = (recs ++ ps.map (·.2), seq + ps.length, at_ + (placed seq ps).length)
  | [], f, was, seq, at_, recs, ss, _, hw, hs0, hs1, _, hg, hf => by
    obtain ⟨f, rfl⟩ : ∃ g, f = g + 1 := ⟨f - 1, by simp at hf; omega⟩
    show openGo top (f + 1) was seq at_ recs ss = _
    rw [go_waste top was since seq f at_ recs ss (by simpa using hg) hw ⟨hs0, by simpa using hs1⟩]
    simp [placed]
  | p :: ps, f, was, seq, at_, recs, ss, h0, hw, hs0, hs1, hr, hg, hf => by
    obtain ⟨f, rfl⟩ : ∃ g, f = g + 1 := ⟨f - 1, by simp at hf; omega⟩
    obtain ⟨h1, h2, h3, h4⟩ := hr
    rw [List.length_cons] at hs1 hg
    have hrb := recGo_recB p.1 seq p.2 (placed (seq + 1) ps ++ ss) ⟨by omega, by omega⟩ h3.1 h3.2
    have he : placed seq (p :: ps) ++ ss = recB p.1 seq p.2 ++ (placed (seq + 1) ps ++ ss) := by rw [placed, List.append_assoc]
    rw [he, openGo_on hrb (by omega)]
    have hd : (recB p.1 seq p.2 ++ (placed (seq + 1) ps ++ ss)).drop (recN p.2.length) = placed (seq + 1) ps ++ ss := by
      have := recB_len p.1 seq p.2
      rw [← this, List.drop_left]
    rw [hd, go_placedW top since ht ps f _ _ _ _ ss (by omega) (by omega) (by omega) (by omega) h4 (hg.later (Int.le_refl _) (by omega)) (by simp at hf; omega)]
    have hpl : (placed seq (p :: ps)).length = recN p.2.length + (placed (seq + 1) ps).length := by rw [placed, List.length_append, recB_len]
    rw [hpl, List.map_cons, List.append_assoc, List.length_cons]
    refine Prod.ext rfl (Prod.ext ?_ ?_)
    · show seq + 1 + (ps.length : Int) = seq + ((ps.length + 1 : Nat) : Int); omega
    · show at_ + recN p.2.length + (placed (seq + 1) ps).length = at_ + (recN p.2.length + (placed (seq + 1) ps).length); omega
/-- A sector behind a crash is the one that was safe, or one that was on the way. -/
theorem crashS_len : ∀ (way : List (Nat × Sec)) (S : List Sec) (ks : List Bool), (crashS S way ks).length = S.length
  | [], _, _ => rfl
  | p :: ps, S, ks => by
    rw [crashS, crashS_len ps]
    split
    · simp
    · rfl
theorem crashS_at : ∀ (way : List (Nat × Sec)) (S : List Sec) (ks : List Bool) (k : Nat) (x : Sec), (crashS S way ks)[k]? = some x → S[k]? = some x ∨ (k, x) ∈ way
  | [], _, _, _, _, h => .inl h
  | p :: ps, S, ks, k, x, h => by
    rw [crashS] at h
    rcases crashS_at ps _ _ k x h with h1 | h1
    · split at h1
      · by_cases hk : p.1 = k
        · rcases Nat.lt_or_ge k S.length with hl | hl
          · rw [List.getElem?_set, if_pos hk, if_pos (by omega)] at h1
            injection h1 with h1
            right
            rw [← h1, ← hk]
            simp
          · rw [List.getElem?_eq_none (by simpa using hl)] at h1; cases h1
        · rw [List.getElem?_set_ne hk] at h1
          exact .inl h1
      · exact .inl h1
    · exact .inr (by simp [h1])
/-- The sectors that a write has laid, with their places. -/
def laid (k : Nat) : List Sec → List (Nat × Sec)
  | [] => []
  | s :: ss => (k, s) :: laid (k + 1) ss
theorem laid_mem : ∀ (ss : List Sec) (k j : Nat) (x : Sec), (j, x) ∈ laid k ss → k ≤ j ∧ ss[j - k]? = some x
  | [], _, _, _, h => by cases h
  | s :: ss, k, j, x, h => by
    rcases List.mem_cons.1 h with h | h
    · injection h with h1 h2
      subst h1 h2
      exact ⟨Nat.le_refl _, by simp⟩
    · obtain ⟨h1, h2⟩ := laid_mem ss (k + 1) j x h
      refine ⟨by omega, ?_⟩
      rw [show j - k = (j - (k + 1)) + 1 by omega, List.getElem?_cons_succ]
      exact h2
/-- A write that fails has laid some of its sectors, not all, and the device is dead. -/
theorem putsM_fails : ∀ (ss : List Sec) (d : DiskM) (k : Nat), (putsM d k ss).2 = false → ∃ m, m < ss.length ∧ (putsM d k ss).1.way = d.way ++ laid k (ss.take m) ∧ (putsM d k ss).1.now = putN d.now k (ss.take m) ∧ (putsM d k ss).1.safe = d.safe ∧ (putsM d k ss).1.dead = true
  | [], d, k, h => by cases h
  | s :: ss, d, k, h => by
    rw [putsM_cons] at h ⊢
    by_cases ho : (oneM d k s).2 = true
    · rw [if_pos ho] at h ⊢
      obtain ⟨_, _, h3⟩ := oneM_yes ho
      rw [h3] at h ⊢
      obtain ⟨m, m1, m2, m3, m4, m5⟩ := putsM_fails ss _ _ h
      refine ⟨m + 1, by simp; omega, ?_, ?_, m4, m5⟩
      · rw [m2, List.take_succ_cons, laid, List.append_assoc]; rfl
      · rw [m3, List.take_succ_cons, putN]
    · rw [if_neg ho] at h ⊢
      refine ⟨0, by simp, ?_⟩
      unfold oneM at ho ⊢
      by_cases h1 : d.left = 1
      · rw [if_pos h1]
        exact ⟨by simp [laid], rfl, rfl, rfl⟩
      · rw [if_neg h1] at ho ⊢
        by_cases h2 : d.dead = true
        · rw [if_pos h2]
          exact ⟨by simp [laid], rfl, rfl, h2⟩
        · rw [if_neg h2] at ho
          exact absurd rfl ho
theorem secLife_rec (life seq : Int) (rec : List UInt8) (j : Nat) (hl : 0 ≤ life ∧ life < 281474976710656) (hs : 0 ≤ seq ∧ seq < 281474976710656) : secLife (recSec life seq rec j) = life ∧ secSeq (recSec life seq rec j) = seq :=
  want_says (want_recSec life seq rec j hl) hl hs
/-- Not the last sector of a record: no last flag. -/
theorem recSec_flag (life seq : Int) (rec : List UInt8) (j : Nat) (hl : 0 ≤ life ∧ life < 281474976710656) (hj : j + 1 < recN rec.length) : (recSec life seq rec j).getD 14 0 ≠ 1 := by
  rw [(recSec_facts life seq rec j hl).1, if_neg (by unfold recN at hj; omega)]
  decide
theorem zsec_life : secLife zsec = 0 := by decide +kernel
end Go.Proofs.YtannkgglgmbkdaaDoor
