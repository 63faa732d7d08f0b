/- A value that is read, by value's scanner. No condition. -/
import Derived.Test.YtfgkioigbnlkkaaScan
namespace Go.Proofs.Ytfgkioigbnlkkaa
set_option linter.unusedVariables false
set_option linter.unusedSimpArgs false
open Go.RowKit

theorem oneO_le (most : Nat) (s : St) : (oneO most s).1 ≤ most := by
  unfold oneO
  split
  · simp
  · simp
  · split
    · assumption
    · simp
theorem numO_le (most : Nat) (s : St) : (numO most s).1 ≤ most := by
  unfold numO
  split
  · simp
  · split
    · rename_i h; exact h.2
    · simp
theorem numO_lt (most : Nat) (s : St) : (numO most s).1 < 18446744073709551616 := by
  unfold numO
  split
  · simp
  · split
    · exact readU_lt _
    · simp
theorem valO_int {s : St} (h : (oneO 4 s).1 = 3) : valO s = (⟨3, unfoldZ (numO 18446744073709551615 (oneO 4 s).2).1⟩, (numO 18446744073709551615 (oneO 4 s).2).2) := by unfold valO; rw [if_pos h]
theorem valO_ref {s : St} (h : (oneO 4 s).1 = 4) : valO s = (⟨4, (numO 4096 (oneO 4 s).2).1⟩, (numO 4096 (oneO 4 s).2).2) := by unfold valO; rw [if_neg (by omega), if_pos h]
theorem valO_plain {s : St} (h : ¬ (oneO 4 s).1 = 3) (h2 : ¬ (oneO 4 s).1 = 4) : valO s = (⟨(oneO 4 s).1, 0⟩, (oneO 4 s).2) := by unfold valO; rw [if_neg h, if_neg h2]
set_option maxHeartbeats 2000000 in
set_option maxRecDepth 100000 in
theorem val_calls (S : Nat → Prop) (g : Nat) (s : St) (w : World) (h : ScanAt 68 w S g s) :
    Calls Try.prog 60 #[.pointer (some ⟨g, 0, none⟩)] w fun e w' => e = .returned (.agg #[.int .i64 (valO s).1.k, .int .i64 (valO s).1.n]) ∧ ScanAt 68 w' S g (valO s).2 ∧ Fr (fun b => b = g) w w' := by
  have hgl := h.lt
  have hS := h.not
  replace h := h.down
  have g1 := plain_int
  have g2 := plain_i64
  have hle := oneO_le 4 s
  have HI := Lib.hid (@valO_int s)
  have HF := Lib.hid (@valO_ref s)
  have HP := Lib.hid (@valO_plain s)
  go_enter Try.func60, Try.ntmps60
  go_wp2_with fail
  refine (one_calls _ g 4 s _ (h.fr0 ((Fr.refl No w).alloc _)) (by decide)).mono ?_
  rintro e w1 ⟨rfl, hs1, hf1⟩
  have hb0 := (Blk.new w 41 #[.int .i64 0, .int .i64 0]).fr hf1 (by omega)
  have hl0 := hb0.lt
  have hf01 : Fr (fun b => b = g) w w1 := ((Fr.refl No w).alloc _ |>.mono (fun _ _ hn => hn.elim)).trans hf1 (fun _ _ h => h)
  generalize oneO 4 s = q at *
  obtain ⟨c, s1⟩ := q
  simp only at *
  by_cases h3 : c = 3
  · subst h3
    have H := Lib.hid (HI.out rfl)
    clear HI HF HP
    go_wp2_with fail
    refine (num_calls _ g 18446744073709551615 s1 _ (hs1.fr0 ((Fr.refl No w1).alloc _)) (by decide)).mono ?_
    rintro e w2 ⟨rfl, hs2, hf2⟩
    have hb1 := (Blk.new w1 41 #[.int .i64 3, .int .i64 0]).fr hf2 (by omega)
    have hb02 := (hb0.alloc (.cells #[.int .i64 3, .int .i64 0] 41)).fr hf2 (by omega)
    have hl1 := hb1.lt
    have hlt := numO_lt 18446744073709551615 s1
    have hle2 := numO_le 18446744073709551615 s1
    have hf02 : Fr (fun b => b = g) w w2 := hf01.trans (((Fr.refl No w1).alloc _ |>.mono (fun _ _ hn => hn.elim)).trans hf2 (fun _ _ h => h)) (fun _ _ h => h)
    generalize numO 18446744073709551615 s1 = q at *
    obtain ⟨n, s2⟩ := q
    simp only at *
    go_wp2_with fail
    refine (unfold_calls (n : Int) _ (by omega) (by omega)).mono ?_
    rintro e _ ⟨rfl, rfl⟩
    (have p0 := hb1.cell 0; have p1 := hb1.cell 1; have pf0 := hb1.frozen 0; have pf1 := hb1.frozen 1; simp only [List.getElem?_toArray, List.getElem?_cons_zero, List.getElem?_cons_succ] at p0 p1)
    (have q0 := hb02.cell 0; have q1 := hb02.cell 1; have qf0 := hb02.frozen 0; have qf1 := hb02.frozen 1; simp only [List.getElem?_toArray, List.getElem?_cons_zero, List.getElem?_cons_succ] at q0 q1)
    go_wp2_with fail
    have hbz := ((hb02.far (p := ⟨w1.heap.size, 1, none⟩) (by simp; omega) (.int .i64 (unfoldZ n))).put 0 (.int .i64 3)).put 1 (.int .i64 (unfoldZ n))
    refine bodyPost_ret (results_blk ag_val rfl _ _ _ _ _ rfl hbz rfl) rfl ⟨by rw [H.out]; rfl, ?_, ?_⟩
    · rw [H.out]
      refine (hs2.fr (U := fun b => b = w.heap.size ∨ b = w1.heap.size) ((((Fr.refl _ w2).set (.inr (.inr rfl)) _).set (.inr (.inl rfl)) _).set (.inr (.inl rfl)) _) (by omega) (fun b hb => by omega)).up hS
    · exact ((hf02.set (.inl (by simp; omega)) _).set (.inl (by simp)) _).set (.inl (by simp)) _
  by_cases h4 : c = 4
  · subst h4
    have H := Lib.hid (HF.out rfl)
    clear HI HF HP
    go_wp2_with fail
    refine (num_calls _ g 4096 s1 _ (hs1.fr0 ((Fr.refl No w1).alloc _)) (by decide)).mono ?_
    rintro e w2 ⟨rfl, hs2, hf2⟩
    have hb1 := (Blk.new w1 41 #[.int .i64 4, .int .i64 0]).fr hf2 (by omega)
    have hb02 := (hb0.alloc (.cells #[.int .i64 4, .int .i64 0] 41)).fr hf2 (by omega)
    have hl1 := hb1.lt
    have hlt := numO_lt 4096 s1
    have hle2 := numO_le 4096 s1
    have hf02 : Fr (fun b => b = g) w w2 := hf01.trans (((Fr.refl No w1).alloc _ |>.mono (fun _ _ hn => hn.elim)).trans hf2 (fun _ _ h => h)) (fun _ _ h => h)
    generalize numO 4096 s1 = q at *
    obtain ⟨n, s2⟩ := q
    simp only at *
    (have p0 := hb1.cell 0; have p1 := hb1.cell 1; have pf0 := hb1.frozen 0; have pf1 := hb1.frozen 1; simp only [List.getElem?_toArray, List.getElem?_cons_zero, List.getElem?_cons_succ] at p0 p1)
    (have q0 := hb02.cell 0; have q1 := hb02.cell 1; have qf0 := hb02.frozen 0; have qf1 := hb02.frozen 1; simp only [List.getElem?_toArray, List.getElem?_cons_zero, List.getElem?_cons_succ] at q0 q1)
    go_wp2_with fail
    have hbz := ((hb02.far (p := ⟨w1.heap.size, 1, none⟩) (by simp; omega) (.int .i64 n)).put 0 (.int .i64 4)).put 1 (.int .i64 n)
    refine bodyPost_ret (results_blk ag_val rfl _ _ _ _ _ rfl hbz rfl) rfl ⟨by rw [H.out]; rfl, ?_, ?_⟩
    · rw [H.out]
      refine (hs2.fr (U := fun b => b = w.heap.size ∨ b = w1.heap.size) ((((Fr.refl _ w2).set (.inr (.inr rfl)) _).set (.inr (.inl rfl)) _).set (.inr (.inl rfl)) _) (by omega) (fun b hb => by omega)).up hS
    · exact ((hf02.set (.inl (by simp; omega)) _).set (.inl (by simp)) _).set (.inl (by simp)) _
  · have H := Lib.hid (HP.out h3 h4)
    have e3 : ((c : Int) == 3) = false := by simp; omega
    have e4 : ((c : Int) == 4) = false := by simp; omega
    clear HI HF HP h3 h4
    (have q0 := hb0.cell 0; have q1 := hb0.cell 1; have qf0 := hb0.frozen 0; have qf1 := hb0.frozen 1; simp only [List.getElem?_toArray, List.getElem?_cons_zero, List.getElem?_cons_succ] at q0 q1)
    go_wp2_with fail
    have hbz := ((hb0.put 0 (.int .i64 c)).put 1 (.int .i64 0)).alloc (.cells #[.int .i64 c, .int .i64 0] 41)
    refine bodyPost_ret (results_blk ag_val rfl _ _ _ _ _ rfl hbz rfl) rfl ⟨by rw [H.out]; rfl, ?_, ?_⟩
    · rw [H.out]
      refine (hs1.fr (U := fun b => b = w.heap.size) ((((Fr.refl _ w1).set1 _ _).set1 _ _).alloc _) (by omega) (fun b hb => by omega)).up hS
    · exact ((hf01.set (.inl (by simp)) _).set (.inl (by simp)) _).alloc _
end Go.Proofs.Ytfgkioigbnlkkaa
