/- The walk of lapidarylaw03.DiskFails. No condition. -/
import Derived.Test.YthhncjeabamceaaPDisk
import Derived.Test.YthhncjeabamceaaCount
namespace Go.Proofs.Ythhncjeabamceaa
set_option linter.unusedVariables false
set_option linter.unusedSimpArgs false
open Go.RowKit

set_option maxHeartbeats 8000000 in
set_option maxRecDepth 100000 in
theorem law_DiskFails (W : World) (zn : Int) (wn : (Lit.int .i64 zn).wf = true) (zm : Int) (wm : (Lit.int .i64 zm).wf = true) :
    Calls Try.prog 4 #[.int .i64 zn, .int .i64 zm] W fun e w' => e = .returned (.bool true) ∧ Fr No W w' := by
  have bn : -9223372036854775808 ≤ zn ∧ zn ≤ 9223372036854775807 := by simpa [Lit.wf, IntKind.min, IntKind.max, IntKind.signed, IntKind.bits] using wn
  have bm : -9223372036854775808 ≤ zm ∧ zm ≤ 9223372036854775807 := by simpa [Lit.wf, IntKind.min, IntKind.max, IntKind.signed, IntKind.bits] using wm
  clear wn wm
  go_enter Try.func4, Try.ntmps4
  go_wp2_with fail
  refine (count_calls zn 10 _ bn.1 bn.2 (by decide) (by decide)).mono ?_
  rintro e _ ⟨rfl, rfl⟩
  obtain ⟨r1, r2⟩ := countZ_range zn 10 (by decide)
  obtain ⟨q, hq⟩ := Int.eq_ofNat_of_zero_le r1
  rw [hq] at r2 ⊢
  obtain ⟨N, hN⟩ : ∃ N : Nat, N = q + 1 := ⟨_, rfl⟩
  have HN := Lib.hid (show 1 + (q : Int) = (N : Int) by omega)
  have hN1 : 1 ≤ N := by omega
  have hN2 : N ≤ 10 := by omega
  have hq9 : q ≤ 9 := by omega
  clear r1 r2 hq hN
  go_wp2_with fail
  refine (count_calls zm 8 _ bm.1 bm.2 (by decide) (by decide)).mono ?_
  rintro e _ ⟨rfl, rfl⟩
  obtain ⟨r1, r2⟩ := countZ_range zm 8 (by decide)
  obtain ⟨p, hp⟩ := Int.eq_ofNat_of_zero_le r1
  rw [hp] at r2 ⊢
  obtain ⟨M, hM⟩ : ∃ M : Nat, M = p + 1 := ⟨_, rfl⟩
  have HM := Lib.hid (show 1 + (p : Int) = (M : Int) by omega)
  have hM1 : 1 ≤ M := by omega
  have hM2 : M ≤ 8 := by omega
  have hp9 : p ≤ 7 := by omega
  clear r1 r2 hp hM
  go_wp2_with fail
  rw [HN.out, HM.out]
  clear HN HM hq9 hp9
  refine (new_calls 16 (by decide) (by decide) _).mono ?_
  rintro e w1 ⟨H, hH, rfl, hd1, hf1⟩
  have hs1 := hf1.size
  go_wp2_with fail
  refine (fail_calls w1 (fun b => W.heap.size ≤ b) H (zeroM 16) N (by omega) hd1).mono ?_
  rintro e w2 ⟨rfl, hd2, hf2⟩
  have hs2 := hf2.size
  have hF2 : Fr No W w2 := hf1.trans hf2 (fun b hb hT => by omega)
  have hd2' : DiskAt w2 (fun b => W.heap.size ≤ b ∧ b < w2.heap.size) H { zeroM 16 with left := N } := hd2.mono (fun b hlt hb => ⟨hb, hlt⟩)
  go_wp2_with fail
  refine (full_calls M 5 _ (by omega)).mono ?_
  rintro e w3 ⟨rfl, hb3, hf3⟩
  have hs3 := hf3.size
  go_wp2_with fail
  refine (write_full w3 (fun b => W.heap.size ≤ b ∧ b < w2.heap.size) (fun b => W.heap.size ≤ b) H { zeroM 16 with left := N } 0 M 5 w2.heap.size (hd2'.fr0 hf3) hb3 (by omega) hM1 (by show 0 + M ≤ (zeros 16).length; simp [zeros]; omega) (Nat.zero_le _) (by show N ≤ 1000000; omega) (fun b hb => hb.1) (fun b hb => by omega)).mono ?_
  intro e w4 hret
  by_cases hlt : M < N
  · rw [puts_yes (fsec 5) N M hM1 hM2 hlt hN2] at hret
    obtain ⟨rfl, hd4, hf4⟩ := hret.ok rfl
    have hs4 := hf4.size
    have hF4 : Fr No W w4 := (hF2.tr hf3).trans hf4 (fun b hb hT => by omega)
    have el : decide ((M : Int) < N) = true := by simpa using (by omega : (M : Int) < N)
    have el2 : ¬ (N ≤ M) := by omega
    have hd5' := hd4
    have hF5 := hF4
    have hD8 : M ≤ 8 := hM2
    have hd5 : DiskAt w4 (fun b => W.heap.size ≤ b ∧ b < w4.heap.size) H (dW (fsec 5) M false (N - M)) := hd5'.mono (fun b hlt hb => ⟨hb, hlt⟩)
    go_wp2_with fail
    refine (pending_calls w4 _ H _ hd5).mono ?_
    rintro e _ ⟨rfl, rfl⟩
    rw [show (dW (fsec 5) M false (N - M)).way.length = M by simp [dW]]
    go_wp2_with fail
    go_loopw [11, 12] (fun v i wr => ∃ k : Nat, k ≤ M ∧ i = .int .i64 (k : Int) ∧ wr.ownsRow w4.heap.size 4 1 v k (BLs (List.replicate k true)) ∧ Fr No w4 wr) (fun _ i _ => M - (intOf i).toNat)
    case atStart => exact ⟨0, by omega, rfl, World.ownsRow_nil _ _ _ _, Fr.refl _ _⟩
    case round =>
      obtain ⟨k, hk, rfl, hown, hf⟩ := hrel
      obtain ⟨A0, c0, rfl, hc0, _, hA0⟩ := own_form hown
      by_cases hkd : k < M
      · have ek : decide ((k : Int) < M) = true := by simpa using (by omega : (k : Int) < M)
        go_wp2_with (first
          | (at_builtin; refine wpList_app_at so_bool (own_fr0 hown ((Fr.refl No wr).alloc (.cells #[.bool true] 4))) ((Blk.new wr _ _).rd (size := 1) (n := 1) (by rfl) (by decide)) (by intro u hu; simp at hu; subst hu; rfl) (by omega) (by have := hf.size; simp; omega) rfl rfl rfl rfl ?_; intro v2 w2' hown2 hg2 hat2)
          | fail)
        go_roundw
        case rel => exact ⟨k + 1, by omega, by go_num, by rw [BLs_snoc]; exact hown2, (hf.alloc _).grown hg2 (fun b hb => .inl ((hown.lt b hb).1))⟩
        case measure => simp [intOf]; omega
      · obtain rfl : k = M := by omega
        have ek : decide ((k : Int) < k) = false := by simp
        have hsr := hf.size
        have hrdk : Rd wr (fun b => A0.map (·.block) = some b) 1 A0 (List.replicate k true).length (BLs (List.replicate k true)) := by
          rw [List.length_replicate]; exact own_rd hown (by omega)
        have HRK := Lib.hid hrdk
        clear hrdk
        go_wp2_with fail
        have hcr := crash_calls wr (fun b => W.heap.size ≤ b ∧ b < w4.heap.size) _ H _ (List.replicate k true) A0 c0 (hd5.fr0 hf) HRK.out (fun b hb => by have := (hown.lt b ((hA0 b).2 hb)).1; omega) (by show ((List.range k).map _).length ≤ 100000; simp; omega)
        rw [List.length_replicate] at hcr
        refine hcr.mono ?_
        clear hcr
        rintro e w6 ⟨rfl, hd6', hf6⟩
        rw [crash_dW _ _ _ _ (by omega)] at hd6'
        have hs6 := hf6.size
        have hF6 : Fr No W w6 := (hF5.tr hf).trans hf6 (fun b hb hT => by omega)
        have hd6 : DiskAt w6 (fun b => W.heap.size ≤ b ∧ b < w6.heap.size) H (dE (fsec 5) k) := hd6'.mono (fun b hlt hb => ⟨hb.1, hlt⟩)
        go_wp2_with fail
        refine (read_calls w6 _ H _ 0 16 hd6 (by rw [dE_len _ _ (by omega)]; decide) rfl).mono ?_
        rintro e w7 ⟨rfl, hb7, hf7⟩
        rw [dE_bytes 5 k (by omega)] at hb7
        have hs7 := hf7.size
        have hlen7 : 16 * 128 = (List.replicate (k * 128) (5 : UInt8) ++ List.replicate ((16 - k) * 128) 0).length := by rw [List.length_append, List.length_replicate, List.length_replicate]; omega
        have hrd7 : RdB w7 (fun b => b = w6.heap.size) (some ⟨w6.heap.size, 0, none⟩) (List.replicate (k * 128) 5 ++ List.replicate ((16 - k) * 128) 0) := hb7.rd (size := 1) (by rw [List.size_toArray, U8_length, Nat.mul_one]) (by rw [← hlen7]; decide)
        have hd7 := hd6.fr0 hf7
        have HL7 := Lib.hid hlen7
        obtain ⟨j, hj⟩ : ∃ j : Nat, j = 16 - k := ⟨_, rfl⟩
        have HJ := Lib.hid (show (16 : Int) - (k : Int) = (j : Int) by omega)
        rw [← hj] at hrd7 HL7
        have hj16 : j ≤ 16 := by omega
        have HJ2 := Lib.hid hj
        clear hlen7 hj
        go_wp2_with fail
        (refine T_begin (fun b => W.heap.size ≤ b ∧ b < w6.heap.size) [0, 1, 2, 3, 4, 5, 8, 9, 6, 7, 10, 11, 12, 13, 14, 15, 16, 17, 18, 19, 20, 21, 22, 23, 24] [6, 10, 17, 18, 22] (by kernel_rfl) (by kernel_rfl) ?_; simp only [pickOps, List.filterMap_cons, List.filterMap_nil, List.getElem?_cons_zero, List.getElem?_cons_succ, Act.put])
        repeat (first | (refine T_skip (by rfl) (by rfl) (fun _ _ _ h => h) ?_; try simp only [Act.put, List.setIfInBounds_toArray, List.set_cons_zero, List.set_cons_succ]) | (refine T_pass (by rfl) (by rfl) ?_; try simp only [Act.put, List.setIfInBounds_toArray, List.set_cons_zero, List.set_cons_succ]) | (refine T_load (by assumption) (by rfl) (by rfl) (fun _ _ _ _ h => h) rfl rfl (by assumption) (by first | exact (fun hn => hn) | assumption) ?_; try simp only [Act.put, List.setIfInBounds_toArray, List.set_cons_zero, List.set_cons_succ]) | (refine T_nil (by rfl) (by rfl) (fun _ _ _ _ h => h) rfl rfl ?_; try simp only [Act.put, List.setIfInBounds_toArray, List.set_cons_zero, List.set_cons_succ]) | (refine T_quietN (by rfl) (by rfl) (by rfl) (by rfl) (fun _ _ _ _ h => h) (fun K hK => ?_); go_big_quiet_op; refine hK _ ?_; clear hK K) | (refine T_two (by rfl) (by rfl) (by rfl) (by rfl) (fun _ _ _ _ h => h) (fun K hK => ?_); go_big_quiet_op; refine ⟨_, fun _ _ => rfl, ?_⟩; refine hK _ ?_; clear hK K; try simp only [Act.put, List.setIfInBounds_toArray, List.set_cons_zero, List.set_cons_succ]) | fail)
        (refine T_str Try.underlying31 Try.underlying5 Try.underlying9 (Rd.drew hrd7) (fun b hb hT => by omega) (by rfl) (by rfl) (fun _ _ _ _ h => h) rfl (HL7.out) rfl ?_; try simp only [Act.put, List.setIfInBounds_toArray, List.set_cons_zero, List.set_cons_succ])
        repeat (first | (refine T_skip (by rfl) (by rfl) (fun _ _ _ h => h) ?_; try simp only [Act.put, List.setIfInBounds_toArray, List.set_cons_zero, List.set_cons_succ]) | (refine T_pass (by rfl) (by rfl) ?_; try simp only [Act.put, List.setIfInBounds_toArray, List.set_cons_zero, List.set_cons_succ]) | (refine T_load (by assumption) (by rfl) (by rfl) (fun _ _ _ _ h => h) rfl rfl (by assumption) (by first | exact (fun hn => hn) | assumption) ?_; try simp only [Act.put, List.setIfInBounds_toArray, List.set_cons_zero, List.set_cons_succ]) | (refine T_nil (by rfl) (by rfl) (fun _ _ _ _ h => h) rfl rfl ?_; try simp only [Act.put, List.setIfInBounds_toArray, List.set_cons_zero, List.set_cons_succ]) | (refine T_quietN (by rfl) (by rfl) (by rfl) (by rfl) (fun _ _ _ _ h => h) (fun K hK => ?_); go_big_quiet_op; refine hK _ ?_; clear hK K) | (refine T_two (by rfl) (by rfl) (by rfl) (by rfl) (fun _ _ _ _ h => h) (fun K hK => ?_); go_big_quiet_op; refine ⟨_, fun _ _ => rfl, ?_⟩; refine hK _ ?_; clear hK K; try simp only [Act.put, List.setIfInBounds_toArray, List.set_cons_zero, List.set_cons_succ]) | fail)
        rw [HJ.out]
        (refine T_call (by rfl) (by rfl) (fun K hK => ?_); go_wp2_with fail)
        refine (full_calls k 5 _ (by omega)).mono ?_
        rintro e w8 ⟨rfl, hb8, hf8⟩
        have hs8 := hf8.size
        have hrd8 : RdB w8 (fun b => b = w7.drew.heap.size) (some ⟨w7.drew.heap.size, 0, none⟩) (List.replicate (k * 128) 5) := hb8.rd (size := 1) (by rw [List.size_toArray, U8_length, Nat.mul_one]) (by rw [List.length_replicate]; omega)
        (refine hK.out _ _ ((hf8.mono (fun _ _ hn => hn.elim))) ?_; clear hK K; try simp only [Act.put, List.setIfInBounds_toArray, List.set_cons_zero, List.set_cons_succ])
        (refine T_str Try.underlying31 Try.underlying5 Try.underlying9 (hrd8) (fun b hb hT => by subst hb; have : w7.drew.heap.size = w7.heap.size := rfl; omega) (by rfl) (by rfl) (fun _ _ _ _ h => h) rfl ((List.length_replicate ..).symm) rfl ?_; try simp only [Act.put, List.setIfInBounds_toArray, List.set_cons_zero, List.set_cons_succ])
        (refine T_call (by rfl) (by rfl) (fun K hK => ?_); go_wp2_with fail)
        refine (full_calls j 0 _ (by omega)).mono ?_
        rintro e w9 ⟨rfl, hb9, hf9⟩
        have hs9 := hf9.size
        have hrd9 : RdB w9 (fun b => b = w8.heap.size) (some ⟨w8.heap.size, 0, none⟩) (List.replicate (j * 128) 0) := hb9.rd (size := 1) (by rw [List.size_toArray, U8_length, Nat.mul_one]) (by rw [List.length_replicate]; omega)
        (refine hK.out _ _ ((hf9.mono (fun _ _ hn => hn.elim))) ?_; clear hK K; try simp only [Act.put, List.setIfInBounds_toArray, List.set_cons_zero, List.set_cons_succ])
        have hs87 : w7.heap.size ≤ w8.heap.size := hs8
        (refine T_str Try.underlying31 Try.underlying5 Try.underlying9 (hrd9) (fun b hb hT => by subst hb; omega) (by rfl) (by rfl) (fun _ _ _ _ h => h) rfl ((List.length_replicate ..).symm) rfl ?_; try simp only [Act.put, List.setIfInBounds_toArray, List.set_cons_zero, List.set_cons_succ])
        refine T_addStr (by rw [List.length_replicate, List.length_replicate]; omega) (by rfl) (by rfl) (fun _ _ _ _ h => h) rfl rfl rfl ?_
        try simp only [Act.put, List.setIfInBounds_toArray, List.set_cons_zero, List.set_cons_succ]
        refine T_eqStr rfl (by rfl) (by rfl) (fun _ _ _ _ h => h) rfl rfl rfl ?_
        try simp only [Act.put, List.setIfInBounds_toArray, List.set_cons_zero, List.set_cons_succ]
        repeat (first | (refine T_skip (by rfl) (by rfl) (fun _ _ _ h => h) ?_; try simp only [Act.put, List.setIfInBounds_toArray, List.set_cons_zero, List.set_cons_succ]) | (refine T_pass (by rfl) (by rfl) ?_; try simp only [Act.put, List.setIfInBounds_toArray, List.set_cons_zero, List.set_cons_succ]) | (refine T_load (by assumption) (by rfl) (by rfl) (fun _ _ _ _ h => h) rfl rfl (by assumption) (by first | exact (fun hn => hn) | assumption) ?_; try simp only [Act.put, List.setIfInBounds_toArray, List.set_cons_zero, List.set_cons_succ]) | (refine T_nil (by rfl) (by rfl) (fun _ _ _ _ h => h) rfl rfl ?_; try simp only [Act.put, List.setIfInBounds_toArray, List.set_cons_zero, List.set_cons_succ]) | (refine T_quietN (by rfl) (by rfl) (by rfl) (by rfl) (fun _ _ _ _ h => h) (fun K hK => ?_); go_big_quiet_op; refine hK _ ?_; clear hK K) | (refine T_two (by rfl) (by rfl) (by rfl) (by rfl) (fun _ _ _ _ h => h) (fun K hK => ?_); go_big_quiet_op; refine ⟨_, fun _ _ => rfl, ?_⟩; refine hK _ ?_; clear hK K; try simp only [Act.put, List.setIfInBounds_toArray, List.set_cons_zero, List.set_cons_succ]) | fail)
        (refine T_call (by rfl) (by rfl) (fun K hK => ?_); go_wp2_with fail)
        refine (full_calls 16 8 _ (by decide)).mono ?_
        rintro e w10 ⟨rfl, hb10, hf10⟩
        have hs10 := hf10.size
        (refine hK.out _ _ ((hf10.mono (fun _ _ hn => hn.elim))) ?_; clear hK K; try simp only [Act.put, List.setIfInBounds_toArray, List.set_cons_zero, List.set_cons_succ])
        (refine T_call (by rfl) (by rfl) (fun K hK => ?_); go_wp2_with fail)
        have hf710 : Fr No w7 w10 := ((Fr.refl No w7).drew.tr hf8).tr (hf9.tr hf10)
        refine (write_full w10 (fun b => W.heap.size ≤ b ∧ b < w6.heap.size) (fun b => W.heap.size ≤ b) H (dE (fsec 5) k) 0 16 8 w9.heap.size (hd7.fr0 hf710) hb10 (by omega) (by decide) (by rw [dE_len _ _ (by omega)]; decide) (by show (0 : Nat) ≤ 50000; omega) (by show (0 : Nat) ≤ 1000000; omega) (fun b hb => hb.1) (fun b hb => by omega)).mono ?_
        intro e w11 hret
        obtain ⟨rfl, hd11, hf11⟩ := hret.ok (puts_dE (fsec 5) (fsec 8) k (by omega))
        (refine hK.out _ _ (hf11) ?_; clear hK K; try simp only [Act.put, List.setIfInBounds_toArray, List.set_cons_zero, List.set_cons_succ])
        repeat (first | (refine T_skip (by rfl) (by rfl) (fun _ _ _ h => h) ?_; try simp only [Act.put, List.setIfInBounds_toArray, List.set_cons_zero, List.set_cons_succ]) | (refine T_pass (by rfl) (by rfl) ?_; try simp only [Act.put, List.setIfInBounds_toArray, List.set_cons_zero, List.set_cons_succ]) | (refine T_load (by assumption) (by rfl) (by rfl) (fun _ _ _ _ h => h) rfl rfl (by assumption) (by first | exact (fun hn => hn) | assumption) ?_; try simp only [Act.put, List.setIfInBounds_toArray, List.set_cons_zero, List.set_cons_succ]) | (refine T_nil (by rfl) (by rfl) (fun _ _ _ _ h => h) rfl rfl ?_; try simp only [Act.put, List.setIfInBounds_toArray, List.set_cons_zero, List.set_cons_succ]) | (refine T_quietN (by rfl) (by rfl) (by rfl) (by rfl) (fun _ _ _ _ h => h) (fun K hK => ?_); go_big_quiet_op; refine hK _ ?_; clear hK K) | (refine T_two (by rfl) (by rfl) (by rfl) (by rfl) (fun _ _ _ _ h => h) (fun K hK => ?_); go_big_quiet_op; refine ⟨_, fun _ _ => rfl, ?_⟩; refine hK _ ?_; clear hK K; try simp only [Act.put, List.setIfInBounds_toArray, List.set_cons_zero, List.set_cons_succ]) | fail)
        (refine T_call (by rfl) (by rfl) (fun K hK => ?_); go_wp2_with fail)
        refine (known_calls _).mono ?_
        rintro e w12 ⟨rfl, hf12⟩
        (refine hK.out _ _ ((hf12.mono (fun _ _ hn => hn.elim))) ?_; clear hK K; try simp only [Act.put, List.setIfInBounds_toArray, List.set_cons_zero, List.set_cons_succ])
        repeat (first | (refine T_skip (by rfl) (by rfl) (fun _ _ _ h => h) ?_; try simp only [Act.put, List.setIfInBounds_toArray, List.set_cons_zero, List.set_cons_succ]) | (refine T_pass (by rfl) (by rfl) ?_; try simp only [Act.put, List.setIfInBounds_toArray, List.set_cons_zero, List.set_cons_succ]) | (refine T_load (by assumption) (by rfl) (by rfl) (fun _ _ _ _ h => h) rfl rfl (by assumption) (by first | exact (fun hn => hn) | assumption) ?_; try simp only [Act.put, List.setIfInBounds_toArray, List.set_cons_zero, List.set_cons_succ]) | (refine T_nil (by rfl) (by rfl) (fun _ _ _ _ h => h) rfl rfl ?_; try simp only [Act.put, List.setIfInBounds_toArray, List.set_cons_zero, List.set_cons_succ]) | (refine T_quietN (by rfl) (by rfl) (by rfl) (by rfl) (fun _ _ _ _ h => h) (fun K hK => ?_); go_big_quiet_op; refine hK _ ?_; clear hK K) | (refine T_two (by rfl) (by rfl) (by rfl) (by rfl) (fun _ _ _ _ h => h) (fun K hK => ?_); go_big_quiet_op; refine ⟨_, fun _ _ => rfl, ?_⟩; refine hK _ ?_; clear hK K; try simp only [Act.put, List.setIfInBounds_toArray, List.set_cons_zero, List.set_cons_succ]) | fail)
        refine T_done ?_
        go_wp2
        go_ret
        exact ⟨rfl, ((hF6.tr (hf7.tr hf710)).trans hf11 (fun b hb hT => by omega)).tr hf12⟩
  · rw [puts_no (fsec 5) N M hN1 hM2 (by omega)] at hret
    obtain ⟨rfl, hd4, hf4⟩ := hret.bad rfl
    have hs4 := hf4.size
    have hF4 : Fr No W w4 := (hF2.tr hf3).trans hf4 (fun b hb hT => by omega)
    have el : ¬ (M < N) := hlt
    have el2 : N ≤ M := by omega
    obtain ⟨D, hD⟩ : ∃ D : Nat, D = N - 1 := ⟨_, rfl⟩
    have HD := Lib.hid (show (N : Int) - 1 = (D : Int) by omega)
    have hD8 : D ≤ 8 := by omega
    rw [← hD] at hd4
    clear hD
    go_wp2_with fail
    rw [HD.out]
    have hl16 := dW_len (fsec 5) D true 1 hD8
    refine (read_dead w4 _ H _ 0 1 hd4 (by rw [hl16]; decide) rfl).mono ?_
    rintro e _ ⟨rfl, rfl⟩
    go_wp2_with fail
    refine (full_calls 1 6 _ (by decide)).mono ?_
    rintro e w5a ⟨rfl, hb5, hf5⟩
    have hs5a := hf5.size
    go_wp2_with fail
    have hd4' : DiskAt w4 (fun b => W.heap.size ≤ b ∧ b < w4.heap.size) H (dW (fsec 5) D true 1) := hd4.mono (fun b hlt hb => ⟨hb, hlt⟩)
    refine (write_full w5a (fun b => W.heap.size ≤ b ∧ b < w4.heap.size) (fun b => W.heap.size ≤ b) H (dW (fsec 5) D true 1) 0 1 6 w4.heap.size (hd4'.fr0 hf5) hb5 (by omega) (by decide) (by rw [hl16]; decide) (by show ((List.range D).map _).length ≤ 50000; simp; omega) (by show (1 : Nat) ≤ 1000000; decide) (fun b hb => hb.1) (fun b hb => by omega)).mono ?_
    intro e w5 hret
    rw [show List.replicate 1 (fsec 6) = [fsec 6] from rfl, puts_dead] at hret
    obtain ⟨rfl, hd5', hf5b⟩ := hret.bad rfl
    have hs5 := hf5b.size
    have hF5 : Fr No W w5 := (hF4.tr hf5).trans hf5b (fun b hb hT => by omega)
    have hd5'' : DiskAt w5 (fun b => W.heap.size ≤ b) H (dW (fsec 5) D true 1) := hd5'
    clear hd5'
    have hd5' := hd5''
    go_wp2_with fail
    refine (flush_dead w5 _ H _ hd5' rfl).mono ?_
    rintro e _ ⟨rfl, rfl⟩
    clear hl16
    have hd5 : DiskAt w5 (fun b => W.heap.size ≤ b ∧ b < w5.heap.size) H (dW (fsec 5) D true 1) := hd5'.mono (fun b hlt hb => ⟨hb, hlt⟩)
    go_wp2_with fail
    refine (pending_calls w5 _ H _ hd5).mono ?_
    rintro e _ ⟨rfl, rfl⟩
    rw [show (dW (fsec 5) D true 1).way.length = D by simp [dW]]
    go_wp2_with fail
    go_loopw [11, 12] (fun v i wr => ∃ k : Nat, k ≤ D ∧ i = .int .i64 (k : Int) ∧ wr.ownsRow w5.heap.size 4 1 v k (BLs (List.replicate k true)) ∧ Fr No w5 wr) (fun _ i _ => D - (intOf i).toNat)
    case atStart => exact ⟨0, by omega, rfl, World.ownsRow_nil _ _ _ _, Fr.refl _ _⟩
    case round =>
      obtain ⟨k, hk, rfl, hown, hf⟩ := hrel
      obtain ⟨A0, c0, rfl, hc0, _, hA0⟩ := own_form hown
      by_cases hkd : k < D
      · have ek : decide ((k : Int) < D) = true := by simpa using (by omega : (k : Int) < D)
        go_wp2_with (first
          | (at_builtin; refine wpList_app_at so_bool (own_fr0 hown ((Fr.refl No wr).alloc (.cells #[.bool true] 4))) ((Blk.new wr _ _).rd (size := 1) (n := 1) (by rfl) (by decide)) (by intro u hu; simp at hu; subst hu; rfl) (by omega) (by have := hf.size; simp; omega) rfl rfl rfl rfl ?_; intro v2 w2' hown2 hg2 hat2)
          | fail)
        go_roundw
        case rel => exact ⟨k + 1, by omega, by go_num, by rw [BLs_snoc]; exact hown2, (hf.alloc _).grown hg2 (fun b hb => .inl ((hown.lt b hb).1))⟩
        case measure => simp [intOf]; omega
      · obtain rfl : k = D := by omega
        have ek : decide ((k : Int) < k) = false := by simp
        have hsr := hf.size
        have hrdk : Rd wr (fun b => A0.map (·.block) = some b) 1 A0 (List.replicate k true).length (BLs (List.replicate k true)) := by
          rw [List.length_replicate]; exact own_rd hown (by omega)
        have HRK := Lib.hid hrdk
        clear hrdk
        go_wp2_with fail
        have hcr := crash_calls wr (fun b => W.heap.size ≤ b ∧ b < w5.heap.size) _ H _ (List.replicate k true) A0 c0 (hd5.fr0 hf) HRK.out (fun b hb => by have := (hown.lt b ((hA0 b).2 hb)).1; omega) (by show ((List.range k).map _).length ≤ 100000; simp; omega)
        rw [List.length_replicate] at hcr
        refine hcr.mono ?_
        clear hcr
        rintro e w6 ⟨rfl, hd6', hf6⟩
        rw [crash_dW _ _ _ _ (by omega)] at hd6'
        have hs6 := hf6.size
        have hF6 : Fr No W w6 := (hF5.tr hf).trans hf6 (fun b hb hT => by omega)
        have hd6 : DiskAt w6 (fun b => W.heap.size ≤ b ∧ b < w6.heap.size) H (dE (fsec 5) k) := hd6'.mono (fun b hlt hb => ⟨hb.1, hlt⟩)
        go_wp2_with fail
        refine (read_calls w6 _ H _ 0 16 hd6 (by rw [dE_len _ _ (by omega)]; decide) rfl).mono ?_
        rintro e w7 ⟨rfl, hb7, hf7⟩
        rw [dE_bytes 5 k (by omega)] at hb7
        have hs7 := hf7.size
        have hlen7 : 16 * 128 = (List.replicate (k * 128) (5 : UInt8) ++ List.replicate ((16 - k) * 128) 0).length := by rw [List.length_append, List.length_replicate, List.length_replicate]; omega
        have hrd7 : RdB w7 (fun b => b = w6.heap.size) (some ⟨w6.heap.size, 0, none⟩) (List.replicate (k * 128) 5 ++ List.replicate ((16 - k) * 128) 0) := hb7.rd (size := 1) (by rw [List.size_toArray, U8_length, Nat.mul_one]) (by rw [← hlen7]; decide)
        have hd7 := hd6.fr0 hf7
        have HL7 := Lib.hid hlen7
        obtain ⟨j, hj⟩ : ∃ j : Nat, j = 16 - k := ⟨_, rfl⟩
        have HJ := Lib.hid (show (16 : Int) - (k : Int) = (j : Int) by omega)
        rw [← hj] at hrd7 HL7
        have hj16 : j ≤ 16 := by omega
        have HJ2 := Lib.hid hj
        clear hlen7 hj
        go_wp2_with fail
        (refine T_begin (fun b => W.heap.size ≤ b ∧ b < w6.heap.size) [0, 1, 2, 3, 4, 5, 8, 9, 6, 7, 10, 11, 12, 13, 14, 15, 16, 17, 18, 19, 20, 21, 22, 23, 24] [6, 10, 17, 18, 22] (by kernel_rfl) (by kernel_rfl) ?_; simp only [pickOps, List.filterMap_cons, List.filterMap_nil, List.getElem?_cons_zero, List.getElem?_cons_succ, Act.put])
        repeat (first | (refine T_skip (by rfl) (by rfl) (fun _ _ _ h => h) ?_; try simp only [Act.put, List.setIfInBounds_toArray, List.set_cons_zero, List.set_cons_succ]) | (refine T_pass (by rfl) (by rfl) ?_; try simp only [Act.put, List.setIfInBounds_toArray, List.set_cons_zero, List.set_cons_succ]) | (refine T_load (by assumption) (by rfl) (by rfl) (fun _ _ _ _ h => h) rfl rfl (by assumption) (by first | exact (fun hn => hn) | assumption) ?_; try simp only [Act.put, List.setIfInBounds_toArray, List.set_cons_zero, List.set_cons_succ]) | (refine T_nil (by rfl) (by rfl) (fun _ _ _ _ h => h) rfl rfl ?_; try simp only [Act.put, List.setIfInBounds_toArray, List.set_cons_zero, List.set_cons_succ]) | (refine T_quietN (by rfl) (by rfl) (by rfl) (by rfl) (fun _ _ _ _ h => h) (fun K hK => ?_); go_big_quiet_op; refine hK _ ?_; clear hK K) | (refine T_two (by rfl) (by rfl) (by rfl) (by rfl) (fun _ _ _ _ h => h) (fun K hK => ?_); go_big_quiet_op; refine ⟨_, fun _ _ => rfl, ?_⟩; refine hK _ ?_; clear hK K; try simp only [Act.put, List.setIfInBounds_toArray, List.set_cons_zero, List.set_cons_succ]) | fail)
        (refine T_str Try.underlying31 Try.underlying5 Try.underlying9 (Rd.drew hrd7) (fun b hb hT => by omega) (by rfl) (by rfl) (fun _ _ _ _ h => h) rfl (HL7.out) rfl ?_; try simp only [Act.put, List.setIfInBounds_toArray, List.set_cons_zero, List.set_cons_succ])
        repeat (first | (refine T_skip (by rfl) (by rfl) (fun _ _ _ h => h) ?_; try simp only [Act.put, List.setIfInBounds_toArray, List.set_cons_zero, List.set_cons_succ]) | (refine T_pass (by rfl) (by rfl) ?_; try simp only [Act.put, List.setIfInBounds_toArray, List.set_cons_zero, List.set_cons_succ]) | (refine T_load (by assumption) (by rfl) (by rfl) (fun _ _ _ _ h => h) rfl rfl (by assumption) (by first | exact (fun hn => hn) | assumption) ?_; try simp only [Act.put, List.setIfInBounds_toArray, List.set_cons_zero, List.set_cons_succ]) | (refine T_nil (by rfl) (by rfl) (fun _ _ _ _ h => h) rfl rfl ?_; try simp only [Act.put, List.setIfInBounds_toArray, List.set_cons_zero, List.set_cons_succ]) | (refine T_quietN (by rfl) (by rfl) (by rfl) (by rfl) (fun _ _ _ _ h => h) (fun K hK => ?_); go_big_quiet_op; refine hK _ ?_; clear hK K) | (refine T_two (by rfl) (by rfl) (by rfl) (by rfl) (fun _ _ _ _ h => h) (fun K hK => ?_); go_big_quiet_op; refine ⟨_, fun _ _ => rfl, ?_⟩; refine hK _ ?_; clear hK K; try simp only [Act.put, List.setIfInBounds_toArray, List.set_cons_zero, List.set_cons_succ]) | fail)
        rw [HJ.out]
        (refine T_call (by rfl) (by rfl) (fun K hK => ?_); go_wp2_with fail)
        refine (full_calls k 5 _ (by omega)).mono ?_
        rintro e w8 ⟨rfl, hb8, hf8⟩
        have hs8 := hf8.size
        have hrd8 : RdB w8 (fun b => b = w7.drew.heap.size) (some ⟨w7.drew.heap.size, 0, none⟩) (List.replicate (k * 128) 5) := hb8.rd (size := 1) (by rw [List.size_toArray, U8_length, Nat.mul_one]) (by rw [List.length_replicate]; omega)
        (refine hK.out _ _ ((hf8.mono (fun _ _ hn => hn.elim))) ?_; clear hK K; try simp only [Act.put, List.setIfInBounds_toArray, List.set_cons_zero, List.set_cons_succ])
        (refine T_str Try.underlying31 Try.underlying5 Try.underlying9 (hrd8) (fun b hb hT => by subst hb; have : w7.drew.heap.size = w7.heap.size := rfl; omega) (by rfl) (by rfl) (fun _ _ _ _ h => h) rfl ((List.length_replicate ..).symm) rfl ?_; try simp only [Act.put, List.setIfInBounds_toArray, List.set_cons_zero, List.set_cons_succ])
        (refine T_call (by rfl) (by rfl) (fun K hK => ?_); go_wp2_with fail)
        refine (full_calls j 0 _ (by omega)).mono ?_
        rintro e w9 ⟨rfl, hb9, hf9⟩
        have hs9 := hf9.size
        have hrd9 : RdB w9 (fun b => b = w8.heap.size) (some ⟨w8.heap.size, 0, none⟩) (List.replicate (j * 128) 0) := hb9.rd (size := 1) (by rw [List.size_toArray, U8_length, Nat.mul_one]) (by rw [List.length_replicate]; omega)
        (refine hK.out _ _ ((hf9.mono (fun _ _ hn => hn.elim))) ?_; clear hK K; try simp only [Act.put, List.setIfInBounds_toArray, List.set_cons_zero, List.set_cons_succ])
        have hs87 : w7.heap.size ≤ w8.heap.size := hs8
        (refine T_str Try.underlying31 Try.underlying5 Try.underlying9 (hrd9) (fun b hb hT => by subst hb; omega) (by rfl) (by rfl) (fun _ _ _ _ h => h) rfl ((List.length_replicate ..).symm) rfl ?_; try simp only [Act.put, List.setIfInBounds_toArray, List.set_cons_zero, List.set_cons_succ])
        refine T_addStr (by rw [List.length_replicate, List.length_replicate]; omega) (by rfl) (by rfl) (fun _ _ _ _ h => h) rfl rfl rfl ?_
        try simp only [Act.put, List.setIfInBounds_toArray, List.set_cons_zero, List.set_cons_succ]
        refine T_eqStr rfl (by rfl) (by rfl) (fun _ _ _ _ h => h) rfl rfl rfl ?_
        try simp only [Act.put, List.setIfInBounds_toArray, List.set_cons_zero, List.set_cons_succ]
        repeat (first | (refine T_skip (by rfl) (by rfl) (fun _ _ _ h => h) ?_; try simp only [Act.put, List.setIfInBounds_toArray, List.set_cons_zero, List.set_cons_succ]) | (refine T_pass (by rfl) (by rfl) ?_; try simp only [Act.put, List.setIfInBounds_toArray, List.set_cons_zero, List.set_cons_succ]) | (refine T_load (by assumption) (by rfl) (by rfl) (fun _ _ _ _ h => h) rfl rfl (by assumption) (by first | exact (fun hn => hn) | assumption) ?_; try simp only [Act.put, List.setIfInBounds_toArray, List.set_cons_zero, List.set_cons_succ]) | (refine T_nil (by rfl) (by rfl) (fun _ _ _ _ h => h) rfl rfl ?_; try simp only [Act.put, List.setIfInBounds_toArray, List.set_cons_zero, List.set_cons_succ]) | (refine T_quietN (by rfl) (by rfl) (by rfl) (by rfl) (fun _ _ _ _ h => h) (fun K hK => ?_); go_big_quiet_op; refine hK _ ?_; clear hK K) | (refine T_two (by rfl) (by rfl) (by rfl) (by rfl) (fun _ _ _ _ h => h) (fun K hK => ?_); go_big_quiet_op; refine ⟨_, fun _ _ => rfl, ?_⟩; refine hK _ ?_; clear hK K; try simp only [Act.put, List.setIfInBounds_toArray, List.set_cons_zero, List.set_cons_succ]) | fail)
        (refine T_call (by rfl) (by rfl) (fun K hK => ?_); go_wp2_with fail)
        refine (full_calls 16 8 _ (by decide)).mono ?_
        rintro e w10 ⟨rfl, hb10, hf10⟩
        have hs10 := hf10.size
        (refine hK.out _ _ ((hf10.mono (fun _ _ hn => hn.elim))) ?_; clear hK K; try simp only [Act.put, List.setIfInBounds_toArray, List.set_cons_zero, List.set_cons_succ])
        (refine T_call (by rfl) (by rfl) (fun K hK => ?_); go_wp2_with fail)
        have hf710 : Fr No w7 w10 := ((Fr.refl No w7).drew.tr hf8).tr (hf9.tr hf10)
        refine (write_full w10 (fun b => W.heap.size ≤ b ∧ b < w6.heap.size) (fun b => W.heap.size ≤ b) H (dE (fsec 5) k) 0 16 8 w9.heap.size (hd7.fr0 hf710) hb10 (by omega) (by decide) (by rw [dE_len _ _ (by omega)]; decide) (by show (0 : Nat) ≤ 50000; omega) (by show (0 : Nat) ≤ 1000000; omega) (fun b hb => hb.1) (fun b hb => by omega)).mono ?_
        intro e w11 hret
        obtain ⟨rfl, hd11, hf11⟩ := hret.ok (puts_dE (fsec 5) (fsec 8) k (by omega))
        (refine hK.out _ _ (hf11) ?_; clear hK K; try simp only [Act.put, List.setIfInBounds_toArray, List.set_cons_zero, List.set_cons_succ])
        repeat (first | (refine T_skip (by rfl) (by rfl) (fun _ _ _ h => h) ?_; try simp only [Act.put, List.setIfInBounds_toArray, List.set_cons_zero, List.set_cons_succ]) | (refine T_pass (by rfl) (by rfl) ?_; try simp only [Act.put, List.setIfInBounds_toArray, List.set_cons_zero, List.set_cons_succ]) | (refine T_load (by assumption) (by rfl) (by rfl) (fun _ _ _ _ h => h) rfl rfl (by assumption) (by first | exact (fun hn => hn) | assumption) ?_; try simp only [Act.put, List.setIfInBounds_toArray, List.set_cons_zero, List.set_cons_succ]) | (refine T_nil (by rfl) (by rfl) (fun _ _ _ _ h => h) rfl rfl ?_; try simp only [Act.put, List.setIfInBounds_toArray, List.set_cons_zero, List.set_cons_succ]) | (refine T_quietN (by rfl) (by rfl) (by rfl) (by rfl) (fun _ _ _ _ h => h) (fun K hK => ?_); go_big_quiet_op; refine hK _ ?_; clear hK K) | (refine T_two (by rfl) (by rfl) (by rfl) (by rfl) (fun _ _ _ _ h => h) (fun K hK => ?_); go_big_quiet_op; refine ⟨_, fun _ _ => rfl, ?_⟩; refine hK _ ?_; clear hK K; try simp only [Act.put, List.setIfInBounds_toArray, List.set_cons_zero, List.set_cons_succ]) | fail)
        (refine T_call (by rfl) (by rfl) (fun K hK => ?_); go_wp2_with fail)
        refine (known_calls _).mono ?_
        rintro e w12 ⟨rfl, hf12⟩
        (refine hK.out _ _ ((hf12.mono (fun _ _ hn => hn.elim))) ?_; clear hK K; try simp only [Act.put, List.setIfInBounds_toArray, List.set_cons_zero, List.set_cons_succ])
        repeat (first | (refine T_skip (by rfl) (by rfl) (fun _ _ _ h => h) ?_; try simp only [Act.put, List.setIfInBounds_toArray, List.set_cons_zero, List.set_cons_succ]) | (refine T_pass (by rfl) (by rfl) ?_; try simp only [Act.put, List.setIfInBounds_toArray, List.set_cons_zero, List.set_cons_succ]) | (refine T_load (by assumption) (by rfl) (by rfl) (fun _ _ _ _ h => h) rfl rfl (by assumption) (by first | exact (fun hn => hn) | assumption) ?_; try simp only [Act.put, List.setIfInBounds_toArray, List.set_cons_zero, List.set_cons_succ]) | (refine T_nil (by rfl) (by rfl) (fun _ _ _ _ h => h) rfl rfl ?_; try simp only [Act.put, List.setIfInBounds_toArray, List.set_cons_zero, List.set_cons_succ]) | (refine T_quietN (by rfl) (by rfl) (by rfl) (by rfl) (fun _ _ _ _ h => h) (fun K hK => ?_); go_big_quiet_op; refine hK _ ?_; clear hK K) | (refine T_two (by rfl) (by rfl) (by rfl) (by rfl) (fun _ _ _ _ h => h) (fun K hK => ?_); go_big_quiet_op; refine ⟨_, fun _ _ => rfl, ?_⟩; refine hK _ ?_; clear hK K; try simp only [Act.put, List.setIfInBounds_toArray, List.set_cons_zero, List.set_cons_succ]) | fail)
        refine T_done ?_
        go_wp2
        go_ret
        exact ⟨rfl, ((hF6.tr (hf7.tr hf710)).trans hf11 (fun b hb hT => by omega)).tr hf12⟩
end Go.Proofs.Ythhncjeabamceaa
