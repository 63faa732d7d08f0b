/- RingFull: the walk. No condition. -/
import Derived.Test.YtannkgglgmbkdaaDoorNForm
import Derived.Test.YtannkgglgmbkdaaDoorNRew
import Derived.Test.YtannkgglgmbkdaaDoorCount
import Derived.Deep.CutBlock
import Derived.Deep.DeepCutAuto
namespace Go.Proofs.YtannkgglgmbkdaaDoor
set_option linter.unusedVariables false
set_option linter.unusedSimpArgs false
open Go.RowKit
set_option maxHeartbeats 8000000 in
set_option maxRecDepth 100000 in
theorem law_RingFull (W : World) (n : Int) (hn : (Lit.int .i64 n).wf = true) (size : Int) (hs : (Lit.int .i64 size).wf = true) :
    Calls Tryd.prog 5 #[.int .i64 n, .int .i64 size] W fun e w' => e = .returned (.bool true) ∧ Fr No W w' := by
  have hn' : -9223372036854775808 ≤ n ∧ n ≤ 9223372036854775807 := by simpa [Lit.wf, IntKind.min, IntKind.max, IntKind.signed, IntKind.bits] using hn
  have hs' : -9223372036854775808 ≤ size ∧ size ≤ 9223372036854775807 := by simpa [Lit.wf, IntKind.min, IntKind.max, IntKind.signed, IntKind.bits] using hs
  have hc1 := count_calls n 40 W hn'.1 hn'.2 (by decide) (by decide)
  have hc2 := count_calls size 500 W hs'.1 hs'.2 (by decide) (by decide)
  have hr1 := countZ_range n 40 (by decide)
  have hr2 := countZ_range size 500 (by decide)
  obtain ⟨a, ha⟩ : ∃ a : Nat, countZ n 40 = (a : Int) := ⟨(countZ n 40).toNat, by omega⟩
  obtain ⟨b, hb⟩ : ∃ b : Nat, countZ size 500 = (b : Int) := ⟨(countZ size 500).toNat, by omega⟩
  rw [ha] at hc1 hr1
  rw [hb] at hc2 hr2
  obtain ⟨N, hN⟩ : ∃ N, N = 4 + a := ⟨_, rfl⟩
  obtain ⟨S, hS⟩ : ∃ S, S = 1 + b := ⟨_, rfl⟩
  have HN := Lib.hid (show (4 : Int) + (a : Int) = (N : Int) by omega)
  have HS := Lib.hid (show (1 : Int) + (b : Int) = (S : Int) by omega)
  have hN4 : 4 ≤ N := by omega
  have hN43 : N ≤ 43 := by omega
  have hS1 : 1 ≤ S := by omega
  have hS5 : S ≤ 500 := by omega
  clear hn hs hn' hs' ha hb hN hS
  go_enter Tryd.func5, Tryd.ntmps5
  go_wp2_with fail
  refine hc1.mono ?_
  rintro e w1 ⟨rfl, hw1⟩
  subst hw1
  go_upto_region 2 with fail
  rw [HN.out]
  go_wp2_with fail
  refine hc2.mono ?_
  rintro e w1 ⟨rfl, hw1⟩
  subst hw1
  go_upto_region 3 with fail
  rw [HS.out]
  clear hc1 hc2 hr1 hr2
  go_wp2_with fail
  refine (device_calls N (by omega) (by omega) _).mono ?_
  rintro e w1 ⟨H, R, rfl, hd1, hf1⟩
  obtain ⟨d1, hq1, hfm, d2, hq2, hnow2, hop⟩ := start_calls0 N hN4 (by omega) w1 _ H hd1
  go_wp2_with fail
  refine hfm.mono ?_
  rintro e w2 ⟨rfl, hd2, hf2⟩
  have hz1 := hf1.size
  have hz2 := hf2.size
  have hF2 : Fr No W w2 := hf1.trans hf2 (fun b hb h => by omega)
  replace hd2 : DiskAt w2 (fun b => W.heap.size ≤ b) H d1 := hd2.mono (fun b _ hb => hb.elim id (fun h => by omega))
  go_wp2_with fail
  refine (hop _ _ hd2).mono ?_
  rintro e w3 ⟨L, M, v, cs, rfl, ⟨hle, hlt, hlN, hlog, hdisk, hown, hownN, hcells, hf3⟩⟩
  have hF3 : Fr No W w3 := hF2.trans hf3 (fun b hb h => by omega)
  have hz3 := hf3.size
  replace hdisk : DiskAt w3 (fun b => W.heap.size ≤ b ∧ b ≠ L) H d2 := hdisk.mono (fun b _ hb => by rcases hb with hb | hb <;> exact ⟨by omega, by omega⟩)
  have hLW : W.heap.size ≤ L := by omega
  have hL3 : L < w3.heap.size := by omega
  obtain ⟨A3, c3, rfl, _, _, _⟩ := own_form hown
  clear hfm hop hd1 hd2 hf1 hf2 hf3 hown hownN hcells hF2 hle hlt hlN
  go_wp2_with fail
  refine (sectors_calls (S : Int) w3).mono ?_
  rintro e w4 ⟨rfl, hw4⟩
  replace hw4 := hw4.symm
  subst hw4
  rw [sectorsM_recN hS1 (by omega)]
  have hk1 : 1 ≤ recN S := by unfold recN; omega
  have hk2 : recN S ≤ 5 := by unfold recN; omega
  obtain ⟨k, hk⟩ : ∃ k, k = recN S := ⟨_, rfl⟩
  rw [← hk] at hk1 hk2 ⊢
  have HK := Lib.hid hk
  clear hk
  have ek1 : decide ((k : Int) < 1) = false := by simp; omega
  have hhn : halfN N ≤ 20 ∧ ((halfN N : Nat) : Int) = ((N : Int) - 2) / 2 := by unfold halfN; omega
  have hrm3 := room_calls w3 _ L H _ d2 hlog hdisk (by rw [hq2.2.2.2]; exact hN4) (Nat.zero_le _)
  rw [hq2.2.2.2] at hrm3
  simp only [Nat.sub_zero] at hrm3
  obtain ⟨hN2, hN3⟩ := hhn
  obtain ⟨hm, hhm⟩ : ∃ hm, hm = halfN N := ⟨_, rfl⟩
  rw [← hhm] at hrm3 hN2 hN3
  have HHM := Lib.hid hhm
  have HQ : Hid (((N : Int) - 2).tdiv 2 = (hm : Int)) := Lib.hid (by rw [hN3, Int.tdiv_eq_ediv_of_nonneg (by omega)])
  have eq1 : ((hm : Int) != ((N : Int) - 2) / 2) = false := by rw [hN3]; simp
  have HEQ := Lib.hid eq1
  have HK2 : Hid (halfN N = hm) := Lib.hid HHM.out.symm
  clear hhm hN3
  go_wp2_with fail
  refine hrm3.mono ?_
  rintro e w4 ⟨rfl, hf4⟩
  have hlog4 := hlog.fr0 hf4
  have hd4 := hdisk.fr0 hf4
  have hF4 := hF3.tr hf4
  have hL4 : L < w4.heap.size := Nat.lt_of_lt_of_le hL3 hf4.size
  clear hlog hdisk hF3 hf4 hz3 hL3 hrm3
  have hroom : ∀ (w' : World) (d : DiskM) (h : HeadM) (sq : Int) (q : Nat), Quiet d N → LogAt w' L H ⟨h, sq, q, false⟩ → DiskAt w' (fun b => W.heap.size ≤ b ∧ b ≠ L) H d → q ≤ hm → Calls Tryd.prog 17 #[.pointer (some ⟨L, 0, none⟩)] w' fun e w'' => e = .returned (.int .i64 ((hm - q : Nat) : Int)) ∧ Fr No w' w'' := fun w' d h sq q hq hl hd hqm => by
    have := room_calls w' _ L H _ d hl hd (by rw [hq.2.2.2]; exact hN4) (by rw [hq.2.2.2, HK2.out]; exact hqm)
    rw [hq.2.2.2, HK2.out] at this
    exact this
  have happ : ∀ (w' : World) (d : DiskM) (h : HeadM) (half : Nat) (sq : Int) (q g : Nat), Quiet d N → LogAt w' L H ⟨h, sq, q, false⟩ → DiskAt w' (fun b => W.heap.size ≤ b ∧ b ≠ L) H d → q + k ≤ hm → h.half = (half : Int) → half ≤ 1 → (1 ≤ sq ∧ sq < 1099511627776) → L < w'.heap.size → Fr No W w' → Blk w' g 5 (U8 (List.replicate S 7)).toArray →
      Calls Tryd.prog 18 #[.pointer (some ⟨L, 0, none⟩), .slice (some ⟨g, 0, none⟩) S S] w' fun e w'' => e = .returned (.int .i64 0) ∧ ∃ d', Quiet d' N ∧ LogAt w'' L H ⟨h, sq + 1, q + k, false⟩ ∧ DiskAt w'' (fun b => W.heap.size ≤ b ∧ b ≠ L) H d' ∧ Fr No W w'' ∧ L < w''.heap.size := fun w' d h half sq q g hq hl hd hqm hh hh1 hsq hLw hF hb => by
    obtain ⟨d', hs, hq', _, _⟩ := safely_quiet hq (2 + half * halfN d.now.length + q) (recB h.life sq (List.replicate S 7))
    have hsz := hF.size
    have := append_calls w' _ L H ⟨h, sq, q, false⟩ d d' (some ⟨g, 0, none⟩) S (List.replicate S 7) half hl rfl (fun h => h.2 rfl) hd (by rw [hq.2.2.2]; exact hN4) hh hh1 (text_rd hb (by omega)) (by rw [List.length_replicate]; exact hS1) (by rw [List.length_replicate]; omega) (by rw [List.length_replicate]; exact Nat.le_refl _) (by have : maxLen = 9223372036854775807 := rfl; omega) (by rw [List.length_replicate, hq.2.2.2, HK2.out, ← HK.out]; exact hqm) hsq (by rw [hq.2.2.1]; simp) (by rw [hq.2.1]; omega) hs
    rw [List.length_replicate, ← HK.out] at this
    refine this.mono ?_
    rintro e w'' ⟨he, h1, h2, h3⟩
    refine ⟨he, d', hq', h1, h2.mono (fun b _ hb => ?_), hF.trans h3 (fun b hb h => ?_), Nat.lt_of_lt_of_le hLw h3.size⟩
    · rcases hb with hb | hb
      · exact hb.1
      · exact ⟨by omega, by omega⟩
    · rcases h with h | h <;> omega
  go_upto_block 0 with fail
  go_cut [11, 12] (fun s11 s12 wx => ∃ (i q : Nat) (d : DiskM), i ≤ q ∧ q ≤ hm ∧ hm < q + k ∧ Quiet d N ∧ LogAt wx L H ⟨kH 2, 1 + (i : Int), q, false⟩ ∧ DiskAt wx (fun b => W.heap.size ≤ b ∧ b ≠ L) H d ∧ Fr No W wx ∧ L < wx.heap.size)
  case first =>
    go_wp2_with fail
    go_loopw [11, 12] (fun s11 s12 wr => ∃ (i q : Nat) (d : DiskM), s11 = .int .i64 (i : Int) ∧ i ≤ q ∧ q ≤ hm ∧ Quiet d N ∧ LogAt wr L H ⟨kH 2, 1 + (i : Int), q, false⟩ ∧ DiskAt wr (fun b => W.heap.size ≤ b ∧ b ≠ L) H d ∧ Fr No W wr ∧ L < wr.heap.size) (fun s11 _ _ => 60 - (intOf s11).toNat)
    case atStart => exact ⟨0, 0, d2, rfl, Nat.le_refl _, Nat.zero_le _, hq2, hlog4, hd4, hF4, hL4⟩
    case round =>
      obtain ⟨i, q, d, rfl, hiq, hqm, hqd, hlg, hdd, hF, hLr⟩ := hrel
      have e60 : decide ((i : Int) < 60) = true := by simp; omega
      have hr := hroom wr d (kH 2) _ q hqd hlg hdd hqm
      go_wp2_with fail
      refine hr.mono ?_
      rintro e w5 ⟨rfl, hf5⟩
      have hlg5 := hlg.fr0 hf5
      have hdd5 := hdd.fr0 hf5
      have hF5 := hF.tr hf5
      have hL5 : L < w5.heap.size := Nat.lt_of_lt_of_le hLr hf5.size
      clear hlg hdd hF hLr hf5 hr
      by_cases hge : k ≤ hm - q
      · have eg : decide ((k : Int) ≤ ((hm - q : Nat) : Int)) = true := by simp; omega
        have HGE := Lib.hid hge
        obtain ⟨r, hrr⟩ : ∃ r, r = hm - q := ⟨_, rfl⟩
        have hr5 := hroom w5 d (kH 2) _ q hqd hlg5 hdd5 hqm
        rw [← hrr] at hr5 eg ⊢
        have HR := Lib.hid hrr
        have egn : k ≤ r := by omega
        clear hge hrr
        go_wp2_with fail
        refine hr5.mono ?_
        rintro e w6 ⟨rfl, hf6⟩
        have hlg6 := hlg5.fr0 hf6
        have hdd6 := hdd5.fr0 hf6
        have hF6 := hF5.tr hf6
        have hL6 : L < w6.heap.size := Nat.lt_of_lt_of_le hL5 hf6.size
        clear hlg5 hdd5 hF5 hL5 hf6 hr5
        go_wp2_with fail
        refine (text_calls S 7 w6 (by omega)).mono ?_
        rintro e w7 ⟨rfl, hb7, hf7⟩
        have hqk : q + k ≤ hm := by have := HGE.out; omega
        have hap := happ w7 d (kH 2) 0 _ q _ hqd (hlg6.fr0 hf7) (hdd6.fr0 hf7) hqk rfl (by decide) ⟨by omega, by omega⟩ (Nat.lt_of_lt_of_le hL6 hf7.size) (hF6.tr hf7) hb7
        clear hlg6 hdd6 hF6 hb7 hf7 hL6
        go_wp2_with fail
        refine hap.mono ?_
        rintro e w8 ⟨rfl, d', hq8, hlg8, hdd8, hF8, hL8⟩
        have hr8 := hroom w8 d' (kH 2) _ (q + k) hq8 hlg8 hdd8 hqk
        obtain ⟨r8, hrr8⟩ : ∃ r8, r8 = hm - (q + k) := ⟨_, rfl⟩
        rw [← hrr8] at hr8
        have er : ((r8 : Int) != wrap64 ((r : Int) - (k : Int))) = false := by
          have h1 : (r8 : Int) = (r : Int) - k := by have := HR.out; omega
          have h2 : wrap64 ((r : Int) - (k : Int)) = (r : Int) - k := by unfold wrap64; omega
          rw [h2, h1]; simp
        clear hap hrr8
        go_wp2_with fail
        refine hr8.mono ?_
        rintro e w9 ⟨rfl, hf9⟩
        go_wp2_with fail
        go_roundw
        case rel => exact ⟨i + 1, q + k, d', by go_num, by omega, hqk, hq8, (show (1 + ((i + 1 : Nat) : Int)) = 1 + (i : Int) + 1 by omega) ▸ hlg8.fr0 hf9, hdd8.fr0 hf9, hF8.tr hf9, Nat.lt_of_lt_of_le hL8 hf9.size⟩
        case measure => simp [intOf]; omega
      · have hlt : hm < q + k := by omega
        obtain ⟨r, hrr⟩ : ∃ r, r = hm - q := ⟨_, rfl⟩
        rw [← hrr] at hge ⊢
        have eg : decide ((k : Int) ≤ (r : Int)) = false := by simp; omega
        clear hrr
        go_wp2_with fail
        go_meet
        case rel => exact ⟨i, q, d, hiq, hqm, hlt, hqd, hlg5, hdd5, hF5, hL5⟩
  case rest =>
    obtain ⟨i, q, d, hiq, hqm, hlt, hqd, hlg, hdd, hF, hLr⟩ := hcut
    go_wp2_with fail
    refine (text_calls S 7 wc (by omega)).mono ?_
    rintro e w5 ⟨rfl, hb5, hf5⟩
    have hlg5 := hlg.fr0 hf5
    have hdd5 := hdd.fr0 hf5
    have hF5 := hF.tr hf5
    have hL5 : L < w5.heap.size := Nat.lt_of_lt_of_le hLr hf5.size
    have hful := append_full w5 _ L H _ d (some ⟨wc.heap.size, 0, none⟩) S S hlg5 rfl hdd5 (by rw [hqd.2.2.2]; exact hN4) hS1 (by omega) (by rw [hqd.2.2.2, HK2.out]; exact hqm) (by rw [hqd.2.2.2, HK2.out, ← HK.out]; exact hlt)
    clear hlg hdd hF hLr hf5
    go_wp2_with fail
    refine hful.mono ?_
    rintro e w6 ⟨rfl, hf6⟩
    have hlg6 := hlg5.fr0 hf6
    have hdd6 := hdd5.fr0 hf6
    have hF6 := hF5.tr hf6
    have hL6 : L < w6.heap.size := Nat.lt_of_lt_of_le hL5 hf6.size
    clear hlg5 hdd5 hF5 hL5 hf6 hful hb5
    have hqf : Quiet { d with safe := d.now, way := [] } N := ⟨hqd.1, hqd.2.1, rfl, hqd.2.2.2⟩
    obtain ⟨d7, hs7, hq7, _, _⟩ := safely_quiet hqf ((3 : Int) % 2).toNat [headB ⟨3, 1, 1 + (i : Int), 3⟩]
    have hrew := rewrite_nil_ok w6 _ L H _ d d7 hlg6 rfl (fun h => h.2 rfl) hdd6 (by rw [hqd.2.2.2]; exact hN4) hqd.1 ⟨by show (1 : Int) ≤ 2; decide, by show (2 : Int) < 1099511627776; decide⟩ ⟨by show (0 : Int) ≤ 0; decide, by show (0 : Int) ≤ 1; decide⟩ ⟨by show 1 ≤ 1 + (i : Int); omega, by show 1 + (i : Int) ≤ _; omega⟩ (by rw [hqd.2.1]; omega) hs7
    go_wp2_with fail
    refine hrew.mono ?_
    rintro e w7 ⟨rfl, hlg7, hd7, hf7⟩
    have hdd7 : DiskAt w7 (fun b => W.heap.size ≤ b ∧ b ≠ L) H d7 := hd7.mono (fun b _ hb => by
      have := hF6.size
      rcases hb with hb | hb
      · exact hb.1
      · exact ⟨by omega, by omega⟩)
    have hF7 : Fr No W w7 := hF6.trans hf7 (fun b hb h => by rcases h with h | h <;> omega)
    have hL7 : L < w7.heap.size := Nat.lt_of_lt_of_le hL6 hf7.size
    clear hlg6 hdd6 hF6 hL6 hf7 hd7 hrew hs7
    have hlg7' : LogAt w7 L H ⟨⟨3, 1, 1 + (i : Int), 3⟩, 1 + (i : Int), 0, false⟩ := hlg7
    clear hlg7
    have hr7 := hroom w7 d7 _ _ 0 hq7 hlg7' hdd7 (Nat.zero_le _)
    rw [Nat.sub_zero] at hr7
    have eq1 := HEQ.out
    go_wp2_with fail
    refine hr7.mono ?_
    rintro e w8 ⟨rfl, hf8⟩
    have hlg8 := hlg7'.fr0 hf8
    have hdd8 := hdd7.fr0 hf8
    have hF8 := hF7.tr hf8
    have hL8 : L < w8.heap.size := Nat.lt_of_lt_of_le hL7 hf8.size
    clear hlg7' hdd7 hF7 hL7 hf8 hr7
    have hr8 := hroom w8 d7 _ _ 0 hq7 hlg8 hdd8 (Nat.zero_le _)
    rw [Nat.sub_zero] at hr8
    go_wp2_with fail
    refine hr8.mono ?_
    rintro e w9 ⟨rfl, hf9⟩
    have hlg9 := hlg8.fr0 hf9
    have hdd9 := hdd8.fr0 hf9
    have hF9 := hF8.tr hf9
    have hL9 : L < w9.heap.size := Nat.lt_of_lt_of_le hL8 hf9.size
    clear hlg8 hdd8 hF8 hL8 hf9 hr8
    by_cases hlast : hm < k
    · have el : decide ((hm : Int) < (k : Int)) = true := by simp; omega
      go_wp2_with fail
      refine (known_calls _).mono ?_
      rintro e wz ⟨rfl, hfz⟩
      go_wp2_with fail
      go_ret
      exact ⟨rfl, hF9.tr hfz⟩
    · have el : decide ((hm : Int) < (k : Int)) = false := by simp; omega
      have hk0 : 0 + k ≤ hm := by omega
      go_wp2_with fail
      refine (text_calls S 7 w9 (by omega)).mono ?_
      rintro e wa ⟨rfl, hba, hfa⟩
      have hap := happ wa d7 _ 1 _ 0 _ hq7 (hlg9.fr0 hfa) (hdd9.fr0 hfa) hk0 rfl (by decide) ⟨by omega, by omega⟩ (Nat.lt_of_lt_of_le hL9 hfa.size) (hF9.tr hfa) hba
      go_wp2_with fail
      refine hap.mono ?_
      rintro e wb ⟨rfl, _, _, _, _, hFb, _⟩
      go_wp2_with fail
      refine (known_calls _).mono ?_
      rintro e wz ⟨rfl, hfz⟩
      go_wp2_with fail
      go_ret
      exact ⟨rfl, hFb.tr hfz⟩
end Go.Proofs.YtannkgglgmbkdaaDoor
