/- The walk of lapidarylaw03.DiskCopies. No condition. -/
import Derived.Test.YthhncjeabamceaaDAct
namespace Go.Proofs.Ythhncjeabamceaa
set_option linter.unusedVariables false
set_option linter.unusedSimpArgs false
open Go.RowKit

set_option maxHeartbeats 8000000 in
set_option maxRecDepth 100000 in
theorem law_DiskCopies (W : World) (a0 : Option Addr) (cap0 : Nat) (l : List Act) (h0 : RdA W (fun b => b < W.heap.size) a0 l) (ok0 : ∀ a ∈ l, ActOk a) (a1 : Option Addr) (cap1 : Nat) (l2 : List Act) (h1 : RdA W (fun b => b < W.heap.size) a1 l2) (ok1 : ∀ a ∈ l2, ActOk a) (a2 : Option Addr) (cap2 : Nat) (ks : List Bool) (h2 : Rd W (fun b => b < W.heap.size) 1 a2 ks.length (BLs ks)) :
    Calls Try.prog 7 #[.slice a0 l.length cap0, .slice a1 l2.length cap1, .slice a2 ks.length cap2] W fun e w' => e = .returned (.bool true) ∧ Fr No W w' := by
  have hle := h0.le
  have hle1 := h1.le
  have hle2 := h2.le
  have OK0 := Lib.hid ok0
  have OK1 := Lib.hid ok1
  clear ok0 ok1
  go_enter Try.func7, Try.ntmps7
  go_wp2_with fail
  refine (new_calls 8 (by decide) (by decide) _).mono ?_
  rintro e w1 ⟨H, hH, rfl, hd1, hf1⟩
  go_wp2_with fail
  go_loopw [9] (fun i wr => ∃ (j : Nat) (dj : DiskM), j ≤ l.length ∧ j ≤ 40 ∧ i = .int .i64 (j : Int) ∧ DiskAt wr (fun b => W.heap.size ≤ b) H dj ∧ Live dj ∧ Hid (dj.now.length = 8) ∧ dj.way.length ≤ 3 * j ∧ Fr No W wr) (fun i _ => l.length - (intOf i).toNat)
  case atStart => exact ⟨0, zeroM 8, by omega, by omega, rfl, hd1, ⟨rfl, rfl⟩, Lib.hid (by simp [zeroM, zeros]), by simp [zeroM], hf1⟩
  case round =>
    obtain ⟨j, dj, hj, hj4, rfl, hdj, hlive, HN8, hway, hf⟩ := hrel
    have hsw := hf.size
    by_cases hlt : j < l.length ∧ j < 40
    · obtain ⟨hlt, hlt4⟩ := hlt
      obtain ⟨g, o, rfl, hgS, p1, p2, p3⟩ := (h0.fr hf (fun _ _ hn => hn)).at_ hlt
      have hok := OK0.out _ (List.getElem_mem hlt)
      generalize l[j] = a at *
      obtain ⟨aat, an, ac⟩ := a
      simp only at p1 p2 p3 hok
      have ek : decide ((j : Int) < l.length) = true := by simpa using (by omega : (j : Int) < l.length)
      have ek4 : decide ((j : Int) < 40) = true := by simpa using (by omega : (j : Int) < 40)
      have hgX : ¬ (W.heap.size ≤ g) := by omega
      have hbz : ac.toNat < 256 := ac.toNat_lt
      have g1 := plain_int
      have g5 := plain_u8
      go_wp2_with fail
      (refine T_begin (fun b => W.heap.size ≤ b) [0, 1, 2, 3, 4, 5, 6, 7, 8, 9, 10, 13, 14, 15, 16, 17, 11, 12, 18, 19] [11, 18, 19] (by kernel_rfl) (by kernel_rfl) ?_; simp only [pickOps, List.filterMap_cons, List.filterMap_nil, List.getElem?_cons_zero, List.getElem?_cons_succ, Act.put])
      repeat (first | (refine T_skip (by rfl) (by rfl) (fun _ _ _ h => h) ?_; try simp only [Act.put, List.setIfInBounds_toArray, List.set_cons_zero, List.set_cons_succ]) | (refine T_pass (by rfl) (by rfl) ?_; try simp only [Act.put, List.setIfInBounds_toArray, List.set_cons_zero, List.set_cons_succ]) | (refine T_load (by assumption) (by rfl) (by rfl) (fun _ _ _ _ h => h) rfl rfl (by assumption) (by first | exact (fun hn => hn) | assumption) ?_; try simp only [Act.put, List.setIfInBounds_toArray, List.set_cons_zero, List.set_cons_succ]) | (refine T_nil (by rfl) (by rfl) (fun _ _ _ _ h => h) rfl rfl ?_; try simp only [Act.put, List.setIfInBounds_toArray, List.set_cons_zero, List.set_cons_succ]) | (refine T_quietN (by rfl) (by rfl) (by rfl) (by rfl) (fun _ _ _ _ h => h) (fun K hK => ?_); go_big_quiet_op; refine hK _ ?_; clear hK K) | (refine T_two (by rfl) (by rfl) (by rfl) (by rfl) (fun _ _ _ _ h => h) (fun K hK => ?_); go_big_quiet_op; refine ⟨_, fun _ _ => rfl, ?_⟩; refine hK _ ?_; clear hK K; try simp only [Act.put, List.setIfInBounds_toArray, List.set_cons_zero, List.set_cons_succ]) | fail)
      (refine T_call (by rfl) (by rfl) (fun K hK => ?_); go_wp2_with fail)
      refine (count_calls an 3 _ hok.2.1 hok.2.2 (by decide) (by decide)).mono ?_
      rintro e _ ⟨rfl, rfl⟩
      obtain ⟨c1, c2, c3, c4, c5⟩ := cnt3_spec an
      obtain ⟨q, hq⟩ := Int.eq_ofNat_of_zero_le c4
      rw [hq] at c3 c5
      rw [hq]
      have hq3 : q ≤ 2 := by omega
      have HC := Lib.hid c3
      generalize cnt3 an = n at *
      clear c3 c4 c5 hq
      (refine hK.out _ _ ((Fr.refl _ _)) ?_; clear hK K; try simp only [Act.put, List.setIfInBounds_toArray, List.set_cons_zero, List.set_cons_succ])
      repeat (first | (refine T_skip (by rfl) (by rfl) (fun _ _ _ h => h) ?_; try simp only [Act.put, List.setIfInBounds_toArray, List.set_cons_zero, List.set_cons_succ]) | (refine T_pass (by rfl) (by rfl) ?_; try simp only [Act.put, List.setIfInBounds_toArray, List.set_cons_zero, List.set_cons_succ]) | (refine T_load (by assumption) (by rfl) (by rfl) (fun _ _ _ _ h => h) rfl rfl (by assumption) (by first | exact (fun hn => hn) | assumption) ?_; try simp only [Act.put, List.setIfInBounds_toArray, List.set_cons_zero, List.set_cons_succ]) | (refine T_nil (by rfl) (by rfl) (fun _ _ _ _ h => h) rfl rfl ?_; try simp only [Act.put, List.setIfInBounds_toArray, List.set_cons_zero, List.set_cons_succ]) | (refine T_quietN (by rfl) (by rfl) (by rfl) (by rfl) (fun _ _ _ _ h => h) (fun K hK => ?_); go_big_quiet_op; refine hK _ ?_; clear hK K) | (refine T_two (by rfl) (by rfl) (by rfl) (by rfl) (fun _ _ _ _ h => h) (fun K hK => ?_); go_big_quiet_op; refine ⟨_, fun _ _ => rfl, ?_⟩; refine hK _ ?_; clear hK K; try simp only [Act.put, List.setIfInBounds_toArray, List.set_cons_zero, List.set_cons_succ]) | fail)
      rw [HC.out]
      (refine T_call (by rfl) (by rfl) (fun K hK => ?_); go_wp2_with fail)
      refine (full_calls n ac _ (by omega)).mono ?_
      rintro e w2 ⟨rfl, hb2, hf2⟩
      have hs2 := hf2.size
      (refine hK.out _ _ ((hf2.mono (fun _ _ hn => hn.elim))) ?_; clear hK K; try simp only [Act.put, List.setIfInBounds_toArray, List.set_cons_zero, List.set_cons_succ])
      (refine T_call (by rfl) (by rfl) (fun K hK => ?_); go_wp2_with fail)
      have hf2' : Fr No wr w2 := (Fr.refl No wr).drew.tr hf2
      have hz2 : wr.heap.size ≤ w2.heap.size := hf2'.size
      refine (write_act w2 (fun b => W.heap.size ≤ b ∧ b < wr.heap.size) (fun b => W.heap.size ≤ b) H dj aat n ac wr.heap.size ((hdj.mono (fun b hlt hb => ⟨hb, hlt⟩)).fr0 hf2') hlive hok.1 hb2 (fun hb => by have := hb.2; omega) c1 (by omega) (by omega) (fun b hb => hb.1) (fun b hb => by omega)).mono ?_
      rintro e w3 ⟨rfl, hd3, hf3⟩
      (refine hK.out _ _ ((hf3.mono (fun b _ hb => hb.1))) ?_; clear hK K; try simp only [Act.put, List.setIfInBounds_toArray, List.set_cons_zero, List.set_cons_succ])
      refine T_done ?_
      have hs3 := hf3.size
      go_wp2
      go_roundw
      case rel => exact ⟨j + 1, actM dj aat n ac, by omega, by omega, by go_num, hd3, act_live hlive aat n ac, Lib.hid (by rw [act_len]; exact HN8.out), by have := act_way dj aat n ac; omega, (hf.tr hf2').trans hf3 (fun b hb hT => by have := hT.1; omega)⟩
      case measure => simp [intOf]; omega
    · have hex : j = l.length ∨ (j < l.length ∧ j = 40) := by
        by_cases h5 : j < l.length
        · exact .inr ⟨h5, by omega⟩
        · exact .inl (by omega)
      clear hlt
      have hw0 : dj.way.length ≤ 120 := by omega
      rcases hex with rfl | ⟨e1, rfl⟩
      all_goals
        clear hj hj4 hway
        obtain ⟨wo, hwo⟩ : ∃ wo, wo = wr := ⟨_, rfl⟩
        subst hwo
        obtain ⟨d1, hde⟩ : ∃ d1, d1 = dj := ⟨_, rfl⟩
        subst hde
        have hlive1 := hlive
        have HN81 := HN8
        have hlen8 : Len128 d1.now := by obtain ⟨_, _, _, _, _, _, hPP⟩ := hdj; exact hPP.2.2.1.1
        have HL8 := Lib.hid hlen8
        clear hlen8
        have hdj2 := hdj.mono (Y := fun b => W.heap.size ≤ b ∧ b < wo.heap.size) (fun b hlt hb => ⟨hb, hlt⟩)
        go_wp2_with fail
        refine (copy_calls wo _ H d1 hdj2 (by rw [HN81.out]; decide) (by omega)).mono ?_
        rintro e w2 ⟨C, hC, rfl, hdc2, hf2⟩
        have hs2 := hf2.size
        have hd2 := hdj2.fr0 hf2
        go_wp2_with fail
        refine (read_calls w2 _ H d1 0 8 hd2 (by rw [HN81.out]; decide) hlive1.1).mono ?_
        rintro e w3 ⟨rfl, hb3, hf3⟩
        have hs3 := hf3.size
        generalize hL : ((d1.now.drop 0).take 8).flatten = L at hb3
        have HL := Lib.hid hL
        clear hL
        have hl3 : w2.heap.size < w3.heap.size := (Array.getElem?_eq_some_iff.1 hb3).1
        have hd3 := hd2.fr0 hf3
        have hdc3 := (hdc2.mono (Y := fun b => wo.heap.size ≤ b ∧ b ≠ w2.heap.size) (fun b hlt hb => ⟨hb, by omega⟩)).fr0 hf3
        have hF3 : Fr No W w3 := hf.tr (hf2.tr hf3)
        have HF := Lib.hid hf
        clear hf hdj
        go_wp2_with fail
        go_loopw [13] (fun i wr => ∃ (j : Nat) (dj : DiskM), j ≤ l2.length ∧ j ≤ 40 ∧ i = .int .i64 (j : Int) ∧ DiskAt wr (fun b => wo.heap.size ≤ b ∧ b ≠ w2.heap.size) C dj ∧ Live dj ∧ Hid (dj.now.length = 8) ∧ dj.way.length ≤ 120 + 3 * j ∧ Fr (fun b => wo.heap.size ≤ b ∧ b ≠ w2.heap.size) w3 wr) (fun i _ => l2.length - (intOf i).toNat)
        case atStart => exact ⟨0, d1, by omega, by omega, rfl, hdc3, hlive1, HN81, by omega, Fr.refl _ _⟩
        case round =>
          obtain ⟨j, dj, hj, hj4, rfl, hdj, hlive, HN8, hway, hf⟩ := hrel
          have hszf := hf.size
          have hfW : Fr No W wr := hF3.trans hf (fun b hb hT => by omega)
          by_cases hlt : j < l2.length ∧ j < 40
          · obtain ⟨hlt, hlt4⟩ := hlt
            obtain ⟨g, o, rfl, hgS, p1, p2, p3⟩ := (h1.fr hfW (fun b hb hn => hn)).at_ hlt
            have hok := OK1.out _ (List.getElem_mem hlt)
            generalize l2[j] = a at *
            obtain ⟨aat, an, ac⟩ := a
            simp only at p1 p2 p3 hok
            have ek : decide ((j : Int) < l2.length) = true := by simpa using (by omega : (j : Int) < l2.length)
            have ek4 : decide ((j : Int) < 40) = true := by simpa using (by omega : (j : Int) < 40)
            have hgX : ¬ (wo.heap.size ≤ g ∧ g ≠ w2.heap.size) := by omega
            have hbz : ac.toNat < 256 := ac.toNat_lt
            have g1 := plain_int
            have g5 := plain_u8
            go_wp2_with fail
            (refine T_begin (fun b => (wo.heap.size ≤ b ∧ b ≠ w2.heap.size)) [0, 1, 2, 3, 4, 5, 6, 7, 8, 9, 10, 13, 14, 15, 16, 17, 11, 12, 18, 19] [11, 18, 19] (by kernel_rfl) (by kernel_rfl) ?_; simp only [pickOps, List.filterMap_cons, List.filterMap_nil, List.getElem?_cons_zero, List.getElem?_cons_succ, Act.put])
            repeat (first | (refine T_skip (by rfl) (by rfl) (fun _ _ _ h => h) ?_; try simp only [Act.put, List.setIfInBounds_toArray, List.set_cons_zero, List.set_cons_succ]) | (refine T_pass (by rfl) (by rfl) ?_; try simp only [Act.put, List.setIfInBounds_toArray, List.set_cons_zero, List.set_cons_succ]) | (refine T_load (by assumption) (by rfl) (by rfl) (fun _ _ _ _ h => h) rfl rfl (by assumption) (by first | exact (fun hn => hn) | assumption) ?_; try simp only [Act.put, List.setIfInBounds_toArray, List.set_cons_zero, List.set_cons_succ]) | (refine T_nil (by rfl) (by rfl) (fun _ _ _ _ h => h) rfl rfl ?_; try simp only [Act.put, List.setIfInBounds_toArray, List.set_cons_zero, List.set_cons_succ]) | (refine T_quietN (by rfl) (by rfl) (by rfl) (by rfl) (fun _ _ _ _ h => h) (fun K hK => ?_); go_big_quiet_op; refine hK _ ?_; clear hK K) | (refine T_two (by rfl) (by rfl) (by rfl) (by rfl) (fun _ _ _ _ h => h) (fun K hK => ?_); go_big_quiet_op; refine ⟨_, fun _ _ => rfl, ?_⟩; refine hK _ ?_; clear hK K; try simp only [Act.put, List.setIfInBounds_toArray, List.set_cons_zero, List.set_cons_succ]) | fail)
            (refine T_call (by rfl) (by rfl) (fun K hK => ?_); go_wp2_with fail)
            refine (count_calls an 3 _ hok.2.1 hok.2.2 (by decide) (by decide)).mono ?_
            rintro e _ ⟨rfl, rfl⟩
            obtain ⟨c1, c2, c3, c4, c5⟩ := cnt3_spec an
            obtain ⟨q, hq⟩ := Int.eq_ofNat_of_zero_le c4
            rw [hq] at c3 c5
            rw [hq]
            have hq3 : q ≤ 2 := by omega
            have HC := Lib.hid c3
            generalize cnt3 an = n at *
            clear c3 c4 c5 hq
            (refine hK.out _ _ ((Fr.refl _ _)) ?_; clear hK K; try simp only [Act.put, List.setIfInBounds_toArray, List.set_cons_zero, List.set_cons_succ])
            repeat (first | (refine T_skip (by rfl) (by rfl) (fun _ _ _ h => h) ?_; try simp only [Act.put, List.setIfInBounds_toArray, List.set_cons_zero, List.set_cons_succ]) | (refine T_pass (by rfl) (by rfl) ?_; try simp only [Act.put, List.setIfInBounds_toArray, List.set_cons_zero, List.set_cons_succ]) | (refine T_load (by assumption) (by rfl) (by rfl) (fun _ _ _ _ h => h) rfl rfl (by assumption) (by first | exact (fun hn => hn) | assumption) ?_; try simp only [Act.put, List.setIfInBounds_toArray, List.set_cons_zero, List.set_cons_succ]) | (refine T_nil (by rfl) (by rfl) (fun _ _ _ _ h => h) rfl rfl ?_; try simp only [Act.put, List.setIfInBounds_toArray, List.set_cons_zero, List.set_cons_succ]) | (refine T_quietN (by rfl) (by rfl) (by rfl) (by rfl) (fun _ _ _ _ h => h) (fun K hK => ?_); go_big_quiet_op; refine hK _ ?_; clear hK K) | (refine T_two (by rfl) (by rfl) (by rfl) (by rfl) (fun _ _ _ _ h => h) (fun K hK => ?_); go_big_quiet_op; refine ⟨_, fun _ _ => rfl, ?_⟩; refine hK _ ?_; clear hK K; try simp only [Act.put, List.setIfInBounds_toArray, List.set_cons_zero, List.set_cons_succ]) | fail)
            rw [HC.out]
            (refine T_call (by rfl) (by rfl) (fun K hK => ?_); go_wp2_with fail)
            refine (full_calls n ac _ (by omega)).mono ?_
            rintro e v2 ⟨rfl, hb2, hf2⟩
            have hs2 := hf2.size
            (refine hK.out _ _ ((hf2.mono (fun _ _ hn => hn.elim))) ?_; clear hK K; try simp only [Act.put, List.setIfInBounds_toArray, List.set_cons_zero, List.set_cons_succ])
            (refine T_call (by rfl) (by rfl) (fun K hK => ?_); go_wp2_with fail)
            have hf2' : Fr No wr v2 := (Fr.refl No wr).drew.tr hf2
            have hz2 : wr.heap.size ≤ v2.heap.size := hf2'.size
            refine (write_act v2 (fun b => (wo.heap.size ≤ b ∧ b ≠ w2.heap.size) ∧ b < wr.heap.size) (fun b => (wo.heap.size ≤ b ∧ b ≠ w2.heap.size)) C dj aat n ac wr.heap.size ((hdj.mono (fun b hlt hb => ⟨hb, hlt⟩)).fr0 hf2') hlive hok.1 hb2 (fun hb => by have := hb.2; omega) c1 (by omega) (by omega) (fun b hb => hb.1) (fun b hb => by have := hf.size; omega)).mono ?_
            rintro e w3 ⟨rfl, hd3, hf3⟩
            (refine hK.out _ _ ((hf3.mono (fun b _ hb => hb.1))) ?_; clear hK K; try simp only [Act.put, List.setIfInBounds_toArray, List.set_cons_zero, List.set_cons_succ])
            refine T_done ?_
            have hs3 := hf3.size
            go_wp2
            go_roundw
            case rel => exact ⟨j + 1, actM dj aat n ac, by omega, by omega, by go_num, hd3, act_live hlive aat n ac, Lib.hid (by rw [act_len]; exact HN8.out), by have := act_way dj aat n ac; omega, (hf.trans (hf2'.mono (fun _ _ hn => hn.elim)) (fun _ _ hb => hb)).trans hf3 (fun b hb hT => hT.1)⟩
            case measure => simp [intOf]; omega
          · have hex : j = l2.length ∨ (j < l2.length ∧ j = 40) := by
              by_cases h5 : j < l2.length
              · exact .inr ⟨h5, by omega⟩
              · exact .inl (by omega)
            clear hlt
            have hdd := hd3.fr hf (fun b hb hT => by omega)
            have hw1 : dj.way.length ≤ 240 := by omega
            rcases hex with rfl | ⟨e2, rfl⟩
            all_goals
              clear hj hj4 hway
              go_wp2_with fail
              refine (crash_calls wr (fun b => wo.heap.size ≤ b ∧ b ≠ w2.heap.size) (fun b => b < W.heap.size) C dj ks a2 cap2 hdj (Rd.fr0 h2 hfW) (fun b hb hT => by omega) (by omega)).mono ?_
              rintro e w4 ⟨rfl, hd4, hf4⟩
              have hs4 := hf4.size
              go_wp2_with fail
              refine (fail_calls w4 _ C _ 1 (by decide) hd4).mono ?_
              rintro e w5 ⟨rfl, _, hf5⟩
              have hs5 := hf5.size
              have hdd5 := (hdd.fr hf4 (fun b hb hT => by omega)).fr hf5 (fun b hb hT => by omega)
              go_wp2_with fail
              refine (read_calls w5 _ H d1 0 8 hdd5 (by rw [HN81.out]; decide) hlive1.1).mono ?_
              rintro e w6 ⟨rfl, hb6, hf6⟩
              replace hb6 : Blk w6 w5.heap.size 5 (U8 L).toArray := by rw [← HL.out]; exact hb6
              have hs6 := hf6.size
              have hdd6 := hdd5.fr0 hf6
              have hLl : L.length = 1024 := by
                rw [← HL.out, List.drop_zero, List.take_of_length_le (by rw [HN81.out]; decide), flat_len HL8.out, HN81.out]
              have hz : (U8 L).toArray.size = 1024 * 1 := by rw [List.size_toArray, U8_length, hLl]
              have hB3 := ((((hb3.fr hf (fun hT => hT.2 rfl)).fr hf4 (fun hT => hT.2 rfl)).fr hf5 (fun hT => hT.2 rfl)).fr0 hf6).rd (size := 1) (n := 1024) hz (by decide)
              have hB6 := hb6.rd (size := 1) (n := 1024) hz (by decide)
              rw [← hLl] at hB3 hB6
              have hR3 : RdB w6 (fun b => b = w2.heap.size) (some ⟨w2.heap.size, 0, none⟩) L := hB3
              have hR6 : RdB w6 (fun b => b = w5.heap.size) (some ⟨w5.heap.size, 0, none⟩) L := hB6
              have HLl := Lib.hid hLl.symm
              have hF6 : Fr No W w6 := ((hfW.trans hf4 (fun b hb hT => by omega)).trans hf5 (fun b hb hT => by omega)).tr hf6
              clear hB3 hB6 hLl hz
              go_wp2_with (first
                | (refine wpList_str Try.underlying31 Try.underlying5 Try.underlying9 rfl (.tmp 112) rfl (show 8 * 128 = L.length from HLl.out) rfl hR3 ?_)
                | (refine wpList_str Try.underlying31 Try.underlying5 Try.underlying9 rfl (.tmp 114) rfl (show 8 * 128 = L.length from HLl.out) rfl hR6 ?_)
                | fail)
              refine (flush_calls w6 _ H d1 hdd6 hlive1.1).mono ?_
              rintro e w7 ⟨rfl, hd7, hf7⟩
              have hs7 := hf7.size
              go_wp2_with fail
              refine (full_calls 8 3 _ (by decide)).mono ?_
              rintro e w8 ⟨rfl, hb8, hf8⟩
              have hs8 := hf8.size
              go_wp2_with fail
              refine (write_full w8 (fun b => W.heap.size ≤ b ∧ b < wo.heap.size) (fun b => W.heap.size ≤ b) H { d1 with safe := d1.now, way := [] } 0 8 3 w7.heap.size (hd7.fr0 hf8) hb8 (by omega) (by decide) (by show 0 + 8 ≤ d1.now.length; rw [HN81.out]; decide) (Nat.zero_le _) (by show d1.left ≤ 1000000; rw [hlive1.2]; decide) (fun b hb => hb.1) (fun b hb => by omega)).mono ?_
              intro e w9 hret
              have hlv : Live { d1 with safe := d1.now, way := [] } := hlive1
              rw [puts_live hlv] at hret
              obtain ⟨rfl, _, hf9⟩ := hret.ok rfl
              go_wp2_with fail
              refine (known_calls _).mono ?_
              rintro e w10 ⟨rfl, hf10⟩
              go_wp2
              go_ret
              exact ⟨rfl, (((hF6.trans hf7 (fun b hb hT => by omega)).tr hf8).trans hf9 (fun b hb hT => by omega)).tr hf10⟩
end Go.Proofs.Ythhncjeabamceaa
