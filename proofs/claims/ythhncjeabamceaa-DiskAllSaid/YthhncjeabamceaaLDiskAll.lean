/- The walk of lapidarylaw03.DiskAll. No condition. -/
import Derived.Test.YthhncjeabamceaaDAct
namespace Go.Proofs.Ythhncjeabamceaa
set_option linter.unusedVariables false
set_option linter.unusedSimpArgs false
open Go.RowKit

set_option maxHeartbeats 8000000 in
set_option maxRecDepth 100000 in
theorem law_DiskAll (W : World) (a0 : Option Addr) (cap0 : Nat) (l : List Act) (h0 : RdA W (fun b => b < W.heap.size) a0 l) (ok0 : ∀ a ∈ l, ActOk a) (a1 : Option Addr) (cap1 : Nat) (ks : List Bool) (h1 : Rd W (fun b => b < W.heap.size) 1 a1 ks.length (BLs ks)) :
    Calls Try.prog 5 #[.slice a0 l.length cap0, .slice a1 ks.length cap1] W fun e w' => e = .returned (.bool true) ∧ Fr No W w' := by
  have hle := h0.le
  have hle1 := h1.le
  have OK0 := Lib.hid ok0
  clear ok0
  go_enter Try.func5, Try.ntmps5
  go_wp2_with fail
  refine (new_calls 8 (by decide) (by decide) _).mono ?_
  rintro e w1 ⟨H, hH, rfl, hd1, hf1⟩
  go_wp2_with fail
  go_loopw [7] (fun i wr => ∃ (j : Nat) (dj : DiskM), j ≤ l.length ∧ j ≤ 40 ∧ i = .int .i64 (j : Int) ∧ DiskAt wr (fun b => W.heap.size ≤ b) H dj ∧ Live dj ∧ Hid (dj.now.length = 8) ∧ dj.way.length ≤ 3 * j ∧ Hid (applyW dj.safe dj.way = dj.now) ∧ Fr No W wr) (fun i _ => l.length - (intOf i).toNat)
  case atStart => exact ⟨0, zeroM 8, by omega, by omega, rfl, hd1, ⟨rfl, rfl⟩, Lib.hid (by simp [zeroM, zeros]), by simp [zeroM], Lib.hid rfl, hf1⟩
  case round =>
    obtain ⟨j, dj, hj, hj4, rfl, hdj, hlive, HN8, hway, HAP, hf⟩ := hrel
    have hsw := hf.size
    by_cases hlt : j < l.length ∧ j < 40
    · obtain ⟨hlt, hlt4⟩ := hlt
      obtain ⟨g, o, rfl, hgS, p1, p2, p3⟩ := (h0.fr hf (fun _ _ hn => hn)).at_ hlt
      have hok := OK0.out _ (List.getElem_mem hlt)
      generalize l[j] = a at *
      obtain ⟨aat, an, ac⟩ := a
      simp only at p1 p2 p3 hok
      have ek : decide ((j : Int) < l.length) = true := by simpa using (by omega : (j : Int) < l.length)
      have ek4 : decide ((j : Int) < 40) = true := by simpa using (by omega : (j : Int) < 40)
      have hgX : ¬ (W.heap.size ≤ g) := by omega
      have hbz : ac.toNat < 256 := ac.toNat_lt
      have g1 := plain_int
      have g5 := plain_u8
      go_wp2_with fail
      (refine T_begin (fun b => W.heap.size ≤ b) [0, 1, 2, 3, 4, 5, 6, 7, 8, 9, 10, 13, 14, 15, 16, 17, 11, 12, 18, 19] [11, 18, 19] (by kernel_rfl) (by kernel_rfl) ?_; simp only [pickOps, List.filterMap_cons, List.filterMap_nil, List.getElem?_cons_zero, List.getElem?_cons_succ, Act.put])
      repeat (first | (refine T_skip (by rfl) (by rfl) (fun _ _ _ h => h) ?_; try simp only [Act.put, List.setIfInBounds_toArray, List.set_cons_zero, List.set_cons_succ]) | (refine T_pass (by rfl) (by rfl) ?_; try simp only [Act.put, List.setIfInBounds_toArray, List.set_cons_zero, List.set_cons_succ]) | (refine T_load (by assumption) (by rfl) (by rfl) (fun _ _ _ _ h => h) rfl rfl (by assumption) (by first | exact (fun hn => hn) | assumption) ?_; try simp only [Act.put, List.setIfInBounds_toArray, List.set_cons_zero, List.set_cons_succ]) | (refine T_nil (by rfl) (by rfl) (fun _ _ _ _ h => h) rfl rfl ?_; try simp only [Act.put, List.setIfInBounds_toArray, List.set_cons_zero, List.set_cons_succ]) | (refine T_quietN (by rfl) (by rfl) (by rfl) (by rfl) (fun _ _ _ _ h => h) (fun K hK => ?_); go_big_quiet_op; refine hK _ ?_; clear hK K) | (refine T_two (by rfl) (by rfl) (by rfl) (by rfl) (fun _ _ _ _ h => h) (fun K hK => ?_); go_big_quiet_op; refine ⟨_, fun _ _ => rfl, ?_⟩; refine hK _ ?_; clear hK K; try simp only [Act.put, List.setIfInBounds_toArray, List.set_cons_zero, List.set_cons_succ]) | fail)
      (refine T_call (by rfl) (by rfl) (fun K hK => ?_); go_wp2_with fail)
      refine (count_calls an 3 _ hok.2.1 hok.2.2 (by decide) (by decide)).mono ?_
      rintro e _ ⟨rfl, rfl⟩
      obtain ⟨c1, c2, c3, c4, c5⟩ := cnt3_spec an
      obtain ⟨q, hq⟩ := Int.eq_ofNat_of_zero_le c4
      rw [hq] at c3 c5
      rw [hq]
      have hq3 : q ≤ 2 := by omega
      have HC := Lib.hid c3
      generalize cnt3 an = n at *
      clear c3 c4 c5 hq
      (refine hK.out _ _ ((Fr.refl _ _)) ?_; clear hK K; try simp only [Act.put, List.setIfInBounds_toArray, List.set_cons_zero, List.set_cons_succ])
      repeat (first | (refine T_skip (by rfl) (by rfl) (fun _ _ _ h => h) ?_; try simp only [Act.put, List.setIfInBounds_toArray, List.set_cons_zero, List.set_cons_succ]) | (refine T_pass (by rfl) (by rfl) ?_; try simp only [Act.put, List.setIfInBounds_toArray, List.set_cons_zero, List.set_cons_succ]) | (refine T_load (by assumption) (by rfl) (by rfl) (fun _ _ _ _ h => h) rfl rfl (by assumption) (by first | exact (fun hn => hn) | assumption) ?_; try simp only [Act.put, List.setIfInBounds_toArray, List.set_cons_zero, List.set_cons_succ]) | (refine T_nil (by rfl) (by rfl) (fun _ _ _ _ h => h) rfl rfl ?_; try simp only [Act.put, List.setIfInBounds_toArray, List.set_cons_zero, List.set_cons_succ]) | (refine T_quietN (by rfl) (by rfl) (by rfl) (by rfl) (fun _ _ _ _ h => h) (fun K hK => ?_); go_big_quiet_op; refine hK _ ?_; clear hK K) | (refine T_two (by rfl) (by rfl) (by rfl) (by rfl) (fun _ _ _ _ h => h) (fun K hK => ?_); go_big_quiet_op; refine ⟨_, fun _ _ => rfl, ?_⟩; refine hK _ ?_; clear hK K; try simp only [Act.put, List.setIfInBounds_toArray, List.set_cons_zero, List.set_cons_succ]) | fail)
      rw [HC.out]
      (refine T_call (by rfl) (by rfl) (fun K hK => ?_); go_wp2_with fail)
      refine (full_calls n ac _ (by omega)).mono ?_
      rintro e w2 ⟨rfl, hb2, hf2⟩
      have hs2 := hf2.size
      (refine hK.out _ _ ((hf2.mono (fun _ _ hn => hn.elim))) ?_; clear hK K; try simp only [Act.put, List.setIfInBounds_toArray, List.set_cons_zero, List.set_cons_succ])
      (refine T_call (by rfl) (by rfl) (fun K hK => ?_); go_wp2_with fail)
      have hf2' : Fr No wr w2 := (Fr.refl No wr).drew.tr hf2
      have hz2 : wr.heap.size ≤ w2.heap.size := hf2'.size
      refine (write_act w2 (fun b => W.heap.size ≤ b ∧ b < wr.heap.size) (fun b => W.heap.size ≤ b) H dj aat n ac wr.heap.size ((hdj.mono (fun b hlt hb => ⟨hb, hlt⟩)).fr0 hf2') hlive hok.1 hb2 (fun hb => by have := hb.2; omega) c1 (by omega) (by omega) (fun b hb => hb.1) (fun b hb => by omega)).mono ?_
      rintro e w3 ⟨rfl, hd3, hf3⟩
      (refine hK.out _ _ ((hf3.mono (fun b _ hb => hb.1))) ?_; clear hK K; try simp only [Act.put, List.setIfInBounds_toArray, List.set_cons_zero, List.set_cons_succ])
      refine T_done ?_
      have hs3 := hf3.size
      go_wp2
      go_roundw
      case rel => exact ⟨j + 1, actM dj aat n ac, by omega, by omega, by go_num, hd3, act_live hlive aat n ac, Lib.hid (by rw [act_len]; exact HN8.out), by have := act_way dj aat n ac; omega, Lib.hid (act_apply aat n ac HAP.out), (hf.tr hf2').trans hf3 (fun b hb hT => by have := hT.1; omega)⟩
      case measure => simp [intOf]; omega
    · have hex : j = l.length ∨ (j < l.length ∧ j = 40) := by
        by_cases h5 : j < l.length
        · exact .inr ⟨h5, by omega⟩
        · exact .inl (by omega)
      clear hlt
      have hw0 : dj.way.length ≤ 120 := by omega
      obtain ⟨P, hP⟩ : ∃ P, P = dj.way.length := ⟨_, rfl⟩
      have HP := Lib.hid hP
      have hP120 : P ≤ 120 := by omega
      clear hP
      rcases hex with rfl | ⟨e1, rfl⟩
      all_goals
        clear hj hj4 hway
        obtain ⟨wo, hwo⟩ : ∃ wo, wo = wr := ⟨_, rfl⟩
        subst hwo
        have hlen8 : Len128 dj.now := by obtain ⟨_, _, _, _, _, _, hPP⟩ := hdj; exact hPP.2.2.1.1
        have HL8 := Lib.hid hlen8
        clear hlen8
        have hdj2 := hdj.mono (Y := fun b => W.heap.size ≤ b ∧ b < wo.heap.size) (fun b hlt hb => ⟨hb, hlt⟩)
        go_wp2_with fail
        go_loopw [8, 9] (fun v i wr => ∃ k : Nat, k ≤ P ∧ i = .int .i64 (k : Int) ∧ wr.ownsRow wo.heap.size 4 1 v k (BLs (List.replicate k true)) ∧ Fr No wo wr) (fun _ i _ => P - (intOf i).toNat)
        case atStart => exact ⟨0, by omega, rfl, World.ownsRow_nil _ _ _ _, Fr.refl _ _⟩
        case round =>
          obtain ⟨k, hk, rfl, hown, hfk⟩ := hrel
          obtain ⟨A0, c0, rfl, hc0, _, hA0⟩ := own_form hown
          have hdk := hdj2.fr0 hfk
          by_cases hkd : k < P
          · have ek : decide ((k : Int) < P) = true := by simpa using (by omega : (k : Int) < P)
            have ek5 : decide ((k : Int) < 500) = true := by simpa using (by omega : (k : Int) < 500)
            go_wp2_with fail
            refine (pending_calls wr _ H dj hdk).mono ?_
            rintro e _ ⟨rfl, rfl⟩
            rw [← HP.out]
            go_wp2_with (first
              | (at_builtin; refine wpList_app_at so_bool (own_fr0 hown ((Fr.refl No wr).alloc (.cells #[.bool true] 4))) ((Blk.new wr _ _).rd (size := 1) (n := 1) (by rfl) (by decide)) (by intro u hu; simp at hu; subst hu; rfl) (by omega) (by have := hfk.size; simp; omega) rfl rfl rfl rfl ?_; intro v2 w2 hown2 hg2 hat2)
              | fail)
            go_roundw
            case rel => exact ⟨k + 1, by omega, by go_num, by rw [BLs_snoc]; exact hown2, (hfk.alloc _).grown hg2 (fun b hb => .inl ((hown.lt b hb).1))⟩
            case measure => simp [intOf]; omega
          · obtain rfl : k = P := by omega
            have ek : decide ((k : Int) < k) = false := by simp
            go_wp2_with fail
            refine (pending_calls wr _ H dj hdk).mono ?_
            rintro e _ ⟨rfl, rfl⟩
            rw [← HP.out]
            have hrdk : Rd wr (fun b => A0.map (·.block) = some b) 1 A0 (List.replicate k true).length (BLs (List.replicate k true)) := by
              rw [List.length_replicate]; exact own_rd hown (by omega)
            have hsk := hfk.size
            have HRK := Lib.hid hrdk
            clear hrdk
            go_wp2_with fail
            refine (copy_calls wr _ H dj hdk (by rw [HN8.out]; decide) (by omega)).mono ?_
            rintro e w2 ⟨C, hC, rfl, hdc2, hf2⟩
            have hs2 := hf2.size
            have hd2 := hdk.fr0 hf2
            have hdc2' := hdc2.mono (Y := fun b => wr.heap.size ≤ b ∧ b < w2.heap.size) (fun b hlt hb => ⟨hb, hlt⟩)
            go_wp2_with fail
            refine (read_calls w2 _ H dj 0 8 hd2 (by rw [HN8.out]; decide) hlive.1).mono ?_
            rintro e w3 ⟨rfl, hb3, hf3⟩
            have hs3 := hf3.size
            generalize hL : ((dj.now.drop 0).take 8).flatten = L at hb3
            have HL := Lib.hid hL
            clear hL
            have hl3 := (Array.getElem?_eq_some_iff.1 hb3).1
            have hd3 := hd2.fr0 hf3
            have hdc3 := hdc2'.fr0 hf3
            go_wp2_with fail
            have hcr := crash_calls w3 (fun b => W.heap.size ≤ b ∧ b < wo.heap.size) _ H dj (List.replicate k true) A0 c0 hd3 (Rd.fr0 (Rd.fr0 HRK.out hf2) hf3) (fun b hb => by have := (hown.lt b ((hA0 b).2 hb)).1; omega) (by omega)
            rw [List.length_replicate] at hcr
            refine hcr.mono ?_
            clear hcr
            rintro e w4 ⟨rfl, hd4, hf4⟩
            have hs4 := hf4.size
            have hcm : crashM dj (List.replicate k true) = ⟨dj.now, dj.now, [], false, 0⟩ := by
              unfold crashM; rw [HP.out, crash_all, HAP.out]
            rw [hcm] at hd4
            clear hcm
            go_wp2_with fail
            refine (read_calls w4 _ H _ 0 8 hd4 (by show 0 + 8 ≤ dj.now.length; rw [HN8.out]; decide) rfl).mono ?_
            rintro e w5 ⟨rfl, hb5, hf5⟩
            replace hb5 : Blk w5 w4.heap.size 5 (U8 L).toArray := by rw [← HL.out]; exact hb5
            have hs5 := hf5.size
            have hdc5 := (hdc3.fr hf4 (fun b hb hT => by omega)).fr0 hf5
            go_wp2_with fail
            refine (flush_calls w5 _ C dj hdc5 hlive.1).mono ?_
            rintro e w6 ⟨rfl, hdc6, hf6⟩
            have hs6 := hf6.size
            have hF6 : Fr No W w6 := ((((hf.tr (hfk.tr hf2)).tr hf3).trans hf4 (fun b hb hT => by omega)).tr hf5).trans hf6 (fun b hb hT => by omega)
            go_wp2_with fail
            refine (crash_calls w6 (fun b => wr.heap.size ≤ b ∧ b < w2.heap.size) (fun b => b < W.heap.size) C _ ks a1 cap1 hdc6 (Rd.fr0 h1 hF6) (fun b hb hT => by omega) (by show 0 ≤ 100000; omega)).mono ?_
            rintro e w7 ⟨rfl, hdc7, hf7⟩
            have hs7 := hf7.size
            have hcm2 : crashM { dj with safe := dj.now, way := [] } ks = ⟨dj.now, dj.now, [], false, 0⟩ := rfl
            rw [hcm2] at hdc7
            clear hcm2
            go_wp2_with fail
            refine (read_calls w7 _ C _ 0 8 hdc7 (by show 0 + 8 ≤ dj.now.length; rw [HN8.out]; decide) rfl).mono ?_
            rintro e w8 ⟨rfl, hb8, hf8⟩
            replace hb8 : Blk w8 w7.heap.size 5 (U8 L).toArray := by rw [← HL.out]; exact hb8
            have hs8 := hf8.size
            have hLl : L.length = 1024 := by
              rw [← HL.out, List.drop_zero, List.take_of_length_le (by rw [HN8.out]; decide), flat_len HL8.out, HN8.out]
            have hz : (U8 L).toArray.size = 1024 * 1 := by rw [List.size_toArray, U8_length, hLl]
            have hB3 := (((((hb3.fr hf4 (fun hT => by omega)).fr0 hf5).fr hf6 (fun hT => by omega)).fr hf7 (fun hT => by omega)).fr0 hf8).rd (size := 1) (n := 1024) hz (by decide)
            have hB5 := (((hb5.fr hf6 (fun hT => by omega)).fr hf7 (fun hT => by omega)).fr0 hf8).rd (size := 1) (n := 1024) hz (by decide)
            have hB8 := hb8.rd (size := 1) (n := 1024) hz (by decide)
            rw [← hLl] at hB3 hB5 hB8
            have hR3 : RdB w8 (fun b => b = w2.heap.size) (some ⟨w2.heap.size, 0, none⟩) L := hB3
            have hR5 : RdB w8 (fun b => b = w4.heap.size) (some ⟨w4.heap.size, 0, none⟩) L := hB5
            have hR8 : RdB w8 (fun b => b = w7.heap.size) (some ⟨w7.heap.size, 0, none⟩) L := hB8
            have HLl := Lib.hid hLl.symm
            have HBs := Lib.hid (And.intro hB3 (And.intro hB5 hB8))
            clear hB3 hB5 hB8 hLl hz
            go_wp2_with (first
              | (refine wpList_str Try.underlying31 Try.underlying5 Try.underlying9 rfl (.tmp 102) rfl (show 8 * 128 = L.length from HLl.out) rfl hR3 ?_)
              | (refine wpList_str Try.underlying31 Try.underlying5 Try.underlying9 rfl (.tmp 104) rfl (show 8 * 128 = L.length from HLl.out) rfl hR5 ?_)
              | (refine wpList_str Try.underlying31 Try.underlying5 Try.underlying9 rfl (.tmp 113) rfl (show 8 * 128 = L.length from HLl.out) rfl hR3 ?_)
              | (refine wpList_str Try.underlying31 Try.underlying5 Try.underlying9 rfl (.tmp 115) rfl (show 8 * 128 = L.length from HLl.out) rfl hR8 ?_)
              | fail)
            refine (known_calls _).mono ?_
            rintro e w9 ⟨rfl, hf9⟩
            go_wp2
            go_ret
            exact ⟨rfl, ((hF6.trans hf7 (fun b hb hT => by omega)).tr hf8).tr hf9⟩
end Go.Proofs.Ythhncjeabamceaa
