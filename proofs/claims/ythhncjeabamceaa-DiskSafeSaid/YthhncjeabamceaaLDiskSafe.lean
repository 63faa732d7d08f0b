/- The walk of lapidarylaw03.DiskSafe. No condition. -/
import Derived.Test.YthhncjeabamceaaPSafe
import Derived.Deep.CutBlock
import Derived.Deep.DeepCutAuto
namespace Go.Proofs.Ythhncjeabamceaa
set_option linter.unusedVariables false
set_option linter.unusedSimpArgs false
open Go.RowKit

def wl0 : List Bool := List.replicate 2048 false
theorem made_wl0 : (madeCells #[Value.bool false] 2048) = (BLs wl0).toArray := by
  rw [← Array.toArray_toList (xs := madeCells _ 2048), toList_madeCells_one]
  unfold wl0 BLs
  rw [List.map_replicate]
theorem wl0_len : wl0.length = 2048 := by unfold wl0; rw [List.length_replicate]
/-- A sector of a row of bytes. -/
theorem row_sec {w : World} {g : Nat} {L : List Sec} (h : Blk w g 5 (U8 L.flatten).toArray) (hL : Len128 L) {k : Nat} (hk : k < L.length) : Rd w (fun b => b = g) 1 (some ⟨g, k * 128, none⟩) 128 (U8 L[k]) := by
  have hl := hL _ (List.getElem_mem hk)
  refine ⟨by rw [U8_length, hl], by omega, fun _ => ⟨_, rfl, rfl, fun j u hu => ?_⟩⟩
  have e : (⟨g, k * 128, none⟩ : Addr).add j = ⟨g, k * 128 + j, none⟩ := by unfold Addr.add; split <;> simp_all
  rw [e, h.cell]
  have := secs_at hL hk j u hu
  rw [secs_flat] at this
  simpa using this
theorem crash_len128 {S : List Sec} {way : List (Nat × Sec)} (h : Len128 S) (hw : ∀ p ∈ way, p.2.length = 128) (ks : List Bool) : Len128 (crashS S way ks) := by
  induction way generalizing S ks with
  | nil => exact h
  | cons p way ih =>
    rw [crashS]
    refine ih ?_ (fun q hq => hw q (List.mem_cons_of_mem _ hq)) _
    split
    · exact h.set _ (hw p (by simp))
    · exact h

set_option maxHeartbeats 8000000 in
set_option maxRecDepth 100000 in
theorem law_DiskSafe (W : World) (a0 : Option Addr) (cap0 : Nat) (l : List Act) (h0 : RdA W (fun b => b < W.heap.size) a0 l) (ok0 : ∀ a ∈ l, ActOk a) (a1 : Option Addr) (cap1 : Nat) (l2 : List Act) (h1 : RdA W (fun b => b < W.heap.size) a1 l2) (ok1 : ∀ a ∈ l2, ActOk a) (a2 : Option Addr) (cap2 : Nat) (ks : List Bool) (h2 : Rd W (fun b => b < W.heap.size) 1 a2 ks.length (BLs ks)) :
    Calls Try.prog 3 #[.slice a0 l.length cap0, .slice a1 l2.length cap1, .slice a2 ks.length cap2] W fun e w' => e = .returned (.bool true) ∧ Fr No W w' := by
  have hle := h0.le
  have hle1 := h1.le
  have hle2 := h2.le
  have OK0 := Lib.hid ok0
  have OK1 := Lib.hid ok1
  clear ok0 ok1
  go_enter Try.func3, Try.ntmps3
  go_wp2_with fail
  refine (new_calls 8 (by decide) (by decide) _).mono ?_
  rintro e w1 ⟨H, hH, rfl, hd1, hf1⟩
  go_upto_block 0 with fail
  go_cut [] (fun wx => ∃ dj : DiskM, DiskAt wx (fun b => W.heap.size ≤ b) H dj ∧ Live dj ∧ Hid (dj.now.length = 8) ∧ dj.way.length ≤ 120 ∧ Fr No W wx)
  case first =>
    go_wp2_with fail
    go_loopw [9] (fun i wr => ∃ (j : Nat) (dj : DiskM), j ≤ l.length ∧ j ≤ 40 ∧ i = .int .i64 (j : Int) ∧ DiskAt wr (fun b => W.heap.size ≤ b) H dj ∧ Live dj ∧ Hid (dj.now.length = 8) ∧ dj.way.length ≤ 3 * j ∧ Fr No W wr) (fun i _ => l.length - (intOf i).toNat)
    case atStart => exact ⟨0, zeroM 8, by omega, by omega, rfl, hd1, ⟨rfl, rfl⟩, Lib.hid (by simp [zeroM, zeros]), by simp [zeroM], hf1⟩
    case round =>
      obtain ⟨j, dj, hj, hj4, rfl, hdj, hlive, HN8, hway, hf⟩ := hrel
      have hsw := hf.size
      by_cases hlt : j < l.length ∧ j < 40
      · obtain ⟨hlt, hlt4⟩ := hlt
        obtain ⟨g, o, rfl, hgS, p1, p2, p3⟩ := (h0.fr hf (fun _ _ hn => hn)).at_ hlt
        have hok := OK0.out _ (List.getElem_mem hlt)
        generalize l[j] = a at *
        obtain ⟨aat, an, ac⟩ := a
        simp only at p1 p2 p3 hok
        have ek : decide ((j : Int) < l.length) = true := by simpa using (by omega : (j : Int) < l.length)
        have ek4 : decide ((j : Int) < 40) = true := by simpa using (by omega : (j : Int) < 40)
        have hgX : ¬ (W.heap.size ≤ g) := by omega
        have hbz : ac.toNat < 256 := ac.toNat_lt
        have g1 := plain_int
        have g5 := plain_u8
        go_wp2_with fail
        (refine T_begin (fun b => W.heap.size ≤ b) [0, 1, 2, 3, 4, 5, 6, 7, 8, 9, 10, 13, 14, 15, 16, 17, 11, 12, 18, 19] [11, 18, 19] (by kernel_rfl) (by kernel_rfl) ?_; simp only [pickOps, List.filterMap_cons, List.filterMap_nil, List.getElem?_cons_zero, List.getElem?_cons_succ, Act.put])
        repeat (first | (refine T_skip (by rfl) (by rfl) (fun _ _ _ h => h) ?_; try simp only [Act.put, List.setIfInBounds_toArray, List.set_cons_zero, List.set_cons_succ]) | (refine T_pass (by rfl) (by rfl) ?_; try simp only [Act.put, List.setIfInBounds_toArray, List.set_cons_zero, List.set_cons_succ]) | (refine T_load (by assumption) (by rfl) (by rfl) (fun _ _ _ _ h => h) rfl rfl (by assumption) (by first | exact (fun hn => hn) | assumption) ?_; try simp only [Act.put, List.setIfInBounds_toArray, List.set_cons_zero, List.set_cons_succ]) | (refine T_nil (by rfl) (by rfl) (fun _ _ _ _ h => h) rfl rfl ?_; try simp only [Act.put, List.setIfInBounds_toArray, List.set_cons_zero, List.set_cons_succ]) | (refine T_quietN (by rfl) (by rfl) (by rfl) (by rfl) (fun _ _ _ _ h => h) (fun K hK => ?_); go_big_quiet_op; refine hK _ ?_; clear hK K) | (refine T_two (by rfl) (by rfl) (by rfl) (by rfl) (fun _ _ _ _ h => h) (fun K hK => ?_); go_big_quiet_op; refine ⟨_, fun _ _ => rfl, ?_⟩; refine hK _ ?_; clear hK K; try simp only [Act.put, List.setIfInBounds_toArray, List.set_cons_zero, List.set_cons_succ]) | fail)
        (refine T_call (by rfl) (by rfl) (fun K hK => ?_); go_wp2_with fail)
        refine (count_calls an 3 _ hok.2.1 hok.2.2 (by decide) (by decide)).mono ?_
        rintro e _ ⟨rfl, rfl⟩
        obtain ⟨c1, c2, c3, c4, c5⟩ := cnt3_spec an
        obtain ⟨q, hq⟩ := Int.eq_ofNat_of_zero_le c4
        rw [hq] at c3 c5
        rw [hq]
        have hq3 : q ≤ 2 := by omega
        have HC := Lib.hid c3
        generalize cnt3 an = n at *
        clear c3 c4 c5 hq
        (refine hK.out _ _ ((Fr.refl _ _)) ?_; clear hK K; try simp only [Act.put, List.setIfInBounds_toArray, List.set_cons_zero, List.set_cons_succ])
        repeat (first | (refine T_skip (by rfl) (by rfl) (fun _ _ _ h => h) ?_; try simp only [Act.put, List.setIfInBounds_toArray, List.set_cons_zero, List.set_cons_succ]) | (refine T_pass (by rfl) (by rfl) ?_; try simp only [Act.put, List.setIfInBounds_toArray, List.set_cons_zero, List.set_cons_succ]) | (refine T_load (by assumption) (by rfl) (by rfl) (fun _ _ _ _ h => h) rfl rfl (by assumption) (by first | exact (fun hn => hn) | assumption) ?_; try simp only [Act.put, List.setIfInBounds_toArray, List.set_cons_zero, List.set_cons_succ]) | (refine T_nil (by rfl) (by rfl) (fun _ _ _ _ h => h) rfl rfl ?_; try simp only [Act.put, List.setIfInBounds_toArray, List.set_cons_zero, List.set_cons_succ]) | (refine T_quietN (by rfl) (by rfl) (by rfl) (by rfl) (fun _ _ _ _ h => h) (fun K hK => ?_); go_big_quiet_op; refine hK _ ?_; clear hK K) | (refine T_two (by rfl) (by rfl) (by rfl) (by rfl) (fun _ _ _ _ h => h) (fun K hK => ?_); go_big_quiet_op; refine ⟨_, fun _ _ => rfl, ?_⟩; refine hK _ ?_; clear hK K; try simp only [Act.put, List.setIfInBounds_toArray, List.set_cons_zero, List.set_cons_succ]) | fail)
        rw [HC.out]
        (refine T_call (by rfl) (by rfl) (fun K hK => ?_); go_wp2_with fail)
        refine (full_calls n ac _ (by omega)).mono ?_
        rintro e w2 ⟨rfl, hb2, hf2⟩
        have hs2 := hf2.size
        (refine hK.out _ _ ((hf2.mono (fun _ _ hn => hn.elim))) ?_; clear hK K; try simp only [Act.put, List.setIfInBounds_toArray, List.set_cons_zero, List.set_cons_succ])
        (refine T_call (by rfl) (by rfl) (fun K hK => ?_); go_wp2_with fail)
        have hf2' : Fr No wr w2 := (Fr.refl No wr).drew.tr hf2
        have hz2 : wr.heap.size ≤ w2.heap.size := hf2'.size
        refine (write_act w2 (fun b => W.heap.size ≤ b ∧ b < wr.heap.size) (fun b => W.heap.size ≤ b) H dj aat n ac wr.heap.size ((hdj.mono (fun b hlt hb => ⟨hb, hlt⟩)).fr0 hf2') hlive hok.1 hb2 (fun hb => by have := hb.2; omega) c1 (by omega) (by omega) (fun b hb => hb.1) (fun b hb => by omega)).mono ?_
        rintro e w3 ⟨rfl, hd3, hf3⟩
        (refine hK.out _ _ ((hf3.mono (fun b _ hb => hb.1))) ?_; clear hK K; try simp only [Act.put, List.setIfInBounds_toArray, List.set_cons_zero, List.set_cons_succ])
        refine T_done ?_
        have hs3 := hf3.size
        go_wp2
        go_roundw
        case rel => exact ⟨j + 1, actM dj aat n ac, by omega, by omega, by go_num, hd3, act_live hlive aat n ac, Lib.hid (by rw [act_len]; exact HN8.out), by have := act_way dj aat n ac; omega, (hf.tr hf2').trans hf3 (fun b hb hT => by have := hT.1; omega)⟩
        case measure => simp [intOf]; omega
      · have hex : j = l.length ∨ (j < l.length ∧ j = 40) := by
          by_cases h5 : j < l.length
          · exact .inr ⟨h5, by omega⟩
          · exact .inl (by omega)
        clear hlt
        have hw0 : dj.way.length ≤ 120 := by omega
        rcases hex with rfl | ⟨e1, rfl⟩
        all_goals
          clear hj hj4 hway
          go_wp2_with fail
          go_meet
          case rel => exact ⟨dj, hdj, hlive, HN8, hw0, hf⟩
  case rest =>
    obtain ⟨dj, hdj, hlive, HN8, hw0, hf⟩ := hcut
    obtain ⟨wo, hwo⟩ : ∃ wo, wo = wc := ⟨_, rfl⟩
    subst hwo
    have hsw := hf.size
    obtain ⟨d1, hde⟩ : ∃ d1, d1 = dj := ⟨_, rfl⟩
    subst hde
    have hlive1 := hlive
    have HN81 := HN8
    have hlen8 : Len128 d1.now := by obtain ⟨_, _, _, _, _, _, hPP⟩ := hdj; exact hPP.2.2.1.1
    have HL8 := Lib.hid hlen8
    clear hlen8
    have hdj2 := hdj.mono (Y := fun b => W.heap.size ≤ b ∧ b < wo.heap.size) (fun b hlt hb => ⟨hb, hlt⟩)
    go_wp2_with fail
    refine (flush_calls wo _ H d1 hdj2 hlive1.1).mono ?_
    rintro e w2 ⟨rfl, hd2, hf2⟩
    have hs2 := hf2.size
    go_wp2_with fail
    refine (read_calls w2 _ H _ 0 8 hd2 (by show 0 + 8 ≤ d1.now.length; rw [HN81.out]; decide) hlive1.1).mono ?_
    rintro e w3 ⟨rfl, hb3, hf3⟩
    replace hb3 : Blk w3 w2.heap.size 5 (U8 d1.now.flatten).toArray := by
      rw [show ({ d1 with safe := d1.now, way := [] } : DiskM).now = d1.now from rfl, List.drop_zero, List.take_of_length_le (by rw [HN81.out]; decide)] at hb3
      exact hb3
    have hs3 := hf3.size
    have hl3 : w2.heap.size < w3.heap.size := (Array.getElem?_eq_some_iff.1 hb3).1
    have hF3 : Fr No W w3 := (hf.trans hf2 (fun b hb hT => by omega)).tr hf3
    have hd3 := hd2.fr0 hf3
    clear hf hdj hdj2
    go_upto_block 2 with (first
      | (refine wpList_make so_bool (n := 2048) (c := 2048) (Nat.le_refl _) (by decide) rfl rfl rfl rfl ?_)
      | fail)
    have hbW := Blk.new w3 4 (madeCells #[Value.bool false] 2048)
    rw [made_wl0] at hbW
    have hf4 : Fr No w3 (w3.alloc (.cells (madeCells #[Value.bool false] 2048) 4)) := (Fr.refl No w3).alloc _
    rw [made_wl0] at hf4
    try rw [made_wl0]
    generalize hw4 : w3.alloc (.cells (BLs wl0).toArray 4) = w4 at *
    clear hw4
    have hs4 := hf4.size
    have hl4 := hbW.lt
    have hd4 := (hd3.fr0 hf4).mono (Y := fun b => (W.heap.size ≤ b ∧ b ≠ w2.heap.size ∧ b ≠ w3.heap.size)) (fun b hlt hb => ⟨hb.1, by omega, by omega⟩)
    have hb4 := hb3.fr0 hf4
    have hF4 := hF3.tr hf4
    obtain ⟨nb, hnb⟩ : ∃ nb : Nat, nb = 2048 := ⟨_, rfl⟩
    have HNB := Lib.hid hnb
    have hnbm : nb ≤ 4096 := by omega
    rw [← hnb]
    clear hnb
    go_cut [] (fun wx => ∃ (dj : DiskM) (wl : List Bool), DiskAt wx (fun b => (W.heap.size ≤ b ∧ b ≠ w2.heap.size ∧ b ≠ w3.heap.size)) H dj ∧ Live dj ∧ Hid (dj.now.length = 8) ∧ dj.way.length ≤ 120 ∧ Hid (dj.safe = d1.now) ∧
      Blk wx w3.heap.size 4 (BLs wl).toArray ∧ Hid (wl.length = 2048) ∧ Hid (WInv dj.way wl) ∧ Fr (fun b => W.heap.size ≤ b ∧ b ≠ w2.heap.size) w4 wx)
    case first =>
      go_wp2_with fail
      go_loopw [13] (fun i wr => ∃ (j : Nat) (dj : DiskM) (wl : List Bool), j ≤ l2.length ∧ j ≤ 40 ∧ i = .int .i64 (j : Int) ∧ DiskAt wr (fun b => (W.heap.size ≤ b ∧ b ≠ w2.heap.size ∧ b ≠ w3.heap.size)) H dj ∧ Live dj ∧ Hid (dj.now.length = 8) ∧ dj.way.length ≤ 3 * j ∧ Hid (dj.safe = d1.now) ∧
        Blk wr w3.heap.size 4 (BLs wl).toArray ∧ Hid (wl.length = 2048) ∧ Hid (WInv dj.way wl) ∧ Fr (fun b => W.heap.size ≤ b ∧ b ≠ w2.heap.size) w4 wr) (fun i _ => l2.length - (intOf i).toNat)
      case atStart => exact ⟨0, _, wl0, by omega, by omega, rfl, hd4, hlive1, HN81, Nat.zero_le _, Lib.hid rfl, hbW, Lib.hid wl0_len, Lib.hid (fun p hp => by cases hp), Fr.refl _ _⟩
      case round =>
        obtain ⟨j, dj, wl, hj, hj4, rfl, hdj, hlive, HN8, hway, HSF, hbl, HWL, HWI, hf⟩ := hrel
        have hszf := hf.size
        have hfW : Fr No W wr := hF4.trans hf (fun b hb hT => by omega)
        by_cases hlt : j < l2.length ∧ j < 40
        · obtain ⟨hlt, hlt4⟩ := hlt
          obtain ⟨g, o, rfl, hgS, p1, p2, p3⟩ := (h1.fr hfW (fun b hb hn => hn)).at_ hlt
          have hok := OK1.out _ (List.getElem_mem hlt)
          generalize l2[j] = a at *
          obtain ⟨aat, an, ac⟩ := a
          simp only at p1 p2 p3 hok
          have ek : decide ((j : Int) < l2.length) = true := by simpa using (by omega : (j : Int) < l2.length)
          have ek4 : decide ((j : Int) < 40) = true := by simpa using (by omega : (j : Int) < 40)
          have hgX : ¬ (W.heap.size ≤ g ∧ g ≠ w2.heap.size ∧ g ≠ w3.heap.size) := by omega
          have hbz : ac.toNat < 256 := ac.toNat_lt
          have g1 := plain_int
          have g5 := plain_u8
          go_wp2_with fail
          refine (count_calls an 3 _ hok.2.1 hok.2.2 (by decide) (by decide)).mono ?_
          rintro e _ ⟨rfl, rfl⟩
          obtain ⟨c1, c2, c3, c4, c5⟩ := cnt3_spec an
          obtain ⟨q, hq⟩ := Int.eq_ofNat_of_zero_le c4
          rw [hq] at c3 c5
          rw [hq]
          have hq3 : q ≤ 2 := by omega
          have HC := Lib.hid c3
          generalize cnt3 an = n at *
          clear c3 c4 c5 hq
          go_wp2_with fail
          rw [HC.out]
          clear HC
          (refine T_begin (fun b => (W.heap.size ≤ b ∧ b ≠ w2.heap.size ∧ b ≠ w3.heap.size)) [0, 1, 2, 3, 4, 5, 6, 7, 8, 9, 10, 11, 12, 13, 14] [12, 13] (by kernel_rfl) (by kernel_rfl) ?_; simp only [pickOps, List.filterMap_cons, List.filterMap_nil, List.getElem?_cons_zero, List.getElem?_cons_succ, Act.put])
          repeat (first | (refine T_skip (by rfl) (by rfl) (fun _ _ _ h => h) ?_; try simp only [Act.put, List.setIfInBounds_toArray, List.set_cons_zero, List.set_cons_succ]) | (refine T_pass (by rfl) (by rfl) ?_; try simp only [Act.put, List.setIfInBounds_toArray, List.set_cons_zero, List.set_cons_succ]) | (refine T_load (by assumption) (by rfl) (by rfl) (fun _ _ _ _ h => h) rfl rfl (by assumption) (by first | exact (fun hn => hn) | assumption) ?_; try simp only [Act.put, List.setIfInBounds_toArray, List.set_cons_zero, List.set_cons_succ]) | (refine T_nil (by rfl) (by rfl) (fun _ _ _ _ h => h) rfl rfl ?_; try simp only [Act.put, List.setIfInBounds_toArray, List.set_cons_zero, List.set_cons_succ]) | (refine T_quietN (by rfl) (by rfl) (by rfl) (by rfl) (fun _ _ _ _ h => h) (fun K hK => ?_); go_big_quiet_op; refine hK _ ?_; clear hK K) | (refine T_two (by rfl) (by rfl) (by rfl) (by rfl) (fun _ _ _ _ h => h) (fun K hK => ?_); go_big_quiet_op; refine ⟨_, fun _ _ => rfl, ?_⟩; refine hK _ ?_; clear hK K; try simp only [Act.put, List.setIfInBounds_toArray, List.set_cons_zero, List.set_cons_succ]) | fail)
          (refine T_call (by rfl) (by rfl) (fun K hK => ?_); go_wp2_with fail)
          refine (full_calls n ac _ (by omega)).mono ?_
          rintro e v2 ⟨rfl, hb2, hf2'⟩
          have hz2 : wr.heap.size ≤ v2.heap.size := hf2'.size
          have hf2v : Fr No wr v2 := (Fr.refl No wr).drew.tr hf2'
          (refine hK.out _ _ ((hf2'.mono (fun _ _ hn => hn.elim))) ?_; clear hK K; try simp only [Act.put, List.setIfInBounds_toArray, List.set_cons_zero, List.set_cons_succ])
          (refine T_call (by rfl) (by rfl) (fun K hK => ?_); go_wp2_with fail)
          refine (write_act v2 (fun b => (W.heap.size ≤ b ∧ b ≠ w2.heap.size ∧ b ≠ w3.heap.size) ∧ b < wr.heap.size) (fun b => (W.heap.size ≤ b ∧ b ≠ w2.heap.size ∧ b ≠ w3.heap.size)) H dj aat n ac wr.heap.size ((hdj.mono (fun b hlt hb => ⟨hb, hlt⟩)).fr0 hf2v) hlive hok.1 hb2 (fun hb => by have := hb.2; omega) c1 (by omega) (by omega) (fun b hb => hb.1) (fun b hb => by omega)).mono ?_
          rintro e v3 ⟨rfl, hdv, hfv⟩
          have hzv := hfv.size
          have hblv := (hbl.fr0 hf2v).fr hfv (fun hT => hT.1.2.2 rfl)
          have hfwv : Fr (fun b => W.heap.size ≤ b ∧ b ≠ w2.heap.size) w4 v3 := (hf.trans (hf2v.mono (fun _ _ hn => hn.elim)) (fun _ _ hb => hb)).trans hfv (fun b hb hT => ⟨hT.1.1, hT.1.2.1⟩)
          cases hbad : badAt dj aat n with
          | true =>
            have hE : actE dj aat n = 13 := by unfold actE; rw [if_pos hbad]
            have HBD := Lib.hid hbad
            rw [hE]
            clear hE hbad
            (refine hK.out _ _ ((hfv.mono (fun b _ hb => hb.1))) ?_; clear hK K; try simp only [Act.put, List.setIfInBounds_toArray, List.set_cons_zero, List.set_cons_succ])
            repeat (first | (refine T_skip (by rfl) (by rfl) (fun _ _ _ h => h) ?_; try simp only [Act.put, List.setIfInBounds_toArray, List.set_cons_zero, List.set_cons_succ]) | (refine T_pass (by rfl) (by rfl) ?_; try simp only [Act.put, List.setIfInBounds_toArray, List.set_cons_zero, List.set_cons_succ]) | (refine T_load (by assumption) (by rfl) (by rfl) (fun _ _ _ _ h => h) rfl rfl (by assumption) (by first | exact (fun hn => hn) | assumption) ?_; try simp only [Act.put, List.setIfInBounds_toArray, List.set_cons_zero, List.set_cons_succ]) | (refine T_nil (by rfl) (by rfl) (fun _ _ _ _ h => h) rfl rfl ?_; try simp only [Act.put, List.setIfInBounds_toArray, List.set_cons_zero, List.set_cons_succ]) | (refine T_quietN (by rfl) (by rfl) (by rfl) (by rfl) (fun _ _ _ _ h => h) (fun K hK => ?_); go_big_quiet_op; refine hK _ ?_; clear hK K) | (refine T_two (by rfl) (by rfl) (by rfl) (by rfl) (fun _ _ _ _ h => h) (fun K hK => ?_); go_big_quiet_op; refine ⟨_, fun _ _ => rfl, ?_⟩; refine hK _ ?_; clear hK K; try simp only [Act.put, List.setIfInBounds_toArray, List.set_cons_zero, List.set_cons_succ]) | fail)
            refine T_done ?_
            go_wp2
            go_roundw
            case rel => exact ⟨j + 1, actM dj aat n ac, wl, by omega, by omega, by go_num, hdv, act_live hlive aat n ac, Lib.hid (by rw [act_len]; exact HN8.out), by have := act_way dj aat n ac; omega, Lib.hid (by rw [act_safe]; exact HSF.out), hblv, HWL, Lib.hid (HWI.out.bad HBD.out), hfwv⟩
            case measure => simp [intOf]; omega
          | false =>
            have hE : actE dj aat n = 0 := by unfold actE; rw [if_neg (by rw [hbad]; exact Bool.false_ne_true)]
            obtain ⟨b1, b2⟩ := badAt_no hbad
            rw [HN8.out] at b2
            rw [hE]
            clear hE hbad
            (refine hK.out _ _ ((hfv.mono (fun b _ hb => hb.1))) ?_; clear hK K; try simp only [Act.put, List.setIfInBounds_toArray, List.set_cons_zero, List.set_cons_succ])
            repeat (first | (refine T_skip (by rfl) (by rfl) (fun _ _ _ h => h) ?_; try simp only [Act.put, List.setIfInBounds_toArray, List.set_cons_zero, List.set_cons_succ]) | (refine T_pass (by rfl) (by rfl) ?_; try simp only [Act.put, List.setIfInBounds_toArray, List.set_cons_zero, List.set_cons_succ]) | (refine T_load (by assumption) (by rfl) (by rfl) (fun _ _ _ _ h => h) rfl rfl (by assumption) (by first | exact (fun hn => hn) | assumption) ?_; try simp only [Act.put, List.setIfInBounds_toArray, List.set_cons_zero, List.set_cons_succ]) | (refine T_nil (by rfl) (by rfl) (fun _ _ _ _ h => h) rfl rfl ?_; try simp only [Act.put, List.setIfInBounds_toArray, List.set_cons_zero, List.set_cons_succ]) | (refine T_quietN (by rfl) (by rfl) (by rfl) (by rfl) (fun _ _ _ _ h => h) (fun K hK => ?_); go_big_quiet_op; refine hK _ ?_; clear hK K) | (refine T_two (by rfl) (by rfl) (by rfl) (by rfl) (fun _ _ _ _ h => h) (fun K hK => ?_); go_big_quiet_op; refine ⟨_, fun _ _ => rfl, ?_⟩; refine hK _ ?_; clear hK K; try simp only [Act.put, List.setIfInBounds_toArray, List.set_cons_zero, List.set_cons_succ]) | fail)
            refine T_done ?_
            have p1v := hfv.cell_some (hf2v.cell_some p1 (fun hn => hn)) (fun hT => by have h9 : W.heap.size ≤ g := hT.1.1; have : g < W.heap.size := hgS; omega)
            have p3v := hfv.cell_some (hf2v.cell_some p3 (fun hn => hn)) (fun hT => by have h9 : W.heap.size ≤ g := hT.1.1; have : g < W.heap.size := hgS; omega)
            have HdV := Lib.hid hdv
            have HfwV := Lib.hid hfwv
            have HNW := Lib.hid (show (actM dj aat n ac).now.length = 8 by rw [act_len]; exact HN8.out)
            have HSW := Lib.hid (show (actM dj aat n ac).safe = d1.now by rw [act_safe]; exact HSF.out)
            have HWA := Lib.hid (act_way dj aat n ac)
            clear hdv hfwv
            obtain ⟨A, rfl⟩ := Int.eq_ofNat_of_zero_le b1
            rw [Int.toNat_natCast] at b2
            have hA8 : A ≤ 8 := by omega
            have hgne : g ≠ w3.heap.size := by have : g < W.heap.size := hgS; omega
            go_wp2_with fail
            go_loopw [15] (fun i wr => ∃ (m : Nat) (wk : List Bool), m ≤ n ∧ i = .int .i64 (m : Int) ∧ Blk wr w3.heap.size 4 (BLs wk).toArray ∧ Hid (wk.length = 2048) ∧ Hid (Grow wl wk) ∧ Hid (∀ i, i < m → wk[(A + i) * 256 + ac.toNat]? = some true) ∧ Fr (fun b => b = w3.heap.size) v3 wr) (fun i _ => n - (intOf i).toNat)
            case atStart => exact ⟨0, wl, by omega, rfl, hblv, HWL, Lib.hid (Grow.refl wl), Lib.hid (fun i hi => by omega), Fr.refl _ _⟩
            case round =>
              obtain ⟨m, wk, hm, rfl, hbk, HKL, HGR, HMK, hfk⟩ := hrel
              by_cases hmn : m < n
              · have em : decide ((m : Int) < n) = true := by simpa using (by omega : (m : Int) < n)
                have p1k := hfk.cell_some p1v (fun hT => hgne hT)
                have p3k := hfk.cell_some p3v (fun hT => hgne hT)
                obtain ⟨ix, hix⟩ : ∃ ix, ix = (A + m) * 256 + ac.toNat := ⟨_, rfl⟩
                have HI := Lib.hid (show ((A : Int) + (m : Int)) * 256 + (ac.toNat : Int) = (ix : Int) by omega)
                have HIX := Lib.hid hix
                have hix4 : ix < 2048 := by omega
                have hix5 : decide ((ix : Int) < 0) = false := by simp
                have hix6 : decide ((nb : Int) ≤ ix) = false := by simp; rw [HNB.out]; omega
                have hix2 : ix < nb := by rw [HNB.out]; omega
                have hix3 : ¬ (nb ≤ ix) := by rw [HNB.out]; omega
                have hkl := HKL.out
                have hck := (hbk.cell ix).trans (Array.getElem?_eq_getElem (by rw [List.size_toArray]; unfold BLs; rw [List.length_map]; omega))
                have hzk := hbk.frozen ix
                have hpk := hbk.put ix (.bool true)
                rw [BLs_set] at hpk
                have HPK := Lib.hid hpk
                generalize ((BLs wk).toArray[ix]'_) = old at hck
                clear hix hkl hpk
                go_wp2_with fail
                (refine T_begin No [0, 1, 2, 3, 4, 5, 6, 7, 8, 9, 10, 11, 12, 13, 14, 15] [] (by kernel_rfl) (by kernel_rfl) ?_; simp only [pickOps, List.filterMap_cons, List.filterMap_nil, List.getElem?_cons_zero, List.getElem?_cons_succ, Act.put])
                repeat (first | (refine T_skip (by rfl) (by rfl) (fun _ _ _ h => h) ?_; try simp only [Act.put, List.setIfInBounds_toArray, List.set_cons_zero, List.set_cons_succ]) | (refine T_pass (by rfl) (by rfl) ?_; try simp only [Act.put, List.setIfInBounds_toArray, List.set_cons_zero, List.set_cons_succ]) | (refine T_load (by assumption) (by rfl) (by rfl) (fun _ _ _ _ h => h) rfl rfl (by assumption) (by first | exact (fun hn => hn) | assumption) ?_; try simp only [Act.put, List.setIfInBounds_toArray, List.set_cons_zero, List.set_cons_succ]) | (refine T_nil (by rfl) (by rfl) (fun _ _ _ _ h => h) rfl rfl ?_; try simp only [Act.put, List.setIfInBounds_toArray, List.set_cons_zero, List.set_cons_succ]) | (refine T_quietN (by rfl) (by rfl) (by rfl) (by rfl) (fun _ _ _ _ h => h) (fun K hK => ?_); go_big_quiet_op; refine hK _ ?_; clear hK K) | (refine T_two (by rfl) (by rfl) (by rfl) (by rfl) (fun _ _ _ _ h => h) (fun K hK => ?_); go_big_quiet_op; refine ⟨_, fun _ _ => rfl, ?_⟩; refine hK _ ?_; clear hK K; try simp only [Act.put, List.setIfInBounds_toArray, List.set_cons_zero, List.set_cons_succ]) | fail)
                refine T_byte (by rfl) (by rfl) (fun _ _ _ _ h => h) rfl rfl ?_
                try simp only [Act.put, List.setIfInBounds_toArray, List.set_cons_zero, List.set_cons_succ]
                repeat (first | (refine T_skip (by rfl) (by rfl) (fun _ _ _ h => h) ?_; try simp only [Act.put, List.setIfInBounds_toArray, List.set_cons_zero, List.set_cons_succ]) | (refine T_pass (by rfl) (by rfl) ?_; try simp only [Act.put, List.setIfInBounds_toArray, List.set_cons_zero, List.set_cons_succ]) | (refine T_load (by assumption) (by rfl) (by rfl) (fun _ _ _ _ h => h) rfl rfl (by assumption) (by first | exact (fun hn => hn) | assumption) ?_; try simp only [Act.put, List.setIfInBounds_toArray, List.set_cons_zero, List.set_cons_succ]) | (refine T_nil (by rfl) (by rfl) (fun _ _ _ _ h => h) rfl rfl ?_; try simp only [Act.put, List.setIfInBounds_toArray, List.set_cons_zero, List.set_cons_succ]) | (refine T_quietN (by rfl) (by rfl) (by rfl) (by rfl) (fun _ _ _ _ h => h) (fun K hK => ?_); go_big_quiet_op; refine hK _ ?_; clear hK K) | (refine T_two (by rfl) (by rfl) (by rfl) (by rfl) (fun _ _ _ _ h => h) (fun K hK => ?_); go_big_quiet_op; refine ⟨_, fun _ _ => rfl, ?_⟩; refine hK _ ?_; clear hK K; try simp only [Act.put, List.setIfInBounds_toArray, List.set_cons_zero, List.set_cons_succ]) | fail)
                refine T_done ?_
                rw [HI.out]
                go_wp2
                go_roundw
                case rel =>
                  refine ⟨m + 1, wk.set ix true, by omega, by go_num, HPK.out, Lib.hid (by rw [List.length_set]; exact HKL.out), Lib.hid (HGR.out.trans (Grow.set wk ix)), Lib.hid (fun i hi => ?_), hfk.drew.set (.inr rfl) _⟩
                  by_cases hie : i = m
                  · subst hie
                    rw [← HIX.out, List.getElem?_set, if_pos rfl, if_pos (by rw [HKL.out]; omega)]
                  · exact Grow.set wk ix _ (HMK.out i (by omega))
                case measure => simp [intOf]; omega
              · obtain rfl : m = n := by omega
                have em : decide ((m : Int) < m) = false := by simp
                go_wp2
                go_roundw
                case rel => exact ⟨j + 1, actM dj (A : Int) m ac, wk, by omega, by omega, by go_num, HdV.out.fr hfk (fun b hb hT => hb.2.2 hT), act_live hlive _ m ac, HNW, by have := HWA.out; omega, HSW, hbk, HKL, Lib.hid (HWI.out.act HGR.out (fun i hi => by rw [Int.toNat_natCast]; exact HMK.out i hi)), HfwV.out.trans hfk (fun b hb hT => by subst hT; exact ⟨by omega, by omega⟩)⟩
                case measure => simp [intOf]; omega
        · have hex : j = l2.length ∨ (j < l2.length ∧ j = 40) := by
            by_cases h5 : j < l2.length
            · exact .inr ⟨h5, by omega⟩
            · exact .inl (by omega)
          clear hlt
          have hw1 : dj.way.length ≤ 120 := by omega
          rcases hex with rfl | ⟨e2, rfl⟩
          all_goals
            clear hj hj4 hway
            go_wp2_with fail
            go_meet
            case rel => exact ⟨dj, wl, hdj, hlive, HN8, hw1, HSF, hbl, HWL, HWI, hf⟩
    case rest =>
      obtain ⟨dj, wl, hdj, hlive, HN8, hw1, HSF, hbl, HWL, HWI, hf⟩ := hcut
      have hszf := hf.size
      have hfW : Fr No W wc := hF4.trans hf (fun b hb hT => by omega)
      have hwf128 : ∀ p ∈ dj.way, p.2.length = 128 := fun p hp => by obtain ⟨c, hc, _⟩ := HWI.out p hp; rw [hc]; exact fsec_len c
      have HL0 := HL8.out
      obtain ⟨Lc, hLc⟩ : ∃ Lc, Lc = crashS d1.now dj.way ks := ⟨_, rfl⟩
      have hLc128 : Len128 Lc := by rw [hLc]; exact crash_len128 HL0 hwf128 ks
      have hLcl : Lc.length = 8 := by rw [hLc, crashS_len]; exact HN81.out
      have hcm : crashM dj ks = ⟨Lc, Lc, [], false, 0⟩ := by unfold crashM; rw [HSF.out, hLc]
      have hfrom : ∀ s, s < 8 → Lc[s]? = d1.now[s]? ∨ ∃ c : UInt8, Lc[s]? = some (fsec c) ∧ wl[s * 256 + c.toNat]? = some true := fun s hs => by
        rw [hLc]
        rcases crash_from d1.now dj.way ks s with h | ⟨p, hp, h3, h4⟩
        · exact .inl h
        · obtain ⟨c, hc, hm⟩ := HWI.out p hp
          exact .inr ⟨c, by rw [h4, hc], by rw [← h3]; exact hm⟩
      have HFROM := Lib.hid hfrom
      have HCM := Lib.hid hcm
      have HLC := Lib.hid hLc128
      have HLL := Lib.hid hLcl
      clear hLc hwf128 HL0 hLc128 hLcl hcm hfrom
      obtain ⟨wp, hwp⟩ : ∃ wp, wp = wc := ⟨_, rfl⟩
      subst hwp
      go_wp2_with fail
      refine (crash_calls wp (fun b => (W.heap.size ≤ b ∧ b ≠ w2.heap.size ∧ b ≠ w3.heap.size)) (fun b => b < W.heap.size) H dj ks a2 cap2 hdj (Rd.fr0 h2 hfW) (fun b hb hT => by omega) (by omega)).mono ?_
      rintro e w5 ⟨rfl, hd5, hf5⟩
      rw [HCM.out] at hd5
      have hs5 := hf5.size
      have hF5 : Fr No W w5 := hfW.trans hf5 (fun b hb hT => by omega)
      go_wp2_with fail
      refine (read_calls w5 _ H _ 0 8 hd5 (by show 0 + 8 ≤ Lc.length; rw [HLL.out]; decide) rfl).mono ?_
      rintro e w6 ⟨rfl, hb6, hf6⟩
      replace hb6 : Blk w6 w5.heap.size 5 (U8 Lc.flatten).toArray := by
        rw [show (⟨Lc, Lc, [], false, 0⟩ : DiskM).now = Lc from rfl, List.drop_zero, List.take_of_length_le (by rw [HLL.out]; decide)] at hb6
        exact hb6
      have hs6 := hf6.size
      have hbR := ((hb4.fr hf (fun hT => hT.2 rfl)).fr hf5 (fun hT => hT.2.1 rfl)).fr0 hf6
      have hbWr := (hbl.fr hf5 (fun hT => hT.2.2 rfl)).fr0 hf6
      have hd6 := hd5.fr0 hf6
      have hF6 := hF5.tr hf6
      go_wp2_with fail
      refine (pending_calls w6 _ H _ hd6).mono ?_
      rintro e _ ⟨rfl, rfl⟩
      simp only [List.length_nil]
      go_wp2_with fail
      clear hf hf5 hf6 hfW hF5 hf4 hF3 hf3 hf2 hdj hd3 hd2 hd4 hd5 hbl hb4 hb3
      go_loopw [19] (fun i wr => ∃ s : Nat, s ≤ 8 ∧ i = .int .i64 (s : Int) ∧ Fr No w6 wr) (fun i _ => 8 - (intOf i).toNat)
      case atStart => exact ⟨0, by omega, rfl, Fr.refl _ _⟩
      case round =>
        obtain ⟨s, hs, rfl, hfs⟩ := hrel
        by_cases hs8 : s < 8
        · have es : decide ((s : Int) < 8) = true := by simpa using (by omega : (s : Int) < 8)
          have hbRs := hbR.fr0 hfs
          have hb6s := hb6.fr0 hfs
          have hbWs := hbWr.fr0 hfs
          have hsl : s < Lc.length := by rw [HLL.out]; exact hs8
          have hsl1 : s < d1.now.length := by rw [HN81.out]; exact hs8
          have hrO : RdB wr (fun b => b = w5.heap.size) (some ⟨w5.heap.size, s * 128, none⟩) Lc[s] := by
            have h := row_sec hb6s HLC.out hsl
            have hl := HLC.out _ (List.getElem_mem hsl)
            unfold RdB; rw [hl]; exact h
          have hrW : RdB wr (fun b => b = w2.heap.size) (some ⟨w2.heap.size, s * 128, none⟩) d1.now[s] := by
            have h := row_sec hbRs HL8.out hsl1
            have hl := HL8.out _ (List.getElem_mem hsl1)
            unfold RdB; rw [hl]; exact h
          have HlO := Lib.hid (HLC.out _ (List.getElem_mem hsl))
          have HlW := Lib.hid (HL8.out _ (List.getElem_mem hsl1))
          obtain ⟨lo, hlo⟩ : ∃ lo, lo = s * 128 := ⟨_, rfl⟩
          obtain ⟨hi, hhi⟩ : ∃ hi, hi = (s + 1) * 128 := ⟨_, rfl⟩
          have HLO := Lib.hid (show (s : Int) * 128 = (lo : Int) by omega)
          have HHI := Lib.hid (show ((s : Int) + 1) * 128 = (hi : Int) by omega)
          have hd128 : hi - lo = 128 := by omega
          have HD := Lib.hid hd128
          have hlh : lo ≤ hi := by omega
          have hh8 : hi ≤ 8 * 128 := by omega
          have hl8 : lo < 8 * 128 := by omega
          rw [← hlo] at hrO hrW
          have hfr := HFROM.out s hs8
          rw [List.getElem?_eq_getElem hsl, List.getElem?_eq_getElem hsl1] at hfr
          have HFR := Lib.hid hfr
          clear hlo hhi hd128 hfr
          have g4 := plain_bool
          generalize Lc[s] = so at *
          generalize d1.now[s] = sw at *
          go_wp2_with (first
            | (refine wpList_cut Try.underlying31 (by kernel_rfl) w5.heap.size (8 * 128) (8 * 128) lo hi hlh hh8 hl8 rfl rfl rfl (show _ = Value.int .i64 (lo : Int) from congrArg _ HLO.out) (show _ = Value.int .i64 (hi : Int) from congrArg _ HHI.out) ?_)
            | fail)
          rw [HD.out, HLO.out, HHI.out]
          by_cases heq : so = sw
          · have HEQ := Lib.hid (show false = decide (so ≠ sw) by rw [heq]; simp)
            clear heq
            (refine T_begin No [0, 1, 2, 3, 4, 5, 6, 7, 8, 9, 10, 11, 12, 13, 14, 15, 16, 17, 18, 19, 20, 21, 22, 23, 24, 25, 26, 27, 28, 29, 30, 31, 32, 33] [17] (by kernel_rfl) (by kernel_rfl) ?_; simp only [pickOps, List.filterMap_cons, List.filterMap_nil, List.getElem?_cons_zero, List.getElem?_cons_succ, Act.put])
            (first | (refine T_skip (by rfl) (by rfl) (fun _ _ _ h => h) ?_; try simp only [Act.put, List.setIfInBounds_toArray, List.set_cons_zero, List.set_cons_succ]) | (refine T_pass (by rfl) (by rfl) ?_; try simp only [Act.put, List.setIfInBounds_toArray, List.set_cons_zero, List.set_cons_succ]) | (refine T_load (by assumption) (by rfl) (by rfl) (fun _ _ _ _ h => h) rfl rfl (by assumption) (by first | exact (fun hn => hn) | assumption) ?_; try simp only [Act.put, List.setIfInBounds_toArray, List.set_cons_zero, List.set_cons_succ]) | (refine T_nil (by rfl) (by rfl) (fun _ _ _ _ h => h) rfl rfl ?_; try simp only [Act.put, List.setIfInBounds_toArray, List.set_cons_zero, List.set_cons_succ]) | (refine T_quietN (by rfl) (by rfl) (by rfl) (by rfl) (fun _ _ _ _ h => h) (fun K hK => ?_); go_big_quiet_op; refine hK _ ?_; clear hK K) | (refine T_two (by rfl) (by rfl) (by rfl) (by rfl) (fun _ _ _ _ h => h) (fun K hK => ?_); go_big_quiet_op; refine ⟨_, fun _ _ => rfl, ?_⟩; refine hK _ ?_; clear hK K; try simp only [Act.put, List.setIfInBounds_toArray, List.set_cons_zero, List.set_cons_succ]) | fail)
            (refine T_str Try.underlying31 Try.underlying5 Try.underlying9 (Rd.drew hrO) (fun _ _ hn => hn) (by rfl) (by rfl) (fun _ _ _ _ h => h) rfl (HlO.out.symm) rfl ?_; try simp only [Act.put, List.setIfInBounds_toArray, List.set_cons_zero, List.set_cons_succ])
            (first | (refine T_skip (by rfl) (by rfl) (fun _ _ _ h => h) ?_; try simp only [Act.put, List.setIfInBounds_toArray, List.set_cons_zero, List.set_cons_succ]) | (refine T_pass (by rfl) (by rfl) ?_; try simp only [Act.put, List.setIfInBounds_toArray, List.set_cons_zero, List.set_cons_succ]) | (refine T_load (by assumption) (by rfl) (by rfl) (fun _ _ _ _ h => h) rfl rfl (by assumption) (by first | exact (fun hn => hn) | assumption) ?_; try simp only [Act.put, List.setIfInBounds_toArray, List.set_cons_zero, List.set_cons_succ]) | (refine T_nil (by rfl) (by rfl) (fun _ _ _ _ h => h) rfl rfl ?_; try simp only [Act.put, List.setIfInBounds_toArray, List.set_cons_zero, List.set_cons_succ]) | (refine T_quietN (by rfl) (by rfl) (by rfl) (by rfl) (fun _ _ _ _ h => h) (fun K hK => ?_); go_big_quiet_op; refine hK _ ?_; clear hK K) | (refine T_two (by rfl) (by rfl) (by rfl) (by rfl) (fun _ _ _ _ h => h) (fun K hK => ?_); go_big_quiet_op; refine ⟨_, fun _ _ => rfl, ?_⟩; refine hK _ ?_; clear hK K; try simp only [Act.put, List.setIfInBounds_toArray, List.set_cons_zero, List.set_cons_succ]) | fail)
            (first | (refine T_skip (by rfl) (by rfl) (fun _ _ _ h => h) ?_; try simp only [Act.put, List.setIfInBounds_toArray, List.set_cons_zero, List.set_cons_succ]) | (refine T_pass (by rfl) (by rfl) ?_; try simp only [Act.put, List.setIfInBounds_toArray, List.set_cons_zero, List.set_cons_succ]) | (refine T_load (by assumption) (by rfl) (by rfl) (fun _ _ _ _ h => h) rfl rfl (by assumption) (by first | exact (fun hn => hn) | assumption) ?_; try simp only [Act.put, List.setIfInBounds_toArray, List.set_cons_zero, List.set_cons_succ]) | (refine T_nil (by rfl) (by rfl) (fun _ _ _ _ h => h) rfl rfl ?_; try simp only [Act.put, List.setIfInBounds_toArray, List.set_cons_zero, List.set_cons_succ]) | (refine T_quietN (by rfl) (by rfl) (by rfl) (by rfl) (fun _ _ _ _ h => h) (fun K hK => ?_); go_big_quiet_op; refine hK _ ?_; clear hK K) | (refine T_two (by rfl) (by rfl) (by rfl) (by rfl) (fun _ _ _ _ h => h) (fun K hK => ?_); go_big_quiet_op; refine ⟨_, fun _ _ => rfl, ?_⟩; refine hK _ ?_; clear hK K; try simp only [Act.put, List.setIfInBounds_toArray, List.set_cons_zero, List.set_cons_succ]) | fail)
            (first | (refine T_skip (by rfl) (by rfl) (fun _ _ _ h => h) ?_; try simp only [Act.put, List.setIfInBounds_toArray, List.set_cons_zero, List.set_cons_succ]) | (refine T_pass (by rfl) (by rfl) ?_; try simp only [Act.put, List.setIfInBounds_toArray, List.set_cons_zero, List.set_cons_succ]) | (refine T_load (by assumption) (by rfl) (by rfl) (fun _ _ _ _ h => h) rfl rfl (by assumption) (by first | exact (fun hn => hn) | assumption) ?_; try simp only [Act.put, List.setIfInBounds_toArray, List.set_cons_zero, List.set_cons_succ]) | (refine T_nil (by rfl) (by rfl) (fun _ _ _ _ h => h) rfl rfl ?_; try simp only [Act.put, List.setIfInBounds_toArray, List.set_cons_zero, List.set_cons_succ]) | (refine T_quietN (by rfl) (by rfl) (by rfl) (by rfl) (fun _ _ _ _ h => h) (fun K hK => ?_); go_big_quiet_op; refine hK _ ?_; clear hK K) | (refine T_two (by rfl) (by rfl) (by rfl) (by rfl) (fun _ _ _ _ h => h) (fun K hK => ?_); go_big_quiet_op; refine ⟨_, fun _ _ => rfl, ?_⟩; refine hK _ ?_; clear hK K; try simp only [Act.put, List.setIfInBounds_toArray, List.set_cons_zero, List.set_cons_succ]) | fail)
            (first | (refine T_skip (by rfl) (by rfl) (fun _ _ _ h => h) ?_; try simp only [Act.put, List.setIfInBounds_toArray, List.set_cons_zero, List.set_cons_succ]) | (refine T_pass (by rfl) (by rfl) ?_; try simp only [Act.put, List.setIfInBounds_toArray, List.set_cons_zero, List.set_cons_succ]) | (refine T_load (by assumption) (by rfl) (by rfl) (fun _ _ _ _ h => h) rfl rfl (by assumption) (by first | exact (fun hn => hn) | assumption) ?_; try simp only [Act.put, List.setIfInBounds_toArray, List.set_cons_zero, List.set_cons_succ]) | (refine T_nil (by rfl) (by rfl) (fun _ _ _ _ h => h) rfl rfl ?_; try simp only [Act.put, List.setIfInBounds_toArray, List.set_cons_zero, List.set_cons_succ]) | (refine T_quietN (by rfl) (by rfl) (by rfl) (by rfl) (fun _ _ _ _ h => h) (fun K hK => ?_); go_big_quiet_op; refine hK _ ?_; clear hK K) | (refine T_two (by rfl) (by rfl) (by rfl) (by rfl) (fun _ _ _ _ h => h) (fun K hK => ?_); go_big_quiet_op; refine ⟨_, fun _ _ => rfl, ?_⟩; refine hK _ ?_; clear hK K; try simp only [Act.put, List.setIfInBounds_toArray, List.set_cons_zero, List.set_cons_succ]) | fail)
            (first | (refine T_skip (by rfl) (by rfl) (fun _ _ _ h => h) ?_; try simp only [Act.put, List.setIfInBounds_toArray, List.set_cons_zero, List.set_cons_succ]) | (refine T_pass (by rfl) (by rfl) ?_; try simp only [Act.put, List.setIfInBounds_toArray, List.set_cons_zero, List.set_cons_succ]) | (refine T_load (by assumption) (by rfl) (by rfl) (fun _ _ _ _ h => h) rfl rfl (by assumption) (by first | exact (fun hn => hn) | assumption) ?_; try simp only [Act.put, List.setIfInBounds_toArray, List.set_cons_zero, List.set_cons_succ]) | (refine T_nil (by rfl) (by rfl) (fun _ _ _ _ h => h) rfl rfl ?_; try simp only [Act.put, List.setIfInBounds_toArray, List.set_cons_zero, List.set_cons_succ]) | (refine T_quietN (by rfl) (by rfl) (by rfl) (by rfl) (fun _ _ _ _ h => h) (fun K hK => ?_); go_big_quiet_op; refine hK _ ?_; clear hK K) | (refine T_two (by rfl) (by rfl) (by rfl) (by rfl) (fun _ _ _ _ h => h) (fun K hK => ?_); go_big_quiet_op; refine ⟨_, fun _ _ => rfl, ?_⟩; refine hK _ ?_; clear hK K; try simp only [Act.put, List.setIfInBounds_toArray, List.set_cons_zero, List.set_cons_succ]) | fail)
            (first | (refine T_skip (by rfl) (by rfl) (fun _ _ _ h => h) ?_; try simp only [Act.put, List.setIfInBounds_toArray, List.set_cons_zero, List.set_cons_succ]) | (refine T_pass (by rfl) (by rfl) ?_; try simp only [Act.put, List.setIfInBounds_toArray, List.set_cons_zero, List.set_cons_succ]) | (refine T_load (by assumption) (by rfl) (by rfl) (fun _ _ _ _ h => h) rfl rfl (by assumption) (by first | exact (fun hn => hn) | assumption) ?_; try simp only [Act.put, List.setIfInBounds_toArray, List.set_cons_zero, List.set_cons_succ]) | (refine T_nil (by rfl) (by rfl) (fun _ _ _ _ h => h) rfl rfl ?_; try simp only [Act.put, List.setIfInBounds_toArray, List.set_cons_zero, List.set_cons_succ]) | (refine T_quietN (by rfl) (by rfl) (by rfl) (by rfl) (fun _ _ _ _ h => h) (fun K hK => ?_); go_big_quiet_op; refine hK _ ?_; clear hK K) | (refine T_two (by rfl) (by rfl) (by rfl) (by rfl) (fun _ _ _ _ h => h) (fun K hK => ?_); go_big_quiet_op; refine ⟨_, fun _ _ => rfl, ?_⟩; refine hK _ ?_; clear hK K; try simp only [Act.put, List.setIfInBounds_toArray, List.set_cons_zero, List.set_cons_succ]) | fail)
            refine T_cut Try.underlying31 (by kernel_rfl) w2.heap.size (8 * 128) (8 * 128) lo hi hlh hh8 hl8 (by rfl) (by rfl) (fun _ _ _ _ h => h) rfl rfl (show _ = Value.int .i64 (lo : Int) from congrArg _ HLO.out) (show _ = Value.int .i64 (hi : Int) from congrArg _ HHI.out) ?_
            try simp only [Act.put, List.setIfInBounds_toArray, List.set_cons_zero, List.set_cons_succ]
            (refine T_str Try.underlying31 Try.underlying5 Try.underlying9 (Rd.drew hrW) (fun _ _ hn => hn) (by rfl) (by rfl) (fun _ _ _ _ h => h) rfl (by rw [HD.out, HlW.out]) rfl ?_; try simp only [Act.put, List.setIfInBounds_toArray, List.set_cons_zero, List.set_cons_succ])
            refine T_neqStr HEQ.out (by rfl) (by rfl) (fun _ _ _ _ h => h) rfl rfl rfl ?_
            try simp only [Act.put, List.setIfInBounds_toArray, List.set_cons_zero, List.set_cons_succ]
            repeat (first | (refine T_skip (by rfl) (by rfl) (fun _ _ _ h => h) ?_; try simp only [Act.put, List.setIfInBounds_toArray, List.set_cons_zero, List.set_cons_succ]) | (refine T_pass (by rfl) (by rfl) ?_; try simp only [Act.put, List.setIfInBounds_toArray, List.set_cons_zero, List.set_cons_succ]) | (refine T_load (by assumption) (by rfl) (by rfl) (fun _ _ _ _ h => h) rfl rfl (by assumption) (by first | exact (fun hn => hn) | assumption) ?_; try simp only [Act.put, List.setIfInBounds_toArray, List.set_cons_zero, List.set_cons_succ]) | (refine T_nil (by rfl) (by rfl) (fun _ _ _ _ h => h) rfl rfl ?_; try simp only [Act.put, List.setIfInBounds_toArray, List.set_cons_zero, List.set_cons_succ]) | (refine T_quietN (by rfl) (by rfl) (by rfl) (by rfl) (fun _ _ _ _ h => h) (fun K hK => ?_); go_big_quiet_op; refine hK _ ?_; clear hK K) | (refine T_two (by rfl) (by rfl) (by rfl) (by rfl) (fun _ _ _ _ h => h) (fun K hK => ?_); go_big_quiet_op; refine ⟨_, fun _ _ => rfl, ?_⟩; refine hK _ ?_; clear hK K; try simp only [Act.put, List.setIfInBounds_toArray, List.set_cons_zero, List.set_cons_succ]) | fail)
            refine T_done ?_
            go_wp2
            go_roundw
            case rel => (repeat apply Exists.intro); exact ⟨⟨s + 1, by omega, by go_num, hfs.drew⟩, rfl⟩
            case measure => simp [intOf]; omega
          · have HEQ := Lib.hid (show true = decide (so ≠ sw) by simp [heq])
            have hfr := HFR.out
            obtain ⟨c, hc, hm⟩ : ∃ c : UInt8, so = fsec c ∧ wl[s * 256 + c.toNat]? = some true := by
              rcases hfr with h | ⟨c, h, hm⟩
              · exact absurd (Option.some.inj h) heq
              · exact ⟨c, Option.some.inj h, hm⟩
            subst hc
            have hix := (List.getElem?_eq_some_iff.1 hm).1
            rw [HWL.out] at hix
            have pw : wr.cell? ⟨w3.heap.size, s * 256 + c.toNat, none⟩ = some (.bool true) := by
              rw [hbWs.cell, List.getElem?_toArray]; unfold BLs; rw [List.getElem?_map, hm]; rfl
            obtain ⟨ix, hx⟩ : ∃ ix, ix = s * 256 + c.toNat := ⟨_, rfl⟩
            rw [← hx] at pw hix
            have HX := Lib.hid (show (s : Int) * 256 + (c.toNat : Int) = (ix : Int) by omega)
            have hixn : ix < nb := by rw [HNB.out]; exact hix
            have ph : wr.cell? ⟨w5.heap.size, lo, none⟩ = some (.int .u8 (c.toNat : Int)) := by
              obtain ⟨ad, e, _, hcl⟩ := hrO.2.2 (by rw [fsec_len]; decide)
              obtain rfl := Option.some.inj e
              exact hcl 0 _ (by simp [U8, fsec])
            have hbz : c.toNat < 256 := c.toNat_lt
            have g5 := plain_u8
            clear heq hfr hm hx
            (refine T_begin No [0, 1, 2, 3, 4, 5, 6, 7, 8, 9, 10, 11, 12, 13, 14, 15, 16, 17, 18, 19, 20, 21, 22, 23, 24, 25, 26, 27, 28, 29, 30, 31, 32, 33] [17] (by kernel_rfl) (by kernel_rfl) ?_; simp only [pickOps, List.filterMap_cons, List.filterMap_nil, List.getElem?_cons_zero, List.getElem?_cons_succ, Act.put])
            (first | (refine T_skip (by rfl) (by rfl) (fun _ _ _ h => h) ?_; try simp only [Act.put, List.setIfInBounds_toArray, List.set_cons_zero, List.set_cons_succ]) | (refine T_pass (by rfl) (by rfl) ?_; try simp only [Act.put, List.setIfInBounds_toArray, List.set_cons_zero, List.set_cons_succ]) | (refine T_load (by assumption) (by rfl) (by rfl) (fun _ _ _ _ h => h) rfl rfl (by assumption) (by first | exact (fun hn => hn) | assumption) ?_; try simp only [Act.put, List.setIfInBounds_toArray, List.set_cons_zero, List.set_cons_succ]) | (refine T_nil (by rfl) (by rfl) (fun _ _ _ _ h => h) rfl rfl ?_; try simp only [Act.put, List.setIfInBounds_toArray, List.set_cons_zero, List.set_cons_succ]) | (refine T_quietN (by rfl) (by rfl) (by rfl) (by rfl) (fun _ _ _ _ h => h) (fun K hK => ?_); go_big_quiet_op; refine hK _ ?_; clear hK K) | (refine T_two (by rfl) (by rfl) (by rfl) (by rfl) (fun _ _ _ _ h => h) (fun K hK => ?_); go_big_quiet_op; refine ⟨_, fun _ _ => rfl, ?_⟩; refine hK _ ?_; clear hK K; try simp only [Act.put, List.setIfInBounds_toArray, List.set_cons_zero, List.set_cons_succ]) | fail)
            (refine T_str Try.underlying31 Try.underlying5 Try.underlying9 (Rd.drew hrO) (fun _ _ hn => hn) (by rfl) (by rfl) (fun _ _ _ _ h => h) rfl (HlO.out.symm) rfl ?_; try simp only [Act.put, List.setIfInBounds_toArray, List.set_cons_zero, List.set_cons_succ])
            (first | (refine T_skip (by rfl) (by rfl) (fun _ _ _ h => h) ?_; try simp only [Act.put, List.setIfInBounds_toArray, List.set_cons_zero, List.set_cons_succ]) | (refine T_pass (by rfl) (by rfl) ?_; try simp only [Act.put, List.setIfInBounds_toArray, List.set_cons_zero, List.set_cons_succ]) | (refine T_load (by assumption) (by rfl) (by rfl) (fun _ _ _ _ h => h) rfl rfl (by assumption) (by first | exact (fun hn => hn) | assumption) ?_; try simp only [Act.put, List.setIfInBounds_toArray, List.set_cons_zero, List.set_cons_succ]) | (refine T_nil (by rfl) (by rfl) (fun _ _ _ _ h => h) rfl rfl ?_; try simp only [Act.put, List.setIfInBounds_toArray, List.set_cons_zero, List.set_cons_succ]) | (refine T_quietN (by rfl) (by rfl) (by rfl) (by rfl) (fun _ _ _ _ h => h) (fun K hK => ?_); go_big_quiet_op; refine hK _ ?_; clear hK K) | (refine T_two (by rfl) (by rfl) (by rfl) (by rfl) (fun _ _ _ _ h => h) (fun K hK => ?_); go_big_quiet_op; refine ⟨_, fun _ _ => rfl, ?_⟩; refine hK _ ?_; clear hK K; try simp only [Act.put, List.setIfInBounds_toArray, List.set_cons_zero, List.set_cons_succ]) | fail)
            (first | (refine T_skip (by rfl) (by rfl) (fun _ _ _ h => h) ?_; try simp only [Act.put, List.setIfInBounds_toArray, List.set_cons_zero, List.set_cons_succ]) | (refine T_pass (by rfl) (by rfl) ?_; try simp only [Act.put, List.setIfInBounds_toArray, List.set_cons_zero, List.set_cons_succ]) | (refine T_load (by assumption) (by rfl) (by rfl) (fun _ _ _ _ h => h) rfl rfl (by assumption) (by first | exact (fun hn => hn) | assumption) ?_; try simp only [Act.put, List.setIfInBounds_toArray, List.set_cons_zero, List.set_cons_succ]) | (refine T_nil (by rfl) (by rfl) (fun _ _ _ _ h => h) rfl rfl ?_; try simp only [Act.put, List.setIfInBounds_toArray, List.set_cons_zero, List.set_cons_succ]) | (refine T_quietN (by rfl) (by rfl) (by rfl) (by rfl) (fun _ _ _ _ h => h) (fun K hK => ?_); go_big_quiet_op; refine hK _ ?_; clear hK K) | (refine T_two (by rfl) (by rfl) (by rfl) (by rfl) (fun _ _ _ _ h => h) (fun K hK => ?_); go_big_quiet_op; refine ⟨_, fun _ _ => rfl, ?_⟩; refine hK _ ?_; clear hK K; try simp only [Act.put, List.setIfInBounds_toArray, List.set_cons_zero, List.set_cons_succ]) | fail)
            (first | (refine T_skip (by rfl) (by rfl) (fun _ _ _ h => h) ?_; try simp only [Act.put, List.setIfInBounds_toArray, List.set_cons_zero, List.set_cons_succ]) | (refine T_pass (by rfl) (by rfl) ?_; try simp only [Act.put, List.setIfInBounds_toArray, List.set_cons_zero, List.set_cons_succ]) | (refine T_load (by assumption) (by rfl) (by rfl) (fun _ _ _ _ h => h) rfl rfl (by assumption) (by first | exact (fun hn => hn) | assumption) ?_; try simp only [Act.put, List.setIfInBounds_toArray, List.set_cons_zero, List.set_cons_succ]) | (refine T_nil (by rfl) (by rfl) (fun _ _ _ _ h => h) rfl rfl ?_; try simp only [Act.put, List.setIfInBounds_toArray, List.set_cons_zero, List.set_cons_succ]) | (refine T_quietN (by rfl) (by rfl) (by rfl) (by rfl) (fun _ _ _ _ h => h) (fun K hK => ?_); go_big_quiet_op; refine hK _ ?_; clear hK K) | (refine T_two (by rfl) (by rfl) (by rfl) (by rfl) (fun _ _ _ _ h => h) (fun K hK => ?_); go_big_quiet_op; refine ⟨_, fun _ _ => rfl, ?_⟩; refine hK _ ?_; clear hK K; try simp only [Act.put, List.setIfInBounds_toArray, List.set_cons_zero, List.set_cons_succ]) | fail)
            (first | (refine T_skip (by rfl) (by rfl) (fun _ _ _ h => h) ?_; try simp only [Act.put, List.setIfInBounds_toArray, List.set_cons_zero, List.set_cons_succ]) | (refine T_pass (by rfl) (by rfl) ?_; try simp only [Act.put, List.setIfInBounds_toArray, List.set_cons_zero, List.set_cons_succ]) | (refine T_load (by assumption) (by rfl) (by rfl) (fun _ _ _ _ h => h) rfl rfl (by assumption) (by first | exact (fun hn => hn) | assumption) ?_; try simp only [Act.put, List.setIfInBounds_toArray, List.set_cons_zero, List.set_cons_succ]) | (refine T_nil (by rfl) (by rfl) (fun _ _ _ _ h => h) rfl rfl ?_; try simp only [Act.put, List.setIfInBounds_toArray, List.set_cons_zero, List.set_cons_succ]) | (refine T_quietN (by rfl) (by rfl) (by rfl) (by rfl) (fun _ _ _ _ h => h) (fun K hK => ?_); go_big_quiet_op; refine hK _ ?_; clear hK K) | (refine T_two (by rfl) (by rfl) (by rfl) (by rfl) (fun _ _ _ _ h => h) (fun K hK => ?_); go_big_quiet_op; refine ⟨_, fun _ _ => rfl, ?_⟩; refine hK _ ?_; clear hK K; try simp only [Act.put, List.setIfInBounds_toArray, List.set_cons_zero, List.set_cons_succ]) | fail)
            (first | (refine T_skip (by rfl) (by rfl) (fun _ _ _ h => h) ?_; try simp only [Act.put, List.setIfInBounds_toArray, List.set_cons_zero, List.set_cons_succ]) | (refine T_pass (by rfl) (by rfl) ?_; try simp only [Act.put, List.setIfInBounds_toArray, List.set_cons_zero, List.set_cons_succ]) | (refine T_load (by assumption) (by rfl) (by rfl) (fun _ _ _ _ h => h) rfl rfl (by assumption) (by first | exact (fun hn => hn) | assumption) ?_; try simp only [Act.put, List.setIfInBounds_toArray, List.set_cons_zero, List.set_cons_succ]) | (refine T_nil (by rfl) (by rfl) (fun _ _ _ _ h => h) rfl rfl ?_; try simp only [Act.put, List.setIfInBounds_toArray, List.set_cons_zero, List.set_cons_succ]) | (refine T_quietN (by rfl) (by rfl) (by rfl) (by rfl) (fun _ _ _ _ h => h) (fun K hK => ?_); go_big_quiet_op; refine hK _ ?_; clear hK K) | (refine T_two (by rfl) (by rfl) (by rfl) (by rfl) (fun _ _ _ _ h => h) (fun K hK => ?_); go_big_quiet_op; refine ⟨_, fun _ _ => rfl, ?_⟩; refine hK _ ?_; clear hK K; try simp only [Act.put, List.setIfInBounds_toArray, List.set_cons_zero, List.set_cons_succ]) | fail)
            (first | (refine T_skip (by rfl) (by rfl) (fun _ _ _ h => h) ?_; try simp only [Act.put, List.setIfInBounds_toArray, List.set_cons_zero, List.set_cons_succ]) | (refine T_pass (by rfl) (by rfl) ?_; try simp only [Act.put, List.setIfInBounds_toArray, List.set_cons_zero, List.set_cons_succ]) | (refine T_load (by assumption) (by rfl) (by rfl) (fun _ _ _ _ h => h) rfl rfl (by assumption) (by first | exact (fun hn => hn) | assumption) ?_; try simp only [Act.put, List.setIfInBounds_toArray, List.set_cons_zero, List.set_cons_succ]) | (refine T_nil (by rfl) (by rfl) (fun _ _ _ _ h => h) rfl rfl ?_; try simp only [Act.put, List.setIfInBounds_toArray, List.set_cons_zero, List.set_cons_succ]) | (refine T_quietN (by rfl) (by rfl) (by rfl) (by rfl) (fun _ _ _ _ h => h) (fun K hK => ?_); go_big_quiet_op; refine hK _ ?_; clear hK K) | (refine T_two (by rfl) (by rfl) (by rfl) (by rfl) (fun _ _ _ _ h => h) (fun K hK => ?_); go_big_quiet_op; refine ⟨_, fun _ _ => rfl, ?_⟩; refine hK _ ?_; clear hK K; try simp only [Act.put, List.setIfInBounds_toArray, List.set_cons_zero, List.set_cons_succ]) | fail)
            refine T_cut Try.underlying31 (by kernel_rfl) w2.heap.size (8 * 128) (8 * 128) lo hi hlh hh8 hl8 (by rfl) (by rfl) (fun _ _ _ _ h => h) rfl rfl (show _ = Value.int .i64 (lo : Int) from congrArg _ HLO.out) (show _ = Value.int .i64 (hi : Int) from congrArg _ HHI.out) ?_
            try simp only [Act.put, List.setIfInBounds_toArray, List.set_cons_zero, List.set_cons_succ]
            (refine T_str Try.underlying31 Try.underlying5 Try.underlying9 (Rd.drew hrW) (fun _ _ hn => hn) (by rfl) (by rfl) (fun _ _ _ _ h => h) rfl (by rw [HD.out, HlW.out]) rfl ?_; try simp only [Act.put, List.setIfInBounds_toArray, List.set_cons_zero, List.set_cons_succ])
            refine T_neqStr HEQ.out (by rfl) (by rfl) (fun _ _ _ _ h => h) rfl rfl rfl ?_
            try simp only [Act.put, List.setIfInBounds_toArray, List.set_cons_zero, List.set_cons_succ]
            (first | (refine T_skip (by rfl) (by rfl) (fun _ _ _ h => h) ?_; try simp only [Act.put, List.setIfInBounds_toArray, List.set_cons_zero, List.set_cons_succ]) | (refine T_pass (by rfl) (by rfl) ?_; try simp only [Act.put, List.setIfInBounds_toArray, List.set_cons_zero, List.set_cons_succ]) | (refine T_load (by assumption) (by rfl) (by rfl) (fun _ _ _ _ h => h) rfl rfl (by assumption) (by first | exact (fun hn => hn) | assumption) ?_; try simp only [Act.put, List.setIfInBounds_toArray, List.set_cons_zero, List.set_cons_succ]) | (refine T_nil (by rfl) (by rfl) (fun _ _ _ _ h => h) rfl rfl ?_; try simp only [Act.put, List.setIfInBounds_toArray, List.set_cons_zero, List.set_cons_succ]) | (refine T_quietN (by rfl) (by rfl) (by rfl) (by rfl) (fun _ _ _ _ h => h) (fun K hK => ?_); go_big_quiet_op; refine hK _ ?_; clear hK K) | (refine T_two (by rfl) (by rfl) (by rfl) (by rfl) (fun _ _ _ _ h => h) (fun K hK => ?_); go_big_quiet_op; refine ⟨_, fun _ _ => rfl, ?_⟩; refine hK _ ?_; clear hK K; try simp only [Act.put, List.setIfInBounds_toArray, List.set_cons_zero, List.set_cons_succ]) | fail)
            (first | (refine T_skip (by rfl) (by rfl) (fun _ _ _ h => h) ?_; try simp only [Act.put, List.setIfInBounds_toArray, List.set_cons_zero, List.set_cons_succ]) | (refine T_pass (by rfl) (by rfl) ?_; try simp only [Act.put, List.setIfInBounds_toArray, List.set_cons_zero, List.set_cons_succ]) | (refine T_load (by assumption) (by rfl) (by rfl) (fun _ _ _ _ h => h) rfl rfl (by assumption) (by first | exact (fun hn => hn) | assumption) ?_; try simp only [Act.put, List.setIfInBounds_toArray, List.set_cons_zero, List.set_cons_succ]) | (refine T_nil (by rfl) (by rfl) (fun _ _ _ _ h => h) rfl rfl ?_; try simp only [Act.put, List.setIfInBounds_toArray, List.set_cons_zero, List.set_cons_succ]) | (refine T_quietN (by rfl) (by rfl) (by rfl) (by rfl) (fun _ _ _ _ h => h) (fun K hK => ?_); go_big_quiet_op; refine hK _ ?_; clear hK K) | (refine T_two (by rfl) (by rfl) (by rfl) (by rfl) (fun _ _ _ _ h => h) (fun K hK => ?_); go_big_quiet_op; refine ⟨_, fun _ _ => rfl, ?_⟩; refine hK _ ?_; clear hK K; try simp only [Act.put, List.setIfInBounds_toArray, List.set_cons_zero, List.set_cons_succ]) | fail)
            (refine T_str Try.underlying31 Try.underlying5 Try.underlying9 (Rd.drew hrO) (fun _ _ hn => hn) (by rfl) (by rfl) (fun _ _ _ _ h => h) rfl (HlO.out.symm) rfl ?_; try simp only [Act.put, List.setIfInBounds_toArray, List.set_cons_zero, List.set_cons_succ])
            (first | (refine T_skip (by rfl) (by rfl) (fun _ _ _ h => h) ?_; try simp only [Act.put, List.setIfInBounds_toArray, List.set_cons_zero, List.set_cons_succ]) | (refine T_pass (by rfl) (by rfl) ?_; try simp only [Act.put, List.setIfInBounds_toArray, List.set_cons_zero, List.set_cons_succ]) | (refine T_load (by assumption) (by rfl) (by rfl) (fun _ _ _ _ h => h) rfl rfl (by assumption) (by first | exact (fun hn => hn) | assumption) ?_; try simp only [Act.put, List.setIfInBounds_toArray, List.set_cons_zero, List.set_cons_succ]) | (refine T_nil (by rfl) (by rfl) (fun _ _ _ _ h => h) rfl rfl ?_; try simp only [Act.put, List.setIfInBounds_toArray, List.set_cons_zero, List.set_cons_succ]) | (refine T_quietN (by rfl) (by rfl) (by rfl) (by rfl) (fun _ _ _ _ h => h) (fun K hK => ?_); go_big_quiet_op; refine hK _ ?_; clear hK K) | (refine T_two (by rfl) (by rfl) (by rfl) (by rfl) (fun _ _ _ _ h => h) (fun K hK => ?_); go_big_quiet_op; refine ⟨_, fun _ _ => rfl, ?_⟩; refine hK _ ?_; clear hK K; try simp only [Act.put, List.setIfInBounds_toArray, List.set_cons_zero, List.set_cons_succ]) | fail)
            (first | (refine T_skip (by rfl) (by rfl) (fun _ _ _ h => h) ?_; try simp only [Act.put, List.setIfInBounds_toArray, List.set_cons_zero, List.set_cons_succ]) | (refine T_pass (by rfl) (by rfl) ?_; try simp only [Act.put, List.setIfInBounds_toArray, List.set_cons_zero, List.set_cons_succ]) | (refine T_load (by assumption) (by rfl) (by rfl) (fun _ _ _ _ h => h) rfl rfl (by assumption) (by first | exact (fun hn => hn) | assumption) ?_; try simp only [Act.put, List.setIfInBounds_toArray, List.set_cons_zero, List.set_cons_succ]) | (refine T_nil (by rfl) (by rfl) (fun _ _ _ _ h => h) rfl rfl ?_; try simp only [Act.put, List.setIfInBounds_toArray, List.set_cons_zero, List.set_cons_succ]) | (refine T_quietN (by rfl) (by rfl) (by rfl) (by rfl) (fun _ _ _ _ h => h) (fun K hK => ?_); go_big_quiet_op; refine hK _ ?_; clear hK K) | (refine T_two (by rfl) (by rfl) (by rfl) (by rfl) (fun _ _ _ _ h => h) (fun K hK => ?_); go_big_quiet_op; refine ⟨_, fun _ _ => rfl, ?_⟩; refine hK _ ?_; clear hK K; try simp only [Act.put, List.setIfInBounds_toArray, List.set_cons_zero, List.set_cons_succ]) | fail)
            (first | (refine T_skip (by rfl) (by rfl) (fun _ _ _ h => h) ?_; try simp only [Act.put, List.setIfInBounds_toArray, List.set_cons_zero, List.set_cons_succ]) | (refine T_pass (by rfl) (by rfl) ?_; try simp only [Act.put, List.setIfInBounds_toArray, List.set_cons_zero, List.set_cons_succ]) | (refine T_load (by assumption) (by rfl) (by rfl) (fun _ _ _ _ h => h) rfl rfl (by assumption) (by first | exact (fun hn => hn) | assumption) ?_; try simp only [Act.put, List.setIfInBounds_toArray, List.set_cons_zero, List.set_cons_succ]) | (refine T_nil (by rfl) (by rfl) (fun _ _ _ _ h => h) rfl rfl ?_; try simp only [Act.put, List.setIfInBounds_toArray, List.set_cons_zero, List.set_cons_succ]) | (refine T_quietN (by rfl) (by rfl) (by rfl) (by rfl) (fun _ _ _ _ h => h) (fun K hK => ?_); go_big_quiet_op; refine hK _ ?_; clear hK K) | (refine T_two (by rfl) (by rfl) (by rfl) (by rfl) (fun _ _ _ _ h => h) (fun K hK => ?_); go_big_quiet_op; refine ⟨_, fun _ _ => rfl, ?_⟩; refine hK _ ?_; clear hK K; try simp only [Act.put, List.setIfInBounds_toArray, List.set_cons_zero, List.set_cons_succ]) | fail)
            (refine T_call (by rfl) (by rfl) (fun K hK => ?_); go_wp2_with fail)
            refine (full_calls 1 c _ (by decide)).mono ?_
            rintro e w7 ⟨rfl, hb7, hf7⟩
            have hf7w : Fr No wr w7 := (Fr.refl No wr).drew.tr hf7
            have ph7 := hf7w.cell_some ph (fun hn => hn)
            have pw7 := hf7w.cell_some pw (fun hn => hn)
            have hrF : RdB w7 (fun b => b = wr.drew.heap.size) (some ⟨wr.drew.heap.size, 0, none⟩) (fsec c) := hb7.rd (size := 1) (n := 128) (by rw [List.size_toArray, U8_length]; rfl) (by decide)
            (refine hK.out _ _ (hf7) ?_; clear hK K; try simp only [Act.put, List.setIfInBounds_toArray, List.set_cons_zero, List.set_cons_succ])
            (refine T_str Try.underlying31 Try.underlying5 Try.underlying9 (hrF) (fun _ _ hn => hn) (by rfl) (by rfl) (fun _ _ _ _ h => h) rfl ((fsec_len c).symm) rfl ?_; try simp only [Act.put, List.setIfInBounds_toArray, List.set_cons_zero, List.set_cons_succ])
            refine T_neqStr (b := false) (by simp) (by rfl) (by rfl) (fun _ _ _ _ h => h) rfl rfl rfl ?_
            try simp only [Act.put, List.setIfInBounds_toArray, List.set_cons_zero, List.set_cons_succ]
            (first | (refine T_skip (by rfl) (by rfl) (fun _ _ _ h => h) ?_; try simp only [Act.put, List.setIfInBounds_toArray, List.set_cons_zero, List.set_cons_succ]) | (refine T_pass (by rfl) (by rfl) ?_; try simp only [Act.put, List.setIfInBounds_toArray, List.set_cons_zero, List.set_cons_succ]) | (refine T_load (by assumption) (by rfl) (by rfl) (fun _ _ _ _ h => h) rfl rfl (by assumption) (by first | exact (fun hn => hn) | assumption) ?_; try simp only [Act.put, List.setIfInBounds_toArray, List.set_cons_zero, List.set_cons_succ]) | (refine T_nil (by rfl) (by rfl) (fun _ _ _ _ h => h) rfl rfl ?_; try simp only [Act.put, List.setIfInBounds_toArray, List.set_cons_zero, List.set_cons_succ]) | (refine T_quietN (by rfl) (by rfl) (by rfl) (by rfl) (fun _ _ _ _ h => h) (fun K hK => ?_); go_big_quiet_op; refine hK _ ?_; clear hK K) | (refine T_two (by rfl) (by rfl) (by rfl) (by rfl) (fun _ _ _ _ h => h) (fun K hK => ?_); go_big_quiet_op; refine ⟨_, fun _ _ => rfl, ?_⟩; refine hK _ ?_; clear hK K; try simp only [Act.put, List.setIfInBounds_toArray, List.set_cons_zero, List.set_cons_succ]) | fail)
            (first | (refine T_skip (by rfl) (by rfl) (fun _ _ _ h => h) ?_; try simp only [Act.put, List.setIfInBounds_toArray, List.set_cons_zero, List.set_cons_succ]) | (refine T_pass (by rfl) (by rfl) ?_; try simp only [Act.put, List.setIfInBounds_toArray, List.set_cons_zero, List.set_cons_succ]) | (refine T_load (by assumption) (by rfl) (by rfl) (fun _ _ _ _ h => h) rfl rfl (by assumption) (by first | exact (fun hn => hn) | assumption) ?_; try simp only [Act.put, List.setIfInBounds_toArray, List.set_cons_zero, List.set_cons_succ]) | (refine T_nil (by rfl) (by rfl) (fun _ _ _ _ h => h) rfl rfl ?_; try simp only [Act.put, List.setIfInBounds_toArray, List.set_cons_zero, List.set_cons_succ]) | (refine T_quietN (by rfl) (by rfl) (by rfl) (by rfl) (fun _ _ _ _ h => h) (fun K hK => ?_); go_big_quiet_op; refine hK _ ?_; clear hK K) | (refine T_two (by rfl) (by rfl) (by rfl) (by rfl) (fun _ _ _ _ h => h) (fun K hK => ?_); go_big_quiet_op; refine ⟨_, fun _ _ => rfl, ?_⟩; refine hK _ ?_; clear hK K; try simp only [Act.put, List.setIfInBounds_toArray, List.set_cons_zero, List.set_cons_succ]) | fail)
            (first | (refine T_skip (by rfl) (by rfl) (fun _ _ _ h => h) ?_; try simp only [Act.put, List.setIfInBounds_toArray, List.set_cons_zero, List.set_cons_succ]) | (refine T_pass (by rfl) (by rfl) ?_; try simp only [Act.put, List.setIfInBounds_toArray, List.set_cons_zero, List.set_cons_succ]) | (refine T_load (by assumption) (by rfl) (by rfl) (fun _ _ _ _ h => h) rfl rfl (by assumption) (by first | exact (fun hn => hn) | assumption) ?_; try simp only [Act.put, List.setIfInBounds_toArray, List.set_cons_zero, List.set_cons_succ]) | (refine T_nil (by rfl) (by rfl) (fun _ _ _ _ h => h) rfl rfl ?_; try simp only [Act.put, List.setIfInBounds_toArray, List.set_cons_zero, List.set_cons_succ]) | (refine T_quietN (by rfl) (by rfl) (by rfl) (by rfl) (fun _ _ _ _ h => h) (fun K hK => ?_); go_big_quiet_op; refine hK _ ?_; clear hK K) | (refine T_two (by rfl) (by rfl) (by rfl) (by rfl) (fun _ _ _ _ h => h) (fun K hK => ?_); go_big_quiet_op; refine ⟨_, fun _ _ => rfl, ?_⟩; refine hK _ ?_; clear hK K; try simp only [Act.put, List.setIfInBounds_toArray, List.set_cons_zero, List.set_cons_succ]) | fail)
            (first | (refine T_skip (by rfl) (by rfl) (fun _ _ _ h => h) ?_; try simp only [Act.put, List.setIfInBounds_toArray, List.set_cons_zero, List.set_cons_succ]) | (refine T_pass (by rfl) (by rfl) ?_; try simp only [Act.put, List.setIfInBounds_toArray, List.set_cons_zero, List.set_cons_succ]) | (refine T_load (by assumption) (by rfl) (by rfl) (fun _ _ _ _ h => h) rfl rfl (by assumption) (by first | exact (fun hn => hn) | assumption) ?_; try simp only [Act.put, List.setIfInBounds_toArray, List.set_cons_zero, List.set_cons_succ]) | (refine T_nil (by rfl) (by rfl) (fun _ _ _ _ h => h) rfl rfl ?_; try simp only [Act.put, List.setIfInBounds_toArray, List.set_cons_zero, List.set_cons_succ]) | (refine T_quietN (by rfl) (by rfl) (by rfl) (by rfl) (fun _ _ _ _ h => h) (fun K hK => ?_); go_big_quiet_op; refine hK _ ?_; clear hK K) | (refine T_two (by rfl) (by rfl) (by rfl) (by rfl) (fun _ _ _ _ h => h) (fun K hK => ?_); go_big_quiet_op; refine ⟨_, fun _ _ => rfl, ?_⟩; refine hK _ ?_; clear hK K; try simp only [Act.put, List.setIfInBounds_toArray, List.set_cons_zero, List.set_cons_succ]) | fail)
            (first | (refine T_skip (by rfl) (by rfl) (fun _ _ _ h => h) ?_; try simp only [Act.put, List.setIfInBounds_toArray, List.set_cons_zero, List.set_cons_succ]) | (refine T_pass (by rfl) (by rfl) ?_; try simp only [Act.put, List.setIfInBounds_toArray, List.set_cons_zero, List.set_cons_succ]) | (refine T_load (by assumption) (by rfl) (by rfl) (fun _ _ _ _ h => h) rfl rfl (by assumption) (by first | exact (fun hn => hn) | assumption) ?_; try simp only [Act.put, List.setIfInBounds_toArray, List.set_cons_zero, List.set_cons_succ]) | (refine T_nil (by rfl) (by rfl) (fun _ _ _ _ h => h) rfl rfl ?_; try simp only [Act.put, List.setIfInBounds_toArray, List.set_cons_zero, List.set_cons_succ]) | (refine T_quietN (by rfl) (by rfl) (by rfl) (by rfl) (fun _ _ _ _ h => h) (fun K hK => ?_); go_big_quiet_op; refine hK _ ?_; clear hK K) | (refine T_two (by rfl) (by rfl) (by rfl) (by rfl) (fun _ _ _ _ h => h) (fun K hK => ?_); go_big_quiet_op; refine ⟨_, fun _ _ => rfl, ?_⟩; refine hK _ ?_; clear hK K; try simp only [Act.put, List.setIfInBounds_toArray, List.set_cons_zero, List.set_cons_succ]) | fail)
            (first | (refine T_skip (by rfl) (by rfl) (fun _ _ _ h => h) ?_; try simp only [Act.put, List.setIfInBounds_toArray, List.set_cons_zero, List.set_cons_succ]) | (refine T_pass (by rfl) (by rfl) ?_; try simp only [Act.put, List.setIfInBounds_toArray, List.set_cons_zero, List.set_cons_succ]) | (refine T_load (by assumption) (by rfl) (by rfl) (fun _ _ _ _ h => h) rfl rfl (by assumption) (by first | exact (fun hn => hn) | assumption) ?_; try simp only [Act.put, List.setIfInBounds_toArray, List.set_cons_zero, List.set_cons_succ]) | (refine T_nil (by rfl) (by rfl) (fun _ _ _ _ h => h) rfl rfl ?_; try simp only [Act.put, List.setIfInBounds_toArray, List.set_cons_zero, List.set_cons_succ]) | (refine T_quietN (by rfl) (by rfl) (by rfl) (by rfl) (fun _ _ _ _ h => h) (fun K hK => ?_); go_big_quiet_op; refine hK _ ?_; clear hK K) | (refine T_two (by rfl) (by rfl) (by rfl) (by rfl) (fun _ _ _ _ h => h) (fun K hK => ?_); go_big_quiet_op; refine ⟨_, fun _ _ => rfl, ?_⟩; refine hK _ ?_; clear hK K; try simp only [Act.put, List.setIfInBounds_toArray, List.set_cons_zero, List.set_cons_succ]) | fail)
            (first | (refine T_skip (by rfl) (by rfl) (fun _ _ _ h => h) ?_; try simp only [Act.put, List.setIfInBounds_toArray, List.set_cons_zero, List.set_cons_succ]) | (refine T_pass (by rfl) (by rfl) ?_; try simp only [Act.put, List.setIfInBounds_toArray, List.set_cons_zero, List.set_cons_succ]) | (refine T_load (by assumption) (by rfl) (by rfl) (fun _ _ _ _ h => h) rfl rfl (by assumption) (by first | exact (fun hn => hn) | assumption) ?_; try simp only [Act.put, List.setIfInBounds_toArray, List.set_cons_zero, List.set_cons_succ]) | (refine T_nil (by rfl) (by rfl) (fun _ _ _ _ h => h) rfl rfl ?_; try simp only [Act.put, List.setIfInBounds_toArray, List.set_cons_zero, List.set_cons_succ]) | (refine T_quietN (by rfl) (by rfl) (by rfl) (by rfl) (fun _ _ _ _ h => h) (fun K hK => ?_); go_big_quiet_op; refine hK _ ?_; clear hK K) | (refine T_two (by rfl) (by rfl) (by rfl) (by rfl) (fun _ _ _ _ h => h) (fun K hK => ?_); go_big_quiet_op; refine ⟨_, fun _ _ => rfl, ?_⟩; refine hK _ ?_; clear hK K; try simp only [Act.put, List.setIfInBounds_toArray, List.set_cons_zero, List.set_cons_succ]) | fail)
            refine T_byte (by rfl) (by rfl) (fun _ _ _ _ h => h) rfl rfl ?_
            try simp only [Act.put, List.setIfInBounds_toArray, List.set_cons_zero, List.set_cons_succ]
            (first | (refine T_skip (by rfl) (by rfl) (fun _ _ _ h => h) ?_; try simp only [Act.put, List.setIfInBounds_toArray, List.set_cons_zero, List.set_cons_succ]) | (refine T_pass (by rfl) (by rfl) ?_; try simp only [Act.put, List.setIfInBounds_toArray, List.set_cons_zero, List.set_cons_succ]) | (refine T_load (by assumption) (by rfl) (by rfl) (fun _ _ _ _ h => h) rfl rfl (by assumption) (by first | exact (fun hn => hn) | assumption) ?_; try simp only [Act.put, List.setIfInBounds_toArray, List.set_cons_zero, List.set_cons_succ]) | (refine T_nil (by rfl) (by rfl) (fun _ _ _ _ h => h) rfl rfl ?_; try simp only [Act.put, List.setIfInBounds_toArray, List.set_cons_zero, List.set_cons_succ]) | (refine T_quietN (by rfl) (by rfl) (by rfl) (by rfl) (fun _ _ _ _ h => h) (fun K hK => ?_); go_big_quiet_op; refine hK _ ?_; clear hK K) | (refine T_two (by rfl) (by rfl) (by rfl) (by rfl) (fun _ _ _ _ h => h) (fun K hK => ?_); go_big_quiet_op; refine ⟨_, fun _ _ => rfl, ?_⟩; refine hK _ ?_; clear hK K; try simp only [Act.put, List.setIfInBounds_toArray, List.set_cons_zero, List.set_cons_succ]) | fail)
            rw [HX.out]
            repeat (first | (refine T_skip (by rfl) (by rfl) (fun _ _ _ h => h) ?_; try simp only [Act.put, List.setIfInBounds_toArray, List.set_cons_zero, List.set_cons_succ]) | (refine T_pass (by rfl) (by rfl) ?_; try simp only [Act.put, List.setIfInBounds_toArray, List.set_cons_zero, List.set_cons_succ]) | (refine T_load (by assumption) (by rfl) (by rfl) (fun _ _ _ _ h => h) rfl rfl (by assumption) (by first | exact (fun hn => hn) | assumption) ?_; try simp only [Act.put, List.setIfInBounds_toArray, List.set_cons_zero, List.set_cons_succ]) | (refine T_nil (by rfl) (by rfl) (fun _ _ _ _ h => h) rfl rfl ?_; try simp only [Act.put, List.setIfInBounds_toArray, List.set_cons_zero, List.set_cons_succ]) | (refine T_quietN (by rfl) (by rfl) (by rfl) (by rfl) (fun _ _ _ _ h => h) (fun K hK => ?_); go_big_quiet_op; refine hK _ ?_; clear hK K) | (refine T_two (by rfl) (by rfl) (by rfl) (by rfl) (fun _ _ _ _ h => h) (fun K hK => ?_); go_big_quiet_op; refine ⟨_, fun _ _ => rfl, ?_⟩; refine hK _ ?_; clear hK K; try simp only [Act.put, List.setIfInBounds_toArray, List.set_cons_zero, List.set_cons_succ]) | fail)
            refine T_done ?_
            go_wp2
            go_roundw
            case rel => (repeat apply Exists.intro); exact ⟨⟨s + 1, by omega, by go_num, hfs.tr hf7w⟩, rfl⟩
            case measure => simp [intOf]; omega
        · obtain rfl : s = 8 := by omega
          go_wp2_with fail
          refine (known_calls _).mono ?_
          rintro e w7 ⟨rfl, hf7⟩
          go_wp2
          go_ret
          exact ⟨rfl, (hF6.tr hfs).tr hf7⟩
end Go.Proofs.Ythhncjeabamceaa
