/- wire.ReadFrame, lapidaryref01.ReadFrame, lapidaryref01.Spoil, lapidaryref01.Count. No condition. -/
import Derived.Test.YtonpnplcbcagfaaPFrame
import Derived.Test.YtonpnplcbcagfaaReg
namespace Go.Proofs.Ytonpnplcbcagfaa
set_option linter.unusedVariables false
set_option linter.unusedSimpArgs false
open Go.RowKit

theorem be_bits (n : Nat) (x : UInt8) (hn : n < 16777216) : bits .or .u64 ((n : Int) * 256) (x.toNat : Int) = ((n * 256 + x.toNat : Nat) : Int) := by
  have hx := x.toNat_lt
  rw [show (n : Int) * 256 = ((n * 256 : Nat) : Int) by omega, u64_or_nat _ _ (by omega) (by omega), nat_join 8 _ x.toNat (by omega) (by omega)]

theorem readframe_calls (S : Nat → Prop) (A : Option Addr) (c : Nat) (l : List UInt8) (w : World) (h : RdB w S A l) (hc : l.length ≤ c) (hcm : c ≤ maxLen) :
    Calls Try.prog 25 #[.slice A l.length c] w fun e w' => RetC w w' e (readF l) := by
  have hle := h.le
  by_cases h1 : l.length < 8
  · have H := Lib.hid (readF_short l h1)
    have e1 : decide ((l.length : Int) < 8) = true := by simpa using (by omega : (l.length : Int) < 8)
    go_enter Try.func25, Try.ntmps25
    go_wp2
    go_ret3
    rw [H.out]
    exact ⟨_, rfl, World.ownsRow_nil _ _ _ _, Fr.refl _ _⟩
  have e1 : decide ((l.length : Int) < 8) = false := by simpa using (by omega : ¬ (l.length : Int) < 8)
  go_enter Try.func25, Try.ntmps25
  go_wp2
  go_loop [5, 14] (fun n i => ∃ k : Nat, k ≤ 4 ∧ i = .int .i64 k ∧ n = .int .u64 (bek l k)) (fun _ i => 4 - (intOf i).toNat)
  case atStart => exact ⟨0, by omega, rfl, rfl⟩
  case round =>
    obtain ⟨k, hk, rfl, rfl⟩ := hrel
    have hb := bek_lt l k
    by_cases hlt : k < 4
    · obtain ⟨ad, hA, _, hcell⟩ := h.at_ (show k < l.length by omega)
      have HS := Lib.hid (bek_succ l k (by omega))
      have hb3 : bek l k < 16777216 := Nat.lt_of_lt_of_le hb (by rw [show (16777216 : Nat) = 256 ^ 3 from rfl]; exact Nat.pow_le_pow_right (by decide) (by omega))
      subst hA
      generalize l[k] = x at *
      have hx := x.toNat_lt
      have HB := Lib.hid (be_bits (bek l k) x hb3)
      go_wp2
      go_round
      case rel => exact ⟨k + 1, by omega, by go_num, by rw [HS.out, ← HB.out]⟩
      case measure => simp [intOf]; omega
    · obtain rfl : k = 4 := by omega
      have HN := Lib.hid (Eq.refl (bek l 4))
      by_cases h2 : bek l 4 = 0
      · have H := Lib.hid (readF_nought l h1 h2)
        have e2 : ((bek l 4 : Int) == 0) = true := by simpa using h2
        go_wp2
        go_ret3
        rw [H.out]
        exact ⟨_, rfl, World.ownsRow_nil _ _ _ _, Fr.refl _ _⟩
      · have e2 : ((bek l 4 : Int) == 0) = false := by simpa using h2
        have hpart := part_calls S A c l 8 (bek l 4) w h hc hcm (by omega) (by omega)
        by_cases h3 : (partM l 8 (bek l 4)).2.2 = 0
        · obtain ⟨p1, p2, p3⟩ := partM_fine _ _ _ h3
          have e3 : ((partM l 8 (bek l 4)).2.2 != 0) = false := by simpa using h3
          have hlen : (partM l 8 (bek l 4)).1.length = bek l 4 := by rw [p3]; simp; omega
          have h31 : (partM l 8 (bek l 4)).2.1 = 8 + bek l 4 := by rw [p3]
          have Hlen := Lib.hid hlen
          have Hb4 := Lib.hid (b4_bek l (by omega))
          have HT := Lib.hid (take_eight l)
          have hr8 := Rd.take h (k := 8) (by omega)
          have H := Lib.hid (readF_ok l h1 h2 h3)
          have H' := Lib.hid (readF_sum l h1 h2 h3)
          clear p3 h3 h31 hlen
          generalize partM l 8 (bek l 4) = p at *
          obtain ⟨q, u, z⟩ := p
          simp only at *
          go_wp2_with fail
          refine hpart.mono ?_
          rintro e w1 ⟨v1, rfl, hown1, hf1⟩
          obtain ⟨A1, c1, rfl, hc1, _, _⟩ := own_form hown1
          simp only at *
          have hr1 := own_rd hown1 (by rw [Hlen.out]; omega)
          go_wp2_with (first
            | (go_at_call 11; refine (sum_calls _ _ _ _ _ hr1).mono ?_; rintro e w2 ⟨rfl, rfl⟩)
            | (go_at_call 33; refine (head_calls _ _ _ (by rw [Hlen.out]; omega) (crc _).isLt).mono ?_; rintro e w2 ⟨rfl, hf2⟩)
            | (refine wpList_stA ag_8.info rfl _ _ rfl _ _ _ _ _ _ rfl rfl rfl (by simp [U8_length, b4_length]) (U8_one _) (Blk.new _ _ _) (by decide) ?_; intro w3 hb3 hg3 hz3)
            | fail)
          rw [splice_all _ _ (by simp [U8_length, b4_length])] at hb3
          have hf3 : Fr No w w3 := ((hf1.tr hf2).alloc _).grown hg3 (by rintro k hk; injection hk with hk; subst hk; exact .inl (hf1.tr hf2).size)
          have hr3 : RdB w3 (fun b => b = w2.heap.size) (some ⟨w2.heap.size, 0, none⟩) (b4 q.length ++ b4 (crc q).toNat) := by
            have := hb3.rd (size := 1) (n := 8) (by simp [U8_length, b4_length]) (by omega)
            simpa [RdB, b4_length] using this
          have hr4 : RdB w3 S A (l.take 8) := by
            have h8 := Rd.fr0 hr8 hf3
            unfold RdB
            rw [List.length_take, Nat.min_eq_left (by omega), U8_take]
            simpa using h8
          have h80 : (l.take 8).length = 8 := by rw [List.length_take]; omega
          have h81 : (b4 q.length ++ b4 (crc q).toNat).length = 8 := rfl
          have H81 := Lib.hid h81
          have H80 := Lib.hid h80
          clear h80 h81
          (refine T_begin No [0, 1, 2, 3, 4, 5] [] (by kernel_rfl) (by kernel_rfl) ?_; simp only [pickOps, List.filterMap_cons, List.filterMap_nil, List.getElem?_cons_zero, List.getElem?_cons_succ, Act.put])
          repeat (first | (refine T_skip (by rfl) (by rfl) (fun _ _ _ h => h) ?_; try simp only [Act.put, List.setIfInBounds_toArray, List.set_cons_zero, List.set_cons_succ]) | (refine T_pass (by rfl) (by rfl) ?_; try simp only [Act.put, List.setIfInBounds_toArray, List.set_cons_zero, List.set_cons_succ]) | (refine T_quiet (by rfl) (by rfl) (by rfl) (fun _ _ _ _ h => h) (fun K hK => ?_); go_big_quiet_op; refine hK _ ?_; clear hK K) | (refine T_two (by rfl) (by rfl) (by rfl) (by rfl) (fun _ _ _ _ h => h) (fun K hK => ?_); go_big_quiet_op; refine ⟨_, fun _ _ => rfl, ?_⟩; refine hK _ ?_; clear hK K; try simp only [Act.put, List.setIfInBounds_toArray, List.set_cons_zero, List.set_cons_succ]) | fail)
          (refine T_str Try.underlying22 Try.underlying5 Try.underlying9 (Rd.drew hr3) (fun _ _ hn => hn) (by rfl) (by rfl) (fun _ _ _ _ h => h) rfl rfl rfl ?_; try simp only [Act.put, List.setIfInBounds_toArray, List.set_cons_zero, List.set_cons_succ])
          repeat (first | (refine T_skip (by rfl) (by rfl) (fun _ _ _ h => h) ?_; try simp only [Act.put, List.setIfInBounds_toArray, List.set_cons_zero, List.set_cons_succ]) | (refine T_pass (by rfl) (by rfl) ?_; try simp only [Act.put, List.setIfInBounds_toArray, List.set_cons_zero, List.set_cons_succ]) | (refine T_quiet (by rfl) (by rfl) (by rfl) (fun _ _ _ _ h => h) (fun K hK => ?_); go_big_quiet_op; refine hK _ ?_; clear hK K) | (refine T_two (by rfl) (by rfl) (by rfl) (by rfl) (fun _ _ _ _ h => h) (fun K hK => ?_); go_big_quiet_op; refine ⟨_, fun _ _ => rfl, ?_⟩; refine hK _ ?_; clear hK K; try simp only [Act.put, List.setIfInBounds_toArray, List.set_cons_zero, List.set_cons_succ]) | fail)
          (refine T_str Try.underlying22 Try.underlying5 Try.underlying9 (Rd.drew hr4) (fun _ _ hn => hn) (by rfl) (by rfl) (fun _ _ _ _ h => h) rfl (H80.out.symm) rfl ?_; try simp only [Act.put, List.setIfInBounds_toArray, List.set_cons_zero, List.set_cons_succ])
          repeat (first | (refine T_skip (by rfl) (by rfl) (fun _ _ _ h => h) ?_; try simp only [Act.put, List.setIfInBounds_toArray, List.set_cons_zero, List.set_cons_succ]) | (refine T_pass (by rfl) (by rfl) ?_; try simp only [Act.put, List.setIfInBounds_toArray, List.set_cons_zero, List.set_cons_succ]) | (refine T_quiet (by rfl) (by rfl) (by rfl) (fun _ _ _ _ h => h) (fun K hK => ?_); go_big_quiet_op; refine hK _ ?_; clear hK K) | (refine T_two (by rfl) (by rfl) (by rfl) (by rfl) (fun _ _ _ _ h => h) (fun K hK => ?_); go_big_quiet_op; refine ⟨_, fun _ _ => rfl, ?_⟩; refine hK _ ?_; clear hK K; try simp only [Act.put, List.setIfInBounds_toArray, List.set_cons_zero, List.set_cons_succ]) | fail)
          refine T_done ?_
          have hz : z = 0 := by simpa using e3
          have heq : (b4 q.length ++ b4 (crc q).toNat = l.take 8) ↔ b4 (crc q).toNat = (l.drop 4).take 4 := by
            rw [Hlen.out, Hb4.out, HT.out]; exact List.append_right_inj _
          have HE := Lib.hid heq
          clear heq
          go_wp2_with fail
          · rename_i hx
            go_ret3
            rw [H'.out (fun hh => by rw [Bool.not_eq_true', beq_eq_false_iff_ne] at hx; exact hx (HE.out.2 hh))]
            exact ⟨_, rfl, World.ownsRow_nil _ _ _ _, hf3.drew⟩
          · rename_i hx
            go_ret3
            rw [H.out (by rw [Bool.not_eq_false', beq_iff_eq] at hx; exact HE.out.1 hx)]
            subst hz
            exact ⟨_, rfl, own_fr0 hown1 ((hf2.alloc _).grown hg3 (by rintro k hk; injection hk with hk; subst hk; exact .inl hf2.size)).drew, hf3.drew⟩
        · have e3 : ((partM l 8 (bek l 4)).2.2 != 0) = true := by simpa using h3
          have H := Lib.hid (readF_part l h1 h2 h3)
          clear h3
          generalize partM l 8 (bek l 4) = p at *
          obtain ⟨q, u, z⟩ := p
          simp only at *
          go_wp2_with fail
          refine hpart.mono ?_
          rintro e w1 ⟨v1, rfl, hown1, hf1⟩
          go_wp2
          go_ret3
          rw [H.out]
          exact ⟨_, rfl, World.ownsRow_nil _ _ _ _, hf1⟩

theorem ofInt_i64 (a : Nat) (ha : a < 18446744073709551616) : (BitVec.ofInt 64 (a : Int)).toNat = a := by
  rw [BitVec.ofInt_natCast, BitVec.toNat_ofNat]; exact Nat.mod_eq_of_lt (by omega)
theorem i64_or_nat (a b : Nat) (ha : a < 4611686018427387904) (hb : b < 4611686018427387904) : bits .or .i64 (a : Int) (b : Int) = ((a ||| b : Nat) : Int) := by
  have hx : a ||| b < 2 ^ 62 := Nat.or_lt_two_pow (by omega) (by omega)
  show IntKind.i64.wrap ((BitVec.ofInt 64 (a : Int) ||| BitVec.ofInt 64 (b : Int)).toNat : Int) = _
  rw [BitVec.toNat_or, ofInt_i64 a (by omega), ofInt_i64 b (by omega)]
  exact IntWalk.i64_in _ (by omega)
theorem or4 (x0 x1 x2 x3 : UInt8) : bits .or .i64 (bits .or .i64 (bits .or .i64 ((x0.toNat : Int) * 16777216) ((x1.toNat : Int) * 65536)) ((x2.toNat : Int) * 256)) (x3.toNat : Int) = ((((x0.toNat * 256 + x1.toNat) * 256 + x2.toNat) * 256 + x3.toNat : Nat) : Int) := by
  have h0 := x0.toNat_lt; have h1 := x1.toNat_lt; have h2 := x2.toNat_lt; have h3 := x3.toNat_lt
  rw [show (x0.toNat : Int) * 16777216 = ((x0.toNat * 16777216 : Nat) : Int) by omega, show (x1.toNat : Int) * 65536 = ((x1.toNat * 65536 : Nat) : Int) by omega, show (x2.toNat : Int) * 256 = ((x2.toNat * 256 : Nat) : Int) by omega,
    i64_or_nat _ _ (by omega) (by omega), nat_join 24 (x0.toNat * 16777216) (x1.toNat * 65536) (by omega) (by omega),
    i64_or_nat _ _ (by omega) (by omega), nat_join 16 _ (x2.toNat * 256) (by omega) (by omega),
    i64_or_nat _ _ (by omega) (by omega), nat_join 8 _ (x3.toNat) (by omega) (by omega)]
  exact congrArg Int.ofNat (by omega)

theorem refreadframe_calls (S : Nat → Prop) (A : Option Addr) (c : Nat) (l : List UInt8) (w : World) (h : RdB w S A l) (hc : l.length ≤ c) (hcm : c ≤ maxLen) :
    Calls Try.prog 26 #[.slice A l.length c] w fun e w' => RetC w w' e (readF l) := by
  have hle := h.le
  by_cases h1 : l.length < 8
  · have H := Lib.hid (readF_short l h1)
    have e1 : decide ((l.length : Int) < 8) = true := by simpa using (by omega : (l.length : Int) < 8)
    go_enter Try.func26, Try.ntmps26
    go_wp2
    go_ret3
    rw [H.out]
    exact ⟨_, rfl, World.ownsRow_nil _ _ _ _, Fr.refl _ _⟩
  have e1 : decide ((l.length : Int) < 8) = false := by simpa using (by omega : ¬ (l.length : Int) < 8)
  obtain ⟨x0, x1, x2, x3, r, hl4⟩ := four_of l (by omega)
  have hbek := bek4 x0 x1 x2 x3 r
  rw [← hl4] at hbek
  obtain ⟨ad, hA, _, hc0⟩ := h.at_ (show 0 < l.length by omega)
  obtain ⟨ad1, hA1, _, hc1⟩ := h.at_ (show 1 < l.length by omega)
  obtain ⟨ad2, hA2, _, hc2⟩ := h.at_ (show 2 < l.length by omega)
  obtain ⟨ad3, hA3, _, hc3⟩ := h.at_ (show 3 < l.length by omega)
  rw [hA] at hA1 hA2 hA3
  obtain rfl := Option.some.inj hA1
  obtain rfl := Option.some.inj hA2
  obtain rfl := Option.some.inj hA3
  clear hA1 hA2 hA3
  have hx0 : l[0] = x0 := by simp [hl4]
  have hx1 : l[1] = x1 := by simp [hl4]
  have hx2 : l[2] = x2 := by simp [hl4]
  have hx3 : l[3] = x3 := by simp [hl4]
  rw [hx0] at hc0; rw [hx1] at hc1; rw [hx2] at hc2; rw [hx3] at hc3
  clear hx0 hx1 hx2 hx3
  have HL := Lib.hid hl4
  clear hl4
  subst hA
  have b0 : 0 < l.length := by omega
  have b1 : (1 : Int) < (l.length : Int) := by omega
  have b2 : (2 : Int) < (l.length : Int) := by omega
  have b3 : (3 : Int) < (l.length : Int) := by omega
  replace hc1 : w.cell? ⟨ad.block, ad.off + 1, none⟩ = some (Value.int IntKind.u8 ↑x1.toNat) := hc1
  replace hc2 : w.cell? ⟨ad.block, ad.off + 2, none⟩ = some (Value.int IntKind.u8 ↑x2.toNat) := hc2
  replace hc3 : w.cell? ⟨ad.block, ad.off + 3, none⟩ = some (Value.int IntKind.u8 ↑x3.toNat) := hc3
  have ha0 : ad.add 0 = ad := by unfold Addr.add; split <;> simp_all
  rw [ha0] at hc0
  have g0 := x0.toNat_lt; have g1 := x1.toNat_lt; have g2 := x2.toNat_lt; have g3 := x3.toNat_lt
  go_enter Try.func26, Try.ntmps26
  go_wp2_with fail
  go_quiet (fail)
  have HO := Lib.hid ((or4 x0 x1 x2 x3).trans (congrArg (Int.ofNat) hbek.symm))
  rw [HO.out]
  clear HO hbek HL
  have hb := bek_lt l 4
  simp only [Int.ofNat_eq_natCast]
  by_cases h2 : bek l 4 = 0
  · have H := Lib.hid (readF_nought l h1 h2)
    have e2 : ((bek l 4 : Int) == 0) = true := by simpa using h2
    go_wp2
    go_ret3
    rw [H.out]
    exact ⟨_, rfl, World.ownsRow_nil _ _ _ _, (Fr.refl _ _).drewN _⟩
  have e2 : ((bek l 4 : Int) == 0) = false := by simpa using h2
  by_cases h3 : 60000 < bek l 4
  · have e3 : decide ((60000 : Int) < bek l 4) = true := by simpa using (by omega : (60000 : Int) < bek l 4)
    have H := readF_part l h1 h2 (by rw [partM_big _ _ _ h3]; decide)
    rw [partM_big _ _ _ h3] at H
    replace H := Lib.hid H
    go_wp2
    go_ret3
    rw [H.out]
    exact ⟨_, rfl, World.ownsRow_nil _ _ _ _, (Fr.refl _ _).drewN _⟩
  have e3 : decide ((60000 : Int) < bek l 4) = false := by simpa using (by omega : ¬ (60000 : Int) < bek l 4)
  by_cases h4 : l.length - 8 < bek l 4
  · have e4 : decide ((l.length : Int) - 8 < bek l 4) = true := by simpa using (by omega : (l.length : Int) - 8 < bek l 4)
    have H := readF_part l h1 h2 (by rw [partM_short _ _ _ h3 h4]; decide)
    rw [partM_short _ _ _ h3 h4] at H
    replace H := Lib.hid H
    go_wp2
    go_ret3
    rw [H.out]
    exact ⟨_, rfl, World.ownsRow_nil _ _ _ _, (Fr.refl _ _).drewN _⟩
  have e4 : decide ((l.length : Int) - 8 < bek l 4) = false := by simpa using (by omega : ¬ (l.length : Int) - 8 < bek l 4)
  have H := readF_ok l h1 h2
  have H' := readF_sum l h1 h2
  rw [partM_ok _ _ _ h3 h4] at H H'
  replace H := Lib.hid (H rfl)
  replace H' := Lib.hid (H' rfl)
  have hp8 := RdB.partN h hc (k := 8) (n := bek l 4) (by omega)
  rw [if_neg (by omega)] at hp8
  have HP := Lib.hid (Rd.drewN hp8 nq)
  have hl8 : ((l.drop 8).take (bek l 4)).length = bek l 4 := by rw [List.length_take, List.length_drop]; omega
  have Hl8 := Lib.hid hl8
  have HP4 := RdB.part h hc (k := 4) (n := 4) (by omega)
  rw [if_neg (by omega)] at HP4
  have hl4 : ((l.drop 4).take 4).length = 4 := by rw [List.length_take, List.length_drop]; omega
  have Hl4 := Lib.hid hl4
  have hcc : 8 ≤ c := by omega
  clear hl8 hl4 hp8
  generalize (l.drop 8).take (bek l 4) = q at *
  generalize (l.drop 4).take 4 = s at *
  go_wp2_with (first
    | (at_builtin; refine wpList_app so_u8 (World.ownsRow_nil (w.drewN nq) w.heap.size _ _) (show Rd (w.drewN nq) S 1 (some ⟨ad.block, ad.off + 8, none⟩) (8 + bek l 4 - 8) (U8 q) by rw [Nat.add_sub_cancel_left]; exact HP.out) (U8_one _) (by omega) (Nat.le_refl _) rfl rfl rfl rfl ?_; intro v3 w3 hown3 hg3 hat3)
    | fail)
  have hn0 : 0 + (8 + bek l 4 - 8) = q.length := by rw [Hl8.out]; omega
  rw [hn0, List.nil_append] at hown3
  obtain ⟨A3, c3, rfl, hc3, _, _⟩ := own_form hown3
  have hf3 : Fr No w w3 := ((Fr.refl No w).drewN nq).grown hg3 (by simp [Value.ownBlock])
  have hr3 := own_rd hown3 (by rw [Hl8.out]; omega)
  (refine T_begin No [0, 4, 5, 6, 1, 2, 3, 7] [1, 2] (by kernel_rfl) (by kernel_rfl) ?_; simp only [pickOps, List.filterMap_cons, List.filterMap_nil, List.getElem?_cons_zero, List.getElem?_cons_succ, Act.put])
  repeat (first | (refine T_skip (by rfl) (by rfl) (fun _ _ _ h => h) ?_; try simp only [Act.put, List.setIfInBounds_toArray, List.set_cons_zero, List.set_cons_succ]) | (refine T_pass (by rfl) (by rfl) ?_; try simp only [Act.put, List.setIfInBounds_toArray, List.set_cons_zero, List.set_cons_succ]) | (refine T_quiet (by rfl) (by rfl) (by rfl) (fun _ _ _ _ h => h) (fun K hK => ?_); go_big_quiet_op; refine hK _ ?_; clear hK K) | (refine T_two (by rfl) (by rfl) (by rfl) (by rfl) (fun _ _ _ _ h => h) (fun K hK => ?_); go_big_quiet_op; refine ⟨_, fun _ _ => rfl, ?_⟩; refine hK _ ?_; clear hK K; try simp only [Act.put, List.setIfInBounds_toArray, List.set_cons_zero, List.set_cons_succ]) | fail)
  (refine T_str Try.underlying22 Try.underlying5 Try.underlying9 (Rd.drew (Rd.fr0 HP4 hf3)) (fun _ _ hn => hn) (by rfl) (by rfl) (fun _ _ _ _ h => h) rfl (Hl4.out.symm) rfl ?_; try simp only [Act.put, List.setIfInBounds_toArray, List.set_cons_zero, List.set_cons_succ])
  (refine T_call (by rfl) (by rfl) (fun K hK => ?_); go_wp2_with fail)
  refine (refsum_calls _ A3 c3 q _ (Rd.drew hr3)).mono ?_
  rintro e _ ⟨rfl, rfl⟩
  (refine hK.out _ _ ((Fr.refl _ _)) ?_; clear hK K; try simp only [Act.put, List.setIfInBounds_toArray, List.set_cons_zero, List.set_cons_succ])
  (refine T_call (by rfl) (by rfl) (fun K hK => ?_); go_wp2_with fail)
  refine (four_calls _ _ (crc q).isLt).mono ?_
  rintro e w4 ⟨v4, rfl, hown4, hf4⟩
  obtain ⟨A4, c4, rfl, hc4, _, _⟩ := own_form hown4
  (refine hK.out _ _ (hf4) ?_; clear hK K; try simp only [Act.put, List.setIfInBounds_toArray, List.set_cons_zero, List.set_cons_succ])
  (refine T_str Try.underlying22 Try.underlying5 Try.underlying9 (own_rd hown4 (by rw [b4_length]; decide)) (fun _ _ hn => hn) (by rfl) (by rfl) (fun _ _ _ _ h => h) rfl rfl rfl ?_; try simp only [Act.put, List.setIfInBounds_toArray, List.set_cons_zero, List.set_cons_succ])
  repeat (first | (refine T_skip (by rfl) (by rfl) (fun _ _ _ h => h) ?_; try simp only [Act.put, List.setIfInBounds_toArray, List.set_cons_zero, List.set_cons_succ]) | (refine T_pass (by rfl) (by rfl) ?_; try simp only [Act.put, List.setIfInBounds_toArray, List.set_cons_zero, List.set_cons_succ]) | (refine T_quiet (by rfl) (by rfl) (by rfl) (fun _ _ _ _ h => h) (fun K hK => ?_); go_big_quiet_op; refine hK _ ?_; clear hK K) | (refine T_two (by rfl) (by rfl) (by rfl) (by rfl) (fun _ _ _ _ h => h) (fun K hK => ?_); go_big_quiet_op; refine ⟨_, fun _ _ => rfl, ?_⟩; refine hK _ ?_; clear hK K; try simp only [Act.put, List.setIfInBounds_toArray, List.set_cons_zero, List.set_cons_succ]) | fail)
  refine T_done ?_
  have hf4' : Fr No w w4 := hf3.drew.tr hf4
  go_wp2_with fail
  · rename_i hx
    go_ret3
    rw [H'.out (fun hh => by rw [Bool.not_eq_true', beq_eq_false_iff_ne] at hx; exact hx hh)]
    exact ⟨_, rfl, World.ownsRow_nil _ _ _ _, hf4'⟩
  · rename_i hx
    go_ret3
    rw [H.out (by rw [Bool.not_eq_false', beq_iff_eq] at hx; exact hx)]
    exact ⟨_, rfl, own_fr0 hown3 ((Fr.refl No w3).drew.tr hf4), hf4'⟩

/-- Spoil writes over the bytes of a row of its own; nothing else is touched. -/
theorem spoil_calls (A : Option Addr) (c n base : Nat) (xs : List Value) (w : World) (h : w.ownsRow base 5 1 (.slice A n c) n xs) (hn : n ≤ 211106232532992) :
    Calls Try.prog 27 #[.slice A n c] w fun e w' => e = .returned (.tuple #[]) ∧ Fr (fun b => A.map (·.block) = some b) w w' := by
  rcases h.2 with ⟨hv, rfl⟩ | ⟨g, cap, cur, hv, hb, hg, h1, h2, h3, h4⟩
  · injection hv with hA hc hc2
    subst hA hc2
    go_enter Try.func27, Try.ntmps27
    go_wp2
    go_loop [2] (fun i => i = .int .i64 0) (fun _ => 0)
    case atStart => rfl
    case round =>
      subst hrel
      go_wp2
      go_end0
      exact ⟨rfl, Fr.refl _ _⟩
  · injection hv with hA hc hc2
    subst hA hc2
    go_enter Try.func27, Try.ntmps27
    go_wp2
    go_loopw [2] (fun i wr => ∃ k : Nat, k ≤ n ∧ i = .int .i64 k ∧ (∃ cs : Array Value, cs.size = c ∧ Blk wr g 5 cs) ∧ Fr (fun b => g = b) w wr) (fun i _ => n - (intOf i).toNat)
    case atStart => exact ⟨0, by omega, rfl, ⟨cur, by omega, hg⟩, Fr.refl _ _⟩
    case round =>
      obtain ⟨k, hk, rfl, ⟨cs, hcs, hbl⟩, hf⟩ := hrel
      by_cases hlt : k < n
      · obtain ⟨v1, hv1⟩ : ∃ v, wr.cell? ⟨g, k, none⟩ = some v := ⟨_, (hbl.cell k).trans (Array.getElem?_eq_getElem (by omega))⟩
        have hf1 := hbl.frozen k
        have hg' := Lib.hid hg
        clear hg
        go_wp2
        go_roundw
        case rel => exact ⟨k + 1, by omega, by go_num, ⟨_, by simpa using hcs, hbl.put _ _⟩, hf.set (.inr rfl) _⟩
        case measure => simp [intOf] <;> omega
      · obtain rfl : k = n := by omega
        go_wp2
        go_end0
        exact ⟨rfl, hf.mono (fun b _ hb => by simpa using hb)⟩

def countZ (k n : Int) : Int := if n < 1 then 0 else if k.tmod n < 0 then k.tmod n + n else k.tmod n
theorem countZ_range (k n : Int) (h : 1 ≤ n) : 0 ≤ countZ k n ∧ countZ k n < n := by
  have h1 := Int.tmod_lt_of_pos k (show 0 < n by omega)
  have h2 := Int.tmod_lt_of_pos (-k) (show 0 < n by omega)
  rw [Int.neg_tmod] at h2
  unfold countZ
  rw [if_neg (by omega)]
  split <;> omega
theorem count_calls (k n : Int) (w : World) (hk : -9223372036854775808 ≤ k) (hk2 : k ≤ 9223372036854775807) (hn : -9223372036854775808 ≤ n) (hn2 : n ≤ 4611686018427387904) :
    Calls Try.prog 28 #[.int .i64 k, .int .i64 n] w fun e w' => e = .returned (.int .i64 (countZ k n)) ∧ w = w' := by
  by_cases h1 : n < 1
  · have H := Lib.hid (show countZ k n = 0 by unfold countZ; rw [if_pos h1])
    have e1 : decide (n < 1) = true := by simpa using h1
    go_enter Try.func28, Try.ntmps28
    go_wp2
    go_ret
    exact ⟨by rw [H.out]; rfl, rfl⟩
  have e1 : decide (n < 1) = false := by simpa using h1
  have g1 := Int.tmod_lt_of_pos k (show 0 < n by omega)
  have g2 := Int.tmod_lt_of_pos (-k) (show 0 < n by omega)
  rw [Int.neg_tmod] at g2
  by_cases h2 : k.tmod n < 0
  · have H := Lib.hid (show countZ k n = k.tmod n + n by unfold countZ; rw [if_neg h1, if_pos h2])
    have e2 : decide (k.tmod n < 0) = true := by simpa using h2
    have e3 : (n == 0) = false := by rw [beq_eq_false_iff_ne]; omega
    go_enter Try.func28, Try.ntmps28
    go_wp2
    go_ret
    exact ⟨by rw [H.out]; rfl, rfl⟩
  · have H := Lib.hid (show countZ k n = k.tmod n by unfold countZ; rw [if_neg h1, if_neg h2])
    have e2 : decide (k.tmod n < 0) = false := by simpa using h2
    have e3 : (n == 0) = false := by rw [beq_eq_false_iff_ne]; omega
    go_enter Try.func28, Try.ntmps28
    go_wp2
    go_ret
    exact ⟨by rw [H.out]; rfl, rfl⟩
end Go.Proofs.Ytonpnplcbcagfaa
