/- wire.ReadUint, lapidaryref01.ReadUint. No condition. -/
import Derived.Test.YtfgkioigbnlkkaaWUint
import Derived.Test.YtfgkioigbnlkkaaPRead
namespace Go.Proofs.Ytfgkioigbnlkkaa
set_option linter.unusedVariables false
set_option linter.unusedSimpArgs false
open Go.RowKit

theorem and127 (c : UInt8) : bits .and .u8 (c.toNat : Int) 127 = ((c.toNat % 128 : Nat) : Int) := by
  have := c.toNat_lt
  have h := u8_and_nat c.toNat 127 (by omega) (by omega)
  rw [nat_mask7] at h
  exact h
theorem and128 (c : UInt8) : bits .and .u8 (c.toNat : Int) 128 = ((c.toNat / 128 * 128 : Nat) : Int) := by
  have h0 := c.toNat_lt
  have h := u8_and_nat c.toNat 128 (by omega) (by omega)
  rw [show (128 : Nat) = 2 ^ 7 from rfl, nat_bit 7] at h
  rw [show ((128 : Nat) : Int) = (128 : Int) from rfl] at h
  have e : c.toNat / 2 ^ 7 % 2 * 2 ^ 7 = c.toNat / 128 * 128 := by omega
  rw [e] at h
  exact h

theorem acc_prog (k n : Nat) (x : UInt8) (hk : k ≤ 9) (hn : n < 128 ^ k) (h9 : k = 9 → x.toNat ≤ 1) :
    bits .or .u64 (n : Int) (IntKind.u64.wrap (IntKind.u64.wrap (bits .and .u8 (x.toNat : Int) 127) * 2 ^ (7 * k))) = ((n + (x.toNat % 128) * 128 ^ k : Nat) : Int) := by
  have hw : IntKind.u64.wrap ((x.toNat % 128 : Nat) : Int) = ((x.toNat % 128 : Nat) : Int) := IntWalk.u64_in _ (by omega)
  rw [and127, hw, acc_bits k n x.toNat hk hn h9]
theorem acc_ref (k n : Nat) (x : UInt8) (hk : k ≤ 9) (hn : n < 128 ^ k) (h9 : k = 9 → x.toNat ≤ 1) :
    bits .or .u64 (n : Int) (IntKind.u64.wrap ((x.toNat : Int) % 128 * 2 ^ (7 * k))) = ((n + (x.toNat % 128) * 128 ^ k : Nat) : Int) := by
  have hw : (x.toNat : Int) % 128 = ((x.toNat % 128 : Nat) : Int) := by omega
  rw [hw, acc_bits k n x.toNat hk hn h9]
/-- What a call hands back: a number, how many bytes, an error's number; the world is as it was. -/
def RetU (w w' : World) (e : Ending) (r : Nat × Nat × Int) : Prop := e = .returned (.tuple #[.int .u64 r.1, .int .i64 r.2.1, .int .i64 r.2.2]) ∧ w = w'

set_option maxRecDepth 100000 in
theorem readuint_calls (S : Nat → Prop) (A : Option Addr) (c : Nat) (l : List UInt8) (w : World) (h : RdB w S A l) (hc : l.length ≤ c) :
    Calls Try.prog 65 #[.slice A l.length c] w fun e w' => RetU w w' e (readU l) := by
  have hle := h.le
  obtain ⟨N, hN⟩ : ∃ N, N = min l.length 10 := ⟨_, rfl⟩
  have hN1 : N ≤ l.length := by omega
  have hN2 : N ≤ 10 := by omega
  have hN3 : N = l.length ∨ N = 10 := by omega
  have hN4 : (N : Int) = min (l.length : Int) 10 := by omega
  have HN := Lib.hid hN4
  have HN3 := Lib.hid hN3
  clear hN hN4 hN3
  go_enter Try.func65, Try.ntmps65
  go_wp2_with (refine wpList_min (t := 3) (l.length : Int) 10 (N : Int) HN.out rfl rfl rfl rfl ?_)
  go_loop [5, 14] (fun n i => ∃ k m : Nat, k ≤ 9 ∧ k ≤ N ∧ i = .int .i64 k ∧ n = .int .u64 m ∧ m < 128 ^ k ∧ rdU k m (l.drop k) = readU l) (fun _ i => N - (intOf i).toNat)
  case atStart => exact ⟨0, 0, by omega, by omega, rfl, rfl, by simp, rfl⟩
  case round =>
    obtain ⟨k, m, hk9, hk, rfl, rfl, hm, hr⟩ := hrel
    have HR := Lib.hid hr
    clear hr
    by_cases hlt : k < N
    · obtain ⟨ad, hA, _, hcell⟩ := h.at_ (show k < l.length by omega)
      have HD := Lib.hid (drop_cons l k (by omega))
      subst hA
      generalize l[k] = x at *
      have hx := x.toNat_lt
      have ha := Lib.hid (and127 x)
      have hb := and128 x
      by_cases h128 : x.toNat < 128
      · have e1 : (bits .and .u8 (x.toNat : Int) 128 == 0) = true := by
          rw [hb, beq_iff_eq]; omega
        clear hb
        by_cases h9 : k = 9 ∧ 1 < x.toNat
        · have H := Lib.hid (rdU_far k m x (l.drop (k + 1)) h9.1 h9.2)
          have e3 : decide ((1 : Int) < (x.toNat : Int)) = true := by simp; omega
          have e5 : ((k : Int) == 9) = true := by rw [beq_iff_eq]; omega
          clear h9
          go_wp2
          go_ret3
          refine ⟨?_, rfl⟩
          rw [← HR.out, HD.out, H.out]
          rfl
        · have HA := Lib.hid (fun hk9' : k = 9 => (show x.toNat ≤ 1 by omega))
          by_cases h0 : x.toNat = 0 ∧ 0 < k
          · have H := Lib.hid (rdU_zero k m x (l.drop (k + 1)) h0.1 h0.2)
            have e0 : ((x.toNat : Int) == 0) = true := by rw [beq_iff_eq]; omega
            have e2 : decide ((1 : Int) < (x.toNat : Int)) = false := by simp; omega
            have e4 : decide (0 < k) = true := by simp; omega
            clear h0 h9
            go_wp2
            all_goals
              go_ret3
              refine ⟨?_, rfl⟩
              rw [← HR.out, HD.out, H.out]
              rfl
          · have H := Lib.hid (rdU_end k m x (l.drop (k + 1)) h128 h0 h9)
            have HB := Lib.hid (acc_prog k m x hk9 hm (fun hk9' => HA.out hk9'))
            by_cases hz : x.toNat = 0
            · have e0 : ((x.toNat : Int) == 0) = true := by rw [beq_iff_eq]; omega
              have e4 : decide (0 < k) = false := by simp; omega
              have e5 : ((k : Int) == 9) = false := by rw [beq_eq_false_iff_ne]; omega
              clear h0 h9 hz
              go_wp2
              all_goals
                go_ret3
                refine ⟨?_, rfl⟩
                rw [← HR.out, HD.out, H.out, ← HB.out]
                rfl
            · have e0 : ((x.toNat : Int) == 0) = false := by rw [beq_eq_false_iff_ne]; omega
              clear h0
              by_cases hk9' : k = 9
              · have e2 : decide ((1 : Int) < (x.toNat : Int)) = false := by simp; omega
                have e5 : ((k : Int) == 9) = true := by rw [beq_iff_eq]; omega
                clear h9 hz hk9'
                go_wp2
                go_ret3
                refine ⟨?_, rfl⟩
                rw [← HR.out, HD.out, H.out, ← HB.out]
                rfl
              · have e2 : ((k : Int) == 9) = false := by rw [beq_eq_false_iff_ne]; omega
                clear h9 hz
                go_wp2
                go_ret3
                refine ⟨?_, rfl⟩
                rw [← HR.out, HD.out, H.out, ← HB.out]
                rfl
      · have e1 : (bits .and .u8 (x.toNat : Int) 128 == 0) = false := by
          rw [hb, beq_eq_false_iff_ne]; omega
        have e0 : ((x.toNat : Int) == 0) = false := by rw [beq_eq_false_iff_ne]; omega
        clear hb
        by_cases h9 : k = 9
        · have H := Lib.hid (rdU_far k m x (l.drop (k + 1)) h9 (by omega))
          have e3 : decide ((1 : Int) < (x.toNat : Int)) = true := by simp; omega
          have e5 : ((k : Int) == 9) = true := by rw [beq_iff_eq]; omega
          clear h9
          go_wp2
          go_ret3
          refine ⟨?_, rfl⟩
          rw [← HR.out, HD.out, H.out]
          rfl
        · have H := Lib.hid (rdU_more k m x (l.drop (k + 1)) h128 h9)
          have HB := Lib.hid (acc_prog k m x hk9 hm (fun hk9' => absurd hk9' h9))
          have hnx := acc_next k m x.toNat hm
          have e3 : ((k : Int) == 9) = false := by rw [beq_eq_false_iff_ne]; omega
          go_wp2
          go_round
          case rel => exact ⟨k + 1, m + x.toNat % 128 * 128 ^ k, by omega, by omega, by go_num, by rw [HB.out], hnx, by rw [← HR.out, HD.out, H.out]⟩
          case measure => simp [intOf]; omega
    · go_wp2
      go_ret3
      have hk' : k = l.length := by have := HN3.out; omega
      refine ⟨?_, rfl⟩
      rw [← HR.out, hk', List.drop_length, rdU_nil]
      rfl

set_option maxRecDepth 100000 in
theorem refreaduint_calls (S : Nat → Prop) (A : Option Addr) (c : Nat) (l : List UInt8) (w : World) (h : RdB w S A l) :
    Calls Try.prog 66 #[.slice A l.length c] w fun e w' => RetU w w' e (readU l) := by
  have hle := h.le
  go_enter Try.func66, Try.ntmps66
  go_wp2
  go_loop [5, 6] (fun n i => ∃ k m : Nat, k ≤ 9 ∧ k ≤ l.length ∧ i = .int .i64 k ∧ n = .int .u64 m ∧ m < 128 ^ k ∧ rdU k m (l.drop k) = readU l) (fun _ i => l.length - (intOf i).toNat)
  case atStart => exact ⟨0, 0, by omega, by omega, rfl, rfl, by simp, rfl⟩
  case round =>
    obtain ⟨k, m, hk9, hk, rfl, rfl, hm, hr⟩ := hrel
    have HR := Lib.hid hr
    clear hr
    by_cases hlt : k < l.length
    · obtain ⟨ad, hA, _, hcell⟩ := h.at_ hlt
      have HD := Lib.hid (drop_cons l k hlt)
      subst hA
      generalize l[k] = x at *
      have hx := x.toNat_lt
      by_cases h128 : x.toNat < 128
      · have e1 : decide ((x.toNat : Int) < 128) = true := by simp; omega
        by_cases h9 : k = 9 ∧ 1 < x.toNat
        · have H := Lib.hid (rdU_far k m x (l.drop (k + 1)) h9.1 h9.2)
          have e3 : decide ((1 : Int) < (x.toNat : Int)) = true := by simp; omega
          have e5 : ((k : Int) == 9) = true := by rw [beq_iff_eq]; omega
          clear h9
          go_wp2
          go_ret3
          refine ⟨?_, rfl⟩
          rw [← HR.out, HD.out, H.out]
          rfl
        · have HA := Lib.hid (fun hk9' : k = 9 => (show x.toNat ≤ 1 by omega))
          by_cases h0 : x.toNat = 0 ∧ 0 < k
          · have H := Lib.hid (rdU_zero k m x (l.drop (k + 1)) h0.1 h0.2)
            have e0 : ((x.toNat : Int) == 0) = true := by rw [beq_iff_eq]; omega
            have e2 : decide ((1 : Int) < (x.toNat : Int)) = false := by simp; omega
            have e4 : decide (0 < k) = true := by simp; omega
            clear h0 h9
            by_cases hk9' : k = 9
            · have e5 : ((k : Int) == 9) = true := by rw [beq_iff_eq]; omega
              clear hk9'
              go_wp2
              all_goals
                go_ret3
                refine ⟨?_, rfl⟩
                rw [← HR.out, HD.out, H.out]
                rfl
            · have e5 : ((k : Int) == 9) = false := by rw [beq_eq_false_iff_ne]; omega
              clear hk9'
              go_wp2
              all_goals
                go_ret3
                refine ⟨?_, rfl⟩
                rw [← HR.out, HD.out, H.out]
                rfl
          · have H := Lib.hid (rdU_end k m x (l.drop (k + 1)) h128 h0 h9)
            have HB := Lib.hid (acc_ref k m x hk9 hm (fun hk9' => HA.out hk9'))
            by_cases hz : x.toNat = 0
            · have e0 : ((x.toNat : Int) == 0) = true := by rw [beq_iff_eq]; omega
              have e4 : decide (0 < k) = false := by simp; omega
              have e5 : ((k : Int) == 9) = false := by rw [beq_eq_false_iff_ne]; omega
              clear h0 h9 hz
              go_wp2
              all_goals
                go_ret3
                refine ⟨?_, rfl⟩
                rw [← HR.out, HD.out, H.out, ← HB.out]
                rfl
            · have e0 : ((x.toNat : Int) == 0) = false := by rw [beq_eq_false_iff_ne]; omega
              clear h0
              by_cases hk9' : k = 9
              · have e2 : decide ((1 : Int) < (x.toNat : Int)) = false := by simp; omega
                have e5 : ((k : Int) == 9) = true := by rw [beq_iff_eq]; omega
                clear h9 hz hk9'
                go_wp2
                go_ret3
                refine ⟨?_, rfl⟩
                rw [← HR.out, HD.out, H.out, ← HB.out]
                rfl
              · have e2 : ((k : Int) == 9) = false := by rw [beq_eq_false_iff_ne]; omega
                clear h9 hz
                go_wp2
                go_ret3
                refine ⟨?_, rfl⟩
                rw [← HR.out, HD.out, H.out, ← HB.out]
                rfl
      · have e1 : decide ((x.toNat : Int) < 128) = false := by simp; omega
        by_cases h9 : k = 9
        · have H := Lib.hid (rdU_far k m x (l.drop (k + 1)) h9 (by omega))
          have e3 : decide ((1 : Int) < (x.toNat : Int)) = true := by simp; omega
          have e5 : ((k : Int) == 9) = true := by rw [beq_iff_eq]; omega
          clear h9
          go_wp2
          go_ret3
          refine ⟨?_, rfl⟩
          rw [← HR.out, HD.out, H.out]
          rfl
        · have H := Lib.hid (rdU_more k m x (l.drop (k + 1)) h128 h9)
          have HB := Lib.hid (acc_ref k m x hk9 hm (fun hk9' => absurd hk9' h9))
          have hnx := acc_next k m x.toNat hm
          have e3 : ((k : Int) == 9) = false := by rw [beq_eq_false_iff_ne]; omega
          go_wp2
          go_round
          case rel => exact ⟨k + 1, m + x.toNat % 128 * 128 ^ k, by omega, by omega, by go_num, by rw [HB.out], hnx, by rw [← HR.out, HD.out, H.out]⟩
          case measure => simp [intOf]; omega
    · go_wp2
      all_goals go_ret3
      obtain rfl : k = l.length := by omega
      refine ⟨?_, rfl⟩
      rw [← HR.out, List.drop_length, rdU_nil]
      rfl
end Go.Proofs.Ytfgkioigbnlkkaa
