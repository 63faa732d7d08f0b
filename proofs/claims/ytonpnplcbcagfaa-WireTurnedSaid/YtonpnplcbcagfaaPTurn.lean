/- A byte of a frame's sum or bytes that is another one is told: plain. No program in sight. -/
import Derived.Test.YtonpnplcbcagfaaPFrame
namespace Go.Proofs.Ytonpnplcbcagfaa
set_option linter.unusedVariables false
set_option linter.unusedSimpArgs false
open Go.RowKit

theorem and1_toNat (r : BitVec 32) : (r &&& 1#32).toNat = r.toNat % 2 := by
  rw [BitVec.toNat_and]; exact Nat.and_two_pow_sub_one_eq_mod r.toNat 1
theorem shr1_inj (a b : BitVec 32) (h : a >>> 1 = b >>> 1) (h2 : a.toNat % 2 = b.toNat % 2) : a = b := by
  apply BitVec.eq_of_toNat_eq
  have h1 : (a >>> 1).toNat = (b >>> 1).toNat := by rw [h]
  rw [BitVec.toNat_ushiftRight, BitVec.toNat_ushiftRight, Nat.shiftRight_eq_div_pow, Nat.shiftRight_eq_div_pow] at h1
  omega
theorem top_shr (a : BitVec 32) : (a >>> 1).getLsbD 31 = false := by simp
theorem top_poly (a : BitVec 32) : ((a >>> 1) ^^^ 0xedb88320#32).getLsbD 31 = true := by
  rw [BitVec.getLsbD_xor, top_shr]; decide
theorem odd_iff (r : BitVec 32) : (r &&& 1#32) = 1#32 ↔ r.toNat % 2 = 1 := by
  rw [← and1_toNat]
  constructor
  · intro h; rw [h]; rfl
  · intro h; exact BitVec.eq_of_toNat_eq (by rw [h]; rfl)
theorem crcBit_inj (a b : BitVec 32) (h : crcBit a = crcBit b) : a = b := by
  by_cases ha : (a &&& 1#32) = 1#32
  · by_cases hb : (b &&& 1#32) = 1#32
    · rw [crcBit_odd a ha, crcBit_odd b hb] at h
      have h1 : a >>> 1 = b >>> 1 := by
        have := congrArg (· ^^^ 0xedb88320#32) h
        simpa [BitVec.xor_assoc] using this
      exact shr1_inj a b h1 (by rw [(odd_iff a).1 ha, (odd_iff b).1 hb])
    · rw [crcBit_odd a ha, crcBit_even b hb] at h
      have h1 := top_poly a
      rw [h, top_shr] at h1
      cases h1
  · by_cases hb : (b &&& 1#32) = 1#32
    · rw [crcBit_even a ha, crcBit_odd b hb] at h
      have h1 := top_poly b
      rw [← h, top_shr] at h1
      cases h1
    · rw [crcBit_even a ha, crcBit_even b hb] at h
      refine shr1_inj a b h ?_
      have h1 : ¬ a.toNat % 2 = 1 := fun hh => ha ((odd_iff a).2 hh)
      have h2 : ¬ b.toNat % 2 = 1 := fun hh => hb ((odd_iff b).2 hh)
      omega
theorem crcBits_inj : ∀ (k : Nat) (a b : BitVec 32), crcBits k a = crcBits k b → a = b
  | 0, _, _, h => h
  | k + 1, a, b, h => crcBit_inj a b (crcBits_inj k _ _ h)
theorem crcByte_inj (a b : BitVec 32) (c : UInt8) (h : crcByte a c = crcByte b c) : a = b := by
  have h1 := crcBits_inj 8 _ _ h
  have := congrArg (· ^^^ BitVec.ofNat 32 c.toNat) h1
  simpa [BitVec.xor_assoc] using this
theorem crcByte_inj2 (a : BitVec 32) (c d : UInt8) (h : crcByte a c = crcByte a d) : c = d := by
  have h1 := crcBits_inj 8 _ _ h
  have h2 : BitVec.ofNat 32 c.toNat = BitVec.ofNat 32 d.toNat := by
    have := congrArg (a ^^^ ·) h1
    simpa [← BitVec.xor_assoc] using this
  have h3 := congrArg BitVec.toNat h2
  have hc := c.toNat_lt
  have hd := d.toNat_lt
  rw [BitVec.toNat_ofNat, BitVec.toNat_ofNat, Nat.mod_eq_of_lt (by omega), Nat.mod_eq_of_lt (by omega)] at h3
  exact UInt8.toNat_inj.1 h3
theorem crcAll_inj : ∀ (l : List UInt8) (a b : BitVec 32), crcAll a l = crcAll b l → a = b
  | [], _, _, h => h
  | c :: l, a, b, h => crcByte_inj a b c (crcAll_inj l _ _ h)
theorem crc_turned : ∀ (l : List UInt8) (r : BitVec 32) (i : Nat) (y : UInt8) (hi : i < l.length), y ≠ l[i] → crcAll r (l.set i y) ≠ crcAll r l
  | [], _, _, _, hi, _ => absurd hi (by simp)
  | c :: l, r, 0, y, _, hy => fun h => hy (crcByte_inj2 r y c (crcAll_inj l _ _ h))
  | c :: l, r, i + 1, y, hi, hy => crc_turned l (crcByte r c) i y (by simpa using hi) (by simpa using hy)
theorem crc_ne (l : List UInt8) (i : Nat) (y : UInt8) (hi : i < l.length) (hy : y ≠ l[i]) : crc (l.set i y) ≠ crc l := by
  intro h
  refine crc_turned l crc0 i y hi hy ?_
  have := congrArg (~~~ ·) h
  simpa [crc] using this
theorem readF_wrong (n : Nat) (s t : List UInt8) (hs : s.length = 4) (hn : t.length = n) (h1 : 0 < n) (h2 : n ≤ 60000) (hne : s ≠ b4 (crc t).toNat) : readF (b4 n ++ (s ++ t)) = ([], 0, 12) := by
  have hb : bek (b4 n ++ (s ++ t)) 4 = n := bek_b4 _ (by omega) _
  have hl : (b4 n ++ (s ++ t)).length = n + 8 := by rw [List.length_append, List.length_append, b4_length, hs, hn]; omega
  have hd4 : (b4 n ++ (s ++ t)).drop 4 = s ++ t := by
    rw [show (4 : Nat) = (b4 n).length from rfl, List.drop_left]
  have hd : (b4 n ++ (s ++ t)).drop 8 = t := by
    rw [show (8 : Nat) = 4 + 4 from rfl, ← List.drop_drop, hd4, ← hs, List.drop_left]
  have ht4 : ((b4 n ++ (s ++ t)).drop 4).take 4 = s := by rw [hd4, ← hs, List.take_left]
  have hp : partM (b4 n ++ (s ++ t)) 8 n = (t, 8 + n, 0) := by
    rw [partM_ok _ _ _ (by omega) (by omega), hd, ← hn, List.take_length]
  rw [readF_sum _ (by omega) (by omega) (by rw [hb, hp]) (by rw [hb, hp, ht4]; exact fun h => hne h.symm)]
theorem frameL_parts (t : List UInt8) : frameL t = b4 t.length ++ (b4 (crc t).toNat ++ t) := by simp [frameL]
theorem readF_turned (t : List UInt8) (h1 : 0 < t.length) (h2 : t.length ≤ 60000) (i : Nat) (y : UInt8) (h4 : 4 ≤ i) (hi : i < (frameL t).length) (hy : y ≠ (frameL t)[i]) :
    readF ((frameL t).set i y) = ([], 0, 12) := by
  have hl : (frameL t).length = t.length + 8 := frameL_length t
  have hx : (frameL t)[i]? = some (frameL t)[i] := List.getElem?_eq_getElem hi
  generalize (frameL t)[i] = x at hx hy
  rw [frameL_parts] at hx ⊢
  rw [List.set_append_right _ _ (by rw [b4_length]; exact h4), b4_length]
  rw [List.getElem?_append_right (by rw [b4_length]; exact h4), b4_length] at hx
  by_cases h8 : i < 8
  · rw [List.set_append_left _ _ (by rw [b4_length]; omega)]
    rw [List.getElem?_append_left (by rw [b4_length]; omega)] at hx
    refine readF_wrong _ _ t (by rw [List.length_set]; rfl) rfl h1 h2 ?_
    intro h
    rw [← h, List.getElem?_set_self (by rw [b4_length]; omega)] at hx
    exact hy (Option.some.inj hx)
  · rw [List.set_append_right _ _ (by rw [b4_length]; omega), b4_length]
    rw [List.getElem?_append_right (by rw [b4_length]; omega), b4_length] at hx
    have hit : i - 4 - 4 < t.length := by omega
    have hne := crc_ne t (i - 4 - 4) y hit (by rw [List.getElem?_eq_getElem hit] at hx; rw [Option.some.inj hx]; exact hy)
    refine readF_wrong _ _ _ rfl (by rw [List.length_set]) h1 h2 ?_
    intro h
    exact hne (BitVec.eq_of_toNat_eq (b4_inj _ _ (crc _).isLt (crc _).isLt h).symm)
theorem xor_bit_ne (x : UInt8) (j : Nat) (hj : j < 8) : x.toNat ^^^ 2 ^ j < 256 ∧ UInt8.ofNat (x.toNat ^^^ 2 ^ j) ≠ x := by
  have hx := x.toNat_lt
  have hp : 2 ^ j < 256 := Nat.lt_of_lt_of_le (Nat.pow_lt_pow_right (by decide) hj) (by decide)
  have hlt : x.toNat ^^^ 2 ^ j < 2 ^ 8 := Nat.xor_lt_two_pow hx hp
  refine ⟨hlt, fun h => ?_⟩
  have h2 := congrArg UInt8.toNat h
  rw [UInt8.toNat_ofNat', Nat.mod_eq_of_lt hlt] at h2
  have := congrArg (x.toNat ^^^ ·) h2
  simp [← Nat.xor_assoc] at this
end Go.Proofs.Ytonpnplcbcagfaa
