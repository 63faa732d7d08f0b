/- Numbers as bytes, plainly; no program in it. No condition. -/
import Derived.Test.YtifcnjebepipnaaLap
import Derived.Laws.BitsAllLaws
namespace Go.Proofs.Ytifcnjebepipnaa
set_option linter.unusedVariables false
set_option linter.unusedSimpArgs false
open Go.RowKit

/-- A number as few bytes as can be. -/
def uintL (n : Nat) : List UInt8 := if n < 128 then [UInt8.ofNat n] else UInt8.ofNat (128 + n % 128) :: uintL (n / 128)
  termination_by n
  decreasing_by omega

theorem uintL_small (n : Nat) (h : n < 128) : uintL n = [UInt8.ofNat n] := by rw [uintL, if_pos h]
theorem uintL_big (n : Nat) (h : ¬ n < 128) : uintL n = UInt8.ofNat (128 + n % 128) :: uintL (n / 128) := by rw [uintL, if_neg h]
theorem uintL_len : ∀ (k n : Nat), n < 128 ^ (k + 1) → 1 ≤ (uintL n).length ∧ (uintL n).length ≤ k + 1
  | 0, n, h => by rw [uintL_small n (by simpa using h)]; simp
  | k + 1, n, h => by
    by_cases hs : n < 128
    · rw [uintL_small n hs]; simp
    · rw [uintL_big n hs, List.length_cons]
      have := uintL_len k (n / 128) (by rw [Nat.pow_succ] at h; omega)
      omega
theorem uintL_ten (n : Nat) (h : n < 18446744073709551616) : 1 ≤ (uintL n).length ∧ (uintL n).length ≤ 10 := uintL_len 9 n (by omega)
theorem uintL_mono : ∀ (k n m : Nat), n ≤ m → m < 128 ^ (k + 1) → (uintL n).length ≤ (uintL m).length
  | 0, n, m, h, hm => by rw [uintL_small n (by omega), uintL_small m (by omega)]; simp
  | k + 1, n, m, h, hm => by
    by_cases hs : n < 128
    · rw [uintL_small n hs]
      have := uintL_len (k + 1) m hm
      simpa using this.1
    · rw [uintL_big n hs, uintL_big m (by omega), List.length_cons, List.length_cons]
      have := uintL_mono k (n / 128) (m / 128) (by omega) (by rw [Nat.pow_succ] at hm; omega)
      omega
theorem or128 (x : Nat) (h : x < 256) : 128 ||| x = 128 + x % 128 := by
  by_cases hx : x < 128
  · rw [nat_join 7 128 x (by decide) (by omega)]; omega
  · have h1 : x = 128 ||| (x - 128) := by rw [nat_join 7 128 (x - 128) (by decide) (by omega)]; omega
    rw [h1, ← Nat.or_assoc, Nat.or_self, nat_join 7 128 (x - 128) (by decide) (by omega)]; omega
theorem more_byte (m : Nat) : bits .or .u8 128 ((m : Int) % 256) = ((UInt8.ofNat (128 + m % 128)).toNat : Int) := by
  have h1 : ((m : Int) % 256) = ((m % 256 : Nat) : Int) := by omega
  have h2 : (128 : Int) = ((128 : Nat) : Int) := rfl
  rw [h1, h2, u8_or_nat 128 (m % 256) (by omega) (by omega), or128 _ (by omega), UInt8.toNat_ofNat']
  omega
def foldZ (n : Int) : Int := if 0 ≤ n then 2 * n else -2 * n - 1
def unfoldZ (m : Int) : Int := if m % 2 = 0 then m / 2 else -(m / 2) - 1
theorem foldZ_unfold (m : Int) (h : 0 ≤ m) : foldZ (unfoldZ m) = m := by unfold foldZ unfoldZ; split <;> split <;> omega
theorem unfoldZ_fold (n : Int) : unfoldZ (foldZ n) = n := by unfold foldZ unfoldZ; split <;> split <;> omega

theorem xor_ones (x : Nat) (h : x < 18446744073709551616) : x ^^^ 18446744073709551615 = 18446744073709551615 - x := by
  have h1 := BitVec.toNat_not (x := BitVec.ofNat 64 x)
  rw [← BitVec.xor_allOnes, BitVec.toNat_xor, BitVec.toNat_ofNat, BitVec.toNat_allOnes] at h1
  simpa [Nat.mod_eq_of_lt h] using h1
theorem fold_bits (n : Int) (h0 : -9223372036854775808 ≤ n) (h1 : n ≤ 9223372036854775807) :
    bits .xor .u64 (IntKind.u64.wrap (IntKind.u64.wrap n * 2)) (IntKind.u64.wrap (n / 9223372036854775808)) = foldZ n := by
  have hw : ∀ x : Int, IntKind.u64.wrap x = x % 18446744073709551616 := fun x => by simp [IntKind.wrap, IntKind.bits, IntKind.signed]
  simp only [hw]
  by_cases h : 0 ≤ n
  · have e1 : n / 9223372036854775808 = 0 := by omega
    have e2 : n % 18446744073709551616 * 2 % 18446744073709551616 = ((2 * n).toNat : Int) := by omega
    rw [e1, e2]
    show bits .xor .u64 ((2 * n).toNat : Int) ((0 : Nat) : Int) = _
    rw [u64_xor_nat _ _ (by omega) (by omega), Nat.xor_zero, foldZ, if_pos h]
    omega
  · have e1 : n / 9223372036854775808 % 18446744073709551616 = ((18446744073709551615 : Nat) : Int) := by omega
    have e2 : n % 18446744073709551616 * 2 % 18446744073709551616 = ((18446744073709551616 - 2 * (-n).toNat : Nat) : Int) := by omega
    rw [e1, e2, u64_xor_nat _ _ (by omega) (by omega), foldZ, if_neg h]
    have e3 : ((18446744073709551616 - 2 * (-n).toNat) ^^^ 18446744073709551615 : Nat) = 18446744073709551615 - (18446744073709551616 - 2 * (-n).toNat) := by
      exact xor_ones _ (by omega)
    rw [e3]
    omega
theorem and1_u64 (m : Int) (h0 : 0 ≤ m) (h1 : m ≤ 18446744073709551615) : bits .and .u64 m 1 = m % 2 := by
  obtain ⟨k, rfl⟩ := Int.eq_ofNat_of_zero_le h0
  have h2 : (1 : Int) = ((1 : Nat) : Int) := rfl
  rw [h2, u64_and_nat k 1 (by omega) (by omega), nat_mask1]
  omega
theorem xor_i64_zero (x : Int) (h0 : 0 ≤ x) (h1 : x ≤ 9223372036854775807) : bits .xor .i64 x 0 = x := by
  show IntKind.i64.wrap ((BitVec.ofInt 64 x ^^^ BitVec.ofInt 64 0).toNat : Int) = x
  have e : BitVec.ofInt 64 (0 : Int) = 0#64 := by decide
  rw [e, BitVec.xor_zero, IntKind.wrap_i64, BitVec.toNat_ofInt]
  omega
theorem xor_i64_ones (x : Int) (h0 : 0 ≤ x) (h1 : x ≤ 9223372036854775807) : bits .xor .i64 x (-1) = -x - 1 := by
  show IntKind.i64.wrap ((BitVec.ofInt 64 x ^^^ BitVec.ofInt 64 (-1)).toNat : Int) = _
  have e : BitVec.ofInt 64 (-1 : Int) = BitVec.allOnes 64 := by decide
  rw [e, BitVec.xor_allOnes, BitVec.toNat_not, IntKind.wrap_i64, BitVec.toNat_ofInt]
  omega
theorem unfold_bits (m : Int) (h0 : 0 ≤ m) (h1 : m ≤ 18446744073709551615) :
    bits .xor .i64 (m / 2) (wrap64 (-wrap64 (bits .and .u64 m 1))) = unfoldZ m := by
  rw [and1_u64 m h0 h1]
  have e1 : wrap64 (m % 2) = m % 2 := by unfold wrap64; omega
  have e2 : wrap64 (-(m % 2)) = -(m % 2) := by unfold wrap64; omega
  rw [e1, e2, unfoldZ]
  by_cases h : m % 2 = 0
  · rw [if_pos h, h]; exact xor_i64_zero _ (by omega) (by omega)
  · have h3 : m % 2 = 1 := by omega
    rw [if_neg h, h3]; exact xor_i64_ones _ (by omega) (by omega)
end Go.Proofs.Ytifcnjebepipnaa
