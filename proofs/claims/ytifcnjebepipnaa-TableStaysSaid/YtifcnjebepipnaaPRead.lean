/- Numbers read from bytes, plainly; no program in it. No condition. -/
import Derived.Test.YtifcnjebepipnaaPUint
namespace Go.Proofs.Ytifcnjebepipnaa
set_option linter.unusedVariables false
set_option linter.unusedSimpArgs false
open Go.RowKit

/-- A number read from bytes: the number, how many bytes, an error's number. -/
def rdU : Nat → Nat → List UInt8 → Nat × Nat × Int
  | _, _, [] => (0, 0, 10)
  | i, n, c :: rest =>
    if i = 9 ∧ 1 < c.toNat then (0, 0, 11)
    else if c.toNat < 128 then if c.toNat = 0 ∧ 0 < i then (0, 0, 11) else (n + (c.toNat % 128) * 128 ^ i, i + 1, 0)
    else rdU (i + 1) (n + (c.toNat % 128) * 128 ^ i) rest
def readU (l : List UInt8) : Nat × Nat × Int := rdU 0 0 l

theorem drop_cons (l : List UInt8) (k : Nat) (hk : k < l.length) : l.drop k = l[k] :: l.drop (k + 1) := by
  rw [List.drop_eq_getElem_cons hk]

theorem rdU_nil (i n : Nat) : rdU i n [] = (0, 0, 10) := rfl
theorem rdU_far (i n : Nat) (c : UInt8) (r : List UInt8) (hi : i = 9) (h : 1 < c.toNat) : rdU i n (c :: r) = (0, 0, 11) := by
  rw [rdU, if_pos ⟨hi, h⟩]
theorem rdU_zero (i n : Nat) (c : UInt8) (r : List UInt8) (h : c.toNat = 0) (hi : 0 < i) : rdU i n (c :: r) = (0, 0, 11) := by
  rw [rdU, if_neg (by omega), if_pos (by omega), if_pos ⟨h, hi⟩]
theorem rdU_end (i n : Nat) (c : UInt8) (r : List UInt8) (h : c.toNat < 128) (h0 : ¬ (c.toNat = 0 ∧ 0 < i)) (h9 : ¬ (i = 9 ∧ 1 < c.toNat)) : rdU i n (c :: r) = (n + (c.toNat % 128) * 128 ^ i, i + 1, 0) := by
  rw [rdU, if_neg h9, if_pos h, if_neg h0]
theorem rdU_more (i n : Nat) (c : UInt8) (r : List UInt8) (h : ¬ c.toNat < 128) (h9 : ¬ i = 9) : rdU i n (c :: r) = rdU (i + 1) (n + (c.toNat % 128) * 128 ^ i) r := by
  rw [rdU, if_neg (by omega), if_neg h]

theorem pow128 (k : Nat) : 128 ^ k = 2 ^ (7 * k) := by rw [show 128 = 2 ^ 7 from rfl, ← Nat.pow_mul]
theorem acc_lt (k n c : Nat) (hk : k ≤ 9) (hn : n < 128 ^ k) (h9 : k = 9 → c ≤ 1) : n + (c % 128) * 128 ^ k < 18446744073709551616 ∧ (c % 128) * 128 ^ k < 18446744073709551616 := by
  rcases Nat.lt_or_ge k 9 with h | h
  · have h1 : (c % 128) * 128 ^ k ≤ 127 * 128 ^ k := Nat.mul_le_mul_right _ (by omega)
    have h2 : 128 ^ k ≤ 128 ^ 8 := Nat.pow_le_pow_right (by decide) (by omega)
    omega
  · obtain rfl : k = 9 := by omega
    have h1 : (c % 128) * 128 ^ 9 ≤ 1 * 128 ^ 9 := Nat.mul_le_mul_right _ (by have := h9 rfl; omega)
    omega
theorem acc_next (k n c : Nat) (hn : n < 128 ^ k) : n + (c % 128) * 128 ^ k < 128 ^ (k + 1) := by
  have h1 : (c % 128) * 128 ^ k ≤ 127 * 128 ^ k := Nat.mul_le_mul_right _ (by omega)
  rw [Nat.pow_succ]; omega

/-- What the number's bits are behind a byte more, in the walk's own spelling. -/
theorem acc_bits (k n c : Nat) (hk : k ≤ 9) (hn : n < 128 ^ k) (h9 : k = 9 → c ≤ 1) :
    bits .or .u64 (n : Int) (IntKind.u64.wrap (((c % 128 : Nat) : Int) * 2 ^ (7 * k))) = ((n + (c % 128) * 128 ^ k : Nat) : Int) := by
  obtain ⟨h1, h2⟩ := acc_lt k n c hk hn h9
  have e : ((c % 128 : Nat) : Int) * 2 ^ (7 * k) = ((c % 128 * 128 ^ k : Nat) : Int) := by rw [pow128]; push_cast; rfl
  have hw : IntKind.u64.wrap ((c % 128 * 128 ^ k : Nat) : Int) = ((c % 128 * 128 ^ k : Nat) : Int) := by
    have : ∀ x : Int, IntKind.u64.wrap x = x % 18446744073709551616 := fun x => by simp [IntKind.wrap, IntKind.bits, IntKind.signed]
    rw [this]; omega
  rw [e, hw, u64_or_nat _ _ (by omega) (by omega), Nat.or_comm, nat_join (7 * k) _ n (by rw [pow128]; exact Nat.mul_mod_left _ _) (by rw [← pow128]; exact hn)]
  congr 1; omega

/-- There and back. -/
theorem rdU_uintL : ∀ (k n i a : Nat) (r : List UInt8), n < 128 ^ (k + 1) → i + k ≤ 9 → (i + k = 9 → n * 128 ^ i < 18446744073709551616) → (0 < i → 0 < n) → rdU i a (uintL n ++ r) = (a + n * 128 ^ i, i + (uintL n).length, 0)
  | k, n, i, a, r, hn, hi, h9, h0 => by
    by_cases hs : n < 128
    · rw [uintL_small n hs]
      have hc : (UInt8.ofNat n).toNat = n := by rw [UInt8.toNat_ofNat']; omega
      rw [List.singleton_append, rdU_end i a _ r (by omega) (by rw [hc]; intro h; have := h0 h.2; omega) (by
        rw [hc]; rintro ⟨rfl, h1⟩
        have : n * 128 ^ 9 < 18446744073709551616 := h9 (by omega)
        omega), hc, Nat.mod_eq_of_lt hs]
      rfl
    · rw [uintL_big n hs, List.cons_append]
      have hk : k ≠ 0 := by rintro rfl; omega
      obtain ⟨k, rfl⟩ : ∃ m, k = m + 1 := ⟨k - 1, by omega⟩
      have hc : (UInt8.ofNat (128 + n % 128)).toNat = 128 + n % 128 := by rw [UInt8.toNat_ofNat']; omega
      rw [rdU_more i a _ _ (by rw [hc]; omega) (by omega), hc]
      have hq : (128 + n % 128) % 128 = n % 128 := by omega
      rw [hq, rdU_uintL k (n / 128) (i + 1) _ r (by rw [Nat.pow_succ] at hn; omega) (by omega) (fun h => by
        have := h9 (by omega)
        rw [Nat.pow_succ]
        have h2 : n / 128 * (128 ^ i * 128) ≤ n * 128 ^ i := by
          rw [Nat.mul_comm (128 ^ i) 128, ← Nat.mul_assoc]
          exact Nat.mul_le_mul_right _ (Nat.div_mul_le_self n 128)
        omega) (fun _ => by omega)]
      have hd : n = n % 128 + n / 128 * 128 := by omega
      simp only [Prod.mk.injEq, List.length_cons]
      refine ⟨?_, by omega, trivial⟩
      rw [Nat.pow_succ, Nat.add_assoc, Nat.mul_comm (128 ^ i) 128, ← Nat.mul_assoc, ← Nat.add_mul, ← hd]
theorem readU_uintL (n : Nat) (hn : n < 18446744073709551616) (r : List UInt8) : readU (uintL n ++ r) = (n, (uintL n).length, 0) := by
  have h := rdU_uintL 9 n 0 0 r (by omega) (by omega) (fun _ => by omega) (fun h => absurd h (by omega))
  simpa [readU] using h

/-- How many bytes are read. -/
theorem rdU_used : ∀ (l : List UInt8) (i n : Nat), (rdU i n l).2.1 ≤ i + l.length
  | [], i, n => by simp [rdU]
  | c :: r, i, n => by
    have ih := rdU_used r (i + 1) (n + (c.toNat % 128) * 128 ^ i)
    rw [rdU]
    repeat' split
    all_goals simp only [List.length_cons]
    all_goals omega
theorem readU_used (l : List UInt8) : (readU l).2.1 ≤ l.length := by have := rdU_used l 0 0; simpa [readU] using this
theorem rdU_lt : ∀ (l : List UInt8) (i n : Nat), i ≤ 9 → n < 128 ^ i → (rdU i n l).1 < 18446744073709551616
  | [], i, n, _, _ => by simp [rdU]
  | c :: r, i, n, hi, hn => by
    rw [rdU]
    split
    · simp
    · rename_i h9
      obtain ⟨h1, h2⟩ := acc_lt i n c.toNat hi hn (fun h => by omega)
      split
      · split
        · simp
        · exact h1
      · exact rdU_lt r (i + 1) _ (by omega) (acc_next i n c.toNat hn)
theorem readU_lt (l : List UInt8) : (readU l).1 < 18446744073709551616 := rdU_lt l 0 0 (by omega) (by simp)
end Go.Proofs.Ytifcnjebepipnaa
