/- The sum of bytes, as a plain function; no program in it. No condition. -/
import Derived.Test.YtannkgglgmbkdaaDoorLap
namespace Go.Proofs.YtannkgglgmbkdaaDoor
set_option linter.unusedVariables false
set_option linter.unusedSimpArgs false
open Go.RowKit

/-- One bit of the sum. -/
def crcBit (r : BitVec 32) : BitVec 32 := (r >>> 1) ^^^ (0xedb88320#32 &&& (0#32 - (r &&& 1#32)))
def crcBits : Nat → BitVec 32 → BitVec 32
  | 0, r => r
  | k + 1, r => crcBits k (crcBit r)
def crcByte (r : BitVec 32) (c : UInt8) : BitVec 32 := crcBits 8 (r ^^^ BitVec.ofNat 32 c.toNat)
def crcAll (r : BitVec 32) (l : List UInt8) : BitVec 32 := l.foldl crcByte r
def crc0 : BitVec 32 := BitVec.allOnes 32
def crc (l : List UInt8) : BitVec 32 := ~~~ (crcAll crc0 l)

theorem crcBits_succ (k : Nat) (r : BitVec 32) : crcBits (k + 1) r = crcBit (crcBits k r) := by
  induction k generalizing r with
  | zero => rfl
  | succ k ih => rw [crcBits, ih]; rfl

theorem u32n (r : BitVec 32) : (r.toNat : Int) < 4294967296 := by have := r.isLt; omega
theorem ofInt32 (r : BitVec 32) : BitVec.ofInt 32 (r.toNat : Int) = r := by simp
theorem wrap_u32_bv (r : BitVec 32) : IntKind.u32.wrap (r.toNat : Int) = r.toNat := by
  rw [IntKind.wrap_u32]; have := r.isLt; omega
theorem bits_xor32 (a b : BitVec 32) : bits .xor .u32 (a.toNat : Int) (b.toNat : Int) = ((a ^^^ b).toNat : Int) := by
  show IntKind.u32.wrap ((BitVec.ofInt 32 (a.toNat : Int) ^^^ BitVec.ofInt 32 (b.toNat : Int)).toNat : Int) = _
  rw [ofInt32, ofInt32, wrap_u32_bv]
theorem bits_and32 (a b : BitVec 32) : bits .and .u32 (a.toNat : Int) (b.toNat : Int) = ((a &&& b).toNat : Int) := by
  show IntKind.u32.wrap ((BitVec.ofInt 32 (a.toNat : Int) &&& BitVec.ofInt 32 (b.toNat : Int)).toNat : Int) = _
  rw [ofInt32, ofInt32, wrap_u32_bv]
theorem neg32 (a : BitVec 32) : -(a.toNat : Int) % 4294967296 = ((0#32 - a).toNat : Int) := by
  rw [BitVec.toNat_sub]
  have := a.isLt
  simp
  omega
theorem shr32 (a : BitVec 32) : ((a.toNat : Nat) : Int) / (2 : Int) = ((a >>> 1).toNat : Int) := by
  rw [BitVec.toNat_ushiftRight, Nat.shiftRight_eq_div_pow]; rfl
theorem crcBit_odd (r : BitVec 32) (h : (r &&& 1#32) = 1#32) : crcBit r = (r >>> 1) ^^^ 0xedb88320#32 := by
  unfold crcBit; rw [h]; rfl
theorem crcBit_even (r : BitVec 32) (h : (r &&& 1#32) ≠ 1#32) : crcBit r = r >>> 1 := by
  have h0 : r &&& 1#32 = 0#32 := by
    have hr : (r &&& 1#32).toNat = r.toNat % 2 := by
      rw [BitVec.toNat_and]; exact Nat.and_two_pow_sub_one_eq_mod r.toNat 1
    apply BitVec.eq_of_toNat_eq
    rcases Nat.mod_two_eq_zero_or_one r.toNat with h1 | h1
    · rw [hr, h1]; rfl
    · exact absurd (BitVec.eq_of_toNat_eq (by rw [hr, h1]; rfl)) h
  unfold crcBit; rw [h0]; simp
end Go.Proofs.YtannkgglgmbkdaaDoor
