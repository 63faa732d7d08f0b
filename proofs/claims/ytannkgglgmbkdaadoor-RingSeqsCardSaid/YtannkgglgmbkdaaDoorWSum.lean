/- wire.Sum, lapidaryref01.Sum: the sum of any bytes. No condition. -/
import Derived.Test.YtannkgglgmbkdaaDoorProg
import Derived.Test.YtannkgglgmbkdaaDoorCrc
namespace Go.Proofs.YtannkgglgmbkdaaDoor
set_option linter.unusedVariables false
set_option linter.unusedSimpArgs false
open Go.RowKit

theorem u8_u32 (x : UInt8) : (x.toNat : Int) % 4294967296 = ((BitVec.ofNat 32 x.toNat).toNat : Int) := by
  have := x.toNat_lt
  rw [BitVec.toNat_ofNat]; omega
theorem crc_step (s : BitVec 32) : bits .xor .u32 ((s.toNat : Int) / 2) (bits .and .u32 3988292384 (-bits .and .u32 (s.toNat : Int) 1 % 4294967296)) = ((crcBit s).toNat : Int) := by
  have h1 : (1 : Int) = ((1#32).toNat : Int) := rfl
  have h2 : (3988292384 : Int) = ((0xedb88320#32).toNat : Int) := rfl
  rw [shr32, h1, h2, bits_and32, neg32, bits_and32, bits_xor32]
  rfl
theorem crc_take (l : List UInt8) (k : Nat) (hk : k < l.length) (r : BitVec 32) : crcAll r (l.take (k + 1)) = crcByte (crcAll r (l.take k)) l[k] := by
  rw [List.take_succ_eq_append_getElem hk, crcAll, List.foldl_append]
  rfl
theorem crc_end (l : List UInt8) : bits .xor .u32 IntKind.u32.max ((crcAll crc0 l).toNat : Int) = ((crc l).toNat : Int) := by
  have h2 : IntKind.u32.max = (crc0.toNat : Int) := rfl
  rw [h2, bits_xor32, crc]
  show _ = ((~~~ (crcAll crc0 l)).toNat : Int)
  rw [← BitVec.allOnes_xor]; rfl

theorem sum_calls (S : Nat → Prop) (A : Option Addr) (c : Nat) (l : List UInt8) (w : World) (h : RdB w S A l) :
    Calls Tryd.prog 44 #[.slice A l.length c] w fun e w' => e = .returned (.int .u32 ((crc l).toNat : Int)) ∧ w = w' := by
  have hle := h.le
  have hz : IntKind.u32.signed = false := rfl
  go_enter Tryd.func44, Tryd.ntmps44
  go_wp2
  go_loop [3, 8] (fun r i => ∃ k : Nat, k ≤ l.length ∧ i = .int .i64 k ∧ r = .int .u32 ((crcAll crc0 (l.take k)).toNat : Int)) (fun _ i => l.length - (intOf i).toNat)
  case atStart => exact ⟨0, Nat.zero_le _, rfl, rfl⟩
  case round =>
    obtain ⟨k, hk, rfl, rfl⟩ := hrel
    by_cases hlt : k < l.length
    · obtain ⟨ad, hA, _, hc⟩ := h.at_ hlt
      have HT := Lib.hid (crc_take l k hlt crc0)
      subst hA
      generalize hs : crcAll crc0 (l.take k) = s at HT
      clear hs
      go_wp2
      go_loop [3, 16] (fun r i => ∃ j : Nat, j ≤ 8 ∧ i = .int .i64 j ∧ r = .int .u32 ((crcBits j (s ^^^ BitVec.ofNat 32 l[k].toNat)).toNat : Int)) (fun _ i => 8 - (intOf i).toNat)
      case atStart => exact ⟨0, Nat.zero_le _, rfl, by rw [u8_u32, bits_xor32]; rfl⟩
      case round =>
        obtain ⟨j, hj, rfl, rfl⟩ := hrel
        have HS := Lib.hid (crcBits_succ j (s ^^^ BitVec.ofNat 32 l[k].toNat))
        by_cases hj8 : j < 8
        · generalize crcBits j (s ^^^ BitVec.ofNat 32 l[k].toNat) = t at HS
          go_wp2
          go_round
          case rel => exact ⟨j + 1, by omega, by go_num, by rw [HS.out]; exact congrArg _ (crc_step t)⟩
          case measure => simp [intOf]; omega
        · obtain rfl : j = 8 := by omega
          go_wp2
          go_round
          case rel => exact ⟨k + 1, by omega, by go_num, by rw [HT.out]; rfl⟩
          case measure => simp [intOf]; omega
    · obtain rfl : k = l.length := by omega
      go_wp2
      go_ret
      exact ⟨by rw [← crc_end l]; rfl, rfl⟩

end Go.Proofs.YtannkgglgmbkdaaDoor
