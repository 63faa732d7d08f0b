/- ring.put, ring.get: a number into some bytes and back. No condition. -/
import Derived.Test.YtannkgglgmbkdaaDoorDRead
namespace Go.Proofs.YtannkgglgmbkdaaDoor
set_option linter.unusedVariables false
set_option linter.unusedSimpArgs false
open Go.RowKit

/-- The i-th of k bytes of a number. -/
def byteAt (k : Nat) (n : Int) (i : Nat) : UInt8 := UInt8.ofNat ((n / (2 ^ (8 * (k - 1 - i)) : Nat)) % 256).toNat
def putL (k : Nat) (n : Int) : List UInt8 := (List.range k).map (byteAt k n)
theorem putL_len (k : Nat) (n : Int) : (putL k n).length = k := by simp [putL]
theorem splice_put (cur : Array Value) (o : Nat) (xs : List Value) (v : Value) (h : o + xs.length < cur.size) : (splice cur o xs).setIfInBounds (o + xs.length) v = splice cur o (xs ++ [v]) := by
  apply Array.toList_inj.1
  rw [Array.toList_setIfInBounds, splice_toList, splice_toList]
  have hl : (cur.toList.take o).length = o := by rw [List.length_take, Array.length_toList]; omega
  have hd : cur.toList.drop (o + xs.length) = cur.toList[o + xs.length]'(by simpa using h) :: cur.toList.drop (o + xs.length + 1) := List.drop_eq_getElem_cons (by simpa using h)
  rw [hd, List.set_append_right _ _ (by rw [List.length_append, hl]; exact Nat.le_refl _)]
  simp only [List.length_append, hl, Nat.sub_self, List.set_cons_zero, List.length_cons, List.length_nil]
  rw [← List.append_assoc, List.append_assoc _ [v]]
  rfl
theorem byteAt_int (k : Nat) (n : Int) (i : Nat) : ((byteAt k n i).toNat : Int) = n / (2 ^ (8 * (k - 1 - i)) : Nat) % 256 := by
  unfold byteAt
  rw [UInt8.toNat_ofNat']
  have h1 := Int.emod_nonneg (n / (2 ^ (8 * (k - 1 - i)) : Nat)) (show (256 : Int) ≠ 0 by decide)
  have h2 := Int.emod_lt_of_pos (n / (2 ^ (8 * (k - 1 - i)) : Nat)) (show (0 : Int) < 256 by decide)
  omega
theorem putL_take (k : Nat) (n : Int) {j : Nat} (h : j < k) : (putL k n).take (j + 1) = (putL k n).take j ++ [byteAt k n j] := by
  have hl : j < (putL k n).length := by rw [putL_len]; exact h
  rw [← List.take_append_getElem hl]
  congr 2
  simp [putL]
set_option maxHeartbeats 2000000 in
set_option maxRecDepth 100000 in
theorem put_calls (w : World) (g o k c : Nat) (t : TypeId) (cur : Array Value) (n : Int) (hb : Blk w g t cur) (hfit : o + k ≤ cur.size) (hk : k ≤ 8) :
    Calls Tryd.prog 43 #[.slice (some ⟨g, o, none⟩) k c, .int .i64 n] w fun e w' => e = .returned (.tuple #[]) ∧ Blk w' g t (splice cur o (U8 (putL k n))) ∧ Fr (fun b => b = g) w w' := by
  go_enter Tryd.func43, Tryd.ntmps43
  go_wp2_with fail
  go_loopw [7] (fun i wr => ∃ j : Nat, j ≤ k ∧ i = .int .i64 (j : Int) ∧ Blk wr g t (splice cur o (U8 ((putL k n).take j))) ∧ Fr (fun b => b = g) w wr) (fun i _ => k - (intOf i).toNat)
  case atStart => exact ⟨0, by omega, rfl, by simpa [splice, U8] using hb, Fr.refl _ _⟩
  case round =>
    obtain ⟨j, hj, rfl, hbj, hf⟩ := hrel
    have htl : (U8 ((putL k n).take j)).length = j := by rw [U8_length, List.length_take, putL_len]; omega
    have hsz : (splice cur o (U8 ((putL k n).take j))).size = cur.size := splice_size _ _ _ (by omega)
    by_cases hlt : j < k
    · have ek : decide ((j : Int) < k) = true := by simp; omega
      have hc := (hbj.cell (o + j)).trans (Array.getElem?_eq_getElem (by omega))
      have hz := hbj.frozen (o + j)
      have hp := hbj.put (o + j) (.int .u8 (n / (2 ^ (8 * (k - 1 - j)) : Nat) % 256))
      have hsp := splice_put cur o (U8 ((putL k n).take j)) (.int .u8 (n / (2 ^ (8 * (k - 1 - j)) : Nat) % 256)) (by omega)
      rw [htl] at hsp
      rw [hsp] at hp
      have HE := Lib.hid (show U8 ((putL k n).take j) ++ [.int .u8 (n / (2 ^ (8 * (k - 1 - j)) : Nat) % 256)] = U8 ((putL k n).take (j + 1)) by
        rw [putL_take k n hlt]
        unfold U8
        rw [List.map_append, List.map_cons, List.map_nil, byteAt_int])
      rw [HE.out] at hp
      have HP := Lib.hid hp
      clear hp hsp
      generalize (splice cur o (U8 ((putL k n).take j)))[o + j]'_ = old at hc
      go_wp2_with fail
      go_roundw
      case rel => exact ⟨j + 1, by omega, by go_num, HP.out, hf.set (.inr rfl) _⟩
      case measure => simp [intOf]; omega
    · obtain rfl : j = k := by omega
      have ek : decide ((j : Int) < j) = false := by simp
      have HB := Lib.hid (show Blk wr g t (splice cur o (U8 (putL j n))) by rw [List.take_of_length_le (by rw [putL_len]; exact Nat.le_refl _)] at hbj; exact hbj)
      go_wp2_with fail
      go_end0
      exact ⟨rfl, HB.out, hf⟩
/-- The number of some bytes, the first one the greatest. -/
def getN : List UInt8 → Int := fun l => l.foldl (fun n c => n * 256 + (c.toNat : Int)) 0
theorem getN_snoc (l : List UInt8) (c : UInt8) : getN (l ++ [c]) = getN l * 256 + (c.toNat : Int) := by unfold getN; rw [List.foldl_append]; rfl
theorem getN_aux : ∀ (l : List UInt8) (n : Int), 0 ≤ n → 0 ≤ l.foldl (fun n c => n * 256 + (c.toNat : Int)) n ∧ l.foldl (fun n c => n * 256 + (c.toNat : Int)) n < (n + 1) * (256 ^ l.length : Nat)
  | [], n, h => by simp; omega
  | c :: l, n, h => by
    have hc := c.toNat_lt
    obtain ⟨h1, h2⟩ := getN_aux l (n * 256 + (c.toNat : Int)) (by omega)
    refine ⟨h1, Int.lt_of_lt_of_le h2 ?_⟩
    have e : ((256 ^ (c :: l).length : Nat) : Int) = 256 * ((256 ^ l.length : Nat) : Int) := by rw [List.length_cons, Nat.pow_succ, Nat.mul_comm]; simp
    rw [e, ← Int.mul_assoc]
    exact Int.mul_le_mul_of_nonneg_right (by omega) (Int.natCast_nonneg _)
theorem getN_range (l : List UInt8) : 0 ≤ getN l ∧ getN l < (256 ^ l.length : Nat) := by
  have := getN_aux l 0 (by decide)
  simpa [getN] using this
theorem or_byte (y : Int) (c : UInt8) (h1 : 0 ≤ y) (h2 : y < 281474976710656) : bits BinOp.or IntKind.i64 (wrap64 (y * 256)) (wrap64 (c.toNat : Int)) = y * 256 + (c.toNat : Int) := by
  have hc := c.toNat_lt
  rw [show wrap64 (y * 256) = y * 256 by unfold wrap64; omega, show wrap64 (c.toNat : Int) = c.toNat by unfold wrap64; omega]
  obtain ⟨m, rfl⟩ : ∃ m : Nat, y = (m : Int) := ⟨y.toNat, by omega⟩
  have e : (m * 256 : Nat) ||| c.toNat = m * 256 + c.toNat := by
    have := Nat.shiftLeft_add_eq_or_of_lt (i := 8) (show c.toNat < 2 ^ 8 by omega) m
    rw [Nat.shiftLeft_eq] at this
    exact this.symm
  have e1 : ((m : Int) * 256) = ((m * 256 : Nat) : Int) := by omega
  have hb : (BitVec.ofInt 64 ((m * 256 : Nat) : Int) ||| BitVec.ofInt 64 ((c.toNat : Nat) : Int)).toNat = m * 256 + c.toNat := by
    rw [BitVec.ofInt_natCast, BitVec.ofInt_natCast, BitVec.toNat_or, BitVec.toNat_ofNat, BitVec.toNat_ofNat, Nat.mod_eq_of_lt (by omega), Nat.mod_eq_of_lt (by omega), e]
  unfold bits
  rw [e1]
  show IntKind.i64.wrap ((BitVec.ofInt 64 ((m * 256 : Nat) : Int) ||| BitVec.ofInt 64 ((c.toNat : Nat) : Int)).toNat : Int) = _
  rw [hb, IntKind.wrap_i64]
  omega
theorem emod_two (q M : Int) (hM : 0 < M) : q / 256 % M * 256 + q % 256 = q % (256 * M) := by
  have h1 : q = q % 256 + 256 * (q / 256) := (Int.emod_add_mul_ediv q 256).symm
  have h2 : q / 256 = (q / 256) % M + M * ((q / 256) / M) := (Int.emod_add_mul_ediv (q / 256) M).symm
  have h3 := Int.emod_nonneg (q / 256) (show M ≠ 0 by omega)
  have h4 := Int.emod_lt_of_pos (q / 256) hM
  have h5 := Int.emod_nonneg q (show (256 : Int) ≠ 0 by decide)
  have h6 := Int.emod_lt_of_pos q (show (0 : Int) < 256 by decide)
  generalize hr : (q / 256) % M = r at *
  generalize ht : (q / 256) / M = t at *
  generalize hs : q % 256 = s at *
  have h7 : q = (r * 256 + s) + (256 * M) * t := by
    rw [Int.mul_assoc]
    omega
  rw [h7, Int.add_mul_emod_self_left]
  exact (Int.emod_eq_of_lt (by omega) (by omega)).symm
theorem getN_putL : ∀ (j k : Nat) (n : Int), j ≤ k → getN ((putL k n).take j) = n / (2 ^ (8 * (k - j)) : Nat) % (256 ^ j : Nat)
  | 0, k, n, _ => by simp [getN] <;> omega
  | j + 1, k, n, h => by
    rw [putL_take k n (by omega), getN_snoc, getN_putL j k n (by omega), byteAt_int]
    obtain ⟨d, hd⟩ : ∃ d, k - (j + 1) = d := ⟨_, rfl⟩
    rw [show k - j = d + 1 by omega, show k - 1 - j = d by omega, hd]
    have e1 : ((2 ^ (8 * (d + 1)) : Nat) : Int) = ((2 ^ (8 * d) : Nat) : Int) * 256 := by rw [show 8 * (d + 1) = 8 * d + 8 by omega, Nat.pow_add]; simp
    have e2 : ((256 ^ (j + 1) : Nat) : Int) = 256 * ((256 ^ j : Nat) : Int) := by rw [Nat.pow_succ, Nat.mul_comm]; simp
    rw [e1, e2, ← Int.ediv_ediv_of_nonneg (Int.natCast_nonneg _)]
    generalize n / ((2 ^ (8 * d) : Nat) : Int) = q
    exact emod_two q _ (Int.natCast_pos.2 (Nat.pow_pos (by decide)))
theorem get_put (k : Nat) (n : Int) (h0 : 0 ≤ n) (h : n < (256 ^ k : Nat)) : getN (putL k n) = n := by
  have := getN_putL k k n (Nat.le_refl _)
  rw [List.take_of_length_le (by rw [putL_len]; exact Nat.le_refl _)] at this
  rw [this]
  simp only [Nat.sub_self, Nat.mul_zero, Nat.pow_zero]
  rw [Int.natCast_one, Int.ediv_one, Int.emod_eq_of_lt h0 h]
set_option maxHeartbeats 2000000 in
set_option maxRecDepth 100000 in
theorem get_calls (S : Nat → Prop) (A : Option Addr) (c : Nat) (l : List UInt8) (w : World) (h : RdB w S A l) (hl : l.length ≤ 7) :
    Calls Tryd.prog 48 #[.slice A l.length c] w fun e w' => e = .returned (.int .i64 (getN l)) ∧ w' = w := by
  go_enter Tryd.func48, Tryd.ntmps48
  go_wp2_with fail
  go_loopw [3, 8] (fun s3 s8 wr => ∃ j : Nat, j ≤ l.length ∧ s8 = .int .i64 (j : Int) ∧ s3 = .int .i64 (getN (l.take j)) ∧ wr = w) (fun _ i _ => l.length - (intOf i).toNat)
  case atStart => exact ⟨0, by omega, rfl, rfl, rfl⟩
  case round =>
    obtain ⟨j, hj, rfl, rfl, rfl⟩ := hrel
    by_cases hlt : j < l.length
    · have ek : decide ((j : Int) < l.length) = true := by simp; omega
      obtain ⟨ad, rfl, _, hc⟩ := h.at_ hlt
      have hr := getN_range (l.take j)
      have hgn : getN (l.take (j + 1)) = getN (l.take j) * 256 + (l[j].toNat : Int) := by rw [← List.take_append_getElem hlt, getN_snoc]
      have HG := Lib.hid hgn
      clear hgn
      generalize l[j] = x at *
      generalize getN (l.take j) = y at *
      have hy : y < 281474976710656 := by
        have h2 : (List.take j l).length = j := by rw [List.length_take]; omega
        rw [h2] at hr
        have h3 : (256 ^ j : Nat) ≤ 256 ^ 6 := Nat.pow_le_pow_right (by decide) (by omega)
        have h4 : (256 ^ 6 : Nat) = 281474976710656 := by decide
        have := hr.2
        omega
      have HOR := Lib.hid (or_byte y x hr.1 hy)
      clear hr hy
      go_wp2_with fail
      go_roundw
      case rel => exact ⟨j + 1, by omega, by go_num, by rw [HOR.out, HG.out], trivial⟩
      case measure => simp [intOf]; omega
    · obtain rfl : j = l.length := by omega
      have ek : decide ((l.length : Int) < l.length) = false := by simp
      rw [List.take_length]
      go_wp2_with fail
      go_ret
      exact ⟨rfl, rfl⟩
end Go.Proofs.YtannkgglgmbkdaaDoor
