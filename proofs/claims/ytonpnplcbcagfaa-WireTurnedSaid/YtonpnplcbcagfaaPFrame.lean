/- What bytes read as a frame: plain. No program in sight. -/
import Derived.Test.YtonpnplcbcagfaaWText
namespace Go.Proofs.Ytonpnplcbcagfaa
set_option linter.unusedVariables false
set_option linter.unusedSimpArgs false
open Go.RowKit

/-- The number of the first k bytes, the highest ahead. -/
def bek (l : List UInt8) : Nat → Nat
  | 0 => 0
  | k + 1 => bek l k * 256 + (l.getD k 0).toNat
theorem bek_lt (l : List UInt8) : ∀ k, bek l k < 256 ^ k
  | 0 => by simp [bek]
  | k + 1 => by
    have := bek_lt l k
    have := (l.getD k 0).toNat_lt
    rw [bek, Nat.pow_succ]; omega
theorem bek_succ (l : List UInt8) (k : Nat) (hk : k < l.length) : bek l (k + 1) = bek l k * 256 + l[k].toNat := by
  rw [bek, List.getD_eq_getElem?_getD, List.getElem?_eq_getElem hk]; rfl
theorem bek4 (x0 x1 x2 x3 : UInt8) (r : List UInt8) : bek (x0 :: x1 :: x2 :: x3 :: r) 4 = ((x0.toNat * 256 + x1.toNat) * 256 + x2.toNat) * 256 + x3.toNat := by
  simp [bek]
theorem four_of (l : List UInt8) (h : 4 ≤ l.length) : ∃ x0 x1 x2 x3 r, l = x0 :: x1 :: x2 :: x3 :: r := by
  match l, h with
  | x0 :: x1 :: x2 :: x3 :: r, _ => exact ⟨x0, x1, x2, x3, r, rfl⟩
theorem ofNat_eq (n : Nat) (x : UInt8) (h : n % 256 = x.toNat) : UInt8.ofNat n = x := by
  apply UInt8.toNat_inj.1
  rw [UInt8.toNat_ofNat']; exact h
theorem b4_bek (l : List UInt8) (h : 4 ≤ l.length) : b4 (bek l 4) = l.take 4 := by
  obtain ⟨x0, x1, x2, x3, r, rfl⟩ := four_of l h
  have h0 := x0.toNat_lt; have h1 := x1.toNat_lt; have h2 := x2.toNat_lt; have h3 := x3.toNat_lt
  rw [bek4]
  simp only [b4, List.take_succ_cons, List.take_zero]
  rw [ofNat_eq _ x0 (by omega), ofNat_eq _ x1 (by omega), ofNat_eq _ x2 (by omega), ofNat_eq _ x3 (by omega)]
theorem bek_b4 (n : Nat) (h : n < 4294967296) (r : List UInt8) : bek (b4 n ++ r) 4 = n := by
  simp only [b4, List.cons_append, List.nil_append]
  rw [bek4]
  simp only [UInt8.toNat_ofNat']
  omega
theorem b4_inj (a b : Nat) (ha : a < 4294967296) (hb : b < 4294967296) (h : b4 a = b4 b) : a = b := by
  rw [← bek_b4 a ha [], ← bek_b4 b hb [], h]
theorem take_eight (l : List UInt8) : l.take 8 = l.take 4 ++ (l.drop 4).take 4 := by
  rw [← List.take_append_drop 4 (l.take 8), List.take_take, List.drop_take]
  rfl
def readF (l : List UInt8) : List UInt8 × Nat × Int :=
  if l.length < 8 then ([], 0, 10) else if bek l 4 = 0 then ([], 0, 11) else
  if (partM l 8 (bek l 4)).2.2 = 0 then (if b4 (crc (partM l 8 (bek l 4)).1).toNat = (l.drop 4).take 4 then partM l 8 (bek l 4) else ([], 0, 12)) else ([], 0, (partM l 8 (bek l 4)).2.2)
theorem readF_short (l : List UInt8) (h : l.length < 8) : readF l = ([], 0, 10) := by rw [readF, if_pos h]
theorem readF_nought (l : List UInt8) (h : ¬ l.length < 8) (h2 : bek l 4 = 0) : readF l = ([], 0, 11) := by rw [readF, if_neg h, if_pos h2]
theorem readF_part (l : List UInt8) (h : ¬ l.length < 8) (h2 : ¬ bek l 4 = 0) (h3 : ¬ (partM l 8 (bek l 4)).2.2 = 0) : readF l = ([], 0, (partM l 8 (bek l 4)).2.2) := by rw [readF, if_neg h, if_neg h2, if_neg h3]
theorem readF_sum (l : List UInt8) (h : ¬ l.length < 8) (h2 : ¬ bek l 4 = 0) (h3 : (partM l 8 (bek l 4)).2.2 = 0) (h4 : ¬ b4 (crc (partM l 8 (bek l 4)).1).toNat = (l.drop 4).take 4) : readF l = ([], 0, 12) := by rw [readF, if_neg h, if_neg h2, if_pos h3, if_neg h4]
theorem readF_ok (l : List UInt8) (h : ¬ l.length < 8) (h2 : ¬ bek l 4 = 0) (h3 : (partM l 8 (bek l 4)).2.2 = 0) (h4 : b4 (crc (partM l 8 (bek l 4)).1).toNat = (l.drop 4).take 4) : readF l = partM l 8 (bek l 4) := by rw [readF, if_neg h, if_neg h2, if_pos h3, if_pos h4]
theorem partM_fine (l : List UInt8) (k n : Nat) (h : (partM l k n).2.2 = 0) : ¬ 60000 < n ∧ ¬ l.length - k < n ∧ partM l k n = ((l.drop k).take n, k + n, 0) := by
  by_cases h1 : 60000 < n
  · rw [partM_big l k n h1] at h; simp at h
  by_cases h2 : l.length - k < n
  · rw [partM_short l k n h1 h2] at h; simp at h
  · exact ⟨h1, h2, partM_ok l k n h1 h2⟩
/-- A frame read again, whatever stands behind it. -/
theorem readF_frame (t r : List UInt8) (h : 0 < t.length) (h2 : t.length ≤ 60000) : readF (frameL t ++ r) = (t, t.length + 8, 0) := by
  have e : frameL t ++ r = b4 t.length ++ (b4 (crc t).toNat ++ (t ++ r)) := by simp [frameL]
  have hb : bek (frameL t ++ r) 4 = t.length := by rw [e]; exact bek_b4 _ (by omega) _
  have hl : (frameL t ++ r).length = t.length + 8 + r.length := by rw [List.length_append, frameL_length]
  have hd : (frameL t ++ r).drop 8 = t ++ r := by rw [e]; rfl
  have hd4 : ((frameL t ++ r).drop 4).take 4 = b4 (crc t).toNat := by rw [e]; rfl
  have hp : partM (frameL t ++ r) 8 t.length = (t, 8 + t.length, 0) := by
    rw [partM_ok _ _ _ (by omega) (by omega), hd, List.take_left]
  rw [readF_ok _ (by omega) (by omega) (by rw [hb, hp]) (by rw [hb, hp, hd4]), hb, hp, Nat.add_comm]
theorem readT_text (t r : List UInt8) (h : t.length ≤ 60000) : readT (uintL t.length ++ t ++ r) = (t, (uintL t.length).length + t.length, 0) := by
  have hu := readU_uintL t.length (by omega) (t ++ r)
  rw [← List.append_assoc] at hu
  rw [readT_ok _ (by rw [hu]), hu]
  simp only
  have hd : (uintL t.length ++ t ++ r).drop (uintL t.length).length = t ++ r := by rw [List.append_assoc, List.drop_left]
  rw [partM_ok _ _ _ (by omega) (by simp only [List.length_append]; omega), hd, List.take_left]
theorem partM_len (l : List UInt8) (k n : Nat) : (partM l k n).1.length ≤ 60000 := by
  unfold partM
  split
  · simp
  · split
    · simp
    · simp only [List.length_take]; omega
theorem readT_len (l : List UInt8) : (readT l).1.length ≤ 60000 := by
  unfold readT
  split
  · exact partM_len _ _ _
  · simp
theorem readF_len (l : List UInt8) : (readF l).1.length ≤ 60000 := by
  unfold readF
  split
  · simp
  · split
    · simp
    · split
      · split
        · exact partM_len _ _ _
        · simp
      · simp
theorem textM_len (l : List UInt8) : (textM l).1.length ≤ 60010 := by
  by_cases h : 60000 < l.length
  · rw [textM_bad l h]; simp
  · rw [textM_ok l h]
    have := uintL_ten l.length (by omega)
    simp only [List.length_append]; omega
theorem frameM_len (l : List UInt8) : (frameM l).1.length ≤ 60010 := by
  by_cases h : l.length = 0 ∨ 60000 < l.length
  · rw [frameM_bad l h]; simp
  · rw [frameM_ok l (by omega) (by omega)]
    simp only [frameL_length]; omega
theorem textM_back (l : List UInt8) (h : (textM l).2 = 0) (r : List UInt8) : readT ((textM l).1 ++ r) = (l, (textM l).1.length, 0) := by
  by_cases h1 : 60000 < l.length
  · rw [textM_bad l h1] at h; simp at h
  · rw [textM_ok l h1, readT_text l r (by omega)]; simp [List.length_append]
theorem frameM_back (l : List UInt8) (h : (frameM l).2 = 0) (r : List UInt8) : readF ((frameM l).1 ++ r) = (l, (frameM l).1.length, 0) := by
  by_cases h1 : l.length = 0 ∨ 60000 < l.length
  · rw [frameM_bad l h1] at h; simp at h
  · rw [frameM_ok l (by omega) (by omega), readF_frame l r (by omega) (by omega)]; simp [frameL_length]
theorem textM_err (l : List UInt8) : (textM l).2 = 0 ∨ (textM l).2 = 3 := by
  unfold textM; split <;> simp
theorem frameM_err (l : List UInt8) : (frameM l).2 = 0 ∨ (frameM l).2 = 3 := by
  unfold frameM; split <;> simp
end Go.Proofs.Ytonpnplcbcagfaa
