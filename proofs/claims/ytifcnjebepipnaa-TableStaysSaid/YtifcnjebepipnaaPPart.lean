/- Texts behind how many bytes they are, plainly; no program in it. No condition. -/
import Derived.Test.YtifcnjebepipnaaPRead
namespace Go.Proofs.Ytifcnjebepipnaa
set_option linter.unusedVariables false
set_option linter.unusedSimpArgs false
open Go.RowKit

/-- n bytes behind k, where they are, and are not more than can be. -/
def partM (l : List UInt8) (k n : Nat) : List UInt8 × Nat × Int :=
  if 60000 < n then ([], 0, 3) else if l.length - k < n then ([], 0, 10) else ((l.drop k).take n, k + n, 0)
theorem partM_big (l : List UInt8) (k n : Nat) (h : 60000 < n) : partM l k n = ([], 0, 3) := by rw [partM, if_pos h]
theorem partM_short (l : List UInt8) (k n : Nat) (h : ¬ 60000 < n) (h2 : l.length - k < n) : partM l k n = ([], 0, 10) := by rw [partM, if_neg h, if_pos h2]
theorem partM_ok (l : List UInt8) (k n : Nat) (h : ¬ 60000 < n) (h2 : ¬ l.length - k < n) : partM l k n = ((l.drop k).take n, k + n, 0) := by rw [partM, if_neg h, if_neg h2]
def textM (l : List UInt8) : List UInt8 × Int := if 60000 < l.length then ([], 3) else (uintL l.length ++ l, 0)
theorem textM_bad (l : List UInt8) (h : 60000 < l.length) : textM l = ([], 3) := by rw [textM, if_pos h]
theorem textM_ok (l : List UInt8) (h : ¬ 60000 < l.length) : textM l = (uintL l.length ++ l, 0) := by rw [textM, if_neg h]
/-- What a text's bytes read as. -/
def readT (l : List UInt8) : List UInt8 × Nat × Int := if (readU l).2.2 = 0 then partM l (readU l).2.1 (readU l).1 else ([], 0, (readU l).2.2)
theorem readT_bad (l : List UInt8) (h : ¬ (readU l).2.2 = 0) : readT l = ([], 0, (readU l).2.2) := by rw [readT, if_neg h]
theorem readT_ok (l : List UInt8) (h : (readU l).2.2 = 0) : readT l = partM l (readU l).2.1 (readU l).1 := by rw [readT, if_pos h]
theorem partM_fine (l : List UInt8) (k n : Nat) (h : (partM l k n).2.2 = 0) : ¬ 60000 < n ∧ ¬ l.length - k < n ∧ partM l k n = ((l.drop k).take n, k + n, 0) := by
  by_cases h1 : 60000 < n
  · rw [partM_big l k n h1] at h; simp at h
  by_cases h2 : l.length - k < n
  · rw [partM_short l k n h1 h2] at h; simp at h
  · exact ⟨h1, h2, partM_ok l k n h1 h2⟩
theorem readT_text (t r : List UInt8) (h : t.length ≤ 60000) : readT (uintL t.length ++ t ++ r) = (t, (uintL t.length).length + t.length, 0) := by
  have hu := readU_uintL t.length (by omega) (t ++ r)
  rw [← List.append_assoc] at hu
  rw [readT_ok _ (by rw [hu]), hu]
  simp only
  have hd : (uintL t.length ++ t ++ r).drop (uintL t.length).length = t ++ r := by rw [List.append_assoc, List.drop_left]
  rw [partM_ok _ _ _ (by omega) (by simp only [List.length_append]; omega), hd, List.take_left]
theorem partM_len (l : List UInt8) (k n : Nat) : (partM l k n).1.length ≤ 60000 := by
  unfold partM
  split
  · simp
  · split
    · simp
    · simp only [List.length_take]; omega
theorem readT_len (l : List UInt8) : (readT l).1.length ≤ 60000 := by
  unfold readT
  split
  · exact partM_len _ _ _
  · simp
theorem textM_len (l : List UInt8) : (textM l).1.length ≤ 60010 := by
  by_cases h : 60000 < l.length
  · rw [textM_bad l h]; simp
  · rw [textM_ok l h]
    have := uintL_ten l.length (by omega)
    simp only [List.length_append]; omega
theorem textM_back (l : List UInt8) (h : (textM l).2 = 0) (r : List UInt8) : readT ((textM l).1 ++ r) = (l, (textM l).1.length, 0) := by
  by_cases h1 : 60000 < l.length
  · rw [textM_bad l h1] at h; simp at h
  · rw [textM_ok l h1, readT_text l r (by omega)]; simp [List.length_append]
theorem textM_err (l : List UInt8) : (textM l).2 = 0 ∨ (textM l).2 = 3 := by
  unfold textM; split <;> simp
end Go.Proofs.Ytifcnjebepipnaa
