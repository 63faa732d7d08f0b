/- ring: a record's sectors tell the record; plain. No condition. -/
import Derived.Test.YtannkgglgmbkdaaDoorNPKnown
namespace Go.Proofs.YtannkgglgmbkdaaDoor
set_option linter.unusedVariables false
set_option linter.unusedSimpArgs false
open Go.RowKit

theorem getD_mid (a b : List UInt8) (x : UInt8) (o : Nat) (ho : a.length = o) : (a ++ [x] ++ b).getD o 0 = x := by
  subst ho
  rw [List.append_assoc, List.getD_eq_getElem?_getD, List.getElem?_append_right (Nat.le_refl _), Nat.sub_self]
  rfl
theorem recSec_facts (life seq : Int) (rec : List UInt8) (j : Nat) (hl : 0 ≤ life ∧ life < 281474976710656) :
    (recSec life seq rec j).getD 14 0 = (if rec.length ≤ 112 * (j + 1) then 1 else 0) ∧ (recSec life seq rec j).getD 15 0 = UInt8.ofNat (recPart rec j).length ∧ ((recSec life seq rec j).getD 15 0).toNat = (recPart rec j).length ∧
      subB (recSec life seq rec j) 16 (recPart rec j).length = recPart rec j ∧ getN (subB (recSec life seq rec j) 0 6) = life := by
  have hpl := recPart_len rec j
  have hp := recPre_len life seq rec j
  obtain ⟨x, hx⟩ : ∃ x : UInt8, x = (if rec.length ≤ 112 * (j + 1) then 1 else 0) := ⟨_, rfl⟩
  have hs : recSec life seq rec j = recPre life seq rec j ++ [x] ++ [UInt8.ofNat (recPart rec j).length] ++ recPart rec j ++ List.replicate (112 - (recPart rec j).length) 0 := by unfold recSec; rw [← hx]
  have hn : (UInt8.ofNat (recPart rec j).length).toNat = (recPart rec j).length := by rw [UInt8.toNat_ofNat']; omega
  have e15 : (recSec life seq rec j).getD 15 0 = UInt8.ofNat (recPart rec j).length := by
    rw [hs, show recPre life seq rec j ++ [x] ++ [UInt8.ofNat (recPart rec j).length] ++ recPart rec j ++ List.replicate (112 - (recPart rec j).length) 0 = (recPre life seq rec j ++ [x]) ++ [UInt8.ofNat (recPart rec j).length] ++ (recPart rec j ++ List.replicate (112 - (recPart rec j).length) 0) by simp only [List.append_assoc]]
    exact getD_mid _ _ _ 15 (by rw [List.length_append, hp]; rfl)
  refine ⟨?_, e15, by rw [e15, hn], ?_, ?_⟩
  · rw [← hx, hs, show recPre life seq rec j ++ [x] ++ [UInt8.ofNat (recPart rec j).length] ++ recPart rec j ++ List.replicate (112 - (recPart rec j).length) 0 = recPre life seq rec j ++ [x] ++ ([UInt8.ofNat (recPart rec j).length] ++ (recPart rec j ++ List.replicate (112 - (recPart rec j).length) 0)) by simp only [List.append_assoc]]
    exact getD_mid _ _ _ 14 hp
  · rw [hs]
    exact subB_mid _ _ _ 16 _ (by rw [List.length_append, List.length_append, hp]; rfl) rfl
  · have e : subB (recSec life seq rec j) 0 6 = putL 6 life := by
      rw [hs, recPre, show [] ++ putL 6 life ++ putL 6 seq ++ putL 2 (j : Int) ++ [x] ++ [UInt8.ofNat (recPart rec j).length] ++ recPart rec j ++ List.replicate (112 - (recPart rec j).length) 0 = [] ++ putL 6 life ++ (putL 6 seq ++ putL 2 (j : Int) ++ [x] ++ [UInt8.ofNat (recPart rec j).length] ++ recPart rec j ++ List.replicate (112 - (recPart rec j).length) 0) by simp only [List.append_assoc, List.nil_append]]
      exact subB_mid _ _ _ 0 6 rfl (putL_len _ _)
    rw [e, get_put 6 life hl.1 (by rw [p256]; exact hl.2)]
theorem want_recSec (life seq : Int) (rec : List UInt8) (j : Nat) (hl : 0 ≤ life ∧ life < 281474976710656) : wantB life seq j (recSec life seq rec j) = recSec life seq rec j := by
  obtain ⟨h14, h15, h15n, hsub, _⟩ := recSec_facts life seq rec j hl
  unfold wantB
  rw [h14, h15n, hsub, h15]
  have hx : ((if rec.length ≤ 112 * (j + 1) then 1 else 0 : UInt8) &&& 1) = (if rec.length ≤ 112 * (j + 1) then 1 else 0) := by split <;> rfl
  rw [hx]
  rfl
theorem recPart_step (rec : List UInt8) (j : Nat) : rec.take (112 * j) ++ recPart rec j = rec.take (112 * (j + 1)) := by
  unfold recPart
  rw [show 112 * (j + 1) = 112 * j + 112 by omega, List.take_add]
theorem recGo_fwd (life seq : Int) (rec : List UInt8) (rest : List Sec) (hl : 0 ≤ life ∧ life < 281474976710656) (h1 : 1 ≤ rec.length) (h2 : rec.length ≤ 60000) :
    ∀ (k j : Nat) (lf : Int), j + (k + 1) = recN rec.length → (j = 0 ∨ lf = life) → recGo seq j lf (rec.take (112 * j)) ((List.range' j (k + 1)).map (recSec life seq rec) ++ rest) = some (rec, life, recN rec.length) := by
  intro k
  induction k with
  | zero =>
    intro j lf hj hlf
    obtain ⟨h14, h15, h15n, hsub, hlife⟩ := recSec_facts life seq rec j hl
    have hpl := recPart_len rec j
    unfold recN at hj
    have hlfe : lifeOf j lf (recSec life seq rec j) = life := by
      unfold lifeOf
      rcases hlf with rfl | rfl
      · rw [if_pos rfl]; exact hlife
      · split
        · exact hlife
        · rfl
    have hbad : ¬ recBad (rec.take (112 * j)).length (recSec life seq rec j) := by
      unfold recBad
      rw [h15n, h14, List.length_take]
      rintro (h | h | h | ⟨h, h'⟩)
      · omega
      · omega
      · omega
      · rw [if_pos (by omega)] at h; exact h rfl
    show recGo seq j lf _ (recSec life seq rec j :: rest) = _
    rw [recGo_end hbad (by rw [hlfe]; exact want_recSec life seq rec j hl) (by rw [h14, if_pos (by omega)]), h15n, hsub, hlfe, recPart_step, List.take_of_length_le (by omega)]
    unfold recN
    rw [hj]
  | succ k ih =>
    intro j lf hj hlf
    obtain ⟨h14, h15, h15n, hsub, hlife⟩ := recSec_facts life seq rec j hl
    have hpl := recPart_len rec j
    have hj2 := hj
    unfold recN at hj2
    have hlfe : lifeOf j lf (recSec life seq rec j) = life := by
      unfold lifeOf
      rcases hlf with rfl | rfl
      · rw [if_pos rfl]; exact hlife
      · split
        · exact hlife
        · rfl
    have hbad : ¬ recBad (rec.take (112 * j)).length (recSec life seq rec j) := by
      unfold recBad
      rw [h15n, h14, List.length_take]
      rintro (h | h | h | ⟨h, h'⟩) <;> omega
    rw [List.range'_succ]
    show recGo seq j lf _ (recSec life seq rec j :: ((List.range' (j + 1) (k + 1)).map (recSec life seq rec) ++ rest)) = _
    rw [recGo_on hbad (by rw [hlfe]; exact want_recSec life seq rec j hl) (by rw [h14, if_neg (by omega)]; decide), h15n, hsub, hlfe, recPart_step]
    exact ih (j + 1) life (by omega) (.inr rfl)
/-- A record's sectors tell the record, whatever stands behind. -/
theorem recGo_recB (life seq : Int) (rec : List UInt8) (rest : List Sec) (hl : 0 ≤ life ∧ life < 281474976710656) (h1 : 1 ≤ rec.length) (h2 : rec.length ≤ 60000) :
    recGo seq 0 0 [] (recB life seq rec ++ rest) = some (rec, life, recN rec.length) := by
  obtain ⟨k, hk⟩ : ∃ k, recN rec.length = k + 1 := ⟨recN rec.length - 1, by unfold recN; omega⟩
  have := recGo_fwd life seq rec rest hl h1 h2 k 0 0 (by omega) (.inl rfl)
  rw [← hk, ← List.range_eq_range'] at this
  exact this
theorem recGo_zero (seq : Int) (i : Nat) (life : Int) (acc : List UInt8) (ss : List Sec) : recGo seq i life acc (zsec :: ss) = none :=
  recGo_no (.inl (.inl (by decide)))
end Go.Proofs.YtannkgglgmbkdaaDoor
