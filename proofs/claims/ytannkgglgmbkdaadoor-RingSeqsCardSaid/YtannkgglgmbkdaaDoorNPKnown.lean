/- ring: plain facts: a head's sector tells the head; what known does. No condition. -/
import Derived.Test.YtannkgglgmbkdaaDoorNApp
namespace Go.Proofs.YtannkgglgmbkdaaDoor
set_option linter.unusedVariables false
set_option linter.unusedSimpArgs false
open Go.RowKit

theorem subB_mid (a b c : List UInt8) (o n : Nat) (ho : a.length = o) (hn : b.length = n) : subB (a ++ b ++ c) o n = b := by
  unfold subB
  subst ho hn
  rw [List.append_assoc, List.drop_left, List.take_left]
/-- A head that can stand on a device. -/
def HeadIn (h : HeadM) : Prop := (1 ≤ h.life ∧ h.life ≤ 1099511627776) ∧ (h.half = 0 ∨ h.half = 1) ∧ (1 ≤ h.first ∧ h.first ≤ 1099511627776) ∧ (1 ≤ h.since ∧ h.since ≤ 1099511627776)
theorem p256 : ((256 ^ 6 : Nat) : Int) = 281474976710656 := by decide
theorem getH_headB (h : HeadM) (hh : HeadIn h) : getH (headB h) = h := by
  obtain ⟨h1, h2, h3, h4⟩ := hh
  have hT : headB h = headS h ++ (putL 4 ((crc (headS h)).toNat : Int) ++ List.replicate 97 0) := by rw [headB, List.append_assoc]
  generalize putL 4 ((crc (headS h)).toNat : Int) ++ List.replicate 97 0 = T at hT
  have e1 : subB (headB h) 8 6 = putL 6 h.life := by
    rw [hT, headS, show [76, 65, 80, 73, 68, 65, 82, 89] ++ putL 6 h.life ++ [UInt8.ofNat (h.half % 256).toNat] ++ putL 6 h.first ++ putL 6 h.since ++ T = [76, 65, 80, 73, 68, 65, 82, 89] ++ putL 6 h.life ++ ([UInt8.ofNat (h.half % 256).toNat] ++ putL 6 h.first ++ putL 6 h.since ++ T) by simp only [List.append_assoc]]
    exact subB_mid _ _ _ 8 6 rfl (putL_len _ _)
  have e2 : (headB h).getD 14 0 = UInt8.ofNat (h.half % 256).toNat := by
    rw [hT, headS, show [76, 65, 80, 73, 68, 65, 82, 89] ++ putL 6 h.life ++ [UInt8.ofNat (h.half % 256).toNat] ++ putL 6 h.first ++ putL 6 h.since ++ T = ([76, 65, 80, 73, 68, 65, 82, 89] ++ putL 6 h.life) ++ ([UInt8.ofNat (h.half % 256).toNat] ++ (putL 6 h.first ++ putL 6 h.since ++ T)) by simp only [List.append_assoc]]
    rw [List.getD_eq_getElem?_getD, List.getElem?_append_right (by simp [putL_len]), show 14 - ([76, 65, 80, 73, 68, 65, 82, 89] ++ putL 6 h.life : List UInt8).length = 0 by simp [putL_len]]
    rfl
  have e3 : subB (headB h) 15 6 = putL 6 h.first := by
    rw [hT, headS, show [76, 65, 80, 73, 68, 65, 82, 89] ++ putL 6 h.life ++ [UInt8.ofNat (h.half % 256).toNat] ++ putL 6 h.first ++ putL 6 h.since ++ T = ([76, 65, 80, 73, 68, 65, 82, 89] ++ putL 6 h.life ++ [UInt8.ofNat (h.half % 256).toNat]) ++ putL 6 h.first ++ (putL 6 h.since ++ T) by simp only [List.append_assoc]]
    exact subB_mid _ _ _ 15 6 (by simp [putL_len]) (putL_len _ _)
  have e4 : subB (headB h) 21 6 = putL 6 h.since := by
    rw [hT, headS]
    exact subB_mid _ _ _ 21 6 (by simp [putL_len]) (putL_len _ _)
  unfold getH
  rw [e1, e2, e3, e4, get_put 6 h.life (by omega) (by rw [p256]; omega), get_put 6 h.first (by omega) (by rw [p256]; omega), get_put 6 h.since (by omega) (by rw [p256]; omega)]
  obtain ⟨life, half, first, since⟩ := h
  simp only at h2 ⊢
  rcases h2 with rfl | rfl <;> rfl
theorem headOk_headB (h : HeadM) (hh : HeadIn h) : headOk (headB h) = true := by
  unfold headOk
  rw [getH_headB h hh]
  obtain ⟨h1, h2, h3, h4⟩ := hh
  have a1 : goodB h.life = true := by unfold goodB; simp; omega
  have a3 : goodB h.first = true := by unfold goodB; simp; omega
  have a4 : goodB h.since = true := by unfold goodB; simp; omega
  have a2 : decide (h.half ≤ 1) = true := by simp; omega
  rw [a1, a2, a3, a4]
  simp
theorem headOk_zsec : headOk zsec = false := by decide +kernel
def kSec : Sec := recSec 2 1 [97] 0
theorem kRec : recB 2 1 [97] = [kSec] := rfl
theorem kSec_len : kSec.length = 128 := recSec_len _ _ _ _
theorem kGo1 : openGo 1 5 1 1 0 [] [zsec, zsec, zsec, zsec] = ([], 1, 0) := by decide +kernel
theorem kGo2 : openGo 2 5 1 1 0 [] [kSec, zsec, zsec, zsec] = ([[97]], 2, 1) := by decide +kernel
def kH (n : Int) : HeadM := ⟨n, 0, 1, 1⟩
theorem kH_in {n : Int} (h : 1 ≤ n ∧ n ≤ 3) : HeadIn (kH n) := ⟨⟨by show 1 ≤ n; omega, by show n ≤ 1099511627776; omega⟩, .inl rfl, ⟨Int.le_refl 1, (by decide : (1 : Int) ≤ 1099511627776)⟩, ⟨Int.le_refl 1, (by decide : (1 : Int) ≤ 1099511627776)⟩⟩
def kNow (a b c : Sec) : List Sec := [a, b, c, zsec, zsec, zsec, zsec, zsec, zsec, zsec]
def kD (a b c : Sec) : DiskM := ⟨kNow a b c, kNow a b c, [], false, 0⟩
theorem kF : formatM (zeroM 10) = (kD zsec (headB (kH 1)) zsec, true) := by
  unfold formatM
  show safelyM (zeroM 10) 0 [zsec, headB (kH 1)] = _
  generalize headB (kH 1) = x
  rfl
theorem kN1 : newestM zsec (headB (kH 1)) = (kH 1, true) := by
  unfold newestM
  rw [if_pos ⟨headOk_headB _ (kH_in (by decide)), .inl headOk_zsec⟩, getH_headB _ (kH_in (by decide))]
theorem kL1 : layM (kD zsec (headB (kH 1)) zsec) (kH 2) = (kD (headB (kH 2)) (headB (kH 1)) zsec, true) := by
  unfold layM
  show safelyM (kD zsec (headB (kH 1)) zsec) 0 [headB (kH 2)] = _
  generalize headB (kH 1) = x
  generalize headB (kH 2) = y
  rfl
theorem kA : safelyM (kD (headB (kH 2)) (headB (kH 1)) zsec) 2 [kSec] = (kD (headB (kH 2)) (headB (kH 1)) kSec, true) := by
  generalize headB (kH 1) = x
  generalize headB (kH 2) = y
  generalize kSec = z
  rfl
theorem kC (a b c : Sec) : crashM (kD a b c) [] = kD a b c := rfl
theorem kN2 : newestM (headB (kH 2)) (headB (kH 1)) = (kH 2, true) := by
  unfold newestM
  rw [if_neg ?_, getH_headB _ (kH_in (by decide)), headOk_headB _ (kH_in (by decide))]
  rintro ⟨_, h | h⟩
  · rw [headOk_headB _ (kH_in (by decide))] at h; cases h
  · rw [getH_headB _ (kH_in (by decide)), getH_headB _ (kH_in (by decide))] at h
    exact absurd h (by decide)
theorem kL2 : layM (kD (headB (kH 2)) (headB (kH 1)) kSec) (kH 3) = (kD (headB (kH 2)) (headB (kH 3)) kSec, true) := by
  unfold layM
  show safelyM (kD (headB (kH 2)) (headB (kH 1)) kSec) 1 [headB (kH 3)] = _
  generalize headB (kH 1) = x
  generalize headB (kH 2) = y
  generalize headB (kH 3) = u
  generalize kSec = z
  rfl
end Go.Proofs.YtannkgglgmbkdaaDoor
