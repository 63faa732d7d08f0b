/- ring: good, headOf. No condition. -/
import Derived.Test.YtannkgglgmbkdaaDoorNHead
namespace Go.Proofs.YtannkgglgmbkdaaDoor
set_option linter.unusedVariables false
set_option linter.unusedSimpArgs false
open Go.RowKit

def goodB (n : Int) : Bool := decide (1 ≤ n) && decide (n ≤ 1099511627776)
theorem good_calls (n : Int) (w : World) :
    Calls Tryd.prog 53 #[.int .i64 n] w fun e w' => e = .returned (.bool (goodB n)) ∧ w' = w := by
  unfold goodB
  by_cases h1 : 1 ≤ n
  · have e1 : decide (1 ≤ n) = true := by simpa using h1
    rw [e1, Bool.true_and]
    clear h1
    go_enter Tryd.func53, Tryd.ntmps53
    go_wp2
    go_ret
    exact ⟨rfl, rfl⟩
  · have e1 : decide (1 ≤ n) = false := by simpa using h1
    rw [e1, Bool.false_and]
    clear h1
    go_enter Tryd.func53, Tryd.ntmps53
    go_wp2
    go_ret
    exact ⟨rfl, rfl⟩
def sectorsM (n : Int) : Int := if n < 1 ∨ 60000 < n then 0 else (n - 1) / 112 + 1
theorem sectorsM_out {n : Int} (h : n < 1 ∨ 60000 < n) : sectorsM n = 0 := if_pos h
theorem sectorsM_in {n : Int} (h1 : 1 ≤ n) (h2 : n ≤ 60000) : sectorsM n = (n - 1) / 112 + 1 ∧ sectorsM n = (n + 111) / 112 := by
  unfold sectorsM
  rw [if_neg (by omega)]
  omega
theorem ret_int {a b : Int} (h : a = b) : Ending.returned (.int .i64 a) = .returned (.int .i64 b) := by rw [h]
theorem sectors_calls (n : Int) (w : World) :
    Calls Tryd.prog 9 #[.int .i64 n] w fun e w' => e = .returned (.int .i64 (sectorsM n)) ∧ w' = w := by
  by_cases h1 : n < 1
  · have e1 : decide (n < 1) = true := by simpa using h1
    have HS := Lib.hid (sectorsM_out (.inl h1))
    clear h1
    go_enter Tryd.func9, Tryd.ntmps9
    go_wp2
    go_ret
    exact ⟨ret_int HS.out.symm, rfl⟩
  · have e1 : decide (n < 1) = false := by simpa using h1
    by_cases h2 : 60000 < n
    · have e2 : decide (60000 < n) = true := by simpa using h2
      have HS := Lib.hid (sectorsM_out (.inr h2))
      clear h1 h2
      go_enter Tryd.func9, Tryd.ntmps9
      go_wp2
      go_ret
      exact ⟨ret_int HS.out.symm, rfl⟩
    · have e2 : decide (60000 < n) = false := by simpa using h2
      have HS := Lib.hid (sectorsM_in (n := n) (by omega) (by omega)).1
      go_enter Tryd.func9, Tryd.ntmps9
      go_wp2
      go_ret
      exact ⟨ret_int HS.out.symm, rfl⟩
theorem refsectors_calls (n : Int) (w : World) :
    Calls Tryd.prog 10 #[.int .i64 n] w fun e w' => e = .returned (.int .i64 (sectorsM n)) ∧ w' = w := by
  by_cases h1 : n < 1
  · have e1 : decide (n < 1) = true := by simpa using h1
    have HS := Lib.hid (sectorsM_out (.inl h1))
    clear h1
    go_enter Tryd.func10, Tryd.ntmps10
    go_wp2
    go_ret
    exact ⟨ret_int HS.out.symm, rfl⟩
  · have e1 : decide (n < 1) = false := by simpa using h1
    by_cases h2 : 60000 < n
    · have e2 : decide (60000 < n) = true := by simpa using h2
      have HS := Lib.hid (sectorsM_out (.inr h2))
      clear h1 h2
      go_enter Tryd.func10, Tryd.ntmps10
      go_wp2
      go_ret
      exact ⟨ret_int HS.out.symm, rfl⟩
    · have e2 : decide (60000 < n) = false := by simpa using h2
      have HS := Lib.hid (sectorsM_in (n := n) (by omega) (by omega)).2
      go_enter Tryd.func10, Tryd.ntmps10
      go_wp2
      go_ret
      exact ⟨ret_int HS.out.symm, rfl⟩
theorem half_calls (w : World) (X : Nat → Prop) (H : Nat) (d : DiskM) (h : DiskAt w X H d) (h2 : 2 ≤ d.now.length) (h3 : d.now.length ≤ 4096) :
    Calls Tryd.prog 35 #[.pointer (some ⟨H, 0, none⟩)] w fun e w' => e = .returned (.int .i64 ((d.now.length - 2) / 2 : Nat)) ∧ w' = w := by
  have HE := Lib.hid (show (((d.now.length - 2) / 2 : Nat) : Int) = ((d.now.length : Int) - 2) / 2 by omega)
  have hsz := size_calls w X H d h
  generalize d.now.length = n at *
  go_enter Tryd.func35, Tryd.ntmps35
  go_wp2_with fail
  refine hsz.mono ?_
  rintro e w2 ⟨rfl, hw2⟩
  subst hw2
  go_wp2_with fail
  go_ret
  exact ⟨ret_int HE.out.symm, rfl⟩
theorem start_calls (w : World) (X : Nat → Prop) (H : Nat) (d : DiskM) (half : Nat) (h : DiskAt w X H d) (h2 : 2 ≤ d.now.length) (h3 : d.now.length ≤ 4096) (hh : half ≤ 1) :
    Calls Tryd.prog 34 #[.pointer (some ⟨H, 0, none⟩), .int .i64 (half : Int)] w fun e w' => e = .returned (.int .i64 (2 + half * ((d.now.length - 2) / 2) : Nat)) ∧ w' = w := by
  have hsz := half_calls w X H d h h2 h3
  have hb : (d.now.length - 2) / 2 ≤ 4096 := by omega
  generalize (d.now.length - 2) / 2 = n at *
  obtain ⟨m, hm⟩ : ∃ m, m = half * n := ⟨_, rfl⟩
  have hm2 : (half : Int) * (n : Int) = (m : Int) := by rw [hm]; exact (Int.natCast_mul half n).symm
  have hm3 : m ≤ 4096 := by
    rw [hm]
    have : half * n ≤ 1 * n := Nat.mul_le_mul_right n hh
    omega
  have HE := Lib.hid (show ((2 + half * n : Nat) : Int) = 2 + (half : Int) * n by rw [hm2, ← hm]; omega)
  have HM := Lib.hid hm2
  clear hm hm2
  have r1 : -9223372036854775808 ≤ (half : Int) * n := by rw [HM.out]; omega
  have r2 : (half : Int) * n ≤ 9223372036854775807 := by rw [HM.out]; omega
  have r3 : -9223372036854775808 ≤ 2 + (half : Int) * n := by rw [HM.out]; omega
  have r4 : 2 + (half : Int) * n ≤ 9223372036854775807 := by rw [HM.out]; omega
  go_enter Tryd.func34, Tryd.ntmps34
  go_wp2_with fail
  refine hsz.mono ?_
  rintro e w2 ⟨rfl, hw2⟩
  have hw2 := hw2.symm
  subst hw2
  go_wp2_with fail
  go_ret
  exact ⟨ret_int HE.out.symm, rfl⟩
theorem wrong_calls (w : World) (X : Nat → Prop) (H : Nat) (d : DiskM) (h : DiskAt w X H d) :
    Calls Tryd.prog 28 #[.pointer (some ⟨H, 0, none⟩)] w fun e w' => e = .returned (.int .i64 (if d.now.length < 4 then 3 else 0)) ∧ w' = w := by
  have hsz := size_calls w X H d h
  generalize d.now.length = n at *
  by_cases h4 : n < 4
  · have e4 : decide ((n : Int) < 4) = true := by simp; omega
    rw [if_pos h4]
    go_enter Tryd.func28, Tryd.ntmps28
    go_wp2_with fail
    refine hsz.mono ?_
    rintro e w2 ⟨rfl, hw2⟩
    subst hw2
    go_wp2_with fail
    go_ret
    exact ⟨rfl, rfl⟩
  · have e4 : decide ((n : Int) < 4) = false := by simp; omega
    rw [if_neg h4]
    go_enter Tryd.func28, Tryd.ntmps28
    go_wp2_with fail
    refine hsz.mono ?_
    rintro e w2 ⟨rfl, hw2⟩
    subst hw2
    go_wp2_with fail
    go_ret
    exact ⟨rfl, rfl⟩
end Go.Proofs.YtannkgglgmbkdaaDoor
