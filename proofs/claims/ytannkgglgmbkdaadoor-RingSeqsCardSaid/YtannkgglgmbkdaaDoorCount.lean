/- lapidaryref01.Count, for seats that have no more of wire. No condition. -/
import Derived.Test.YtannkgglgmbkdaaDoorProg
import Derived.Test.YtannkgglgmbkdaaDoorLap
namespace Go.Proofs.YtannkgglgmbkdaaDoor
set_option linter.unusedVariables false
set_option linter.unusedSimpArgs false
open Go.RowKit

def countZ (k n : Int) : Int := if n < 1 then 0 else if k.tmod n < 0 then k.tmod n + n else k.tmod n
theorem countZ_range (k n : Int) (h : 1 ≤ n) : 0 ≤ countZ k n ∧ countZ k n < n := by
  have h1 := Int.tmod_lt_of_pos k (show 0 < n by omega)
  have h2 := Int.tmod_lt_of_pos (-k) (show 0 < n by omega)
  rw [Int.neg_tmod] at h2
  unfold countZ
  rw [if_neg (by omega)]
  split <;> omega
theorem count_calls (k n : Int) (w : World) (hk : -9223372036854775808 ≤ k) (hk2 : k ≤ 9223372036854775807) (hn : -9223372036854775808 ≤ n) (hn2 : n ≤ 4611686018427387904) :
    Calls Tryd.prog 15 #[.int .i64 k, .int .i64 n] w fun e w' => e = .returned (.int .i64 (countZ k n)) ∧ w = w' := by
  by_cases h1 : n < 1
  · have H := Lib.hid (show countZ k n = 0 by unfold countZ; rw [if_pos h1])
    have e1 : decide (n < 1) = true := by simpa using h1
    go_enter Tryd.func15, Tryd.ntmps15
    go_wp2
    go_ret
    exact ⟨by rw [H.out]; rfl, rfl⟩
  have e1 : decide (n < 1) = false := by simpa using h1
  have g1 := Int.tmod_lt_of_pos k (show 0 < n by omega)
  have g2 := Int.tmod_lt_of_pos (-k) (show 0 < n by omega)
  rw [Int.neg_tmod] at g2
  by_cases h2 : k.tmod n < 0
  · have H := Lib.hid (show countZ k n = k.tmod n + n by unfold countZ; rw [if_neg h1, if_pos h2])
    have e2 : decide (k.tmod n < 0) = true := by simpa using h2
    have e3 : (n == 0) = false := by rw [beq_eq_false_iff_ne]; omega
    go_enter Tryd.func15, Tryd.ntmps15
    go_wp2
    go_ret
    exact ⟨by rw [H.out]; rfl, rfl⟩
  · have H := Lib.hid (show countZ k n = k.tmod n by unfold countZ; rw [if_neg h1, if_neg h2])
    have e2 : decide (k.tmod n < 0) = false := by simpa using h2
    have e3 : (n == 0) = false := by rw [beq_eq_false_iff_ne]; omega
    go_enter Tryd.func15, Tryd.ntmps15
    go_wp2
    go_ret
    exact ⟨by rw [H.out]; rfl, rfl⟩
end Go.Proofs.YtannkgglgmbkdaaDoor
