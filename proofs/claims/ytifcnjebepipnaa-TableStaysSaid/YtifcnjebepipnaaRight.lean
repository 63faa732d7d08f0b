/- Which values and which objects can be kept: value's, and the reference's. No condition. -/
import Derived.Test.YtifcnjebepipnaaODef
namespace Go.Proofs.Ytifcnjebepipnaa
set_option linter.unusedVariables false
set_option linter.unusedSimpArgs false
open Go.RowKit

theorem ret_bool {a b : Bool} (h : a = b) : Ending.returned (.bool a) = .returned (.bool b) := by rw [h]
theorem oop_calls (n : Int) (w : World) : Calls Try.prog 37 #[.int .i64 n] w fun e w' => e = .returned (.bool (oopB n)) ∧ w = w' := by
  unfold oopB
  by_cases h1 : 1 ≤ n
  · have e1 : decide (1 ≤ n) = true := by simpa using h1
    by_cases h2 : n ≤ 4096
    · have e2 : decide (n ≤ 4096) = true := by simpa using h2
      rw [e1, e2]
      clear h1 h2
      go_enter Try.func37, Try.ntmps37
      go_wp2
      go_ret
      exact ⟨rfl, rfl⟩
    · have e2 : decide (n ≤ 4096) = false := by simpa using h2
      rw [e1, e2]
      clear h1 h2
      go_enter Try.func37, Try.ntmps37
      go_wp2
      go_ret
      exact ⟨rfl, rfl⟩
  · have e1 : decide (1 ≤ n) = false := by simpa using h1
    rw [e1, Bool.false_and]
    clear h1
    go_enter Try.func37, Try.ntmps37
    go_wp2
    go_ret
    exact ⟨rfl, rfl⟩
theorem rightV_small (k n : Int) (h : k = 0 ∨ k = 1 ∨ k = 2) : rightV ⟨k, n⟩ = (n == 0) := by unfold rightV; simp only; rw [if_pos h]
theorem rightV_int (n : Int) : rightV ⟨3, n⟩ = (decide (-1152921504606846976 ≤ n) && decide (n < 1152921504606846976)) := by unfold rightV; simp only; rw [if_neg (by decide), if_pos trivial]
theorem rightV_ref (n : Int) : rightV ⟨4, n⟩ = oopB n := by unfold rightV; simp only; rw [if_neg (by decide), if_neg (by decide), if_pos trivial]
theorem rightV_no (k n : Int) (h : ¬ k = 0) (h1 : ¬ k = 1) (h2 : ¬ k = 2) (h3 : ¬ k = 3) (h4 : ¬ k = 4) : rightV ⟨k, n⟩ = false := by unfold rightV; simp only; rw [if_neg (by omega), if_neg h3, if_neg h4]

set_option maxHeartbeats 1000000 in
set_option maxRecDepth 100000 in
theorem right_calls (v : VL) (w : World) :
    Calls Try.prog 64 #[.agg #[.int .i64 v.k, .int .i64 v.n]] w fun e w' => e = .returned (.bool (rightV v)) ∧ Fr No w w' := by
  obtain ⟨k, n⟩ := v
  simp only
  have hf : Fr No w (w.alloc (.cells #[.int .i64 k, .int .i64 n] 75)) := (Fr.refl No w).alloc _
  by_cases h0 : k = 0
  · subst h0
    have H := Lib.hid (rightV_small 0 n (.inl rfl))
    go_enter Try.func64, Try.ntmps64
    go_wp2
    go_ret
    exact ⟨ret_bool H.out.symm, hf⟩
  by_cases h1 : k = 1
  · subst h1
    have H := Lib.hid (rightV_small 1 n (.inr (.inl rfl)))
    go_enter Try.func64, Try.ntmps64
    go_wp2
    go_ret
    exact ⟨ret_bool H.out.symm, hf⟩
  by_cases h2 : k = 2
  · subst h2
    have H := Lib.hid (rightV_small 2 n (.inr (.inr rfl)))
    go_enter Try.func64, Try.ntmps64
    go_wp2
    go_ret
    exact ⟨ret_bool H.out.symm, hf⟩
  by_cases h3 : k = 3
  · subst h3
    have H := Lib.hid (rightV_int n)
    by_cases ha : -1152921504606846976 ≤ n
    · have e1 : decide (-1152921504606846976 ≤ n) = true := by simpa using ha
      rcases Decidable.em (n < 1152921504606846976) with hb | hb
      · have e3 : decide (n < 1152921504606846976) = true := by simpa using hb
        rw [e1, e3] at H
        clear ha hb
        go_enter Try.func64, Try.ntmps64
        go_wp2
        go_ret
        exact ⟨ret_bool H.out.symm, hf⟩
      · have e3 : decide (n < 1152921504606846976) = false := by simpa using hb
        rw [e1, e3] at H
        clear ha hb
        go_enter Try.func64, Try.ntmps64
        go_wp2
        go_ret
        exact ⟨ret_bool H.out.symm, hf⟩
    · have e1 : decide (-1152921504606846976 ≤ n) = false := by simpa using ha
      rw [e1, Bool.false_and] at H
      clear ha
      go_enter Try.func64, Try.ntmps64
      go_wp2
      go_ret
      exact ⟨ret_bool H.out.symm, hf⟩
  by_cases h4 : k = 4
  · subst h4
    have H := Lib.hid (rightV_ref n)
    go_enter Try.func64, Try.ntmps64
    go_wp2_with fail
    refine (oop_calls n _).mono ?_
    rintro e w2 ⟨rfl, rfl⟩
    go_wp2
    go_ret
    exact ⟨ret_bool H.out.symm, hf⟩
  have H := Lib.hid (rightV_no k n h0 h1 h2 h3 h4)
  have e0 : (k == 0) = false := by simpa using h0
  have e1 : (k == 1) = false := by simpa using h1
  have e2 : (k == 2) = false := by simpa using h2
  have e3 : (k == 3) = false := by simpa using h3
  have e4 : (k == 4) = false := by simpa using h4
  clear h0 h1 h2 h3 h4
  go_enter Try.func64, Try.ntmps64
  go_wp2
  go_ret
  exact ⟨ret_bool H.out.symm, hf⟩

end Go.Proofs.Ytifcnjebepipnaa
