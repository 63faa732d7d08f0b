/- The walk of lapidarylaw01.WireFold. No condition. -/
import Derived.Test.YtonpnplcbcagfaaLWireShort
namespace Go.Proofs.Ytonpnplcbcagfaa
set_option linter.unusedVariables false
set_option linter.unusedSimpArgs false
open Go.RowKit

theorem foldZ_range (n : Int) (h0 : -9223372036854775808 ≤ n) (h1 : n ≤ 9223372036854775807) : 0 ≤ foldZ n ∧ foldZ n ≤ 18446744073709551615 := by unfold foldZ; split <;> omega
theorem unfoldZ_range (m : Int) (h0 : 0 ≤ m) (h1 : m ≤ 18446744073709551615) : -9223372036854775808 ≤ unfoldZ m ∧ unfoldZ m ≤ 9223372036854775807 := by unfold unfoldZ; split <;> omega
set_option maxRecDepth 100000 in
theorem law_WireFold (W : World) (n : Int) (hn : (Lit.int .i64 n).wf = true) (m : Int) (hm : (Lit.int .u64 m).wf = true) :
    Calls Try.prog 5 #[.int .i64 n, .int .u64 m] W fun e w' => e = .returned (.bool true) ∧ Fr No W w' := by
  obtain ⟨hn0, hn1⟩ := i64_of_wf hn
  obtain ⟨hm0, hm1⟩ := u64_of_wf hm
  obtain ⟨f0, f1⟩ := foldZ_range n hn0 hn1
  obtain ⟨u0, u1⟩ := unfoldZ_range m hm0 hm1
  have H1 := Lib.hid (unfoldZ_fold n)
  have H2 := Lib.hid (foldZ_unfold m hm0)
  go_enter Try.func5, Try.ntmps5
  go_wp2_with fail
  refine (fold_calls n _ hn0 hn1).mono ?_
  rintro e _ ⟨rfl, rfl⟩
  go_wp2_with fail
  refine (reffold_calls n _ hn0 hn1).mono ?_
  rintro e _ ⟨rfl, rfl⟩
  go_wp2_with fail
  refine (unfold_calls m _ hm0 hm1).mono ?_
  rintro e _ ⟨rfl, rfl⟩
  go_wp2_with fail
  refine (refunfold_calls m _ hm0 hm1).mono ?_
  rintro e _ ⟨rfl, rfl⟩
  go_wp2_with fail
  refine (fold_calls n _ hn0 hn1).mono ?_
  rintro e _ ⟨rfl, rfl⟩
  go_wp2_with fail
  refine (unfold_calls (foldZ n) _ f0 f1).mono ?_
  rintro e _ ⟨rfl, rfl⟩
  rw [H1.out]
  go_wp2_with fail
  refine (unfold_calls m _ hm0 hm1).mono ?_
  rintro e _ ⟨rfl, rfl⟩
  go_wp2_with fail
  refine (fold_calls (unfoldZ m) _ u0 u1).mono ?_
  rintro e _ ⟨rfl, rfl⟩
  rw [H2.out]
  go_wp2_with fail
  refine (known_calls _).mono ?_
  rintro e w3 ⟨rfl, hf3⟩
  go_wp2
  go_ret
  exact ⟨rfl, hf3⟩
end Go.Proofs.Ytonpnplcbcagfaa
