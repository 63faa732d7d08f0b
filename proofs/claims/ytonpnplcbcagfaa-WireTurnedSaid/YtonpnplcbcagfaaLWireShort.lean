/- The walks of lapidarylaw01.WireShort and WireFold. No condition. -/
import Derived.Test.YtonpnplcbcagfaaLWireSum
namespace Go.Proofs.Ytonpnplcbcagfaa
set_option linter.unusedVariables false
set_option linter.unusedSimpArgs false
open Go.RowKit

theorem u64_of_wf {a : Int} (h : (Lit.int .u64 a).wf = true) : 0 ≤ a ∧ a ≤ 18446744073709551615 := by
  simpa [Lit.wf, IntKind.min, IntKind.max, IntKind.signed, IntKind.bits] using h
theorem i64_of_wf {a : Int} (h : (Lit.int .i64 a).wf = true) : -9223372036854775808 ≤ a ∧ a ≤ 9223372036854775807 := by
  simpa [Lit.wf, IntKind.min, IntKind.max, IntKind.signed, IntKind.bits] using h

set_option maxRecDepth 100000 in
theorem law_WireShort (W : World) (a : Int) (ha : (Lit.int .u64 a).wf = true) (b : Int) (hb : (Lit.int .u64 b).wf = true) :
    Calls Try.prog 4 #[.int .u64 a, .int .u64 b] W fun e w' => e = .returned (.bool true) ∧ Fr No W w' := by
  obtain ⟨ha0, ha1⟩ := u64_of_wf ha
  obtain ⟨hb0, hb1⟩ := u64_of_wf hb
  obtain ⟨n, rfl⟩ := Int.eq_ofNat_of_zero_le ha0
  obtain ⟨m, rfl⟩ := Int.eq_ofNat_of_zero_le hb0
  have hn := uintL_ten n (by omega)
  have hm := uintL_mono 9 n m
  have HM : n ≤ m → (uintL n).length ≤ (uintL m).length := fun h => hm h (by omega)
  clear hm
  go_enter Try.func4, Try.ntmps4
  go_wp2_with fail
  refine (uint_calls n _ (by omega)).mono ?_
  rintro e w1 ⟨v1, rfl, hown1, hf1⟩
  obtain ⟨A1, c1, rfl, _, _, _⟩ := own_form hown1
  go_wp2_with fail
  refine (uint_calls m _ (by omega)).mono ?_
  rintro e w2 ⟨v2, rfl, hown2, hf2⟩
  obtain ⟨A2, c2, rfl, _, _, _⟩ := own_form hown2
  by_cases hnm : m < n
  · go_wp2_with (go_at_call 14; refine (known_calls _).mono ?_; rintro e w3 ⟨rfl, hf3⟩)
    go_ret
    exact ⟨rfl, (hf1.tr hf2).tr hf3⟩
  · have hle := HM (by omega)
    clear HM
    go_wp2_with (go_at_call 14; refine (known_calls _).mono ?_; rintro e w3 ⟨rfl, hf3⟩)
    go_ret
    exact ⟨rfl, (hf1.tr hf2).tr hf3⟩
end Go.Proofs.Ytonpnplcbcagfaa
