/- The walk of lapidarylaw01.WireSum. No condition but that the bytes are not more than a slice can hold. -/
import Derived.Test.YtonpnplcbcagfaaWKnown
namespace Go.Proofs.Ytonpnplcbcagfaa
set_option linter.unusedVariables false
set_option linter.unusedSimpArgs false
open Go.RowKit


theorem law_WireSum (W : World) (a : Option Addr) (cap : Nat) (l : List UInt8) (h : RdB W (fun b => b < W.heap.size) a l) (hb : l.length ≤ 140737488351232) :
    Calls Try.prog 3 #[.slice a l.length cap] W fun e w' => e = .returned (.bool true) ∧ Fr No W w' := by
  go_enter Try.func3, Try.ntmps3
  go_wp2_with fail
  refine (lent_calls _ _ _ l _ h).mono ?_
  rintro e w1 ⟨g, rfl, _, hg, hf1⟩
  go_wp2_with fail
  refine (sum_calls _ _ _ l _ (hg.rd (by omega))).mono ?_
  rintro e _ ⟨rfl, rfl⟩
  go_wp2_with fail
  refine (refsum_calls _ _ _ l _ (Rd.fr0 h hf1)).mono ?_
  rintro e _ ⟨rfl, rfl⟩
  go_wp2_with fail
  refine (kept_calls _ _ g _ l _ hg (Rd.fr0 h hf1) (by omega)).mono ?_
  rintro e w2 ⟨rfl, hf2⟩
  go_wp2_with fail
  refine (known_calls _).mono ?_
  rintro e w3 ⟨rfl, hf3⟩
  go_wp2
  go_ret
  exact ⟨rfl, (hf1.tr hf2).tr hf3⟩
end Go.Proofs.Ytonpnplcbcagfaa
