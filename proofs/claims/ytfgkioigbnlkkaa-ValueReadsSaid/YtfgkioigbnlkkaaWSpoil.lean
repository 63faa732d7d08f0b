/- lapidaryref01.Spoil. No condition. -/
import Derived.Test.YtfgkioigbnlkkaaWGrow
namespace Go.Proofs.Ytfgkioigbnlkkaa
set_option linter.unusedVariables false
set_option linter.unusedSimpArgs false
open Go.RowKit

/-- Spoil writes over the bytes of a row of its own; nothing else is touched. -/
theorem spoil_calls (A : Option Addr) (c n base : Nat) (xs : List Value) (w : World) (h : w.ownsRow base 5 1 (.slice A n c) n xs) (hn : n ≤ 211106232532992) :
    Calls Try.prog 14 #[.slice A n c] w fun e w' => e = .returned (.tuple #[]) ∧ Fr (fun b => A.map (·.block) = some b) w w' := by
  rcases h.2 with ⟨hv, rfl⟩ | ⟨g, cap, cur, hv, hb, hg, h1, h2, h3, h4⟩
  · injection hv with hA hc hc2
    subst hA hc2
    go_enter Try.func14, Try.ntmps14
    go_wp2
    go_loop [2] (fun i => i = .int .i64 0) (fun _ => 0)
    case atStart => rfl
    case round =>
      subst hrel
      go_wp2
      go_end0
      exact ⟨rfl, Fr.refl _ _⟩
  · injection hv with hA hc hc2
    subst hA hc2
    go_enter Try.func14, Try.ntmps14
    go_wp2
    go_loopw [2] (fun i wr => ∃ k : Nat, k ≤ n ∧ i = .int .i64 k ∧ (∃ cs : Array Value, cs.size = c ∧ Blk wr g 5 cs) ∧ Fr (fun b => g = b) w wr) (fun i _ => n - (intOf i).toNat)
    case atStart => exact ⟨0, by omega, rfl, ⟨cur, by omega, hg⟩, Fr.refl _ _⟩
    case round =>
      obtain ⟨k, hk, rfl, ⟨cs, hcs, hbl⟩, hf⟩ := hrel
      by_cases hlt : k < n
      · obtain ⟨v1, hv1⟩ : ∃ v, wr.cell? ⟨g, k, none⟩ = some v := ⟨_, (hbl.cell k).trans (Array.getElem?_eq_getElem (by omega))⟩
        have hf1 := hbl.frozen k
        have hg' := Lib.hid hg
        clear hg
        go_wp2
        go_roundw
        case rel => exact ⟨k + 1, by omega, by go_num, ⟨_, by simpa using hcs, hbl.put _ _⟩, hf.set (.inr rfl) _⟩
        case measure => simp [intOf] <;> omega
      · obtain rfl : k = n := by omega
        go_wp2
        go_end0
        exact ⟨rfl, hf.mono (fun b _ hb => by simpa using hb)⟩
end Go.Proofs.Ytfgkioigbnlkkaa
