/- lapidarylaw11.same of two lists of numbers, in full. No condition. -/
import Derived.Test.YtifcnjebepipnaaInts
import Derived.Test.YtifcnjebepipnaaODef
import Derived.Test.YtifcnjebepipnaaMem
import Derived.Test.YtifcnjebepipnaaReg
import Derived.Deep.LoopGhost
namespace Go.Proofs.Ytifcnjebepipnaa
set_option linter.unusedVariables false
set_option linter.unusedSimpArgs false
open Go.RowKit

theorem take_eq_succ {a b : List Int} {k : Nat} (h : a.take k = b.take k) (h1 : k < a.length) (h2 : k < b.length) (e : a[k] = b[k]) : a.take (k + 1) = b.take (k + 1) := by
  rw [← List.take_append_getElem h1, ← List.take_append_getElem h2, h, e]
set_option maxHeartbeats 1000000 in
theorem isame_calls (S T : Nat → Prop) (A D : Option Addr) (c d : Nat) (a b : List Int) (w : World) (h : RdI w S A a) (h2 : RdI w T D b) :
    Calls Try.prog 15 #[.slice A a.length c, .slice D b.length d] w fun e w' => e = .returned (.bool (decide (a = b))) ∧ Fr No w w' := by
  have hle := h.le
  have hle2 := h2.le
  have g1 := plain_i64
  by_cases hab : a.length = b.length
  · have HAB := Lib.hid hab
    have el : ((b.length : Int) == b.length) = true := by simp
    go_enter Try.func15, Try.ntmps15
    rw [hab]
    rw [hab] at hle
    clear hab
    go_wp2
    go_loopw [5] (fun i wr => ∃ k : Nat, k ≤ b.length ∧ i = .int .i64 (k : Int) ∧ Hid (a.take k = b.take k) ∧ Fr No w wr) (fun i _ => b.length - (intOf i).toNat)
    case atStart => exact ⟨0, by omega, rfl, Lib.hid (by simp), Fr.refl _ _⟩
    case round =>
      obtain ⟨k, hk, rfl, HK, hf⟩ := hrel
      by_cases hlt : k < b.length
      · have ek : decide ((k : Int) < b.length) = true := by simpa using (by omega : (k : Int) < b.length)
        have hka : k < a.length := by have := HAB.out; omega
        obtain ⟨ad, rfl, _, hc1⟩ := (h.fr0 hf).at_ hka
        obtain ⟨ae, rfl, _, hc2⟩ := (h2.fr0 hf).at_ hlt
        have HS := Lib.hid (take_eq_succ HK.out hka hlt)
        have HN := Lib.hid (show ¬ a[k] = b[k] → decide (a = b) = false from fun hne => by
          simp only [decide_eq_false_iff_not]
          rintro rfl
          exact hne rfl)
        generalize a[k] = x at *
        generalize b[k] = y at *
        go_wp2_with fail
        (refine T_begin No [0, 1, 2, 3, 4, 5, 6, 7, 8] [] (by kernel_rfl) (by kernel_rfl) ?_; simp only [pickOps, List.filterMap_cons, List.filterMap_nil, List.getElem?_cons_zero, List.getElem?_cons_succ, Act.put])
        repeat (first | (refine T_skip (by rfl) (by rfl) (fun _ _ _ h => h) ?_; try simp only [Act.put, List.setIfInBounds_toArray, List.set_cons_zero, List.set_cons_succ]) | (refine T_pass (by rfl) (by rfl) ?_; try simp only [Act.put, List.setIfInBounds_toArray, List.set_cons_zero, List.set_cons_succ]) | (refine T_load (by assumption) (by rfl) (by rfl) (fun _ _ _ _ h => h) rfl rfl (by assumption) (by first | exact (fun hn => hn) | assumption) ?_; try simp only [Act.put, List.setIfInBounds_toArray, List.set_cons_zero, List.set_cons_succ]) | (refine T_nil (by rfl) (by rfl) (fun _ _ _ _ h => h) rfl rfl ?_; try simp only [Act.put, List.setIfInBounds_toArray, List.set_cons_zero, List.set_cons_succ]) | (refine T_quietN (by rfl) (by rfl) (by rfl) (by rfl) (fun _ _ _ _ h => h) (fun K hK => ?_); go_big_quiet_op; refine hK _ ?_; clear hK K) | (refine T_two (by rfl) (by rfl) (by rfl) (by rfl) (fun _ _ _ _ h => h) (fun K hK => ?_); go_big_quiet_op; refine ⟨_, fun _ _ => rfl, ?_⟩; refine hK _ ?_; clear hK K; try simp only [Act.put, List.setIfInBounds_toArray, List.set_cons_zero, List.set_cons_succ]) | fail)
        refine T_done ?_
        by_cases hxy : x = y
        · have HS' := Lib.hid (HS.out hxy)
          subst hxy
          go_wp2
          go_roundw
          case rel => exact ⟨k + 1, by omega, by go_num, HS', hf.drew⟩
          case measure => simp [intOf]; omega
        · have e1 : (x == y) = false := by simpa using hxy
          have HN' := Lib.hid (HN.out hxy)
          clear hxy
          go_wp2
          go_ret
          exact ⟨by rw [HN'.out]; rfl, hf.drew⟩
      · obtain rfl : k = b.length := by omega
        have ek : decide ((b.length : Int) < b.length) = false := by simp
        have HE : Hid (decide (a = b) = true) := Lib.hid (by
          have := HK.out
          rw [List.take_length, ← HAB.out, List.take_length] at this
          simpa using this)
        go_wp2
        go_ret
        exact ⟨by rw [HE.out]; rfl, hf⟩
  · have el : ((a.length : Int) == (b.length : Int)) = false := by simp; omega
    have HE : Hid (decide (a = b) = false) := Lib.hid (by simp only [decide_eq_false_iff_not]; rintro rfl; exact hab rfl)
    clear hab
    go_enter Try.func15, Try.ntmps15
    go_wp2
    go_ret
    exact ⟨by rw [HE.out]; rfl, Fr.refl _ _⟩
theorem isame_self (S T : Nat → Prop) (A D : Option Addr) (c d : Nat) (a : List Int) (w : World) (h : RdI w S A a) (h2 : RdI w T D a) :
    Calls Try.prog 15 #[.slice A a.length c, .slice D a.length d] w fun e w' => e = .returned (.bool true) ∧ Fr No w w' := by
  refine (isame_calls S T A D c d a a w h h2).mono ?_
  rintro e w' ⟨rfl, hf⟩
  exact ⟨by simp, hf⟩
end Go.Proofs.Ytifcnjebepipnaa
