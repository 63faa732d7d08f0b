/- maps.DeleteFunc of a table's versions, by Forget's closure; slices.Clone of versions. No condition but size. -/
import Derived.Test.YtifcnjebepipnaaRange
import Derived.Test.YtifcnjebepipnaaTabAt2
namespace Go.Proofs.Ytifcnjebepipnaa
set_option linter.unusedVariables false
set_option linter.unusedSimpArgs false
open Go.RowKit Go.Maps

theorem MapV.congr {w : World} {b n : Nat} {f g : Int → Option Value} (h : MapV w b n f) (hfg : ∀ x, W64 x → g x = f x) : MapV w b n g := by
  obtain ⟨D, ho, hf⟩ := h
  exact ⟨D, ho, fun x hx => by rw [hfg x hx]; exact hf x hx⟩
def emptyV (v : Value) : Bool := match v with | .slice _ n _ => decide (n = 0) | _ => false
def sweepV (f : Int → Option Value) : Int → Option Value := fun x => (f x).filter (fun v => !emptyV v)
abbrev closF : Value := .func (.func 34) #[] #[]
theorem forget1_calls (x : Int) (A : Option Addr) (n c : Nat) (w : World) :
    Calls Try.prog 34 #[.int .i64 x, .slice A n c] w fun e w' => e = .returned (.bool (decide (n = 0))) ∧ w' = w := by
  have e1 : decide (n = 0) = ((n : Int) == 0) := by
    by_cases h : n = 0
    · subst h; rfl
    · simp [h]
  rw [e1]
  go_enter Try.func34, Try.ntmps34
  go_wp2
  go_ret
  exact ⟨rfl, rfl⟩
set_option maxHeartbeats 1000000 in
set_option maxRecDepth 100000 in
theorem sweep_calls (w : World) (b n : Nat) (f : Int → Option Value) (h : MapV w b n f) (hsl : ∀ x, W64 x → ∀ v, f x = some v → ∃ A m c, v = .slice A m c) :
    Calls Try.prog 33 #[.map (some b), closF] w fun e w' => e = .returned (.tuple #[]) ∧ MapV w' b n (sweepV f) ∧ Fr (fun q => q = b) w w' := by
  have hlt := h.lt
  have HSL := Lib.hid hsl
  clear hsl
  go_enter Try.func33, Try.ntmps33
  go_wp2_with (first
    | (refine wpList_rangeV rfl _ _ _ rfl Try.underlying56 b n f rfl h ?_; intro w0 cnt0 hR0 hf0)
    | fail)
  have hz0 := hf0.size
  have hr0 := hR0.lt
  go_frame
  go_loopw [4] (fun s wr => ∃ (fc : Int → Option Value) (left : Int → Bool) (cnt : Nat), RangeV wr b w.heap.size n fc left cnt ∧ Hid (∀ x, W64 x → fc x = if left x = true then f x else sweepV f x) ∧ Fr (fun q => q = b) w wr) (fun _ wr => wr.rangeLeft b w.heap.size)
  case atStart => exact ⟨f, _, cnt0, hR0, Lib.hid (fun x hx => by
    split
    · rfl
    · rename_i hh
      unfold sweepV
      cases hfx : f x with
      | none => rfl
      | some v => rw [hfx] at hh; simp at hh), hf0.mono (fun _ _ hn => hn.elim)⟩
  case round =>
    obtain ⟨fc, left, cnt, hR, HF, hf⟩ := hrel
    go_wp2_with (first
      | (refine wpList_nextV rfl _ rfl b w.heap.size n fc left cnt rfl hR ?_ ?_)
      | fail)
    · intro hdone
      have hM : MapV wr b n (sweepV f) := hR.map.congr (fun x hx => by rw [HF.out x hx, hdone x hx]; rfl)
      clear hR
      have HD := Lib.hid hdone
      clear hdone
      go_wp2
      go_end0
      exact ⟨rfl, hM, hf⟩
    · intro x v w1 cnt1 hx hlx hfx hR1 hlt1 hf1 hz1 hen
      have hfx' : f x = some v := by rw [← hfx, HF.out x hx, if_pos hlx]
      obtain ⟨A, m, c, rfl⟩ := HSL.out x hx v hfx'
      have hF1 : Fr (fun q => q = b) w w1 := hf.trans hf1 (fun q hq hT => by omega)
      have hcnt := hR.left_eq
      clear hR
      go_wp2_with fail
      refine (forget1_calls x A m c w1).mono ?_
      rintro e w2 ⟨rfl, hw2⟩
      have hw2 := hw2.symm
      subst hw2
      by_cases hm : m = 0
      · subst hm
        go_wp2_with (first
          | (refine wpList_deleteV rfl _ _ _ _ rfl Try.underlying56 b w.heap.size n fc _ cnt1 rfl hR1 rfl hx (by simp) ?_; intro w3 cnt3 hR3 hlt3 hf3)
          | fail)
        have hnew : ∃ (fc : Int → Option Value) (left : Int → Bool) (cnt : Nat), RangeV w3 b w.heap.size n fc left cnt ∧ Hid (∀ x, W64 x → fc x = if left x = true then f x else sweepV f x) ∧ Fr (fun q => q = b) w w3 := by
          refine ⟨_, _, cnt3, hR3, Lib.hid (fun y hy => ?_), hF1.trans hf3 (fun q _ hq => hq)⟩
          unfold fdel
          by_cases hyx : y = x
          · subst hyx
            rw [if_pos rfl]
            simp [sweepV, hfx', Option.filter, emptyV]
          · rw [if_neg hyx, HF.out y hy]
            simp [hyx]
        go_roundw
        case rel => (repeat apply Exists.intro); exact ⟨hnew, rfl⟩
        case measure => rw [hR3.left_eq]; omega
      · have em : decide (m = 0) = false := by simpa using hm
        rw [em]
        go_wp2_with fail
        go_roundw
        case rel =>
          refine ⟨_, _, cnt1, hR1, Lib.hid (fun y hy => ?_), hF1⟩
          by_cases hyx : y = x
          · subst hyx
            simp [hfx, sweepV, hfx', Option.filter, emptyV, hm]
          · rw [HF.out y hy]
            simp [hyx]
        case measure => rw [hR1.left_eq]; omega
end Go.Proofs.Ytifcnjebepipnaa
