/- ring: a device that was formatted, and opened: plain and in memory. No condition. -/
import Derived.Test.YtannkgglgmbkdaaDoorNText
import Derived.Test.YtannkgglgmbkdaaDoorNPRec
import Derived.Test.YtannkgglgmbkdaaDoorNKnown
namespace Go.Proofs.YtannkgglgmbkdaaDoor
set_option linter.unusedVariables false
set_option linter.unusedSimpArgs false
open Go.RowKit

theorem zero_quiet (n : Nat) : Quiet (zeroM n) n := ⟨rfl, rfl, rfl, by show (zeros n).length = n; simp [zeros]⟩
theorem format_quiet (n : Nat) (h4 : 4 ≤ n) : ∃ d, formatM (zeroM n) = (d, true) ∧ Quiet d n ∧ d.now = zsec :: headB (kH 1) :: List.replicate (n - 2) zsec := by
  obtain ⟨d, h1, h2, h3, _⟩ := safely_quiet (zero_quiet n) 0 [zsec, headB (kH 1)]
  refine ⟨d, h1, h2, ?_⟩
  obtain ⟨m, rfl⟩ : ∃ m, n = m + 2 := ⟨n - 2, by omega⟩
  rw [h3]
  generalize headB (kH 1) = x
  show ((zeros (m + 2)).set 0 zsec).set 1 x = _
  rw [show zeros (m + 2) = zsec :: zsec :: List.replicate m zsec from rfl]
  rfl
theorem rest_form (n : Nat) (x : Sec) (h4 : 4 ≤ n) (now : List Sec) (a : Sec) (hn : now = a :: x :: List.replicate (n - 2) zsec) : restOf now 0 = List.replicate (halfN n) zsec := by
  have hl : now.length = n := by rw [hn]; simp; omega
  unfold restOf
  rw [hl, hn, Nat.zero_mul]
  show ((List.replicate (n - 2) zsec).drop 0).take (halfN n) = _
  rw [List.drop_zero, List.take_replicate]
  congr 1
  unfold halfN
  omega
theorem go_zeros (top : Int) (k : Nat) (was seq : Int) (at_ f : Nat) (recs : List (List UInt8)) : openGo top (f + 1) was seq at_ recs (List.replicate k zsec) = (recs, seq, at_) := by
  cases k with
  | zero => exact openGo_none rfl
  | succ k => exact openGo_none (recGo_zero _ _ _ _ _)
/-- A new log on n sectors. -/
theorem start_calls0 (n : Nat) (h4 : 4 ≤ n) (hm : n ≤ 4096) (w : World) (X : Nat → Prop) (H : Nat) (hd : DiskAt w X H (zeroM n)) :
    ∃ d1, Quiet d1 n ∧ Calls Tryd.prog 13 #[.pointer (some ⟨H, 0, none⟩)] w (fun e w' => e = .returned (.int .i64 0) ∧ Left w X (Wid X w) H d1 w') ∧
      ∃ d2, Quiet d2 n ∧ d2.now = headB (kH 2) :: headB (kH 1) :: List.replicate (n - 2) zsec ∧ ∀ w' Y, DiskAt w' Y H d1 → Calls Tryd.prog 14 #[.pointer (some ⟨H, 0, none⟩)] w' fun e w'' => ∃ L N v cs, e = .returned (.tuple #[.pointer (some ⟨L, 0, none⟩), v, .int .i64 0]) ∧ OpenR w' Y H ⟨kH 2, 1, 0, false⟩ [] d2 L N v cs w'' := by
  obtain ⟨d1, f1, q1, n1⟩ := format_quiet n h4
  obtain ⟨d2, f2, q2, n2, _⟩ := safely_quiet q1 0 [headB (kH 2)]
  refine ⟨d1, q1, ?_, d2, q2, ?_, fun w' Y hdy => ?_⟩
  · have hl : (zeroM n).now.length = n := (zero_quiet n).2.2.2
    have := format_calls w X H _ hd (by rw [hl]; exact h4) (by show ([] : List (Nat × Sec)).length ≤ 50000; simp) (by show 0 ≤ 1000000; omega)
    rw [f1] at this
    exact this
  · rw [n2, n1]; rfl
  · obtain ⟨a1, a2, a3, a4⟩ := q1
    have hr := rest_form n _ h4 d1.now _ n1
    have hgo : openGo (kH 1).life (halfN d1.now.length + 1) (kH 1).since (kH 1).first 0 [] (restOf d1.now 0) = ([], 1, 0) := by rw [hr]; exact go_zeros _ _ _ _ _ _ _
    exact open_calls w' Y H d1 d2 zsec (headB (kH 1)) (kH 1) 0 [] 1 0 hdy (by rw [a4]; exact h4) a1 (by rw [a3]; simp) (by rw [a2]; omega) (by rw [n1]; rfl) (by rw [n1]; rfl) kN1 rfl (by decide) (by decide) (by decide) hgo (by decide) f2
end Go.Proofs.YtannkgglgmbkdaaDoor
