/- What was put last is told, plainly. No condition. -/
import Derived.Test.YtoajigghkjnffaaViewKnown
namespace Go.Proofs.Ytoajigghkjnffaa
set_option linter.unusedVariables false
set_option linter.unusedSimpArgs false
open Go.RowKit

theorem peekM_put_same (t : TabM) (v : ViewM) (x : Int) (o : ObjM) : peekM t (vput v x o) x = (o, 0) := peekM_own (if_pos rfl)
theorem peekM_put_other (t : TabM) (v : ViewM) {x y : Int} (o : ObjM) (h : y ≠ x) : peekM t (vput v x o) y = peekM t v y := by
  have e : (vput v x o).own y = v.own y := if_neg h
  unfold peekM
  rw [e]
  rfl
theorem wrongM_small {o : ObjM} (h : wrongM o = 0) : o.slots.length ≤ 256 ∧ o.bytes.length ≤ 1024 := by
  unfold wrongM at h
  split at h
  · split at h
    · rename_i h2
      unfold rightO2 at h2
      simp only [Bool.and_eq_true, decide_eq_true_eq] at h2
      exact ⟨h2.1.1.2, h2.1.2⟩
    · cases h
  · cases h
theorem vput_ok {v : ViewM} {x : Int} {o : ObjM} (h : ViewOk v) (ho : wrongM o = 0) : ViewOk (vput v x o) := by
  refine ⟨h.1, h.2.1, fun y p hy => ?_⟩
  have h' : (if y = x then some o else v.own y) = some p := hy
  split at h'
  · injection h' with h'; subst h'; exact wrongM_small ho
  · exact h.2.2 y p h'
theorem putV_ok {t : TabM} {v : ViewM} {x : Int} {o : ObjM} (h : ViewOk v) : ViewOk (putV t v x o).1 := by
  unfold putV
  split
  · split
    · rename_i h2; exact vput_ok h h2
    · exact h
  · exact h
theorem makeM_ok {v : ViewM} {o : ObjM} (h : ViewOk v) : ViewOk (makeM v o).1 := by
  unfold makeM
  split
  · rename_i h1
    split
    · exact h
    · rename_i h2
      refine vput_ok (v := ⟨v.base, v.own, v.read, v.made + 1, v.n⟩) ⟨?_, ?_, h.2.2⟩ h1
      · show 0 ≤ v.made + 1; have := h.1; omega
      · show v.made + 1 ≤ 4096; have := h.2.1; omega
  · exact h
/-- Put that is told OK put it. -/
theorem putV_told {t : TabM} {v : ViewM} {a : Int} {o : ObjM} (h : (putV t v a o).2 = 0) : peekM t (putV t v a o).1 a = (o, 0) := by
  unfold putV at h ⊢
  split at h
  · split at h
    · rename_i h1 h2; rw [if_pos h1, if_pos h2]; exact peekM_put_same _ _ _ _
    · rename_i h2; exact absurd h h2
  · rename_i h1; exact absurd h h1
/-- All others are as they were. -/
theorem putV_others {t : TabM} {v : ViewM} {a b : Int} {o : ObjM} (h : a ≠ b) : peekM t (putV t v a o).1 b = peekM t v b := by
  unfold putV
  split
  · split
    · exact peekM_put_other _ _ _ (fun e => h e.symm)
    · rfl
  · rfl
end Go.Proofs.Ytoajigghkjnffaa
