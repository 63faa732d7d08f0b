/- view.Read, wrong. No condition but size. -/
import Derived.Test.YtoajigghkjnffaaView
namespace Go.Proofs.Ytoajigghkjnffaa
set_option linter.unusedVariables false
set_option linter.unusedSimpArgs false
open Go.RowKit

def readM (v : ViewM) (x : Int) : ViewM := if oopB x = true then ⟨v.base, v.own, fun y => if y = x then true else v.read y, v.made, v.n + 1⟩ else v
theorem readM_no {v : ViewM} {x : Int} (h : oopB x = false) : readM v x = v := by unfold readM; rw [if_neg (by rw [h]; decide)]
theorem readM_yes {v : ViewM} {x : Int} (h : oopB x = true) : readM v x = ⟨v.base, v.own, fun y => if y = x then true else v.read y, v.made, v.n + 1⟩ := by unfold readM; rw [if_pos h]
theorem readM_ok {v : ViewM} {x : Int} (h : ViewOk v) : ViewOk (readM v x) := by
  unfold readM; split
  · exact h
  · exact h
set_option maxHeartbeats 1000000 in
theorem vread_calls (w : World) (V O : Nat → Prop) (q p : Nat) (v : ViewM) (x : Int) (h : ViewAt w V O q p v) (hn : v.n ≤ 1000000) (hx : W64 x) :
    Calls Try.prog 29 #[.pointer (some ⟨q, 0, none⟩), .int .i64 x] w fun e w' => e = .returned (.tuple #[]) ∧ ViewAt w' V O q p (readM v x) ∧ Fr V w w' := by
  obtain ⟨ob, rb, f, g, hP⟩ := h
  have hbk := hP.blk
  (have x0 := hbk.cell 0; have x1 := hbk.cell 1; have x2 := hbk.cell 2; have x3 := hbk.cell 3; have x4 := hbk.cell 4; have xf0 := hbk.frozen 0; have xf1 := hbk.frozen 1; have xf2 := hbk.frozen 2; have xf3 := hbk.frozen 3; have xf4 := hbk.frozen 4; simp only [List.getElem?_toArray, List.getElem?_cons_zero, List.getElem?_cons_succ] at x0 x1 x2 x3 x4)
  obtain ⟨i1, i2, i3, i4, i5, i6⟩ := hP.inV
  have g6 := plain_mbool
  by_cases h1 : 1 ≤ x
  rotate_left
  · have e1 : decide (1 ≤ x) = false := by simpa using h1
    have HM := Lib.hid (readM_no (v := v) (x := x) (by unfold oopB; rw [e1]; rfl))
    clear h1
    go_enter Try.func29, Try.ntmps29
    go_wp2
    go_end0
    exact ⟨rfl, by rw [HM.out]; exact ⟨ob, rb, f, g, hP⟩, Fr.refl _ _⟩
  have e1 : decide (1 ≤ x) = true := by simpa using h1
  by_cases h2 : x ≤ 4096
  rotate_left
  · have e2 : decide (x ≤ 4096) = false := by simpa using h2
    have HM := Lib.hid (readM_no (v := v) (x := x) (by unfold oopB; rw [e1, e2]; rfl))
    clear h1 h2
    go_enter Try.func29, Try.ntmps29
    go_wp2
    go_end0
    exact ⟨rfl, by rw [HM.out]; exact ⟨ob, rb, f, g, hP⟩, Fr.refl _ _⟩
  have e2 : decide (x ≤ 4096) = true := by simpa using h2
  have HM := Lib.hid (readM_yes (v := v) (x := x) (by unfold oopB; rw [e1, e2]; rfl))
  clear h1 h2
  go_enter Try.func29, Try.ntmps29
  go_wp2_with (first
    | (refine wpList_putM rfl _ _ _ 80 _ rfl Try.underlying80 rb v.n g rfl hP.rd (by unfold maxLen; omega) x (.bool true) rfl hx rfl ?_; intro w1 hm1 hg1)
    | fail)
  go_end0
  have hf1 : Fr (fun b => b = rb) w w1 := (Fr.refl (fun b => b = rb) w).grown hg1 (fun q hq => by injection hq with hq; exact .inr hq.symm)
  refine ⟨rfl, ?_, hf1.mono (fun b _ e => e ▸ i3)⟩
  rw [HM.out]
  exact ⟨ob, rb, f, _, { blk := hP.blk.fr hf1 i5
                         own := (hP.own.fr hf1 i6).mono (Nat.le_succ _)
                         rd := hm1
                         objs := fun y hy => by
                           rcases hP.objs y hy with h3 | ⟨cs, o, e1, e2, e3⟩
                           · exact .inl h3
                           · exact .inr ⟨cs, o, e1, e2, e3.keep hf1 (fun b hb e => (hP.off rb i3).2 (e ▸ hb))⟩
                         reads := fun y hy => by
                           by_cases hyx : y = x
                           · subst hyx; rw [fput_same]; simp
                           · rw [fput_other _ _ hyx, hP.reads y hy]; simp [hyx]
                         inV := hP.inV
                         off := fun b hb => ⟨Nat.lt_of_lt_of_le (hP.off b hb).1 hf1.size, (hP.off b hb).2⟩
                         offO := fun b hb => Nat.lt_of_lt_of_le (hP.offO b hb) hf1.size }⟩
end Go.Proofs.Ytoajigghkjnffaa
