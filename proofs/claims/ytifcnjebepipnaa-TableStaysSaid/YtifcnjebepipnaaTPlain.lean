/- Records that come to a table, plainly: what stands behind a commit stays. No condition. -/
import Derived.Test.YtifcnjebepipnaaTKnown
import Derived.Test.YtifcnjebepipnaaOops
import Derived.Test.YtifcnjebepipnaaTGiven
import Derived.Test.YtifcnjebepipnaaRecs
namespace Go.Proofs.Ytifcnjebepipnaa
set_option linter.unusedVariables false
set_option linter.unusedSimpArgs false
open Go.RowKit

def applyAll (t : TabM) (l : List RecM) : TabM := l.foldl (fun t r => (applyM t r).1) t
theorem applyAll_snoc (t : TabM) (l : List RecM) (r : RecM) : applyAll t (l ++ [r]) = (applyM (applyAll t l) r).1 := by unfold applyAll; rw [List.foldl_append]; rfl
theorem applyM_n3 (t : TabM) (r : RecM) : (applyM t r).1.n ≤ t.n + 4096 := by
  cases hr : rightR r with
  | false => rw [applyM_bad hr]; exact Nat.le_add_right _ _
  | true =>
    have := applyM_n t r
    have := (rightR_four hr).2.2.1
    omega
theorem applyAll_n : ∀ (l : List RecM) (t : TabM), (applyAll t l).n ≤ t.n + l.length * 4096
  | [], t => by simp [applyAll]
  | r :: l, t => by
    have h1 := applyAll_n l (applyM t r).1
    have h2 := applyM_n3 t r
    show (applyAll (applyM t r).1 l).n ≤ _
    rw [List.length_cons]; omega
theorem applyAll_ok : ∀ (l : List RecM) (t : TabM), TabOk t → TabOk (applyAll t l)
  | [], t, h => h
  | r :: l, t, h => applyAll_ok l _ (applyM_ok h)
theorem applyM_first (t : TabM) (r : RecM) : (applyM t r).1.first = t.first ∧ t.last ≤ (applyM t r).1.last := by
  cases hr : rightR r with
  | false => rw [applyM_bad hr]; exact ⟨rfl, Int.le_refl _⟩
  | true =>
    by_cases h2 : r.commit ≤ t.last
    · rw [applyM_old hr h2]; exact ⟨rfl, Int.le_refl _⟩
    · rw [applyM_yes hr h2]
      refine ⟨(fold_first r.commit r.chs t).1, ?_⟩
      show t.last ≤ r.commit
      omega
theorem applyAll_first : ∀ (l : List RecM) (t : TabM), (applyAll t l).first = t.first ∧ t.last ≤ (applyAll t l).last
  | [], t => ⟨rfl, Int.le_refl _⟩
  | r :: l, t => by
    obtain ⟨h1, h2⟩ := applyAll_first l (applyM t r).1
    obtain ⟨h3, h4⟩ := applyM_first t r
    exact ⟨h1.trans h3, Int.le_trans h4 h2⟩
theorem fold_vs2 (com x : Int) : ∀ (l : List ChM) (t : TabM), ∃ m : List ChM, (l.foldl (stepT com) t).vs x = t.vs x ++ m ∧ ∀ v ∈ m, v.oop = com
  | [], t => ⟨[], by simp, fun v hv => by cases hv⟩
  | c :: l, t => by
    obtain ⟨m, h1, h2⟩ := fold_vs2 com x l (stepT com t c)
    rw [List.foldl_cons, h1]
    by_cases h : x = c.oop
    · have e : (stepT com t c).vs x = t.vs x ++ [⟨com, c.gone, c.obj⟩] := if_pos h
      rw [e]
      refine ⟨⟨com, c.gone, c.obj⟩ :: m, by simp, fun v hv => ?_⟩
      rcases List.mem_cons.1 hv with rfl | hv
      · rfl
      · exact h2 v hv
    · have e : (stepT com t c).vs x = t.vs x := if_neg h
      rw [e]
      exact ⟨m, rfl, h2⟩
theorem applyM_vs (t : TabM) (r : RecM) (x : Int) : ∃ m : List ChM, (applyM t r).1.vs x = t.vs x ++ m ∧ ∀ v ∈ m, t.last < v.oop := by
  cases hr : rightR r with
  | false => rw [applyM_bad hr]; exact ⟨[], by simp, fun v hv => by cases hv⟩
  | true =>
    by_cases h2 : r.commit ≤ t.last
    · rw [applyM_old hr h2]; exact ⟨[], by simp, fun v hv => by cases hv⟩
    · rw [applyM_yes hr h2]
      obtain ⟨m, h3, h4⟩ := fold_vs2 r.commit x r.chs t
      exact ⟨m, h3, fun v hv => by rw [h4 v hv]; omega⟩
theorem applyAll_vs : ∀ (l : List RecM) (t : TabM) (x : Int), ∃ m : List ChM, (applyAll t l).vs x = t.vs x ++ m ∧ ∀ v ∈ m, t.last < v.oop
  | [], t, x => ⟨[], by simp [applyAll], fun v hv => by cases hv⟩
  | r :: l, t, x => by
    obtain ⟨m1, h1, h2⟩ := applyM_vs t r x
    obtain ⟨m2, h3, h4⟩ := applyAll_vs l (applyM t r).1 x
    have h5 := (applyM_first t r).2
    refine ⟨m1 ++ m2, ?_, fun v hv => ?_⟩
    · show (applyAll (applyM t r).1 l).vs x = _
      rw [h3, h1, List.append_assoc]
    · rcases List.mem_append.1 hv with hv | hv
      · exact h2 v hv
      · have := h4 v hv; omega
theorem verM_app {t u : TabM} {c x : Int} {m : List ChM} (h : u.vs x = t.vs x ++ m) (hm : ∀ v ∈ m, c < v.oop) : verM u c x = verM t c x := by
  have e : behM (t.vs x ++ m) c = behM (t.vs x) c := by
    unfold behM
    have e0 : m.countP (fun v => decide (v.oop ≤ c)) = 0 := List.countP_eq_zero.2 (fun v hv => by have := hm v hv; simp; omega)
    rw [List.countP_append, e0, Nat.add_zero]
  have hle := behM_le (t.vs x) c
  unfold verM
  rw [h, e]
  split
  · rfl
  · rw [List.getElem?_append_left (by omega)]
theorem stays_ver (l : List RecM) (t : TabM) {c x : Int} (hc : c ≤ t.last) : verM (applyAll t l) c x = verM t c x := by
  obtain ⟨m, h1, h2⟩ := applyAll_vs l t x
  exact verM_app h1 (fun v hv => by have := h2 v hv; omega)
theorem stays_at (l : List RecM) (t : TabM) {c : Int} (h1 : t.first ≤ c) (hc : c ≤ t.last) (x : Int) : atM (applyAll t l) c x = atM t c x := by
  obtain ⟨h3, h4⟩ := applyAll_first l t
  unfold atM
  rw [stays_ver l t hc, h3, if_pos (by simp; omega), if_pos (by simp; omega)]
theorem stays_oops (l : List RecM) (t : TabM) {c : Int} (h1 : t.first ≤ c) (hc : c ≤ t.last) {ks : List Int} (h : OopsL (applyAll t l) c ks) : OopsL t c ks := by
  obtain ⟨h3, h4⟩ := applyAll_first l t
  unfold OopsL at h ⊢
  rw [h3, if_pos (by simp; omega)] at h
  rw [if_pos (by simp; omega)]
  refine ⟨h.1, h.2.1, fun x hx => ?_⟩
  rw [h.2.2 x hx]
  unfold liveV
  rw [stays_ver l t hc]
theorem atM_small0 {t : TabM} (h : TabOk t) (c x : Int) : (atM t c x).1.slots.length ≤ 256 ∧ (atM t c x).1.bytes.length ≤ 1024 := by
  have hn : noObj.slots.length ≤ 256 ∧ noObj.bytes.length ≤ 1024 := ⟨by decide, by decide⟩
  unfold atM
  split
  · split
    · rename_i v hv
      unfold verM at hv
      split at hv
      · cases hv
      · split
        · exact hn
        · exact (h x).2.2.2 v (List.mem_of_getElem? hv)
    · exact hn
  · exact hn
end Go.Proofs.Ytifcnjebepipnaa
