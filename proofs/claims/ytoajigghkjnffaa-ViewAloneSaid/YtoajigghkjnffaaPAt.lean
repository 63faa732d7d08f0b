/- A table and the reference's that have had the same records: an object behind a commit is the same. Plain. No condition. -/
import Derived.Test.YtoajigghkjnffaaRTabAt
namespace Go.Proofs.Ytoajigghkjnffaa
set_option linter.unusedVariables false
set_option linter.unusedSimpArgs false
open Go.RowKit

theorem snocInd {α : Type} {P : List α → Prop} (h0 : P []) (h1 : ∀ l x, P l → P (l ++ [x])) (l : List α) : P l := by
  have h : ∀ m : List α, P m.reverse := by
    intro m
    induction m with
    | nil => exact h0
    | cons x m ih => rw [List.reverse_cons]; exact h1 _ _ ih
  simpa using h l.reverse
def verOf (x : Int) (r : RecM) : Option ChM := (findM r.chs x).map (fun d => ⟨r.commit, d.gone, d.obj⟩)
theorem fold_vs (com x : Int) : ∀ (l : List ChM) (t : TabM), (l.foldl (stepT com) t).vs x = t.vs x ++ (l.filter (fun d => d.oop == x)).map (fun d => ⟨com, d.gone, d.obj⟩)
  | [], t => by simp
  | c :: l, t => by
    rw [List.foldl_cons, fold_vs com x l]
    by_cases h : c.oop = x
    · subst h
      have e : (stepT com t c).vs c.oop = t.vs c.oop ++ [⟨com, c.gone, c.obj⟩] := if_pos rfl
      rw [e, List.filter_cons_of_pos (by simp)]
      simp
    · have e : (stepT com t c).vs x = t.vs x := if_neg (fun e => h e.symm)
      rw [e, List.filter_cons_of_neg (by simpa using h)]
theorem chsRight_lt : ∀ {l : List ChM} {o : Int}, chsRight o l = true → ∀ c ∈ l, o < c.oop
  | [], _, _, c, hc => by cases hc
  | d :: l, o, h, c, hc => by
    rw [chsRight] at h
    simp only [Bool.and_eq_true, decide_eq_true_eq] at h
    rcases List.mem_cons.1 hc with rfl | hc
    · exact h.1
    · have := chsRight_lt h.2.2.2 c hc
      have := h.1
      omega
theorem filter_find : ∀ {l : List ChM} {o : Int}, chsRight o l = true → ∀ x, l.filter (fun d => d.oop == x) = (findM l x).toList
  | [], _, _, x => rfl
  | d :: l, o, h, x => by
    rw [chsRight] at h
    simp only [Bool.and_eq_true, decide_eq_true_eq] at h
    by_cases hd : d.oop = x
    · subst hd
      have e : l.filter (fun e => e.oop == d.oop) = [] := by
        rw [List.filter_eq_nil_iff]
        intro e he
        have := chsRight_lt h.2.2.2 e he
        simp; omega
      unfold findM
      rw [List.filter_cons_of_pos (by simp), e, List.find?_cons_of_pos (by simp)]
      rfl
    · unfold findM
      rw [List.filter_cons_of_neg (by simpa using hd), List.find?_cons_of_neg (by simpa using hd)]
      exact filter_find h.2.2.2 x
/-- The same records have come to both, and none is forgotten. -/
structure RelT (t : TabM) (r : RTabM) : Prop where
  first : t.first = r.fr
  last : t.last = r.en
  base : r.base = []
  vs : ∀ x, t.vs x = r.l.filterMap (verOf x)
  up : ∀ e ∈ r.l, e.commit ≤ r.en
  rise : r.l.Pairwise (fun a b => a.commit < b.commit)
  right : ∀ e ∈ r.l, rightR e = true
theorem RelT.start : RelT tab0 rtab0 := ⟨rfl, rfl, rfl, fun _ => rfl, (fun e h => by cases h), List.Pairwise.nil, (fun e h => by cases h)⟩
theorem RelT.apply {t : TabM} {r : RTabM} (h : RelT t r) (x : RecM) : RelT (applyM t x).1 (rapplyM r x).1 ∧ (applyM t x).2 = (rapplyM r x).2 := by
  cases hr : rightR x with
  | false => rw [applyM_bad hr, rapplyM_bad hr]; exact ⟨h, rfl⟩
  | true =>
    by_cases h2 : x.commit ≤ t.last
    · rw [applyM_old hr h2, rapplyM_old hr (by rw [← h.last]; exact h2)]; exact ⟨h, rfl⟩
    · rw [applyM_yes hr h2, rapplyM_yes hr (by rw [← h.last]; exact h2)]
      have hl := h.last
      obtain ⟨_, _, _, h4⟩ := rightR_four hr
      refine ⟨⟨?_, rfl, h.base, fun y => ?_, ?_, ?_, ?_⟩, rfl⟩
      · exact (fold_first x.commit x.chs t).1.trans h.first
      · show (x.chs.foldl (stepT x.commit) t).vs y = (r.l ++ [x]).filterMap (verOf y)
        rw [fold_vs, h.vs, List.filterMap_append, filter_find h4]
        congr 1
        unfold verOf
        cases hf : findM x.chs y <;> simp [hf]
      · intro e he
        rcases List.mem_append.1 he with he | he
        · have := h.up e he
          show e.commit ≤ x.commit
          omega
        · rw [List.mem_singleton] at he; subst he; exact Int.le_refl _
      · show (r.l ++ [x]).Pairwise _
        rw [List.pairwise_append]
        refine ⟨h.rise, by simp, fun a ha b hb => ?_⟩
        rw [List.mem_singleton] at hb; subst hb
        have := h.up a ha
        omega
      · intro e he
        rcases List.mem_append.1 he with he | he
        · exact h.right e he
        · rw [List.mem_singleton] at he; subst he; exact hr
theorem RelT.folds : ∀ (l : List RecM) (t : TabM) (r : RTabM), RelT t r → RelT (l.foldl (fun t r => (applyM t r).1) t) (l.foldl (fun t r => (rapplyM t r).1) r)
  | [], _, _, h => h
  | x :: l, t, r, h => RelT.folds l _ _ (h.apply x).1
theorem RelT.of (l : List RecM) : RelT (tabOf l) (rtabOf l) := RelT.folds l _ _ RelT.start
theorem RelT.small {t : TabM} {r : RTabM} (h : RelT t r) : RSmall r := by
  refine ⟨fun e he d hd => ?_, fun d hd => by rw [h.base] at hd; cases hd⟩
  obtain ⟨_, _, _, h4⟩ := rightR_four (h.right e he)
  exact rightC_small (chsRight_all h4 d hd).2
theorem verM_snoc_old (l : List ChM) (v : ChM) (c : Int) (h : ¬ v.oop ≤ c) : behM (l ++ [v]) c = behM l c := by
  unfold behM
  rw [List.countP_append]
  simp [h]
/-- The version with the greatest commit up to c. -/
theorem ver_last (x c : Int) (l : List RecM) : l.Pairwise (fun a b => a.commit < b.commit) →
    (if behM (l.filterMap (verOf x)) c = 0 then none else (l.filterMap (verOf x))[behM (l.filterMap (verOf x)) c - 1]?).map (fun v => (v.gone, v.obj)) = (rlastM l c x).map (fun d => (d.gone, d.obj)) := by
  refine snocInd (P := fun l => l.Pairwise (fun a b => a.commit < b.commit) → (if behM (l.filterMap (verOf x)) c = 0 then none else (l.filterMap (verOf x))[behM (l.filterMap (verOf x)) c - 1]?).map (fun v => (v.gone, v.obj)) = (rlastM l c x).map (fun d => (d.gone, d.obj))) ?_ ?_ l
  · intro _; rfl
  · intro l r ih hp
    rw [List.pairwise_append] at hp
    obtain ⟨h1, _, h3⟩ := hp
    have h3 := fun a ha => h3 a ha r (List.mem_singleton.2 rfl)
    rw [rlastM_snoc, List.filterMap_append]
    by_cases hc : r.commit ≤ c
    · rw [if_pos hc]
      have hall : ∀ v ∈ l.filterMap (verOf x), v.oop ≤ c := by
        intro v hv
        obtain ⟨e, he, hev⟩ := List.mem_filterMap.1 hv
        unfold verOf at hev
        cases hf : findM e.chs x with
        | none => rw [hf] at hev; cases hev
        | some d =>
          rw [hf] at hev
          simp only [Option.map_some, Option.some.injEq] at hev
          subst hev
          have := h3 e he
          show e.commit ≤ c
          omega
      cases hf : findM r.chs x with
      | none =>
        have e1 : [r].filterMap (verOf x) = [] := by simp [verOf, hf]
        rw [e1, List.append_nil, Option.none_or]
        exact ih h1
      | some d =>
        have e1 : [r].filterMap (verOf x) = [⟨r.commit, d.gone, d.obj⟩] := by simp [verOf, hf]
        rw [e1]
        have hb : behM (l.filterMap (verOf x) ++ [⟨r.commit, d.gone, d.obj⟩]) c = (l.filterMap (verOf x)).length + 1 := by
          unfold behM
          rw [List.countP_append, List.countP_eq_length.2 (fun v hv => by simpa using hall v hv)]
          simp [hc]
        rw [hb, if_neg (by omega), show (l.filterMap (verOf x)).length + 1 - 1 = (l.filterMap (verOf x)).length by omega]
        simp
    · rw [if_neg hc]
      rw [← ih h1]
      cases hf : findM r.chs x with
      | none =>
        have e1 : [r].filterMap (verOf x) = [] := by simp [verOf, hf]
        rw [e1, List.append_nil]
      | some d =>
        have e1 : [r].filterMap (verOf x) = [⟨r.commit, d.gone, d.obj⟩] := by simp [verOf, hf]
        rw [e1, verM_snoc_old _ _ _ hc]
        have hle := behM_le (l.filterMap (verOf x)) c
        split
        · rfl
        · rw [List.getElem?_append_left (by omega)]
theorem ansM_congr {a b : Option ChM} (h : a.map (fun v => (v.gone, v.obj)) = b.map (fun v => (v.gone, v.obj))) : ansM a = ansM b := by
  cases a with
  | none => cases b with | none => rfl | some y => cases h
  | some x =>
    cases b with
    | none => cases h
    | some y =>
      simp only [Option.map_some, Option.some.injEq, Prod.mk.injEq] at h
      unfold ansM; simp only [h.1, h.2]
theorem at_same {t : TabM} {r : RTabM} (h : RelT t r) (c x : Int) : atM t c x = ratM r c x := by
  unfold atM ratM
  rw [h.first, h.last]
  split
  · have e : findM r.base x = none := by rw [h.base]; rfl
    rw [e, Option.or_none]
    have h1 := ver_last x c r.l h.rise
    rw [← h.vs] at h1
    exact ansM_congr (a := verM t c x) h1
  · rfl
end Go.Proofs.Ytoajigghkjnffaa
