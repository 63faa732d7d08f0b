/- One change that comes to a table, plainly and in memory. No condition. -/
import Derived.Test.YtifcnjebepipnaaTab
import Derived.Test.YtifcnjebepipnaaMapReg
namespace Go.Proofs.Ytifcnjebepipnaa
set_option linter.unusedVariables false
set_option linter.unusedSimpArgs false
open Go.RowKit

def stepT (com : Int) (t : TabM) (c : ChM) : TabM :=
  ⟨t.first, t.last, fun x => if x = c.oop then t.vs x ++ [⟨com, c.gone, c.obj⟩] else t.vs x, fun x => if x = c.oop then some com else t.wh x, t.n + 1⟩
def applyM (t : TabM) (r : RecM) : TabM × Int :=
  if rightR r = true then
    if r.commit ≤ t.last then (t, 5)
    else ({ r.chs.foldl (stepT r.commit) t with last := r.commit }, 0)
  else (t, 1)
theorem applyM_bad {t : TabM} {r : RecM} (h : rightR r = false) : applyM t r = (t, 1) := by unfold applyM; rw [if_neg (by rw [h]; decide)]
theorem applyM_old {t : TabM} {r : RecM} (h : rightR r = true) (h2 : r.commit ≤ t.last) : applyM t r = (t, 5) := by unfold applyM; rw [if_pos h, if_pos h2]
theorem applyM_yes {t : TabM} {r : RecM} (h : rightR r = true) (h2 : ¬ r.commit ≤ t.last) : applyM t r = ({ r.chs.foldl (stepT r.commit) t with last := r.commit }, 0) := by unfold applyM; rw [if_pos h, if_neg h2]
theorem fold_first (com : Int) : ∀ (l : List ChM) (t : TabM), (l.foldl (stepT com) t).first = t.first ∧ (l.foldl (stepT com) t).last = t.last ∧ (l.foldl (stepT com) t).n = t.n + l.length
  | [], t => ⟨rfl, rfl, rfl⟩
  | c :: l, t => by
    obtain ⟨h1, h2, h3⟩ := fold_first com l (stepT com t c)
    refine ⟨h1, h2, ?_⟩
    rw [List.foldl_cons, h3, List.length_cons]
    show t.n + 1 + l.length = _
    omega
/-- What holds while changes come: last: the oop that came last. -/
def Mid (com o : Int) (t : TabM) : Prop :=
  ∀ x, (t.vs x).Pairwise (fun a b => a.oop < b.oop) ∧ (∀ v ∈ t.vs x, v.oop ≤ com) ∧ (o < x → ∀ v ∈ t.vs x, v.oop < com) ∧ (t.vs x).length ≤ t.n ∧ ∀ v ∈ t.vs x, v.obj.slots.length ≤ 256 ∧ v.obj.bytes.length ≤ 1024
theorem rightC_small {c : ChM} (h : rightC c = true) : c.obj.slots.length ≤ 256 ∧ c.obj.bytes.length ≤ 1024 := by
  unfold rightC at h
  split at h
  · have := of_decide_eq_true h
    rw [this]
    exact ⟨by decide, by decide⟩
  · unfold rightO at h
    simp only [Bool.and_eq_true, decide_eq_true_eq] at h
    exact ⟨h.1.1.2, h.1.2⟩
theorem mid_step {com o : Int} {t : TabM} {c : ChM} (h : Mid com o t) (h1 : o < c.oop) (h2 : rightC c = true) : Mid com c.oop (stepT com t c) := by
  intro x
  obtain ⟨a1, a2, a3, a4, a5⟩ := h x
  by_cases hx : x = c.oop
  · have hv : (stepT com t c).vs x = t.vs x ++ [⟨com, c.gone, c.obj⟩] := by show (if x = c.oop then _ else _) = _; rw [if_pos hx]
    rw [hv]
    refine ⟨?_, ?_, fun h9 => by omega, ?_, ?_⟩
    · rw [List.pairwise_append]
      refine ⟨a1, by simp, ?_⟩
      intro a ha b hb
      rw [List.mem_singleton] at hb
      subst hb
      exact a3 (by omega) a ha
    · intro v hv
      rcases List.mem_append.1 hv with hv | hv
      · exact a2 v hv
      · rw [List.mem_singleton] at hv; subst hv; exact Int.le_refl _
    · rw [List.length_append]
      show _ ≤ t.n + 1
      simp only [List.length_singleton]
      omega
    · intro v hv
      rcases List.mem_append.1 hv with hv | hv
      · exact a5 v hv
      · rw [List.mem_singleton] at hv; subst hv; exact rightC_small h2
  · have hv : (stepT com t c).vs x = t.vs x := by show (if x = c.oop then _ else _) = _; rw [if_neg hx]
    rw [hv]
    exact ⟨a1, a2, fun h9 => a3 (by omega), Nat.le_trans a4 (Nat.le_succ _), a5⟩
theorem mid_fold {com : Int} : ∀ (l : List ChM) (o : Int) (t : TabM), Mid com o t → chsRight o l = true → ∃ o', Mid com o' (l.foldl (stepT com) t)
  | [], o, t, h, _ => ⟨o, h⟩
  | c :: l, o, t, h, hr => by
    rw [chsRight] at hr
    simp only [Bool.and_eq_true, decide_eq_true_eq] at hr
    exact mid_fold l c.oop _ (mid_step h hr.1 hr.2.2.1) hr.2.2.2
theorem rightR_four {r : RecM} (h : rightR r = true) : 1 ≤ r.commit ∧ r.commit ≤ 1099511627776 ∧ r.chs.length ≤ 4096 ∧ chsRight 0 r.chs = true := by
  unfold rightR at h
  simp only [Bool.and_eq_true, decide_eq_true_eq] at h
  exact ⟨h.1, h.2.1, h.2.2.1, h.2.2.2⟩
theorem chsRight_all : ∀ {l : List ChM} {o : Int}, chsRight o l = true → ∀ c ∈ l, oopB c.oop = true ∧ rightC c = true
  | [], _, _, c, hc => by cases hc
  | d :: l, o, h, c, hc => by
    rw [chsRight] at h
    simp only [Bool.and_eq_true, decide_eq_true_eq] at h
    rcases List.mem_cons.1 hc with rfl | hc
    · exact ⟨h.2.1, h.2.2.1⟩
    · exact chsRight_all h.2.2.2 c hc
theorem applyM_ok {t : TabM} {r : RecM} (h : TabOk t) : TabOk (applyM t r).1 := by
  cases hr : rightR r with
  | false => rw [applyM_bad hr]; exact h
  | true =>
    by_cases h2 : r.commit ≤ t.last
    · rw [applyM_old hr h2]; exact h
    · rw [applyM_yes hr h2]
      obtain ⟨_, _, _, h3⟩ := rightR_four hr
      have hm : Mid r.commit 0 t := fun x => by
        obtain ⟨a1, a2, a3, a4⟩ := h x
        exact ⟨a1, fun v hv => by have := a2 v hv; omega, fun _ v hv => by have := a2 v hv; omega, a3, a4⟩
      obtain ⟨o', hm'⟩ := mid_fold r.chs 0 t hm h3
      intro x
      obtain ⟨a1, a2, _, a4, a5⟩ := hm' x
      exact ⟨a1, a2, a4, a5⟩
theorem applyM_n (t : TabM) (r : RecM) : (applyM t r).1.n ≤ t.n + r.chs.length := by
  unfold applyM
  split
  · split
    · exact Nat.le_add_right _ _
    · exact Nat.le_of_eq (fold_first r.commit r.chs t).2.2
  · exact Nat.le_add_right _ _

theorem TabP.step {w w' : World} {T O : Nat → Prop} {p mb wb : Nat} {f g : Int → Option Value} {t : TabM} (h : TabP w T O p mb wb f g t) {com : Int} {c : ChM} {v' : Value} {xs' : List Value} {O' R : Nat → Prop} (hc : W64 c.oop)
    (hf : Fr (fun b => b = mb ∨ b = wb ∨ R b) w w') (hR : ∀ b, R b → ∃ v, f c.oop = some v ∧ v.ownBlock = some b)
    (hv : MapV w' mb (t.n + 1) (fput f c.oop v')) (hw : MapV w' wb (t.n + 1) (fput g c.oop (.int .i64 com)))
    (hown : w'.ownsRow 0 tVer 5 v' ((t.vs c.oop).length + 1) xs') (hxs : ChsC w' O' xs' (t.vs c.oop ++ [⟨com, c.gone, c.obj⟩]))
    (hv' : ∀ b, v'.ownBlock = some b → (∃ v, f c.oop = some v ∧ v.ownBlock = some b) ∨ w.heap.size ≤ b ∧ b < w'.heap.size)
    (hO' : ∀ b, O b → O' b) (hO2 : ∀ b, O' b → O b ∨ w.heap.size ≤ b ∧ b < w'.heap.size) (hO3 : ∀ b, O' b → ¬ v'.ownBlock = some b) :
    TabP w' (fun b => T b ∨ v'.ownBlock = some b) O' p mb wb (fput f c.oop v') (fput g c.oop (.int .i64 com)) (stepT com t c) := by
  have hrowc : ∀ v b, f c.oop = some v → v.ownBlock = some b → T b ∧ b ≠ p ∧ b ≠ mb ∧ b ≠ wb := by
    intro v b h1 h2
    rcases h.row c.oop hc with ⟨h3, _⟩ | ⟨u, xs, h3, _, _, _, h4⟩
    · rw [h1] at h3; cases h3
    · rw [h1] at h3; injection h3 with h3; subst h3; exact h4 b h2
  have hRT : ∀ b, R b → T b ∧ b ≠ p ∧ b ≠ mb ∧ b ≠ wb := fun b hb => by obtain ⟨v, h1, h2⟩ := hR b hb; exact hrowc v b h1 h2
  obtain ⟨i1, i2, i3, i4, i5, i6⟩ := h.inT
  have hlt : ∀ b, T b → b < w.heap.size := fun b hb => (h.off b hb).1
  have hv2 : ∀ b, v'.ownBlock = some b → b < w'.heap.size ∧ b ≠ p ∧ b ≠ mb ∧ b ≠ wb := by
    intro b hb
    rcases hv' b hb with ⟨v, h1, h2⟩ | ⟨h1, h2⟩
    · obtain ⟨a1, a2⟩ := hrowc v b h1 h2
      exact ⟨Nat.lt_of_lt_of_le (hlt b a1) hf.size, a2⟩
    · have b1 := hlt _ i1; have b2 := hlt _ i2; have b3 := hlt _ i3
      exact ⟨h2, by omega, by omega, by omega⟩
  refine { blk := ?_, vers := hv, when := hw, row := ?_, at_ := ?_, apart := ?_, inT := ⟨.inl i1, .inl i2, .inl i3, i4, i5, i6⟩, off := ?_, offO := ?_, small := ?_ }
  · exact h.blk.fr hf (by rintro (h1 | h1 | h1); exact i4 h1; exact i5 h1; exact (hRT _ h1).2.1 rfl)
  · intro x hx
    by_cases hxc : x = c.oop
    · subst hxc
      have hvs : (stepT com t c).vs c.oop = t.vs c.oop ++ [⟨com, c.gone, c.obj⟩] := if_pos rfl
      rw [fput_same, hvs]
      refine .inr ⟨v', xs', rfl, by simp, by rw [List.length_append]; exact hown, hxs, fun b hb => ⟨.inr hb, (hv2 b hb).2⟩⟩
    · have hvs : (stepT com t c).vs x = t.vs x := if_neg hxc
      rw [fput_other _ _ hxc, hvs]
      rcases h.row x hx with h1 | ⟨u, xs, h1, h2, h3, h4, h5⟩
      · exact .inl h1
      · refine .inr ⟨u, xs, h1, h2, own_fr h3 hf ?_, (h4.keep hf ?_).mono (fun b _ hb => hO' b hb), fun b hb => ⟨.inl (h5 b hb).1, (h5 b hb).2⟩⟩
        · intro b hb hT
          obtain ⟨a0, a1, a2, a3⟩ := h5 b hb
          rcases hT with hT | hT | hT
          · exact a2 hT
          · exact a3 hT
          · obtain ⟨v, e1, e2⟩ := hR b hT
            exact h.apart x c.oop u v b hx hc hxc h1 e1 hb e2
        · intro b hb hT
          rcases hT with hT | hT | hT
          · subst hT; exact (h.off _ i2).2 hb
          · subst hT; exact (h.off _ i3).2 hb
          · exact (h.off _ (hRT b hT).1).2 hb
  · intro x hx
    by_cases hxc : x = c.oop
    · subst hxc
      have hvs : (stepT com t c).wh c.oop = some com := if_pos rfl
      rw [fput_same, hvs]; rfl
    · have hvs : (stepT com t c).wh x = t.wh x := if_neg hxc
      rw [fput_other _ _ hxc, hvs]; exact h.at_ x hx
  · intro x y v u b hx hy hxy h1 h2 h3 h4
    have key : ∀ z s, W64 z → z ≠ c.oop → f z = some s → s.ownBlock = some b → v'.ownBlock = some b → False := by
      intro z s hz hzc e1 e2 e3
      rcases hv' b e3 with ⟨r, e4, e5⟩ | ⟨e4, _⟩
      · exact h.apart z c.oop s r b hz hc hzc e1 e4 e2 e5
      · rcases h.row z hz with ⟨e5, _⟩ | ⟨s2, xs, e5, _, _, _, e6⟩
        · rw [e1] at e5; cases e5
        · rw [e1] at e5; injection e5 with e5; subst e5
          have := hlt b (e6 b e2).1
          omega
    by_cases hxc : x = c.oop
    · have hyc : y ≠ c.oop := fun e => hxy (hxc.trans e.symm)
      subst hxc
      rw [fput_same] at h1
      rw [fput_other _ _ hyc] at h2
      injection h1 with h1
      subst h1
      exact key y u hy hyc h2 h4 h3
    · rw [fput_other _ _ hxc] at h1
      by_cases hyc : y = c.oop
      · subst hyc
        rw [fput_same] at h2
        injection h2 with h2
        subst h2
        exact key x v hx hxc h1 h3 h4
      · rw [fput_other _ _ hyc] at h2
        exact h.apart x y v u b hx hy hxy h1 h2 h3 h4
  · intro b hb
    rcases hb with hb | hb
    · refine ⟨Nat.lt_of_lt_of_le (hlt b hb) hf.size, fun hO => ?_⟩
      rcases hO2 b hO with h1 | h1
      · exact (h.off b hb).2 h1
      · have := hlt b hb; omega
    · exact ⟨(hv2 b hb).1, fun hO => hO3 b hO hb⟩
  · intro b hb
    rcases hO2 b hb with h1 | h1
    · exact Nat.lt_of_lt_of_le (h.offO b h1) hf.size
    · exact h1.2
  · intro x
    by_cases hxc : x = c.oop
    · have hvs : (stepT com t c).vs x = t.vs x ++ [⟨com, c.gone, c.obj⟩] := if_pos hxc
      rw [hvs, List.length_append]
      have := h.small x
      show _ ≤ t.n + 1
      simp only [List.length_singleton]
      omega
    · have hvs : (stepT com t c).vs x = t.vs x := if_neg hxc
      rw [hvs]
      exact Nat.le_trans (h.small x) (Nat.le_succ _)
end Go.Proofs.Ytifcnjebepipnaa
