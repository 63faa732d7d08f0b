/- Tables in memory: versions of objects by their oops. table.New, Last, asked, behind, At. No condition but size. Maps in a region that draws its order: a lookup, a store. No condition. One change that comes to a table, plainly and in memory. No condition. table.behind (a binary search), At. No condition but size. table.At. No condition but size. Which objects can be kept: value's RightObj, and the reference's. No condition. Whether two objects are alike: value's Same, and the reference's; Put. No condition. -/
import Derived.Test.YtoajigghkjnffaaJRViewCopiesp1
import Derived.Test.YtoajigghkjnffaaJRViewCopiesp0
import Derived.Deep.CutBlock
import Derived.Deep.DeepCutAuto
namespace Go.Proofs.Ytoajigghkjnffaa
set_option linter.unusedVariables false
set_option linter.unusedSimpArgs false
open Go.RowKit

/-- A table: a version is a change whose oop is the commit. n: how often something was stored. -/
structure TabM where
  first : Int
  last : Int
  vs : Int → List ChM
  wh : Int → Option Int
  n : Nat
def tab0 : TabM := ⟨0, 0, fun _ => [], fun _ => none, 0⟩
/-- What a table keeps to: versions rise. -/
def TabOk (t : TabM) : Prop := ∀ x, (t.vs x).Pairwise (fun a b => a.oop < b.oop) ∧ (∀ v ∈ t.vs x, v.oop ≤ t.last) ∧ (t.vs x).length ≤ t.n ∧ ∀ v ∈ t.vs x, v.obj.slots.length ≤ 256 ∧ v.obj.bytes.length ≤ 1024
abbrev tVer : TypeId := 95
abbrev tVers : TypeId := 88
theorem so_ver : SliceOf Try.prog tVers tVer (.agg #[.int .i64 0, .bool false, .int .i64 0, .slice none 0 0, .slice none 0 0]) 5 72 := ⟨Try.underlying88, by kernel_rfl, rfl, by decide, by decide, by decide⟩
theorem ag_ver : AggOf Try.prog tVer 5 := ⟨⟨_, Try.underlying95, rfl⟩, by kernel_rfl⟩
theorem plain_lver : ∀ w, (isAgg tVers).run Try.prog w = .ok false w := plain_of Try.underlying88 rfl
theorem plain_mver : ∀ w, (isAgg 89).run Try.prog w = .ok false w := plain_of Try.underlying89 rfl
theorem plain_mi64 : ∀ w, (isAgg 90).run Try.prog w = .ok false w := plain_of Try.underlying90 rfl
/-- One oop's entry: nothing, or a row of the table's own. -/
def RowAt (w : World) (T O : Nat → Prop) (o : Option Value) (l : List ChM) : Prop :=
  (o = none ∧ l = []) ∨ ∃ v xs, o = some v ∧ l ≠ [] ∧ w.ownsRow 0 tVer 5 v l.length xs ∧ ChsC w O xs l ∧ ∀ b, v.ownBlock = some b → T b
structure TabP (w : World) (T O : Nat → Prop) (p mb wb : Nat) (f g : Int → Option Value) (t : TabM) : Prop where
  blk : Blk w p 92 #[.int .i64 t.first, .int .i64 t.last, .map (some mb), .map (some wb)]
  vers : MapV w mb t.n f
  when : MapV w wb t.n g
  row : ∀ x, W64 x → RowAt w (fun b => T b ∧ b ≠ p ∧ b ≠ mb ∧ b ≠ wb) O (f x) (t.vs x)
  at_ : ∀ x, W64 x → g x = (t.wh x).map (.int .i64)
  apart : ∀ x y v u b, W64 x → W64 y → x ≠ y → f x = some v → f y = some u → v.ownBlock = some b → ¬ u.ownBlock = some b
  inT : T p ∧ T mb ∧ T wb ∧ p ≠ mb ∧ p ≠ wb ∧ mb ≠ wb
  off : ∀ b, T b → b < w.heap.size ∧ ¬ O b
  offO : ∀ b, O b → b < w.heap.size
  small : ∀ x, (t.vs x).length ≤ t.n
/-- A table at p: T its own blocks, O those that its objects lie in. -/
def TabAt (w : World) (T O : Nat → Prop) (p : Nat) (t : TabM) : Prop := ∃ mb wb f g, TabP w T O p mb wb f g t
theorem RowAt.fr {w w' : World} {S T O : Nat → Prop} {o : Option Value} {l : List ChM} (h : RowAt w T O o l) (hf : Fr S w w') (h1 : ∀ b, T b → ¬ S b) (h2 : ∀ b, O b → ¬ S b) : RowAt w' T O o l := by
  rcases h with h | ⟨v, xs, e, hl, hown, hc, hb⟩
  · exact .inl h
  · exact .inr ⟨v, xs, e, hl, own_fr hown hf (fun b hb' => h1 b (hb b hb')), hc.keep hf h2, hb⟩
theorem TabP.fr {w w' : World} {S T O : Nat → Prop} {p mb wb : Nat} {f g : Int → Option Value} {t : TabM} (h : TabP w T O p mb wb f g t) (hf : Fr S w w') (h1 : ∀ b, T b → ¬ S b) (h2 : ∀ b, O b → ¬ S b) : TabP w' T O p mb wb f g t where
  blk := h.blk.fr hf (h1 _ h.inT.1)
  vers := h.vers.fr hf (h1 _ h.inT.2.1)
  when := h.when.fr hf (h1 _ h.inT.2.2.1)
  row := fun x hx => (h.row x hx).fr hf (fun b hb => h1 b hb.1) h2
  at_ := h.at_
  apart := h.apart
  inT := h.inT
  off := fun b hb => ⟨Nat.lt_of_lt_of_le (h.off b hb).1 hf.size, (h.off b hb).2⟩
  offO := fun b hb => Nat.lt_of_lt_of_le (h.offO b hb) hf.size
  small := h.small
theorem TabAt.fr {w w' : World} {S T O : Nat → Prop} {p : Nat} {t : TabM} (h : TabAt w T O p t) (hf : Fr S w w') (h1 : ∀ b, T b → ¬ S b) (h2 : ∀ b, O b → ¬ S b) : TabAt w' T O p t := by
  obtain ⟨mb, wb, f, g, hP⟩ := h
  exact ⟨mb, wb, f, g, hP.fr hf h1 h2⟩
theorem TabAt.fr0 {w w' : World} {T O : Nat → Prop} {p : Nat} {t : TabM} (h : TabAt w T O p t) (hf : Fr No w w') : TabAt w' T O p t := h.fr hf (fun _ _ hn => hn) (fun _ _ hn => hn)
theorem TabAt.lt {w : World} {T O : Nat → Prop} {p : Nat} {t : TabM} (h : TabAt w T O p t) : (∀ b, T b → b < w.heap.size) ∧ (∀ b, O b → b < w.heap.size) ∧ T p := by
  obtain ⟨mb, wb, f, g, hP⟩ := h
  exact ⟨fun b hb => (hP.off b hb).1, hP.offO, hP.inT.1⟩

theorem tnew_calls (w : World) :
    Calls Try.prog 37 #[] w fun e w' => ∃ p, e = .returned (.pointer (some ⟨p, 0, none⟩)) ∧ TabAt w' (fun b => w.heap.size ≤ b ∧ b < w'.heap.size) No p tab0 ∧ Fr No w w' := by
  have hmm := @run_makeMap Try.prog
  have hf1 : Fr No w ((w.alloc (.map #[] 0)).alloc (.map #[] 0)) := ((Fr.refl No w).alloc _).alloc _
  have hm1 : MapV ((w.alloc (.map #[] 0)).alloc (.map #[] 0)) w.heap.size 0 (fun _ => none) := (MapV.made w).alloc _
  have hm2 : MapV ((w.alloc (.map #[] 0)).alloc (.map #[] 0)) (w.heap.size + 1) 0 (fun _ => none) := by have := MapV.made (w.alloc (.map #[] 0)); simpa using this
  go_enter Try.func37, Try.ntmps37
  go_wp2
  go_ret
  refine ⟨_, rfl, ⟨w.heap.size, w.heap.size + 1, fun _ => none, fun _ => none, ?_⟩, hf1.alloc _⟩
  exact { blk := Blk.newAt (by simp)
          vers := hm1.alloc _
          when := hm2.alloc _
          row := fun x _ => .inl ⟨rfl, rfl⟩
          at_ := fun x _ => rfl
          apart := fun x y v u b _ _ _ h => by cases h
          inT := by simp; omega
          off := fun b hb => ⟨hb.2, fun hn => hn⟩
          offO := fun b hb => hb.elim
          small := fun x => Nat.le_refl _ }
theorem tlast_calls (w : World) (p : Nat) (first last : Int) (m1 m2 : Value) (h : Blk w p 92 #[.int .i64 first, .int .i64 last, m1, m2]) :
    Calls Try.prog 24 #[.pointer (some ⟨p, 0, none⟩)] w fun e w' => e = .returned (.int .i64 last) ∧ w' = w := by
  (have p0 := h.cell 0; have p1 := h.cell 1; have p2 := h.cell 2; have p3 := h.cell 3; have pf0 := h.frozen 0; have pf1 := h.frozen 1; have pf2 := h.frozen 2; have pf3 := h.frozen 3; simp only [List.getElem?_toArray, List.getElem?_cons_zero, List.getElem?_cons_succ] at p0 p1 p2 p3)
  go_enter Try.func24, Try.ntmps24
  go_wp2
  go_ret
  exact ⟨rfl, rfl⟩
theorem asked_calls (w : World) (p : Nat) (first last c : Int) (m1 m2 : Value) (h : Blk w p 92 #[.int .i64 first, .int .i64 last, m1, m2]) :
    Calls Try.prog 45 #[.pointer (some ⟨p, 0, none⟩), .int .i64 c] w fun e w' => e = .returned (.bool (decide (first ≤ c) && decide (c ≤ last))) ∧ w' = w := by
  (have p0 := h.cell 0; have p1 := h.cell 1; have p2 := h.cell 2; have p3 := h.cell 3; have pf0 := h.frozen 0; have pf1 := h.frozen 1; have pf2 := h.frozen 2; have pf3 := h.frozen 3; simp only [List.getElem?_toArray, List.getElem?_cons_zero, List.getElem?_cons_succ] at p0 p1 p2 p3)
  by_cases h1 : first ≤ c
  · have e1 : decide (first ≤ c) = true := by simpa using h1
    have H : Hid ((decide (first ≤ c) && decide (c ≤ last)) = decide (c ≤ last)) := Lib.hid (by rw [e1, Bool.true_and])
    clear h1
    go_enter Try.func45, Try.ntmps45
    go_wp2
    go_ret
    exact ⟨ret_bool H.out.symm, rfl⟩
  · have e1 : decide (first ≤ c) = false := by simpa using h1
    have H : Hid ((decide (first ≤ c) && decide (c ≤ last)) = false) := Lib.hid (by rw [e1, Bool.false_and])
    clear h1
    go_enter Try.func45, Try.ntmps45
    go_wp2
    go_ret
    exact ⟨ret_bool H.out.symm, rfl⟩
end Go.Proofs.Ytoajigghkjnffaa
namespace Go.Proofs.Ytoajigghkjnffaa
set_option linter.unusedVariables false
set_option linter.unusedSimpArgs false
open Go.RowKit

theorem wf_of {x : Int} (h1 : -9223372036854775808 ≤ x) (h2 : x ≤ 9223372036854775807) : W64 x := by
  unfold W64; simpa [Lit.wf, IntKind.min, IntKind.max, IntKind.signed, IntKind.bits] using And.intro h1 h2
theorem MapV.mono {w : World} {b n m : Nat} {f : Int → Option Value} (h : MapV w b n f) (hm : n ≤ m) : MapV w b m f := by
  obtain ⟨D, ho, hD⟩ := h
  exact ⟨D, World.ownsMap.mono ho hm, hD⟩
theorem T_look {S : Nat → Prop} {ops : Array Oper} {Q : Exit → Act → World → Prop} {ms : List Nat} {ord calls : List Nat} {k : Nat} {o : Oper} {l : List Oper} {a : Act} {w : World} {t e : TypeId} {m kx : Operand} {b n : Nat} {f : Int → Option Value} {z : Value} {x : Int}
    (h : MapV w b n f) (hS : ¬ S b) (ht : Try.prog.underlying t = some (.map 2 e)) (hz : ∀ w, (zeroValue e).run Try.prog w = .ok z w) (hx : W64 x)
    (hc : calls.contains (ord.getD k 0) = false) (hw : Region.wanted o (yielded ops a.tmps) = true) (hQ : ∀ v c a w, Q (.panic c) (a.put o.dst v) w → Q (.panic c) a w)
    (ho : o.op = .lookup t m kx false) (hm : a.eval m = .map (some b)) (hk : a.eval kx = .int .i64 x) {u : Value} (hu : (f x).getD z = u)
    (hk2 : wpT Try.prog S ops Q ms ord calls (k + 1) l (a.put o.dst u) w) (hwt : waitsFor ops (listedBy ops.size (ord.take k)) (ord.getD k 0) ms = true := by first | rfl | kernel_rfl) (hxm : calls.contains (ord.getD k 0 + 1000) = false := by rfl) : wpT Try.prog S ops Q ms ord calls k (o :: l) a w := by
  subst hu
  refine T_take hc hw (hQ _) (fun w' hf => ?_) hk2 hxm
  have hf := hf hwt
  have h1 := (h.fr hf hS).look ht (hz w') hx
  unfold execOp
  simp only [ho, hm, hk, Sem.run_bind, Sem.run_pure, Result.andThen_ok, h1]
theorem wp_putM {w : World} {o : Oper} {a : Act} {K : Act → World → Prop} {Q : Exit → Act → World → Prop} {m k v : Operand} {t e : TypeId} (hop : o.op = Op.mapUpdate t m k v) (ht : Try.prog.underlying t = some (.map 2 e)) {b n : Nat} {f : Int → Option Value}
    (h : MapV w b n f) (hm : a.eval m = .map (some b)) (hn : n < maxLen) {x : Int} {u : Value} (hk : a.eval k = .int .i64 x) (hx : W64 x) (hv : a.eval v = u)
    (hK : ∀ w', MapV w' b (n + 1) (fput f x u) → w.grownBy w' (some b) → K (a.put o.dst undef) w') : o.wp Try.prog a w K Q := by
  obtain ⟨w', hrun, h1, h2⟩ := h.run_put ht hn hx u
  unfold Oper.wp execOp
  simp only [hop, hm, hk, hv, Sem.run_bind, hrun, Sem.run_pure, Result.andThen_ok]
  exact hK w' h1 h2
end Go.Proofs.Ytoajigghkjnffaa
namespace Go.Proofs.Ytoajigghkjnffaa
set_option linter.unusedVariables false
set_option linter.unusedSimpArgs false
open Go.RowKit

def stepT (com : Int) (t : TabM) (c : ChM) : TabM :=
  ⟨t.first, t.last, fun x => if x = c.oop then t.vs x ++ [⟨com, c.gone, c.obj⟩] else t.vs x, fun x => if x = c.oop then some com else t.wh x, t.n + 1⟩
def applyM (t : TabM) (r : RecM) : TabM × Int :=
  if rightR r = true then
    if r.commit ≤ t.last then (t, 5)
    else ({ r.chs.foldl (stepT r.commit) t with last := r.commit }, 0)
  else (t, 1)
theorem applyM_bad {t : TabM} {r : RecM} (h : rightR r = false) : applyM t r = (t, 1) := by unfold applyM; rw [if_neg (by rw [h]; decide)]
theorem applyM_old {t : TabM} {r : RecM} (h : rightR r = true) (h2 : r.commit ≤ t.last) : applyM t r = (t, 5) := by unfold applyM; rw [if_pos h, if_pos h2]
theorem applyM_yes {t : TabM} {r : RecM} (h : rightR r = true) (h2 : ¬ r.commit ≤ t.last) : applyM t r = ({ r.chs.foldl (stepT r.commit) t with last := r.commit }, 0) := by unfold applyM; rw [if_pos h, if_neg h2]
theorem fold_first (com : Int) : ∀ (l : List ChM) (t : TabM), (l.foldl (stepT com) t).first = t.first ∧ (l.foldl (stepT com) t).last = t.last ∧ (l.foldl (stepT com) t).n = t.n + l.length
  | [], t => ⟨rfl, rfl, rfl⟩
  | c :: l, t => by
    obtain ⟨h1, h2, h3⟩ := fold_first com l (stepT com t c)
    refine ⟨h1, h2, ?_⟩
    rw [List.foldl_cons, h3, List.length_cons]
    show t.n + 1 + l.length = _
    omega
/-- What holds while changes come: last: the oop that came last. -/
def Mid (com o : Int) (t : TabM) : Prop :=
  ∀ x, (t.vs x).Pairwise (fun a b => a.oop < b.oop) ∧ (∀ v ∈ t.vs x, v.oop ≤ com) ∧ (o < x → ∀ v ∈ t.vs x, v.oop < com) ∧ (t.vs x).length ≤ t.n ∧ ∀ v ∈ t.vs x, v.obj.slots.length ≤ 256 ∧ v.obj.bytes.length ≤ 1024
theorem rightC_small {c : ChM} (h : rightC c = true) : c.obj.slots.length ≤ 256 ∧ c.obj.bytes.length ≤ 1024 := by
  unfold rightC at h
  split at h
  · have := of_decide_eq_true h
    rw [this]
    exact ⟨by decide, by decide⟩
  · unfold rightO at h
    simp only [Bool.and_eq_true, decide_eq_true_eq] at h
    exact ⟨h.1.1.2, h.1.2⟩
theorem mid_step {com o : Int} {t : TabM} {c : ChM} (h : Mid com o t) (h1 : o < c.oop) (h2 : rightC c = true) : Mid com c.oop (stepT com t c) := by
  intro x
  obtain ⟨a1, a2, a3, a4, a5⟩ := h x
  by_cases hx : x = c.oop
  · have hv : (stepT com t c).vs x = t.vs x ++ [⟨com, c.gone, c.obj⟩] := by show (if x = c.oop then _ else _) = _; rw [if_pos hx]
    rw [hv]
    refine ⟨?_, ?_, fun h9 => by omega, ?_, ?_⟩
    · rw [List.pairwise_append]
      refine ⟨a1, by simp, ?_⟩
      intro a ha b hb
      rw [List.mem_singleton] at hb
      subst hb
      exact a3 (by omega) a ha
    · intro v hv
      rcases List.mem_append.1 hv with hv | hv
      · exact a2 v hv
      · rw [List.mem_singleton] at hv; subst hv; exact Int.le_refl _
    · rw [List.length_append]
      show _ ≤ t.n + 1
      simp only [List.length_singleton]
      omega
    · intro v hv
      rcases List.mem_append.1 hv with hv | hv
      · exact a5 v hv
      · rw [List.mem_singleton] at hv; subst hv; exact rightC_small h2
  · have hv : (stepT com t c).vs x = t.vs x := by show (if x = c.oop then _ else _) = _; rw [if_neg hx]
    rw [hv]
    exact ⟨a1, a2, fun h9 => a3 (by omega), Nat.le_trans a4 (Nat.le_succ _), a5⟩
theorem mid_fold {com : Int} : ∀ (l : List ChM) (o : Int) (t : TabM), Mid com o t → chsRight o l = true → ∃ o', Mid com o' (l.foldl (stepT com) t)
  | [], o, t, h, _ => ⟨o, h⟩
  | c :: l, o, t, h, hr => by
    rw [chsRight] at hr
    simp only [Bool.and_eq_true, decide_eq_true_eq] at hr
    exact mid_fold l c.oop _ (mid_step h hr.1 hr.2.2.1) hr.2.2.2
theorem rightR_four {r : RecM} (h : rightR r = true) : 1 ≤ r.commit ∧ r.commit ≤ 1099511627776 ∧ r.chs.length ≤ 4096 ∧ chsRight 0 r.chs = true := by
  unfold rightR at h
  simp only [Bool.and_eq_true, decide_eq_true_eq] at h
  exact ⟨h.1, h.2.1, h.2.2.1, h.2.2.2⟩
theorem chsRight_all : ∀ {l : List ChM} {o : Int}, chsRight o l = true → ∀ c ∈ l, oopB c.oop = true ∧ rightC c = true
  | [], _, _, c, hc => by cases hc
  | d :: l, o, h, c, hc => by
    rw [chsRight] at h
    simp only [Bool.and_eq_true, decide_eq_true_eq] at h
    rcases List.mem_cons.1 hc with rfl | hc
    · exact ⟨h.2.1, h.2.2.1⟩
    · exact chsRight_all h.2.2.2 c hc
theorem applyM_ok {t : TabM} {r : RecM} (h : TabOk t) : TabOk (applyM t r).1 := by
  cases hr : rightR r with
  | false => rw [applyM_bad hr]; exact h
  | true =>
    by_cases h2 : r.commit ≤ t.last
    · rw [applyM_old hr h2]; exact h
    · rw [applyM_yes hr h2]
      obtain ⟨_, _, _, h3⟩ := rightR_four hr
      have hm : Mid r.commit 0 t := fun x => by
        obtain ⟨a1, a2, a3, a4⟩ := h x
        exact ⟨a1, fun v hv => by have := a2 v hv; omega, fun _ v hv => by have := a2 v hv; omega, a3, a4⟩
      obtain ⟨o', hm'⟩ := mid_fold r.chs 0 t hm h3
      intro x
      obtain ⟨a1, a2, _, a4, a5⟩ := hm' x
      exact ⟨a1, a2, a4, a5⟩
theorem applyM_n (t : TabM) (r : RecM) : (applyM t r).1.n ≤ t.n + r.chs.length := by
  unfold applyM
  split
  · split
    · exact Nat.le_add_right _ _
    · exact Nat.le_of_eq (fold_first r.commit r.chs t).2.2
  · exact Nat.le_add_right _ _

theorem TabP.step {w w' : World} {T O : Nat → Prop} {p mb wb : Nat} {f g : Int → Option Value} {t : TabM} (h : TabP w T O p mb wb f g t) {com : Int} {c : ChM} {v' : Value} {xs' : List Value} {O' R : Nat → Prop} (hc : W64 c.oop)
    (hf : Fr (fun b => b = mb ∨ b = wb ∨ R b) w w') (hR : ∀ b, R b → ∃ v, f c.oop = some v ∧ v.ownBlock = some b)
    (hv : MapV w' mb (t.n + 1) (fput f c.oop v')) (hw : MapV w' wb (t.n + 1) (fput g c.oop (.int .i64 com)))
    (hown : w'.ownsRow 0 tVer 5 v' ((t.vs c.oop).length + 1) xs') (hxs : ChsC w' O' xs' (t.vs c.oop ++ [⟨com, c.gone, c.obj⟩]))
    (hv' : ∀ b, v'.ownBlock = some b → (∃ v, f c.oop = some v ∧ v.ownBlock = some b) ∨ w.heap.size ≤ b ∧ b < w'.heap.size)
    (hO' : ∀ b, O b → O' b) (hO2 : ∀ b, O' b → O b ∨ w.heap.size ≤ b ∧ b < w'.heap.size) (hO3 : ∀ b, O' b → ¬ v'.ownBlock = some b) :
    TabP w' (fun b => T b ∨ v'.ownBlock = some b) O' p mb wb (fput f c.oop v') (fput g c.oop (.int .i64 com)) (stepT com t c) := by
  have hrowc : ∀ v b, f c.oop = some v → v.ownBlock = some b → T b ∧ b ≠ p ∧ b ≠ mb ∧ b ≠ wb := by
    intro v b h1 h2
    rcases h.row c.oop hc with ⟨h3, _⟩ | ⟨u, xs, h3, _, _, _, h4⟩
    · rw [h1] at h3; cases h3
    · rw [h1] at h3; injection h3 with h3; subst h3; exact h4 b h2
  have hRT : ∀ b, R b → T b ∧ b ≠ p ∧ b ≠ mb ∧ b ≠ wb := fun b hb => by obtain ⟨v, h1, h2⟩ := hR b hb; exact hrowc v b h1 h2
  obtain ⟨i1, i2, i3, i4, i5, i6⟩ := h.inT
  have hlt : ∀ b, T b → b < w.heap.size := fun b hb => (h.off b hb).1
  have hv2 : ∀ b, v'.ownBlock = some b → b < w'.heap.size ∧ b ≠ p ∧ b ≠ mb ∧ b ≠ wb := by
    intro b hb
    rcases hv' b hb with ⟨v, h1, h2⟩ | ⟨h1, h2⟩
    · obtain ⟨a1, a2⟩ := hrowc v b h1 h2
      exact ⟨Nat.lt_of_lt_of_le (hlt b a1) hf.size, a2⟩
    · have b1 := hlt _ i1; have b2 := hlt _ i2; have b3 := hlt _ i3
      exact ⟨h2, by omega, by omega, by omega⟩
  refine { blk := ?_, vers := hv, when := hw, row := ?_, at_ := ?_, apart := ?_, inT := ⟨.inl i1, .inl i2, .inl i3, i4, i5, i6⟩, off := ?_, offO := ?_, small := ?_ }
  · exact h.blk.fr hf (by rintro (h1 | h1 | h1); exact i4 h1; exact i5 h1; exact (hRT _ h1).2.1 rfl)
  · intro x hx
    by_cases hxc : x = c.oop
    · subst hxc
      have hvs : (stepT com t c).vs c.oop = t.vs c.oop ++ [⟨com, c.gone, c.obj⟩] := if_pos rfl
      rw [fput_same, hvs]
      refine .inr ⟨v', xs', rfl, by simp, by rw [List.length_append]; exact hown, hxs, fun b hb => ⟨.inr hb, (hv2 b hb).2⟩⟩
    · have hvs : (stepT com t c).vs x = t.vs x := if_neg hxc
      rw [fput_other _ _ hxc, hvs]
      rcases h.row x hx with h1 | ⟨u, xs, h1, h2, h3, h4, h5⟩
      · exact .inl h1
      · refine .inr ⟨u, xs, h1, h2, own_fr h3 hf ?_, (h4.keep hf ?_).mono (fun b _ hb => hO' b hb), fun b hb => ⟨.inl (h5 b hb).1, (h5 b hb).2⟩⟩
        · intro b hb hT
          obtain ⟨a0, a1, a2, a3⟩ := h5 b hb
          rcases hT with hT | hT | hT
          · exact a2 hT
          · exact a3 hT
          · obtain ⟨v, e1, e2⟩ := hR b hT
            exact h.apart x c.oop u v b hx hc hxc h1 e1 hb e2
        · intro b hb hT
          rcases hT with hT | hT | hT
          · subst hT; exact (h.off _ i2).2 hb
          · subst hT; exact (h.off _ i3).2 hb
          · exact (h.off _ (hRT b hT).1).2 hb
  · intro x hx
    by_cases hxc : x = c.oop
    · subst hxc
      have hvs : (stepT com t c).wh c.oop = some com := if_pos rfl
      rw [fput_same, hvs]; rfl
    · have hvs : (stepT com t c).wh x = t.wh x := if_neg hxc
      rw [fput_other _ _ hxc, hvs]; exact h.at_ x hx
  · intro x y v u b hx hy hxy h1 h2 h3 h4
    have key : ∀ z s, W64 z → z ≠ c.oop → f z = some s → s.ownBlock = some b → v'.ownBlock = some b → False := by
      intro z s hz hzc e1 e2 e3
      rcases hv' b e3 with ⟨r, e4, e5⟩ | ⟨e4, _⟩
      · exact h.apart z c.oop s r b hz hc hzc e1 e4 e2 e5
      · rcases h.row z hz with ⟨e5, _⟩ | ⟨s2, xs, e5, _, _, _, e6⟩
        · rw [e1] at e5; cases e5
        · rw [e1] at e5; injection e5 with e5; subst e5
          have := hlt b (e6 b e2).1
          omega
    by_cases hxc : x = c.oop
    · have hyc : y ≠ c.oop := fun e => hxy (hxc.trans e.symm)
      subst hxc
      rw [fput_same] at h1
      rw [fput_other _ _ hyc] at h2
      injection h1 with h1
      subst h1
      exact key y u hy hyc h2 h4 h3
    · rw [fput_other _ _ hxc] at h1
      by_cases hyc : y = c.oop
      · subst hyc
        rw [fput_same] at h2
        injection h2 with h2
        subst h2
        exact key x v hx hxc h1 h3 h4
      · rw [fput_other _ _ hyc] at h2
        exact h.apart x y v u b hx hy hxy h1 h2 h3 h4
  · intro b hb
    rcases hb with hb | hb
    · refine ⟨Nat.lt_of_lt_of_le (hlt b hb) hf.size, fun hO => ?_⟩
      rcases hO2 b hO with h1 | h1
      · exact (h.off b hb).2 h1
      · have := hlt b hb; omega
    · exact ⟨(hv2 b hb).1, fun hO => hO3 b hO hb⟩
  · intro b hb
    rcases hO2 b hb with h1 | h1
    · exact Nat.lt_of_lt_of_le (h.offO b h1) hf.size
    · exact h1.2
  · intro x
    by_cases hxc : x = c.oop
    · have hvs : (stepT com t c).vs x = t.vs x ++ [⟨com, c.gone, c.obj⟩] := if_pos hxc
      rw [hvs, List.length_append]
      have := h.small x
      show _ ≤ t.n + 1
      simp only [List.length_singleton]
      omega
    · have hvs : (stepT com t c).vs x = t.vs x := if_neg hxc
      rw [hvs]
      exact Nat.le_trans (h.small x) (Nat.le_succ _)
end Go.Proofs.Ytoajigghkjnffaa
namespace Go.Proofs.Ytoajigghkjnffaa
set_option linter.unusedVariables false
set_option linter.unusedSimpArgs false
open Go.RowKit

/-- How many versions are up to a commit. -/
def behM (l : List ChM) (t : Int) : Nat := l.countP (fun v => decide (v.oop ≤ t))
abbrev closB : Value := .func (.func 63) #[] #[]
theorem beh_eq {l : List ChM} {t : Int} {i : Nat} (hi : i ≤ l.length) (h1 : ∀ k, ∀ h : k < l.length, k < i → l[k].oop ≤ t) (h2 : ∀ k, ∀ h : k < l.length, i ≤ k → t < l[k].oop) : behM l t = i := by
  unfold behM
  have e : l = l.take i ++ l.drop i := (List.take_append_drop i l).symm
  have a1 : (l.take i).countP (fun v => decide (v.oop ≤ t)) = (l.take i).length := by
    rw [List.countP_eq_length]
    intro v hv
    obtain ⟨k, hk, rfl⟩ := List.mem_iff_getElem.1 hv
    have hk' : k < i ∧ k < l.length := by have : k < min i l.length := by simpa using hk
                                          omega
    rw [List.getElem_take]
    exact decide_eq_true (h1 k hk'.2 hk'.1)
  have a2 : (l.drop i).countP (fun v => decide (v.oop ≤ t)) = 0 := by
    rw [List.countP_eq_zero]
    intro v hv
    obtain ⟨k, hk, rfl⟩ := List.mem_iff_getElem.1 hv
    have hk' : k < l.length - i := by simpa using hk
    rw [List.getElem_drop]
    have := h2 (i + k) (by omega) (by omega)
    simpa using this
  rw [e, List.countP_append, a1, a2, List.length_take]
  omega
theorem rise_le {l : List ChM} (hs : l.Pairwise (fun a b => a.oop < b.oop)) {i j : Nat} (hj : j < l.length) (h : i ≤ j) : l[i].oop ≤ l[j].oop := by
  rcases Nat.lt_or_ge i j with h1 | h1
  · exact Int.le_of_lt (List.pairwise_iff_getElem.1 hs i j (by omega) hj h1)
  · obtain rfl : i = j := by omega
    exact Int.le_refl _
def cmpZ (com t : Int) : Int := if com ≤ t then -1 else 1
theorem ret_i64 {a b : Int} (h : a = b) : Ending.returned (.int .i64 a) = .returned (.int .i64 b) := by rw [h]
theorem cmp_calls (com : Int) (r1 r2 r3 r4 : Value) (t : Int) (w : World) :
    Calls Try.prog 63 #[.agg #[.int .i64 com, r1, r2, r3, r4], .int .i64 t] w fun e w' => e = .returned (.int .i64 (cmpZ com t)) ∧ Fr No w w' := by
  have hf : Fr No w (w.alloc (.cells #[.int .i64 com, r1, r2, r3, r4] tVer)) := (Fr.refl No w).alloc _
  by_cases h : com ≤ t
  · have H : Hid (cmpZ com t = -1) := Lib.hid (if_pos h)
    have e1 : decide (com ≤ t) = true := by simpa using h
    clear h
    go_enter Try.func63, Try.ntmps63
    go_wp2
    go_ret
    exact ⟨ret_i64 H.out.symm, hf⟩
  · have H : Hid (cmpZ com t = 1) := Lib.hid (if_neg h)
    have e1 : decide (com ≤ t) = false := by simpa using h
    clear h
    go_enter Try.func63, Try.ntmps63
    go_wp2
    go_ret
    exact ⟨ret_i64 H.out.symm, hf⟩
theorem cmpZ_le {com t : Int} (h : com ≤ t) : cmpZ com t = -1 := if_pos h
theorem cmpZ_gt {com t : Int} (h : ¬ com ≤ t) : cmpZ com t = 1 := if_neg h
set_option maxHeartbeats 2000000 in
set_option maxRecDepth 100000 in
theorem bsearch_calls (S : Nat → Prop) (A : Option Addr) (c : Nat) (l : List ChM) (t : Int) (w : World) (h : RdCh w S A l) (hs : l.Pairwise (fun a b => a.oop < b.oop)) (hl : l.length ≤ 100000000) :
    Calls Try.prog 62 #[.slice A l.length c, .int .i64 t, closB] w fun e w' => ∃ b, e = .returned (.tuple #[.int .i64 (behM l t : Nat), .bool b]) ∧ Fr No w w' := by
  have HS := Lib.hid hs
  clear hs
  go_enter Try.func62, Try.ntmps62
  go_wp2_with fail
  go_loopw [9, 10] (fun u v wr => ∃ i j : Nat, i ≤ j ∧ j ≤ l.length ∧ u = .int .i64 (i : Int) ∧ v = .int .i64 (j : Int) ∧ Hid (∀ k, ∀ h : k < l.length, k < i → l[k].oop ≤ t) ∧ Hid (∀ k, ∀ h : k < l.length, j ≤ k → t < l[k].oop) ∧ Fr No w wr) (fun u v _ => (intOf v).toNat - (intOf u).toNat)
  case atStart => exact ⟨0, l.length, by omega, by omega, rfl, rfl, Lib.hid (fun k _ h => by omega), Lib.hid (fun k _ h => by omega), Fr.refl _ _⟩
  case round =>
    obtain ⟨i, j, hij, hj, rfl, rfl, H1, H2, hf⟩ := hrel
    by_cases hlt : i < j
    · have ek : decide ((i : Int) < j) = true := by simpa using (by omega : (i : Int) < j)
      have hml : (i + j) / 2 < l.length := by omega
      obtain ⟨ga, of, Av, nn, D, mm, rfl, _, hcell, _, _⟩ := (h.fr0 hf).at_ hml
      have HL := Lib.hid (show l[(i + j) / 2].oop ≤ t → ∀ k, ∀ h : k < l.length, k < (i + j) / 2 + 1 → l[k].oop ≤ t from fun h1 k hk hkm => Int.le_trans (rise_le HS.out hml (by omega)) h1)
      have HG := Lib.hid (show t < l[(i + j) / 2].oop → ∀ k, ∀ h : k < l.length, (i + j) / 2 ≤ k → t < l[k].oop from fun h1 k hk hkm => Int.lt_of_lt_of_le h1 (rise_le HS.out hk hkm))
      generalize l[(i + j) / 2] = x at *
      have hcell' := addr5 _ _ _ hcell
      have hm0 : (i + j) / 2 < j := by omega
      have hm1 : i ≤ (i + j) / 2 := by omega
      go_wp2_with (first
        | (refine wpList_ldA ag_ver rfl _ rfl ⟨ga, of + (i + j) / 2 * 5, none⟩ _ rfl rfl hcell' ?_)
        | fail)
      refine (cmp_calls x.oop _ _ _ _ t _).mono ?_
      rintro e w2 ⟨rfl, hf2⟩
      by_cases hx : x.oop ≤ t
      · have HC := cmpZ_le hx
        rw [HC]
        have H1' := Lib.hid (HL.out hx)
        clear HC hx
        go_wp2
        go_roundw
        case rel => exact ⟨(i + j) / 2 + 1, j, by omega, hj, by go_num, rfl, H1', H2, hf.tr hf2⟩
        case measure => simp [intOf]; omega
      · have HC := cmpZ_gt hx
        rw [HC]
        have H2' := Lib.hid (HG.out (Int.not_le.1 hx))
        clear HC hx
        go_wp2
        go_roundw
        case rel => exact ⟨i, (i + j) / 2, by omega, by omega, rfl, by go_num, H1, H2', hf.tr hf2⟩
        case measure => simp [intOf]; omega
    · obtain rfl : i = j := by omega
      have ek : decide ((i : Int) < i) = false := by simp
      have HB := Lib.hid (beh_eq hj H1.out H2.out)
      by_cases hl2 : i < l.length
      · have ek2 : decide ((i : Int) < l.length) = true := by simpa using (by omega : (i : Int) < l.length)
        obtain ⟨ga, of, Av, nn, D, mm, rfl, _, hcell, _, _⟩ := (h.fr0 hf).at_ hl2
        have hcell' := addr5 _ _ _ hcell
        generalize l[i] = x at *
        go_wp2_with (first
          | (refine wpList_ldA ag_ver rfl _ rfl ⟨ga, of + i * 5, none⟩ _ rfl rfl hcell' ?_)
          | fail)
        refine (cmp_calls x.oop _ _ _ _ t _).mono ?_
        rintro e w2 ⟨rfl, hf2⟩
        go_wp2
        go_ret2
        exact ⟨_, by rw [HB.out]; rfl, hf.tr hf2⟩
      · have ek2 : decide ((i : Int) < l.length) = false := by simpa using (by omega : ¬ (i : Int) < l.length)
        go_wp2
        go_ret2
        exact ⟨_, by rw [HB.out]; rfl, hf⟩
theorem behind_calls (S : Nat → Prop) (A : Option Addr) (c : Nat) (l : List ChM) (t : Int) (w : World) (h : RdCh w S A l) (hs : l.Pairwise (fun a b => a.oop < b.oop)) (hl : l.length ≤ 100000000) :
    Calls Try.prog 46 #[.slice A l.length c, .int .i64 t] w fun e w' => e = .returned (.int .i64 (behM l t : Nat)) ∧ Fr No w w' := by
  have HS := Lib.hid hs
  clear hs
  go_enter Try.func46, Try.ntmps46
  go_wp2_with fail
  refine (bsearch_calls S A c l t _ h HS.out hl).mono ?_
  rintro e w2 ⟨b, rfl, hf2⟩
  go_wp2
  go_ret
  exact ⟨rfl, hf2⟩
end Go.Proofs.Ytoajigghkjnffaa
namespace Go.Proofs.Ytoajigghkjnffaa
set_option linter.unusedVariables false
set_option linter.unusedSimpArgs false
open Go.RowKit

theorem zero_vers (w : World) : (zeroValue tVers).run Try.prog w = .ok (.slice none 0 0) w := by kernel_rfl
/-- The version that is asked for; its index is k - 1. -/
def verM (t : TabM) (c x : Int) : Option ChM := if behM (t.vs x) c = 0 then none else (t.vs x)[behM (t.vs x) c - 1]?
def atM (t : TabM) (c x : Int) : ObjM × Int :=
  if (decide (t.first ≤ c) && decide (c ≤ t.last)) = true then
    match verM t c x with
    | some v => if v.gone = true then (noObj, 25) else (v.obj, 0)
    | none => (noObj, 25)
  else (noObj, 13)
theorem atM_no {t : TabM} {c x : Int} (h : (decide (t.first ≤ c) && decide (c ≤ t.last)) = false) : atM t c x = (noObj, 13) := by unfold atM; rw [if_neg (by rw [h]; decide)]
theorem atM_none {t : TabM} {c x : Int} (h : (decide (t.first ≤ c) && decide (c ≤ t.last)) = true) (h0 : behM (t.vs x) c = 0) : atM t c x = (noObj, 25) := by unfold atM verM; rw [if_pos h, if_pos h0]
theorem behM_le (l : List ChM) (t : Int) : behM l t ≤ l.length := List.countP_le_length
theorem atM_some {t : TabM} {c x : Int} (h : (decide (t.first ≤ c) && decide (c ≤ t.last)) = true) {j : Nat} (h0 : behM (t.vs x) c = j + 1) (hj : j < (t.vs x).length) : atM t c x = if (t.vs x)[j].gone = true then (noObj, 25) else ((t.vs x)[j].obj, 0) := by
  unfold atM verM
  rw [if_pos h, if_neg (by omega), h0, show j + 1 - 1 = j by omega, List.getElem?_eq_getElem hj]
theorem ObjOwn.none_ (w : World) (B : Nat) (hB : B ≤ w.heap.size) : ObjOwn w B [.int .i64 0, .slice none 0 0, .slice none 0 0] noObj :=
  ⟨none, 0, none, 0, B, rfl, World.ownsRow_nil _ _ _ _, by simp [Value.ownBlock], World.ownsRow_nil _ _ _ _, Nat.le_refl _⟩
def RetO (w w' : World) (e : Ending) (r : ObjM × Int) : Prop :=
  ∃ cs : List Value, e = .returned (.tuple #[.agg cs.toArray, .int .i64 r.2]) ∧ ObjOwn w' w.heap.size cs r.1 ∧ Fr No w w'
theorem RowAt.slice {w : World} {T O : Nat → Prop} {v : Value} {l : List ChM} (h : RowAt w T O (some v) l) (hl : l.length ≤ 100000000) : ∃ A c, v = .slice A l.length c ∧ RdCh w (fun b => T b ∨ O b) A l := by
  rcases h with ⟨h1, _⟩ | ⟨v', xs, e, _, hown, hc, hb⟩
  · cases h1
  · injection e with e
    subst e
    obtain ⟨A, c, rfl, _, _, hA⟩ := own_form hown
    exact ⟨A, c, rfl, xs, (own_rd hown (by omega)).mono (fun b _ hb' => .inl (hb b ((hA b).2 hb'))) (by decide), hc.mono (fun b _ hb' => .inr hb')⟩
theorem RowAt.nil_ {w : World} {T O : Nat → Prop} {l : List ChM} (h : RowAt w T O none l) : l = [] := by
  rcases h with ⟨_, h1⟩ | ⟨v', xs, e, _⟩
  · exact h1
  · cases e
set_option maxHeartbeats 4000000 in
set_option maxRecDepth 100000 in
theorem tat_calls (w : World) (T O : Nat → Prop) (p : Nat) (t : TabM) (c x : Int) (h : TabAt w T O p t) (ok : TabOk t) (hn : t.n ≤ 1000000) (hx : W64 x) :
    Calls Try.prog 23 #[.pointer (some ⟨p, 0, none⟩), .int .i64 c, .int .i64 x] w fun e w' => RetO w w' e (atM t c x) := by
  obtain ⟨mb, wb, f, g, hP⟩ := h
  obtain ⟨first, last, vs, wh, n⟩ := t
  have hf1 : Fr No w (w.alloc (.cells #[.int .i64 0, .slice none 0 0, .slice none 0 0] 27)) := (Fr.refl No w).alloc _
  have hb0 : Blk (w.alloc (.cells #[.int .i64 0, .slice none 0 0, .slice none 0 0] 27)) w.heap.size 27 #[.int .i64 0, .slice none 0 0, .slice none 0 0] := Blk.new w _ _
  have hP1 := hP.fr hf1 (fun _ _ hn => hn) (fun _ _ hn => hn)
  have hbk := hP1.blk
  have hz1 : w.heap.size ≤ (w.alloc (.cells #[.int .i64 0, .slice none 0 0, .slice none 0 0] 27)).heap.size := hf1.size
  simp only at hbk hn
  have hlk := hP1.vers.look Try.underlying89 (zero_vers _) hx
  obtain ⟨hsort, _, hlen, hobj⟩ := ok x
  simp only at hsort hlen hobj
  have hrow := hP1.row x hx
  simp only at hrow
  generalize hvl : vs x = l at *
  (have p0 := hbk.cell 0; have p1 := hbk.cell 1; have p2 := hbk.cell 2; have p3 := hbk.cell 3; have pf0 := hbk.frozen 0; have pf1 := hbk.frozen 1; have pf2 := hbk.frozen 2; have pf3 := hbk.frozen 3; simp only [List.getElem?_toArray, List.getElem?_cons_zero, List.getElem?_cons_succ] at p0 p1 p2 p3)
  cases ha : (decide (first ≤ c) && decide (c ≤ last)) with
  | false =>
    have HM := Lib.hid (atM_no (t := ⟨first, last, vs, wh, n⟩) (c := c) (x := x) ha)
    have hask := asked_calls _ p first last c _ _ hbk
    rw [ha] at hask
    clear ha hlk hP hP1
    go_enter Try.func23, Try.ntmps23
    go_wp2_with fail
    refine hask.mono ?_
    rintro e _ ⟨rfl, rfl⟩
    go_wp2_with (first
      | (refine wpList_stA ag_obj.info rfl _ _ rfl w.heap.size 0 _ _ [.int .i64 0, .slice none 0 0, .slice none 0 0] _ rfl rfl rfl rfl (by intro u hu; simp at hu; rcases hu with rfl | rfl | rfl <;> rfl) hb0 (by decide) ?_; intro w5 hb5 hg5 hz5)
      | fail)
    rw [splice_all _ _ (by rfl)] at hb5
    refine bodyPost_ret (results_blk2 ag_obj rfl _ _ _ _ _ _ rfl rfl hb5 rfl) rfl ?_
    rw [HM.out]
    have hf5 := hf1.grown hg5 (fun q hq => by injection hq with hq; exact .inl (by omega))
    exact ⟨_, rfl, ObjOwn.none_ _ _ hf5.size, hf5⟩
  | true =>
    have hask := asked_calls _ p first last c _ _ hbk
    rw [ha] at hask
    have H0 : Hid (behM l c = 0 → atM ⟨first, last, vs, wh, n⟩ c x = (noObj, 25)) := Lib.hid (fun h0 => atM_none (t := ⟨first, last, vs, wh, n⟩) ha (by show behM (vs x) c = 0; rw [hvl]; exact h0))
    have H1 : Hid (∀ j, behM l c = j + 1 → ∀ hj : j < l.length, atM ⟨first, last, vs, wh, n⟩ c x = if l[j].gone = true then (noObj, 25) else (l[j].obj, 0)) := Lib.hid (fun j h0 hj => by
      subst hvl
      exact atM_some (t := ⟨first, last, vs, wh, n⟩) ha h0 hj)
    generalize hM : atM ⟨first, last, vs, wh, n⟩ c x = M at *
    have HO := Lib.hid hobj
    clear ha hM hP hvl hobj
    -- what the map holds
    obtain ⟨A, cap, hlk', hrd⟩ : ∃ A cap, (Instr.lookup 89 (.map (some mb)) (.int .i64 x) false).run Try.prog (w.alloc (.cells #[.int .i64 0, .slice none 0 0, .slice none 0 0] 27)) = .ok (.slice A l.length cap) (w.alloc (.cells #[.int .i64 0, .slice none 0 0, .slice none 0 0] 27)) ∧ RdCh (w.alloc (.cells #[.int .i64 0, .slice none 0 0, .slice none 0 0] 27)) (fun _ => True) A l := by
      cases hfx : f x with
      | none =>
        rw [hfx] at hlk hrow
        have := hrow.nil_
        subst this
        exact ⟨none, 0, hlk, RdCh.nil_⟩
      | some v =>
        rw [hfx] at hlk hrow
        obtain ⟨A, cap, rfl, hr⟩ := hrow.slice (by omega)
        exact ⟨A, cap, hlk, hr.mono (fun _ _ _ => trivial)⟩
    have hle : l.length ≤ 100000000 := by omega
    have HS := Lib.hid hsort
    clear hlk hrow hsort hlen hP1
    generalize hw1 : w.alloc (.cells #[.int .i64 0, .slice none 0 0, .slice none 0 0] 27) = w1 at *
    go_enter Try.func23, Try.ntmps23
    go_wp2_with fail
    clear hw1
    refine hask.mono ?_
    rintro e _ ⟨rfl, rfl⟩
    go_wp2_with fail
    refine (behind_calls _ A cap l c _ hrd HS.out hle).mono ?_
    rintro e w2 ⟨rfl, hf2⟩
    have hF2 := hf1.tr hf2
    have hz0 : w.heap.size < w2.heap.size := by have := hb0.lt; have := hf2.size; omega
    have hb2 := hb0.fr0 hf2
    have hrd2 := hrd.fr0 hf2
    have hzB : w.heap.size ≤ w2.heap.size := hF2.size
    have hkl := behM_le l c
    cases hk : behM l c with
    | zero =>
      have HM := Lib.hid (H0.out hk)
      clear hk H0 H1
      simp only [Int.natCast_zero]
      go_wp2_with (first
        | (refine wpList_stA ag_obj.info rfl _ _ rfl w.heap.size 0 _ _ [.int .i64 0, .slice none 0 0, .slice none 0 0] _ rfl rfl rfl rfl (by intro u hu; simp at hu; rcases hu with rfl | rfl | rfl <;> rfl) hb2 (by decide) ?_; intro w5 hb5 hg5 hz5)
        | fail)
      rw [splice_all _ _ (by rfl)] at hb5
      refine bodyPost_ret (results_blk2 ag_obj rfl _ _ _ _ _ _ rfl rfl hb5 rfl) rfl ?_
      rw [HM.out]
      have hf5 := hF2.grown hg5 (fun q hq => by injection hq with hq; exact .inl (by omega))
      exact ⟨_, rfl, ObjOwn.none_ _ _ hf5.size, hf5⟩
    | succ j =>
      have hjl : j < l.length := by omega
      have HM := H1.out j hk hjl
      have hov := HO.out _ (List.getElem_mem hjl)
      obtain ⟨ga, of, Av, nn, D, mm, rfl, _, hcell, hsl, hby⟩ := hrd2.at_ hjl
      have ekj : ((j + 1 : Nat) : Int) = (j : Int) + 1 := by omega
      have ek0 : ((j : Int) + 1 == 0) = false := by simp; omega
      have ek1 : (j : Int) + 1 - 1 = j := by omega
      rw [ekj]
      clear hk H0 H1 ekj
      generalize l[j] = v at *
      have hcell' := addr5 _ _ _ hcell
      have ekl : decide ((j : Int) < l.length) = true := by simpa using (by omega : (j : Int) < l.length)
      have hc1 := hcell 1 _ rfl
      cases hg : v.gone with
      | true =>
        rw [hg] at hc1
        rw [if_pos hg] at HM
        have HM' := Lib.hid HM
        clear HM
        go_wp2_with (first
          | (refine wpList_stA ag_obj.info rfl _ _ rfl w.heap.size 0 _ _ [.int .i64 0, .slice none 0 0, .slice none 0 0] _ rfl rfl rfl rfl (by intro u hu; simp at hu; rcases hu with rfl | rfl | rfl <;> rfl) hb2 (by decide) ?_; intro w5 hb5 hg5 hz5)
          | fail)
        rw [splice_all _ _ (by rfl)] at hb5
        refine bodyPost_ret (results_blk2 ag_obj rfl _ _ _ _ _ _ rfl rfl hb5 rfl) rfl ?_
        rw [HM'.out]
        have hf5 := hF2.grown hg5 (fun q hq => by injection hq with hq; exact .inl (by omega))
        exact ⟨_, rfl, ObjOwn.none_ _ _ hf5.size, hf5⟩
      | false =>
        rw [hg] at hc1
        rw [if_neg (by rw [hg]; decide)] at HM
        have HM' := Lib.hid HM
        clear HM
        have hobc : ∀ j_1 u, [Value.int .i64 v.obj.cls, .slice Av v.obj.slots.length nn, .slice D v.obj.bytes.length mm][j_1]? = some u → w2.cell? ((⟨ga, of + j * 5 + 2, none⟩ : Addr).add j_1) = some u := addr5 _ _ _ (fun j_1 u hu => by
          have := hcell (j_1 + 2) u (by simpa using hu)
          rwa [show of + j * 5 + (j_1 + 2) = of + j * 5 + 2 + j_1 by omega] at this)
        go_wp2_with (first
          | (refine wpList_ldA ag_obj rfl _ rfl ⟨ga, of + j * 5 + 2, none⟩ _ rfl rfl hobc ?_)
          | fail)
        refine (ocopy_calls (fun _ => True) _ v.obj _ ⟨Av, nn, D, mm, rfl, hsl, hby⟩ (by have := hov.1; omega)).mono ?_
        rintro e w3 ⟨cs', rfl, hown, hf3⟩
        obtain ⟨A3, c3, D3, d3, M3, rfl, r1, r2, r3, r4⟩ := hown
        have hb3 := hb2.fr0 hf3
        go_wp2_with (first
          | (refine wpList_stA ag_obj.info rfl _ _ rfl w.heap.size 0 _ _ [.int .i64 v.obj.cls, .slice A3 v.obj.slots.length c3, .slice D3 v.obj.bytes.length d3] _ rfl rfl rfl rfl (by intro u hu; simp at hu; rcases hu with rfl | rfl | rfl <;> rfl) hb3 (by decide) ?_; intro w5 hb5 hg5 hz5)
          | fail)
        rw [splice_all _ _ (by rfl)] at hb5
        refine bodyPost_ret (results_blk2 ag_obj rfl _ _ _ _ _ _ rfl rfl hb5 rfl) rfl ?_
        rw [HM'.out]
        have hf5 := (hF2.tr hf3).grown hg5 (fun q hq => by injection hq with hq; exact .inl (by omega))
        have hf35 : Fr (fun b => b = w.heap.size) w3 w5 := (Fr.refl _ w3).grown hg5 (fun q hq => by injection hq with hq; exact .inr hq.symm)
        refine ⟨_, rfl, ⟨A3, c3, D3, d3, M3, rfl, own_down (own_fr r1 hf35 (fun b hb hT => by have := (r1.lt b hb).1; omega)) hzB, r2, own_fr r3 hf35 (fun b hb hT => by have := (r3.lt b hb).1; omega), by omega⟩, hf5⟩
end Go.Proofs.Ytoajigghkjnffaa
namespace Go.Proofs.Ytoajigghkjnffaa
set_option linter.unusedVariables false
set_option linter.unusedSimpArgs false
open Go.RowKit

theorem odd_calls (v : VL) (w : World) :
    Calls Try.prog 78 #[.agg #[.int .i64 v.k, .int .i64 v.n]] w fun e w' => e = .returned (.bool (!rightV v)) ∧ Fr No w w' := by
  have hf : Fr No w (w.alloc (.cells #[.int .i64 v.k, .int .i64 v.n] 23)) := (Fr.refl No w).alloc _
  go_enter Try.func78, Try.ntmps78
  go_wp2_with fail
  refine (right_calls v _).mono ?_
  rintro e w2 ⟨rfl, hf2⟩
  go_wp2
  go_ret
  exact ⟨rfl, hf.tr hf2⟩
abbrev closO : Value := .func (.func 78) #[] #[]
/-- Where the first odd value stands; -1 if there is none. -/
def oddZ (l : List VL) : Int := if l.findIdx (fun v => !rightV v) < l.length then ((l.findIdx (fun v => !rightV v) : Nat) : Int) else -1
theorem oddZ_all (l : List VL) : decide (0 ≤ oddZ l) = !(l.all rightV) := by
  unfold oddZ
  split
  · rename_i h
    have h1 := List.findIdx_getElem (w := h)
    have h2 : l.all rightV = false := by
      rw [List.all_eq_false]
      exact ⟨_, List.getElem_mem h, by simpa using h1⟩
    rw [h2]; simp
  · rename_i h
    have h2 : l.all rightV = true := by
      rw [List.all_eq_true]
      intro v hv
      have h3 : ∀ x ∈ l, (fun v => !rightV v) x = false := List.findIdx_eq_length.1 (by have := List.findIdx_le_length (xs := l) (p := fun v => !rightV v); omega)
      simpa using h3 v hv
    rw [h2]; rfl
set_option maxHeartbeats 1000000 in
set_option maxRecDepth 100000 in
theorem indexodd_calls (S : Nat → Prop) (A : Option Addr) (c : Nat) (l : List VL) (w : World) (h : RdV w S A l) :
    Calls Try.prog 56 #[.slice A l.length c, closO] w fun e w' => e = .returned (.int .i64 (oddZ l)) ∧ Fr No w w' := by
  have hle := h.le
  go_enter Try.func56, Try.ntmps56
  go_wp2_with fail
  go_loopw [8] (fun i wr => ∃ k : Nat, k ≤ l.length ∧ i = .int .i64 (k : Int) ∧ Hid (∀ i, ∀ hi : i < l.length, i < k → rightV l[i] = true) ∧ Fr No w wr) (fun i _ => l.length - (intOf i).toNat)
  case atStart => exact ⟨0, by omega, rfl, Lib.hid (fun i _ h => by omega), Fr.refl _ _⟩
  case round =>
    obtain ⟨k, hk, rfl, HN, hf⟩ := hrel
    by_cases hlt : k < l.length
    · have ek : decide ((k : Int) < l.length) = true := by simpa using (by omega : (k : Int) < l.length)
      obtain ⟨ga, of, rfl, _, _, _, hv'⟩ := RdV.at_ (Rd.fr0 h hf) hlt
      have HE := Lib.hid (show rightV l[k] = false → oddZ l = (k : Int) by
        intro ht
        have hfi : l.findIdx (fun v => !rightV v) = k := by
          refine (List.findIdx_eq hlt).2 ⟨by rw [ht]; rfl, fun j hj => ?_⟩
          rw [HN.out j (by omega) hj]; rfl
        unfold oddZ
        rw [hfi, if_pos hlt])
      have HF := Lib.hid (show rightV l[k] = true → ∀ i, ∀ hi : i < l.length, i < k + 1 → rightV l[i] = true by
        intro ht i hi hik
        rcases Nat.lt_or_ge i k with h5 | h5
        · exact HN.out i hi h5
        · obtain rfl : i = k := by omega
          exact ht)
      generalize l[k] = x at *
      unfold vcells at hv'
      go_wp2_with (first
        | (refine wpList_ldA ag_val rfl _ rfl ⟨ga, of + k * 2, none⟩ [.int .i64 x.k, .int .i64 x.n] rfl rfl hv' ?_)
        | fail)
      refine (odd_calls x _).mono ?_
      rintro e w2 ⟨rfl, hf2⟩
      cases hg : rightV x with
      | false =>
        have HE' := Lib.hid (HE.out hg)
        clear hg
        simp only [Bool.not_false]
        go_wp2
        go_ret
        exact ⟨by rw [HE'.out]; rfl, hf.tr hf2⟩
      | true =>
        have HF' := Lib.hid (HF.out hg)
        clear hg
        simp only [Bool.not_true]
        go_wp2
        go_roundw
        case rel => exact ⟨k + 1, by omega, by go_num, HF', hf.tr hf2⟩
        case measure => simp [intOf]; omega
    · obtain rfl : k = l.length := by omega
      have ek : decide ((l.length : Int) < l.length) = false := by simp
      have HE := Lib.hid (show oddZ l = -1 by
        unfold oddZ
        rw [if_neg]
        intro hlt
        have := List.findIdx_getElem (w := hlt)
        rw [HN.out _ hlt hlt] at this
        cases this)
      go_wp2
      go_ret
      exact ⟨by rw [HE.out]; rfl, hf⟩
theorem containsodd_calls (S : Nat → Prop) (A : Option Addr) (c : Nat) (l : List VL) (w : World) (h : RdV w S A l) :
    Calls Try.prog 36 #[.slice A l.length c, closO] w fun e w' => e = .returned (.bool (!(l.all rightV))) ∧ Fr No w w' := by
  have H := Lib.hid (oddZ_all l)
  go_enter Try.func36, Try.ntmps36
  go_wp2_with fail
  refine (indexodd_calls S A c l _ h).mono ?_
  rintro e w2 ⟨rfl, hf2⟩
  go_wp2
  go_ret
  exact ⟨ret_bool H.out, hf2⟩
set_option maxHeartbeats 2000000 in
set_option maxRecDepth 100000 in
theorem righto_calls (S : Nat → Prop) (cs : List Value) (o : ObjM) (w : World) (h : ObjC w S cs o) :
    Calls Try.prog 72 #[.agg cs.toArray] w fun e w' => e = .returned (.bool (rightO o)) ∧ Fr No w w' := by
  obtain ⟨A, c, D, c2, rfl, hs, hb⟩ := h
  have g1 := plain_i64
  have g2 := plain_lval
  have g3 := plain_lu8
  have hf : Fr No w (w.alloc (.cells #[.int .i64 o.cls, .slice A o.slots.length c, .slice D o.bytes.length c2] 27)) := (Fr.refl No w).alloc _
  have hle1 := hs.le
  have hle2 := RdB.le hb
  have H : Hid (rightO o = (oopB o.cls && decide (o.slots.length ≤ 256) && decide (o.bytes.length ≤ 1024) && o.slots.all rightV)) := Lib.hid rfl
  cases h0 : oopB o.cls with
  | false =>
    rw [h0] at H
    simp only [Bool.false_and] at H
    have hoop := oop_calls o.cls
    rw [h0] at hoop
    clear h0
    go_enter Try.func72, Try.ntmps72
    go_wp2_with fail
    refine (hoop _).mono ?_
    rintro e _ ⟨rfl, rfl⟩
    go_wp2
    go_ret
    exact ⟨ret_bool H.out.symm, hf⟩
  | true =>
    rw [h0] at H
    simp only [Bool.true_and] at H
    have hoop := oop_calls o.cls
    rw [h0] at hoop
    clear h0
    by_cases h1 : o.slots.length ≤ 256
    · have e1 : decide ((o.slots.length : Int) ≤ 256) = true := by simp; omega
      have e1' : decide (o.slots.length ≤ 256) = true := by simpa using h1
      rw [e1', Bool.true_and] at H
      clear e1'
      by_cases h2 : o.bytes.length ≤ 1024
      · have e2 : decide ((o.bytes.length : Int) ≤ 1024) = true := by simp; omega
        have e2' : decide (o.bytes.length ≤ 1024) = true := by simpa using h2
        rw [e2', Bool.true_and] at H
        clear e2'
        go_enter Try.func72, Try.ntmps72
        go_wp2_with fail
        refine (hoop _).mono ?_
        rintro e _ ⟨rfl, rfl⟩
        go_wp2_with fail
        refine (containsodd_calls S A c o.slots _ (Rd.fr0 hs hf)).mono ?_
        rintro e w2 ⟨rfl, hf2⟩
        go_wp2
        go_ret
        exact ⟨ret_bool (by rw [H.out]), hf.tr hf2⟩
      · have e2 : decide ((o.bytes.length : Int) ≤ 1024) = false := by simp; omega
        have e2' : decide (o.bytes.length ≤ 1024) = false := by simpa using h2
        rw [e2', Bool.false_and] at H
        clear e2' h2
        go_enter Try.func72, Try.ntmps72
        go_wp2_with fail
        refine (hoop _).mono ?_
        rintro e _ ⟨rfl, rfl⟩
        go_wp2
        go_ret
        exact ⟨ret_bool H.out.symm, hf⟩
    · have e1 : decide ((o.slots.length : Int) ≤ 256) = false := by simp; omega
      have e1' : decide (o.slots.length ≤ 256) = false := by simpa using h1
      rw [e1'] at H
      simp only [Bool.false_and] at H
      clear e1' h1
      go_enter Try.func72, Try.ntmps72
      go_wp2_with fail
      refine (hoop _).mono ?_
      rintro e _ ⟨rfl, rfl⟩
      go_wp2
      go_ret
      exact ⟨ret_bool H.out.symm, hf⟩
set_option maxHeartbeats 2000000 in
set_option maxRecDepth 100000 in
theorem refrighto_calls (S : Nat → Prop) (cs : List Value) (o : ObjM) (w : World) (h : ObjC w S cs o) :
    Calls Try.prog 13 #[.agg cs.toArray] w fun e w' => e = .returned (.bool (rightO o)) ∧ Fr No w w' := by
  obtain ⟨A, c, D, c2, rfl, hs, hb⟩ := h
  have g1 := plain_i64
  have g2 := plain_lval
  have g3 := plain_lu8
  have hf : Fr No w (w.alloc (.cells #[.int .i64 o.cls, .slice A o.slots.length c, .slice D o.bytes.length c2] 27)) := (Fr.refl No w).alloc _
  have hle1 := hs.le
  have hle2 := RdB.le hb
  have hbx := Blk.new w 27 #[.int .i64 o.cls, .slice A o.slots.length c, .slice D o.bytes.length c2]
  have H : Hid (rightO o = (decide (1 ≤ o.cls) && decide (o.cls ≤ 4096) && decide (o.slots.length ≤ 256) && decide (o.bytes.length ≤ 1024) && o.slots.all rightV)) := Lib.hid rfl
  by_cases h0 : 1 ≤ o.cls
  rotate_left
  · have e0 : decide (o.cls < 1) = true := by simpa using h0
    have e0' : decide (1 ≤ o.cls) = false := by simpa using h0
    rw [e0'] at H
    simp only [Bool.false_and] at H
    clear h0 e0'
    go_enter Try.func13, Try.ntmps13
    go_wp2
    go_ret
    exact ⟨ret_bool H.out.symm, hf⟩
  have e0 : decide (o.cls < 1) = false := by simpa using h0
  have e0' : decide (1 ≤ o.cls) = true := by simpa using h0
  rw [e0'] at H
  simp only [Bool.true_and] at H
  clear e0' h0
  by_cases h1 : o.cls ≤ 4096
  rotate_left
  · have e1 : decide (4096 < o.cls) = true := by simpa using h1
    have e1' : decide (o.cls ≤ 4096) = false := by simpa using h1
    rw [e1'] at H
    simp only [Bool.false_and] at H
    clear h1 e1'
    go_enter Try.func13, Try.ntmps13
    go_wp2
    go_ret
    exact ⟨ret_bool H.out.symm, hf⟩
  have e1 : decide (4096 < o.cls) = false := by simpa using h1
  have e1' : decide (o.cls ≤ 4096) = true := by simpa using h1
  rw [e1'] at H
  simp only [Bool.true_and] at H
  clear e1' h1
  by_cases h2 : o.slots.length ≤ 256
  rotate_left
  · have e2 : decide ((256 : Int) < o.slots.length) = true := by simp; omega
    have e2' : decide (o.slots.length ≤ 256) = false := by simpa using h2
    rw [e2'] at H
    simp only [Bool.false_and] at H
    clear h2 e2'
    go_enter Try.func13, Try.ntmps13
    go_wp2
    go_ret
    exact ⟨ret_bool H.out.symm, hf⟩
  have e2 : decide ((256 : Int) < o.slots.length) = false := by simp; omega
  have e2' : decide (o.slots.length ≤ 256) = true := by simpa using h2
  rw [e2', Bool.true_and] at H
  clear e2'
  by_cases h3 : o.bytes.length ≤ 1024
  rotate_left
  · have e3 : decide ((1024 : Int) < o.bytes.length) = true := by simp; omega
    have e3' : decide (o.bytes.length ≤ 1024) = false := by simpa using h3
    rw [e3'] at H
    simp only [Bool.false_and] at H
    clear h3 e3'
    go_enter Try.func13, Try.ntmps13
    go_wp2
    go_ret
    exact ⟨ret_bool H.out.symm, hf⟩
  have e3 : decide ((1024 : Int) < o.bytes.length) = false := by simp; omega
  have e3' : decide (o.bytes.length ≤ 1024) = true := by simpa using h3
  rw [e3', Bool.true_and] at H
  clear e3'
  go_enter Try.func13, Try.ntmps13
  go_wp2_with fail
  generalize hw1 : w.alloc (.cells #[.int .i64 o.cls, .slice A o.slots.length c, .slice D o.bytes.length c2] 27) = w1 at *
  clear hw1
  have hs1 := Rd.fr0 hs hf
  go_loopw [3] (fun i wr => ∃ k : Nat, k ≤ o.slots.length ∧ i = .int .i64 (k : Int) ∧ Hid (∀ i, ∀ hi : i < o.slots.length, i < k → rightV o.slots[i] = true) ∧ Fr No w1 wr) (fun i _ => o.slots.length - (intOf i).toNat)
  case atStart => exact ⟨0, by omega, rfl, Lib.hid (fun i _ h => by omega), Fr.refl _ _⟩
  case round =>
    obtain ⟨k, hk, rfl, HN, hfr⟩ := hrel
    have q1 := (hbx.fr0 hfr).cell 1
    simp only [List.getElem?_toArray, List.getElem?_cons_zero, List.getElem?_cons_succ] at q1
    by_cases hlt : k < o.slots.length
    · have ek : decide ((k : Int) < o.slots.length) = true := by simpa using (by omega : (k : Int) < o.slots.length)
      obtain ⟨ga, of, rfl, _, _, _, hv'⟩ := RdV.at_ (Rd.fr0 hs1 hfr) hlt
      have HE := Lib.hid (show rightV o.slots[k] = false → rightO o = false from fun ht => by
        rw [H.out, List.all_eq_false]
        exact ⟨_, List.getElem_mem hlt, by rw [ht]; simp⟩)
      have HF := Lib.hid (show rightV o.slots[k] = true → ∀ i, ∀ hi : i < o.slots.length, i < k + 1 → rightV o.slots[i] = true by
        intro ht i hi hik
        rcases Nat.lt_or_ge i k with h5 | h5
        · exact HN.out i hi h5
        · obtain rfl : i = k := by omega
          exact ht)
      generalize o.slots[k] = x at *
      unfold vcells at hv'
      go_wp2_with (first
        | (refine wpList_ldA ag_val rfl _ rfl ⟨ga, of + k * 2, none⟩ [.int .i64 x.k, .int .i64 x.n] rfl rfl hv' ?_)
        | fail)
      refine (refright_calls x _).mono ?_
      rintro e w2 ⟨rfl, hf2⟩
      cases hg : rightV x with
      | false =>
        have HE' := Lib.hid (HE.out hg)
        clear hg
        go_wp2
        go_ret
        exact ⟨ret_bool HE'.out.symm, hf.tr (hfr.tr hf2)⟩
      | true =>
        have HF' := Lib.hid (HF.out hg)
        clear hg
        go_wp2
        go_roundw
        case rel => exact ⟨k + 1, by omega, by go_num, HF', hfr.tr hf2⟩
        case measure => simp [intOf]; omega
    · obtain rfl : k = o.slots.length := by omega
      have ek : decide ((o.slots.length : Int) < o.slots.length) = false := by simp
      have HE := Lib.hid (show rightO o = true by
        rw [H.out, List.all_eq_true]
        intro v hv
        obtain ⟨i, hi, rfl⟩ := List.mem_iff_getElem.1 hv
        exact HN.out i hi hi)
      go_wp2
      go_ret
      exact ⟨ret_bool HE.out.symm, hf.tr hfr⟩
end Go.Proofs.Ytoajigghkjnffaa
namespace Go.Proofs.Ytoajigghkjnffaa
set_option linter.unusedVariables false
set_option linter.unusedSimpArgs false
open Go.RowKit

theorem bytes_eq (a b : List UInt8) : (a == b) = decide (a = b) := by
  by_cases h : a = b
  · rw [decide_eq_true h, beq_iff_eq]; exact h
  · rw [decide_eq_false h, beq_eq_false_iff_ne]; exact h
theorem bequal_calls (S T : Nat → Prop) (A D : Option Addr) (c d : Nat) (a b : List UInt8) (w : World) (h : RdB w S A a) (h2 : RdB w T D b) :
    Calls Try.prog 77 #[.slice A a.length c, .slice D b.length d] w fun e w' => e = .returned (.bool (decide (a = b))) ∧ w = w' := by
  have H := Lib.hid (bytes_eq a b)
  go_enter Try.func77, Try.ntmps77
  go_wp2_with (first
    | (refine wpList_str Try.underlying25 Try.underlying5 Try.underlying9 rfl (.tmp 5) rfl rfl rfl h ?_)
    | (refine wpList_str Try.underlying25 Try.underlying5 Try.underlying9 rfl (.tmp 7) rfl rfl rfl h2 ?_)
    | fail)
  go_ret
  exact ⟨ret_bool H.out, rfl⟩
def NoDiff (a b : List VL) (k : Nat) : Prop := ∀ i, i < k → a[i]? = b[i]?
theorem NoDiff.all {a b : List VL} (h : NoDiff a b a.length) (hl : a.length = b.length) : a = b := by
  apply List.ext_getElem? 
  intro i
  rcases Nat.lt_or_ge i a.length with h1 | h1
  · exact h i h1
  · rw [List.getElem?_eq_none h1, List.getElem?_eq_none (by omega)]
theorem NoDiff.succ {a b : List VL} {k : Nat} (h : NoDiff a b k) (h1 : k < a.length) (h2 : k < b.length) (e : a[k] = b[k]) : NoDiff a b (k + 1) := fun i hi => by
  rcases Nat.lt_or_ge i k with h3 | h3
  · exact h i h3
  · obtain rfl : i = k := by omega
    rw [List.getElem?_eq_getElem h1, List.getElem?_eq_getElem h2, e]
theorem diff_at {a b : List VL} {k : Nat} (h1 : k < a.length) (h2 : k < b.length) (e : ¬ a[k] = b[k]) : ¬ a = b := by rintro rfl; exact e rfl
set_option maxHeartbeats 2000000 in
set_option maxRecDepth 100000 in
theorem vequal_calls (S T : Nat → Prop) (A D : Option Addr) (c d : Nat) (a b : List VL) (w : World) (h : RdV w S A a) (h2 : RdV w T D b) :
    Calls Try.prog 76 #[.slice A a.length c, .slice D b.length d] w fun e w' => e = .returned (.bool (decide (a = b))) ∧ Fr No w w' := by
  have hle1 := h.le
  have hle2 := h2.le
  by_cases hl : a.length = b.length
  rotate_left
  · have e1 : (a.length != b.length) = true := by simpa using hl
    have e2 : ((a.length : Int) != b.length) = true := by simp; omega
    have H := Lib.hid (show decide (a = b) = false from decide_eq_false (fun e => hl (by rw [e])))
    clear hl
    go_enter Try.func76, Try.ntmps76
    go_wp2
    go_ret
    exact ⟨ret_bool H.out.symm, Fr.refl _ _⟩
  have e1 : (a.length != b.length) = false := by simpa using hl
  have e2 : ((a.length : Int) != b.length) = false := by simp; omega
  have HL := Lib.hid hl
  clear hl
  go_enter Try.func76, Try.ntmps76
  go_wp2_with fail
  go_loopw [13] (fun i wr => ∃ k : Nat, k ≤ a.length ∧ i = .int .i64 (k : Int) ∧ Hid (NoDiff a b k) ∧ Fr No w wr) (fun i _ => a.length - (intOf i).toNat)
  case atStart => exact ⟨0, by omega, rfl, Lib.hid (fun i hi => by omega), Fr.refl _ _⟩
  case round =>
    obtain ⟨k, hk, rfl, HN, hf⟩ := hrel
    by_cases hlt : k < a.length
    · have ek : decide ((k : Int) < a.length) = true := by simpa using (by omega : (k : Int) < a.length)
      have hltb : k < b.length := by have := HL.out; omega
      obtain ⟨g, of, rfl, _, _, _, hv⟩ := RdV.at_ (Rd.fr0 h hf) hlt
      obtain ⟨g', of', rfl, _, _, _, hv'⟩ := RdV.at_ (Rd.fr0 h2 hf) hltb
      have HS := Lib.hid (fun e => HN.out.succ hlt hltb e)
      have HD := Lib.hid (fun e => decide_eq_false (diff_at hlt hltb e))
      generalize a[k] = x at *
      generalize b[k] = y at *
      go_wp2_with fail
      (refine T_begin No [0, 1, 2, 3, 4, 5, 6, 7, 8] [] (by kernel_rfl) (by kernel_rfl) ?_; simp only [pickOps, List.filterMap_cons, List.filterMap_nil, List.getElem?_cons_zero, List.getElem?_cons_succ, Act.put])
      repeat (first | (refine T_skip (by rfl) (by rfl) (fun _ _ _ h => h) ?_; try simp only [Act.put, List.setIfInBounds_toArray, List.set_cons_zero, List.set_cons_succ]) | (refine T_pass (by rfl) (by rfl) ?_; try simp only [Act.put, List.setIfInBounds_toArray, List.set_cons_zero, List.set_cons_succ]) | (refine T_load (by assumption) (by rfl) (by rfl) (fun _ _ _ _ h => h) rfl rfl (by assumption) (by first | exact (fun hn => hn) | assumption) ?_; try simp only [Act.put, List.setIfInBounds_toArray, List.set_cons_zero, List.set_cons_succ]) | (refine T_nil (by rfl) (by rfl) (fun _ _ _ _ h => h) rfl rfl ?_; try simp only [Act.put, List.setIfInBounds_toArray, List.set_cons_zero, List.set_cons_succ]) | (refine T_quietN (by rfl) (by rfl) (by rfl) (by rfl) (fun _ _ _ _ h => h) (fun K hK => ?_); go_big_quiet_op; refine hK _ ?_; clear hK K) | (refine T_two (by rfl) (by rfl) (by rfl) (by rfl) (fun _ _ _ _ h => h) (fun K hK => ?_); go_big_quiet_op; refine ⟨_, fun _ _ => rfl, ?_⟩; refine hK _ ?_; clear hK K; try simp only [Act.put, List.setIfInBounds_toArray, List.set_cons_zero, List.set_cons_succ]) | fail)
      refine T_loadA (cs := vcells x) ag_val (by rfl) (by rfl) (fun _ _ _ _ h => h) rfl rfl rfl hv (fun hn => hn) ?_
      try simp only [Act.put, List.setIfInBounds_toArray, List.set_cons_zero, List.set_cons_succ]
      repeat (first | (refine T_skip (by rfl) (by rfl) (fun _ _ _ h => h) ?_; try simp only [Act.put, List.setIfInBounds_toArray, List.set_cons_zero, List.set_cons_succ]) | (refine T_pass (by rfl) (by rfl) ?_; try simp only [Act.put, List.setIfInBounds_toArray, List.set_cons_zero, List.set_cons_succ]) | (refine T_load (by assumption) (by rfl) (by rfl) (fun _ _ _ _ h => h) rfl rfl (by assumption) (by first | exact (fun hn => hn) | assumption) ?_; try simp only [Act.put, List.setIfInBounds_toArray, List.set_cons_zero, List.set_cons_succ]) | (refine T_nil (by rfl) (by rfl) (fun _ _ _ _ h => h) rfl rfl ?_; try simp only [Act.put, List.setIfInBounds_toArray, List.set_cons_zero, List.set_cons_succ]) | (refine T_quietN (by rfl) (by rfl) (by rfl) (by rfl) (fun _ _ _ _ h => h) (fun K hK => ?_); go_big_quiet_op; refine hK _ ?_; clear hK K) | (refine T_two (by rfl) (by rfl) (by rfl) (by rfl) (fun _ _ _ _ h => h) (fun K hK => ?_); go_big_quiet_op; refine ⟨_, fun _ _ => rfl, ?_⟩; refine hK _ ?_; clear hK K; try simp only [Act.put, List.setIfInBounds_toArray, List.set_cons_zero, List.set_cons_succ]) | fail)
      refine T_loadA (cs := vcells y) ag_val (by rfl) (by rfl) (fun _ _ _ _ h => h) rfl rfl rfl hv' (fun hn => hn) ?_
      try simp only [Act.put, List.setIfInBounds_toArray, List.set_cons_zero, List.set_cons_succ]
      unfold vcells
      obtain ⟨xk, xn⟩ := x
      obtain ⟨yk, yn⟩ := y
      simp only
      by_cases h1 : xk = yk
      · subst h1
        by_cases h3 : xn = yn
        · subst h3
          have HS' := Lib.hid (HS.out rfl)
          clear HS HD
          repeat (first | (refine T_skip (by rfl) (by rfl) (fun _ _ _ h => h) ?_; try simp only [Act.put, List.setIfInBounds_toArray, List.set_cons_zero, List.set_cons_succ]) | (refine T_pass (by rfl) (by rfl) ?_; try simp only [Act.put, List.setIfInBounds_toArray, List.set_cons_zero, List.set_cons_succ]) | (refine T_load (by assumption) (by rfl) (by rfl) (fun _ _ _ _ h => h) rfl rfl (by assumption) (by first | exact (fun hn => hn) | assumption) ?_; try simp only [Act.put, List.setIfInBounds_toArray, List.set_cons_zero, List.set_cons_succ]) | (refine T_nil (by rfl) (by rfl) (fun _ _ _ _ h => h) rfl rfl ?_; try simp only [Act.put, List.setIfInBounds_toArray, List.set_cons_zero, List.set_cons_succ]) | (refine T_quietN (by rfl) (by rfl) (by rfl) (by rfl) (fun _ _ _ _ h => h) (fun K hK => ?_); go_big_quiet_op; refine hK _ ?_; clear hK K) | (refine T_two (by rfl) (by rfl) (by rfl) (by rfl) (fun _ _ _ _ h => h) (fun K hK => ?_); go_big_quiet_op; refine ⟨_, fun _ _ => rfl, ?_⟩; refine hK _ ?_; clear hK K; try simp only [Act.put, List.setIfInBounds_toArray, List.set_cons_zero, List.set_cons_succ]) | fail)
          refine T_done ?_
          go_wp2
          go_roundw
          case rel => exact ⟨k + 1, by omega, by go_num, HS', hf.drew⟩
          case measure => simp [intOf]; omega
        · have e9 : (xn == yn) = false := by simpa using h3
          have HD' := Lib.hid (HD.out (fun e => h3 (by injection e)))
          clear HS HD h3
          repeat (first | (refine T_skip (by rfl) (by rfl) (fun _ _ _ h => h) ?_; try simp only [Act.put, List.setIfInBounds_toArray, List.set_cons_zero, List.set_cons_succ]) | (refine T_pass (by rfl) (by rfl) ?_; try simp only [Act.put, List.setIfInBounds_toArray, List.set_cons_zero, List.set_cons_succ]) | (refine T_load (by assumption) (by rfl) (by rfl) (fun _ _ _ _ h => h) rfl rfl (by assumption) (by first | exact (fun hn => hn) | assumption) ?_; try simp only [Act.put, List.setIfInBounds_toArray, List.set_cons_zero, List.set_cons_succ]) | (refine T_nil (by rfl) (by rfl) (fun _ _ _ _ h => h) rfl rfl ?_; try simp only [Act.put, List.setIfInBounds_toArray, List.set_cons_zero, List.set_cons_succ]) | (refine T_quietN (by rfl) (by rfl) (by rfl) (by rfl) (fun _ _ _ _ h => h) (fun K hK => ?_); go_big_quiet_op; refine hK _ ?_; clear hK K) | (refine T_two (by rfl) (by rfl) (by rfl) (by rfl) (fun _ _ _ _ h => h) (fun K hK => ?_); go_big_quiet_op; refine ⟨_, fun _ _ => rfl, ?_⟩; refine hK _ ?_; clear hK K; try simp only [Act.put, List.setIfInBounds_toArray, List.set_cons_zero, List.set_cons_succ]) | fail)
          refine T_done ?_
          go_wp2
          go_ret
          exact ⟨ret_bool HD'.out.symm, hf.drew⟩
      · have e9 : (xk == yk) = false := by simpa using h1
        have HD' := Lib.hid (HD.out (fun e => h1 (by injection e)))
        clear HS HD h1
        repeat (first | (refine T_skip (by rfl) (by rfl) (fun _ _ _ h => h) ?_; try simp only [Act.put, List.setIfInBounds_toArray, List.set_cons_zero, List.set_cons_succ]) | (refine T_pass (by rfl) (by rfl) ?_; try simp only [Act.put, List.setIfInBounds_toArray, List.set_cons_zero, List.set_cons_succ]) | (refine T_load (by assumption) (by rfl) (by rfl) (fun _ _ _ _ h => h) rfl rfl (by assumption) (by first | exact (fun hn => hn) | assumption) ?_; try simp only [Act.put, List.setIfInBounds_toArray, List.set_cons_zero, List.set_cons_succ]) | (refine T_nil (by rfl) (by rfl) (fun _ _ _ _ h => h) rfl rfl ?_; try simp only [Act.put, List.setIfInBounds_toArray, List.set_cons_zero, List.set_cons_succ]) | (refine T_quietN (by rfl) (by rfl) (by rfl) (by rfl) (fun _ _ _ _ h => h) (fun K hK => ?_); go_big_quiet_op; refine hK _ ?_; clear hK K) | (refine T_two (by rfl) (by rfl) (by rfl) (by rfl) (fun _ _ _ _ h => h) (fun K hK => ?_); go_big_quiet_op; refine ⟨_, fun _ _ => rfl, ?_⟩; refine hK _ ?_; clear hK K; try simp only [Act.put, List.setIfInBounds_toArray, List.set_cons_zero, List.set_cons_succ]) | fail)
        refine T_done ?_
        go_wp2
        go_ret
        exact ⟨ret_bool HD'.out.symm, hf.drew⟩
    · obtain rfl : k = a.length := by omega
      have ek : decide ((a.length : Int) < a.length) = false := by simp
      have HE := Lib.hid (show decide (a = b) = true from decide_eq_true (HN.out.all HL.out))
      go_wp2
      go_ret
      exact ⟨ret_bool HE.out.symm, hf⟩
/-- Alike. -/
def sameO (o p : ObjM) : Bool := decide (o = p)
theorem sameO_self (o : ObjM) : sameO o o = true := decide_eq_true rfl
theorem obj_eq (c d : Int) (a b : List VL) (x y : List UInt8) : sameO ⟨c, a, x⟩ ⟨d, b, y⟩ = ((c == d) && (decide (a = b) && decide (x = y))) := by
  unfold sameO
  by_cases h1 : c = d <;> by_cases h2 : a = b <;> by_cases h3 : x = y <;> simp [h1, h2, h3]
set_option maxHeartbeats 2000000 in
set_option maxRecDepth 100000 in
theorem vsame_calls (S T : Nat → Prop) (cs cs2 : List Value) (o p : ObjM) (w : World) (h : ObjC w S cs o) (h2 : ObjC w T cs2 p) :
    Calls Try.prog 71 #[.agg cs.toArray, .agg cs2.toArray] w fun e w' => e = .returned (.bool (sameO o p)) ∧ Fr No w w' := by
  obtain ⟨oc, os, ob⟩ := o
  obtain ⟨pc, ps, pb⟩ := p
  obtain ⟨A, c, D, d, rfl, hs, hb⟩ := h
  obtain ⟨A2, c2, D2, d2, rfl, hs2, hb2⟩ := h2
  simp only at hs hb hs2 hb2
  have g1 := plain_i64
  have g2 := plain_lval
  have g3 := plain_lu8
  have hf1 : Fr No w ((w.alloc (.cells #[.int .i64 oc, .slice A os.length c, .slice D ob.length d] 27)).alloc (.cells #[.int .i64 pc, .slice A2 ps.length c2, .slice D2 pb.length d2] 27)) := ((Fr.refl No w).alloc _).alloc _
  have hbx : Blk ((w.alloc (.cells #[.int .i64 oc, .slice A os.length c, .slice D ob.length d] 27)).alloc (.cells #[.int .i64 pc, .slice A2 ps.length c2, .slice D2 pb.length d2] 27)) w.heap.size 27 #[.int .i64 oc, .slice A os.length c, .slice D ob.length d] := (Blk.new w _ _).alloc _
  have hby : Blk ((w.alloc (.cells #[.int .i64 oc, .slice A os.length c, .slice D ob.length d] 27)).alloc (.cells #[.int .i64 pc, .slice A2 ps.length c2, .slice D2 pb.length d2] 27)) (w.heap.size + 1) 27 #[.int .i64 pc, .slice A2 ps.length c2, .slice D2 pb.length d2] := Blk.newAt (by simp)
  have H := Lib.hid (obj_eq oc pc os ps ob pb)
  by_cases h1 : oc = pc
  rotate_left
  · have e1 : (oc == pc) = false := by simpa using h1
    rw [e1, Bool.false_and] at H
    clear h1
    go_enter Try.func71, Try.ntmps71
    go_wp2
    go_ret
    exact ⟨ret_bool H.out.symm, hf1⟩
  have e1 : (oc == pc) = true := by simpa using h1
  rw [e1, Bool.true_and] at H
  clear h1
  go_enter Try.func71, Try.ntmps71
  go_wp2_with fail
  refine (vequal_calls S T A A2 c c2 os ps _ (Rd.fr0 hs hf1) (Rd.fr0 hs2 hf1)).mono ?_
  rintro e w3 ⟨rfl, hf3⟩
  cases hd : decide (os = ps) with
  | false =>
    rw [hd, Bool.false_and] at H
    clear hd
    go_wp2
    go_ret
    exact ⟨ret_bool H.out.symm, hf1.tr hf3⟩
  | true =>
    rw [hd, Bool.true_and] at H
    clear hd
    have hbx3 := hbx.fr0 hf3
    have hby3 := hby.fr0 hf3
    (have p0 := hbx3.cell 0; have p1 := hbx3.cell 1; have p2 := hbx3.cell 2; have pf0 := hbx3.frozen 0; have pf1 := hbx3.frozen 1; have pf2 := hbx3.frozen 2; simp only [List.getElem?_toArray, List.getElem?_cons_zero, List.getElem?_cons_succ] at p0 p1 p2)
    (have q0 := hby3.cell 0; have q1 := hby3.cell 1; have q2 := hby3.cell 2; have qf0 := hby3.frozen 0; have qf1 := hby3.frozen 1; have qf2 := hby3.frozen 2; simp only [List.getElem?_toArray, List.getElem?_cons_zero, List.getElem?_cons_succ] at q0 q1 q2)
    go_wp2_with fail
    refine (bequal_calls S T D D2 d d2 ob pb _ (Rd.fr0 hb (hf1.tr hf3)) (Rd.fr0 hb2 (hf1.tr hf3))).mono ?_
    rintro e _ ⟨rfl, rfl⟩
    go_wp2
    go_ret
    exact ⟨ret_bool H.out.symm, hf1.tr hf3⟩
set_option maxHeartbeats 2000000 in
set_option maxRecDepth 100000 in
theorem refsame_calls (S T : Nat → Prop) (cs cs2 : List Value) (o p : ObjM) (w : World) (h : ObjC w S cs o) (h2 : ObjC w T cs2 p) :
    Calls Try.prog 20 #[.agg cs.toArray, .agg cs2.toArray] w fun e w' => e = .returned (.bool (sameO o p)) ∧ Fr No w w' := by
  obtain ⟨oc, os, ob⟩ := o
  obtain ⟨pc, ps, pb⟩ := p
  obtain ⟨A, c, D, d, rfl, hs, hb⟩ := h
  obtain ⟨A2, c2, D2, d2, rfl, hs2, hb2⟩ := h2
  simp only at hs hb hs2 hb2
  have g1 := plain_i64
  have g2 := plain_lval
  have g3 := plain_lu8
  have hle1 := hs.le
  have hle2 := hs2.le
  have hf1 : Fr No w ((w.alloc (.cells #[.int .i64 oc, .slice A os.length c, .slice D ob.length d] 27)).alloc (.cells #[.int .i64 pc, .slice A2 ps.length c2, .slice D2 pb.length d2] 27)) := ((Fr.refl No w).alloc _).alloc _
  have hbx : Blk ((w.alloc (.cells #[.int .i64 oc, .slice A os.length c, .slice D ob.length d] 27)).alloc (.cells #[.int .i64 pc, .slice A2 ps.length c2, .slice D2 pb.length d2] 27)) w.heap.size 27 #[.int .i64 oc, .slice A os.length c, .slice D ob.length d] := (Blk.new w _ _).alloc _
  have hby : Blk ((w.alloc (.cells #[.int .i64 oc, .slice A os.length c, .slice D ob.length d] 27)).alloc (.cells #[.int .i64 pc, .slice A2 ps.length c2, .slice D2 pb.length d2] 27)) (w.heap.size + 1) 27 #[.int .i64 pc, .slice A2 ps.length c2, .slice D2 pb.length d2] := Blk.newAt (by simp)
  have H := Lib.hid (obj_eq oc pc os ps ob pb)
  by_cases h1 : oc = pc
  rotate_left
  · have e1 : (oc == pc) = false := by simpa using h1
    have e1' : (oc != pc) = true := by simpa using h1
    rw [e1, Bool.false_and] at H
    clear h1
    go_enter Try.func20, Try.ntmps20
    go_wp2
    go_ret
    exact ⟨ret_bool H.out.symm, hf1⟩
  have e1 : (oc == pc) = true := by simpa using h1
  have e1' : (oc != pc) = false := by simpa using h1
  rw [e1, Bool.true_and] at H
  clear h1
  by_cases hl : os.length = ps.length
  rotate_left
  · have e2 : (os.length != ps.length) = true := by simpa using hl
    have e2' : ((os.length : Int) != ps.length) = true := by simp; omega
    rw [show decide (os = ps) = false from decide_eq_false (fun e => hl (by rw [e])), Bool.false_and] at H
    clear hl
    go_enter Try.func20, Try.ntmps20
    go_wp2
    go_ret
    exact ⟨ret_bool H.out.symm, hf1⟩
  have e2 : (os.length != ps.length) = false := by simpa using hl
  have e2' : ((os.length : Int) != ps.length) = false := by simp; omega
  have HL := Lib.hid hl
  clear hl
  by_cases hx : ob = pb
  rotate_left
  · have e3 : (ob != pb) = true := by simpa using hx
    have e3' : (ob == pb) = false := by simpa using hx
    rw [decide_eq_false hx, Bool.and_false] at H
    have HX := Lib.hid hx
    clear hx
    go_enter Try.func20, Try.ntmps20
    go_wp2_with (first
      | (refine wpList_str Try.underlying25 Try.underlying5 Try.underlying9 rfl (.tmp 22) rfl rfl rfl (Rd.fr0 hb hf1) ?_)
      | (refine wpList_str Try.underlying25 Try.underlying5 Try.underlying9 rfl (.tmp 25) rfl rfl rfl (Rd.fr0 hb2 hf1) ?_)
      | fail)
    go_ret
    exact ⟨ret_bool H.out.symm, hf1⟩
  subst hx
  rw [decide_eq_true (rfl : ob = ob), Bool.and_true] at H
  go_enter Try.func20, Try.ntmps20
  go_wp2_with (first
    | (refine wpList_str Try.underlying25 Try.underlying5 Try.underlying9 rfl (.tmp 22) rfl rfl rfl (Rd.fr0 hb hf1) ?_)
    | (refine wpList_str Try.underlying25 Try.underlying5 Try.underlying9 rfl (.tmp 25) rfl rfl rfl (Rd.fr0 hb2 hf1) ?_)
    | fail)
  generalize hw1 : ((w.alloc (.cells #[.int .i64 oc, .slice A os.length c, .slice D ob.length d] 27)).alloc (.cells #[.int .i64 pc, .slice A2 ps.length c2, .slice D2 ob.length d2] 27)) = w1 at *
  clear hw1
  have hs1 := Rd.fr0 hs hf1
  have hs21 := Rd.fr0 hs2 hf1
  have hl1 := hby.lt
  go_loopw [5] (fun i wr => ∃ k : Nat, k ≤ os.length ∧ i = .int .i64 (k : Int) ∧ Hid (NoDiff os ps k) ∧ Fr No w1 wr) (fun i _ => os.length - (intOf i).toNat)
  case atStart => exact ⟨0, by omega, rfl, Lib.hid (fun i hi => by omega), Fr.refl _ _⟩
  case round =>
    obtain ⟨k, hk, rfl, HN, hf⟩ := hrel
    have q1 := (hbx.fr0 hf).cell 1
    have y1 := (hby.fr0 hf).cell 1
    simp only [List.getElem?_toArray, List.getElem?_cons_zero, List.getElem?_cons_succ] at q1 y1
    by_cases hlt : k < os.length
    · have ek : decide ((k : Int) < os.length) = true := by simpa using (by omega : (k : Int) < os.length)
      have hltb : k < ps.length := by have := HL.out; omega
      obtain ⟨g, of, rfl, _, _, _, hv⟩ := RdV.at_ (Rd.fr0 hs1 hf) hlt
      obtain ⟨g', of', rfl, _, _, _, hv'⟩ := RdV.at_ (Rd.fr0 hs21 hf) hltb
      have HS := Lib.hid (fun e => HN.out.succ hlt hltb e)
      have HD := Lib.hid (fun e => decide_eq_false (diff_at hlt hltb e))
      generalize os[k] = x at *
      generalize ps[k] = y at *
      go_wp2_with fail
      (refine T_begin No [0, 1, 2, 3, 4, 5, 6, 7, 8, 9, 10] [] (by kernel_rfl) (by kernel_rfl) ?_; simp only [pickOps, List.filterMap_cons, List.filterMap_nil, List.getElem?_cons_zero, List.getElem?_cons_succ, Act.put])
      repeat (first | (refine T_skip (by rfl) (by rfl) (fun _ _ _ h => h) ?_; try simp only [Act.put, List.setIfInBounds_toArray, List.set_cons_zero, List.set_cons_succ]) | (refine T_pass (by rfl) (by rfl) ?_; try simp only [Act.put, List.setIfInBounds_toArray, List.set_cons_zero, List.set_cons_succ]) | (refine T_load (by assumption) (by rfl) (by rfl) (fun _ _ _ _ h => h) rfl rfl (by assumption) (by first | exact (fun hn => hn) | assumption) ?_; try simp only [Act.put, List.setIfInBounds_toArray, List.set_cons_zero, List.set_cons_succ]) | (refine T_nil (by rfl) (by rfl) (fun _ _ _ _ h => h) rfl rfl ?_; try simp only [Act.put, List.setIfInBounds_toArray, List.set_cons_zero, List.set_cons_succ]) | (refine T_quietN (by rfl) (by rfl) (by rfl) (by rfl) (fun _ _ _ _ h => h) (fun K hK => ?_); go_big_quiet_op; refine hK _ ?_; clear hK K) | (refine T_two (by rfl) (by rfl) (by rfl) (by rfl) (fun _ _ _ _ h => h) (fun K hK => ?_); go_big_quiet_op; refine ⟨_, fun _ _ => rfl, ?_⟩; refine hK _ ?_; clear hK K; try simp only [Act.put, List.setIfInBounds_toArray, List.set_cons_zero, List.set_cons_succ]) | fail)
      refine T_loadA (cs := vcells x) ag_val (by rfl) (by rfl) (fun _ _ _ _ h => h) rfl rfl rfl hv (fun hn => hn) ?_
      try simp only [Act.put, List.setIfInBounds_toArray, List.set_cons_zero, List.set_cons_succ]
      repeat (first | (refine T_skip (by rfl) (by rfl) (fun _ _ _ h => h) ?_; try simp only [Act.put, List.setIfInBounds_toArray, List.set_cons_zero, List.set_cons_succ]) | (refine T_pass (by rfl) (by rfl) ?_; try simp only [Act.put, List.setIfInBounds_toArray, List.set_cons_zero, List.set_cons_succ]) | (refine T_load (by assumption) (by rfl) (by rfl) (fun _ _ _ _ h => h) rfl rfl (by assumption) (by first | exact (fun hn => hn) | assumption) ?_; try simp only [Act.put, List.setIfInBounds_toArray, List.set_cons_zero, List.set_cons_succ]) | (refine T_nil (by rfl) (by rfl) (fun _ _ _ _ h => h) rfl rfl ?_; try simp only [Act.put, List.setIfInBounds_toArray, List.set_cons_zero, List.set_cons_succ]) | (refine T_quietN (by rfl) (by rfl) (by rfl) (by rfl) (fun _ _ _ _ h => h) (fun K hK => ?_); go_big_quiet_op; refine hK _ ?_; clear hK K) | (refine T_two (by rfl) (by rfl) (by rfl) (by rfl) (fun _ _ _ _ h => h) (fun K hK => ?_); go_big_quiet_op; refine ⟨_, fun _ _ => rfl, ?_⟩; refine hK _ ?_; clear hK K; try simp only [Act.put, List.setIfInBounds_toArray, List.set_cons_zero, List.set_cons_succ]) | fail)
      refine T_loadA (cs := vcells y) ag_val (by rfl) (by rfl) (fun _ _ _ _ h => h) rfl rfl rfl hv' (fun hn => hn) ?_
      try simp only [Act.put, List.setIfInBounds_toArray, List.set_cons_zero, List.set_cons_succ]
      unfold vcells
      obtain ⟨xk, xn⟩ := x
      obtain ⟨yk, yn⟩ := y
      simp only
      by_cases h1 : xk = yk
      · subst h1
        by_cases h3 : xn = yn
        · subst h3
          have HS' := Lib.hid (HS.out rfl)
          clear HS HD
          repeat (first | (refine T_skip (by rfl) (by rfl) (fun _ _ _ h => h) ?_; try simp only [Act.put, List.setIfInBounds_toArray, List.set_cons_zero, List.set_cons_succ]) | (refine T_pass (by rfl) (by rfl) ?_; try simp only [Act.put, List.setIfInBounds_toArray, List.set_cons_zero, List.set_cons_succ]) | (refine T_load (by assumption) (by rfl) (by rfl) (fun _ _ _ _ h => h) rfl rfl (by assumption) (by first | exact (fun hn => hn) | assumption) ?_; try simp only [Act.put, List.setIfInBounds_toArray, List.set_cons_zero, List.set_cons_succ]) | (refine T_nil (by rfl) (by rfl) (fun _ _ _ _ h => h) rfl rfl ?_; try simp only [Act.put, List.setIfInBounds_toArray, List.set_cons_zero, List.set_cons_succ]) | (refine T_quietN (by rfl) (by rfl) (by rfl) (by rfl) (fun _ _ _ _ h => h) (fun K hK => ?_); go_big_quiet_op; refine hK _ ?_; clear hK K) | (refine T_two (by rfl) (by rfl) (by rfl) (by rfl) (fun _ _ _ _ h => h) (fun K hK => ?_); go_big_quiet_op; refine ⟨_, fun _ _ => rfl, ?_⟩; refine hK _ ?_; clear hK K; try simp only [Act.put, List.setIfInBounds_toArray, List.set_cons_zero, List.set_cons_succ]) | fail)
          refine T_done ?_
          go_wp2
          go_roundw
          case rel => exact ⟨k + 1, by omega, by go_num, HS', hf.drew⟩
          case measure => simp [intOf]; omega
        · have e9 : (xn == yn) = false := by simpa using h3
          have HD' := Lib.hid (HD.out (fun e => h3 (by injection e)))
          clear HS HD h3
          repeat (first | (refine T_skip (by rfl) (by rfl) (fun _ _ _ h => h) ?_; try simp only [Act.put, List.setIfInBounds_toArray, List.set_cons_zero, List.set_cons_succ]) | (refine T_pass (by rfl) (by rfl) ?_; try simp only [Act.put, List.setIfInBounds_toArray, List.set_cons_zero, List.set_cons_succ]) | (refine T_load (by assumption) (by rfl) (by rfl) (fun _ _ _ _ h => h) rfl rfl (by assumption) (by first | exact (fun hn => hn) | assumption) ?_; try simp only [Act.put, List.setIfInBounds_toArray, List.set_cons_zero, List.set_cons_succ]) | (refine T_nil (by rfl) (by rfl) (fun _ _ _ _ h => h) rfl rfl ?_; try simp only [Act.put, List.setIfInBounds_toArray, List.set_cons_zero, List.set_cons_succ]) | (refine T_quietN (by rfl) (by rfl) (by rfl) (by rfl) (fun _ _ _ _ h => h) (fun K hK => ?_); go_big_quiet_op; refine hK _ ?_; clear hK K) | (refine T_two (by rfl) (by rfl) (by rfl) (by rfl) (fun _ _ _ _ h => h) (fun K hK => ?_); go_big_quiet_op; refine ⟨_, fun _ _ => rfl, ?_⟩; refine hK _ ?_; clear hK K; try simp only [Act.put, List.setIfInBounds_toArray, List.set_cons_zero, List.set_cons_succ]) | fail)
          refine T_done ?_
          go_wp2
          go_ret
          exact ⟨ret_bool (by rw [H.out, HD'.out]), hf1.tr hf.drew⟩
      · have e9 : (xk == yk) = false := by simpa using h1
        have HD' := Lib.hid (HD.out (fun e => h1 (by injection e)))
        clear HS HD h1
        repeat (first | (refine T_skip (by rfl) (by rfl) (fun _ _ _ h => h) ?_; try simp only [Act.put, List.setIfInBounds_toArray, List.set_cons_zero, List.set_cons_succ]) | (refine T_pass (by rfl) (by rfl) ?_; try simp only [Act.put, List.setIfInBounds_toArray, List.set_cons_zero, List.set_cons_succ]) | (refine T_load (by assumption) (by rfl) (by rfl) (fun _ _ _ _ h => h) rfl rfl (by assumption) (by first | exact (fun hn => hn) | assumption) ?_; try simp only [Act.put, List.setIfInBounds_toArray, List.set_cons_zero, List.set_cons_succ]) | (refine T_nil (by rfl) (by rfl) (fun _ _ _ _ h => h) rfl rfl ?_; try simp only [Act.put, List.setIfInBounds_toArray, List.set_cons_zero, List.set_cons_succ]) | (refine T_quietN (by rfl) (by rfl) (by rfl) (by rfl) (fun _ _ _ _ h => h) (fun K hK => ?_); go_big_quiet_op; refine hK _ ?_; clear hK K) | (refine T_two (by rfl) (by rfl) (by rfl) (by rfl) (fun _ _ _ _ h => h) (fun K hK => ?_); go_big_quiet_op; refine ⟨_, fun _ _ => rfl, ?_⟩; refine hK _ ?_; clear hK K; try simp only [Act.put, List.setIfInBounds_toArray, List.set_cons_zero, List.set_cons_succ]) | fail)
        refine T_done ?_
        go_wp2
        go_ret
        exact ⟨ret_bool (by rw [H.out, HD'.out]), hf1.tr hf.drew⟩
    · obtain rfl : k = os.length := by omega
      have ek : decide ((os.length : Int) < os.length) = false := by simp
      have HE := Lib.hid (show decide (os = ps) = true from decide_eq_true (HN.out.all HL.out))
      go_wp2
      go_ret
      exact ⟨ret_bool (by rw [H.out, HE.out]), hf1.tr hf⟩
end Go.Proofs.Ytoajigghkjnffaa
