/- A region that leaves its order open, whose calls stand in one order, and whose other operations yield the same in whatever comes behind: walked once. No condition. -/
import Derived.Test.YtannkgglgmbkdaaDoorLap
import Derived.OrdersHeld
import Derived.Deep.RegionHeld
import Derived.Deep.QuietTactic
import Derived.BigQuiet
namespace Go.Proofs.YtannkgglgmbkdaaDoor
set_option linter.unusedVariables false
set_option linter.unusedSimpArgs false
open Go.RowKit

/-- Does each of ms that has not come up wait for number i? -/
def waitsFor (ops : Array Oper) (listed : Array Bool) (i : Nat) : List Nat → Bool
  | [] => true
  | m :: ms => (listed.getD m true || match ops[m]? with | some o => o.after.any (fun e => Region.binds .any e && e.on == i) | none => true) && waitsFor ops listed i ms
theorem waitsFor_spec {ops : Array Oper} {listed : Array Bool} {i : Nat} : ∀ (ms : List Nat), waitsFor ops listed i ms = true → ∀ m ∈ ms, m ∈ Region.ready .any ops listed → i ∈ Region.ready .any ops listed → m ≠ i → False
  | [], _, m, hm, _, _, _ => by cases hm
  | m0 :: ms, h, m, hm, hr, hi, hne => by
    simp only [waitsFor, Bool.and_eq_true] at h
    rcases List.mem_cons.1 hm with rfl | hm
    · obtain ⟨hun, o, ho, hall⟩ := mem_ready.1 hr
      have h1 := h.1
      rw [hun, ho] at h1
      simp only [Bool.false_or] at h1
      obtain ⟨e, he, hb⟩ := Array.any_eq_true'.1 h1
      simp only [Bool.and_eq_true, beq_iff_eq] at hb
      have h2 := hall e he hb.1
      rw [hb.2] at h2
      have h0 := (mem_ready.1 hi).1
      rcases Nat.lt_or_ge i listed.size with h' | h'
      · simp [h'] at h0 h2; rw [h0] at h2; cases h2
      · simp [Array.getElem?_eq_none h'] at h2
    · exact waitsFor_spec ms h.2 m hm hr hi hne
theorem waitsFor_set {ops : Array Oper} {listed : Array Bool} {i j : Nat} : ∀ (ms : List Nat), ms.contains j = false → waitsFor ops (listed.setIfInBounds j true) i ms = waitsFor ops listed i ms
  | [], _ => rfl
  | m :: ms, h => by
    simp only [List.contains_cons, Bool.or_eq_false_iff] at h
    simp only [waitsFor]
    rw [getD_set_ne true (by intro e; subst e; simp at h), waitsFor_set ms h.2]
/-- Whatever order is picked from here on, and S holds behind every operation up to the first of ms. -/
def wpAnyM (P : Program) (ops : Array Oper) (Q : Exit → Act → World → Prop) (S : World → Prop) (ms : List Nat) : Nat → Array Bool → Act → World → Prop
  | 0, listed, a, w => Region.ready .any ops listed = [] ∧ Q .normal a w
  | fuel + 1, listed, a, w =>
    (Region.ready .any ops listed = [] → Q .normal a w) ∧
    ∀ i ∈ Region.ready .any ops listed, wpOp P ops Q i (fun a' w' => if ms.contains i = true then wpAny P .any ops Q fuel (listed.setIfInBounds i true) a' w' else S w' ∧ wpAnyM P ops Q S ms fuel (listed.setIfInBounds i true) a' w') a w
section
variable {P : Program} {ops : Array Oper} {Q : Exit → Act → World → Prop} {S : World → Prop} {ms : List Nat}
theorem wpAny_of_M : ∀ (fuel : Nat) (listed : Array Bool) (a : Act) (w : World), wpAnyM P ops Q S ms fuel listed a w → wpAny P .any ops Q fuel listed a w
  | 0, _, _, _, h => h
  | fuel + 1, _, _, _, h => ⟨h.1, fun i hi => wpOp_mono (fun a' w' h' => by
      split at h'
      · exact h'
      · exact wpAny_of_M fuel _ a' w' h'.2) (h.2 i hi)⟩
theorem wpAnyM_weak {S1 S2 : World → Prop} (hS : ∀ w, S1 w → S2 w) : ∀ (fuel : Nat) (listed : Array Bool) (a : Act) (w : World), wpAnyM P ops Q S1 ms fuel listed a w → wpAnyM P ops Q S2 ms fuel listed a w
  | 0, _, _, _, h => h
  | fuel + 1, _, _, _, h => ⟨h.1, fun i hi => wpOp_mono (fun a' w' h' => by
      split at h'
      · rename_i hc; rw [if_pos hc]; exact h'
      · rename_i hc; rw [if_neg hc]; exact ⟨hS _ h'.1, wpAnyM_weak hS fuel _ a' w' h'.2⟩) (h.2 i hi)⟩
theorem wpAnyM_first {i : Nat} {oi : Oper} {v : Value} (hi : ops[i]? = some oi) (hsel : ∀ (j : Nat) (o : Oper) cs b, ops[j]? = some o → o.op ≠ .select cs b)
    (hQ : ∀ c a w, Q (.panic c) (a.put oi.dst v) w → Q (.panic c) a w) :
    ∀ (fuel : Nat) (listed : Array Bool) (a : Act) (w : World),
      (∀ j oj, ops[j]? = some oj → j ≠ i → listed.getD j true = false → (∀ e ∈ oj.after, Region.binds .any e = true → e.on ≠ i) → oi.apart ops oj = true) →
      i ∈ Region.ready .any ops listed → YieldsIf P ops (fun w => waitsFor ops listed i ms = true → S w) oi v a → S w →
      wpAnyM P ops Q S ms fuel (listed.setIfInBounds i true) (a.put oi.dst v) w → wpAnyM P ops Q S ms (fuel + 1) listed a w := by
  intro fuel
  induction fuel with
  | zero =>
    intro listed a w _ hr hy hS H
    refine ⟨fun h => (by rw [h] at hr; cases hr), fun j hj => ?_⟩
    by_cases hji : j = i
    · subst hji
      refine hy.wpOp hi (fun _ => hS) ?_
      split
      · exact wpAny_of_M 0 _ _ _ H
      · exact ⟨hS, H⟩
    · have := ready_mono hj hji
      rw [H.1] at this
      cases this
  | succ fuel ih =>
    intro listed a w hfree hr hy hS H
    refine ⟨fun h => (by rw [h] at hr; cases hr), fun j hj => ?_⟩
    by_cases hji : j = i
    · subst hji
      refine hy.wpOp hi (fun _ => hS) ?_
      split
      · exact wpAny_of_M (fuel + 1) _ _ _ H
      · exact ⟨hS, H⟩
    · have h1 := H.2 j (ready_mono hj hji)
      obtain ⟨hjun, oj, hoj, hall⟩ := mem_ready.1 hj
      have hnot : ∀ e ∈ oj.after, Region.binds .any e = true → e.on ≠ i := fun e he hb heq => by
        have h1 := hall e he hb
        have h0 := (mem_ready.1 hr).1
        rw [heq] at h1
        rcases Nat.lt_or_ge i listed.size with h' | h'
        · simp [h'] at h0 h1; rw [h0] at h1; cases h1
        · simp [Array.getElem?_eq_none h'] at h1
      have h2 := wpOp_putIf hoj (hfree j oj hoj hji hjun hnot) (fun cs b => hsel i oi cs b hi) (fun cs b => hsel j oj cs b hoj) hQ hy h1
      have hfree' : ∀ k ok, ops[k]? = some ok → k ≠ i → (listed.setIfInBounds j true).getD k true = false →
          (∀ e ∈ ok.after, Region.binds .any e = true → e.on ≠ i) → oi.apart ops ok = true := fun k ok hk hki hun hno => by
        refine hfree k ok hk hki ?_ hno
        by_cases hjk : j = k
        · subst hjk; exact hjun
        · rw [getD_set_ne true hjk] at hun; exact hun
      refine wpOp_mono (fun a' w' h3 => ?_) h2
      obtain ⟨h4, h5⟩ := h3
      by_cases hc : ms.contains j = true
      · rw [if_pos hc] at h5
        rw [if_pos hc]
        refine wpAny_first hi hsel hQ fuel (listed.setIfInBounds j true) a' w' hfree' (ready_mono hr (Ne.symm hji)) ?_ ?_
        · refine h4.imp (fun ⟨hw, hv⟩ => ⟨hw, fun w1 => hv w1 (fun hwt => ?_)⟩) id
          exact (waitsFor_spec ms hwt j (by simpa using hc) hj hr hji).elim
        · rw [Array.setIfInBounds_comm _ _ hji]; exact h5
      · rw [if_neg hc] at h5
        rw [if_neg hc]
        have hc' : ms.contains j = false := by simpa using hc
        refine ⟨h5.1, ih (listed.setIfInBounds j true) a' w' hfree' (ready_mono hr (Ne.symm hji)) ?_ h5.1 ?_⟩
        · refine h4.imp (fun ⟨hw, hv⟩ => ⟨hw, fun w1 hw1 => hv w1 (fun hwt => hw1 ?_)⟩) id
          rw [waitsFor_set ms hc']; exact hwt
        · rw [Array.setIfInBounds_comm _ _ hji]; exact h5.2
end

/-- Whatever order is picked from here on; up to the first of ms the worlds that come are the one at hand but for blocks of S, and new ones. -/
abbrev wpE (P : Program) (S : Nat → Prop) (ops : Array Oper) (Q : Exit → Act → World → Prop) (ms : List Nat) (fuel : Nat) (listed : Array Bool) (a : Act) (w : World) : Prop :=
  wpAnyM P ops Q (fun w' => Fr S w w') ms fuel listed a w
section
variable {P : Program} {S : Nat → Prop} {ops : Array Oper} {Q : Exit → Act → World → Prop} {ms : List Nat} {fuel : Nat} {listed : Array Bool} {a : Act} {w : World}

theorem E_begin {id : Nat} (S : Nat → Prop) (ms : List Nat) (hm : P.follows .mixedOrders = true) (h : wpE P S ops Q ms ops.size (Array.replicate ops.size false) a w.drew) : (Code.region id ops true).wp P Q a w :=
  wp_region_any hm (wpAny_of_M _ _ _ _ h)

theorem E_take {i : Nat} {oi : Oper} {v : Value} (hi : ops[i]? = some oi) (hs : Region.noSelect ops = true) (hf : Region.free .any ops listed i = true) (hr : (Region.ready .any ops listed).contains i = true)
    (hQ : ∀ c a w, Q (.panic c) (a.put oi.dst v) w → Q (.panic c) a w)
    (hy : (Region.wanted oi (yielded ops a.tmps) = true ∧ ∀ w', (waitsFor ops listed i ms = true → Fr S w w') → (execOp a.eval oi).run P w' = .ok (.value v) w') ∨ (Region.wanted oi (yielded ops a.tmps) = false ∧ v = undef))
    (h : wpE P S ops Q ms fuel (listed.setIfInBounds i true) (a.put oi.dst v) w) : wpE P S ops Q ms (fuel + 1) listed a w :=
  wpAnyM_first hi (Region.noSelect_spec hs) hQ fuel listed a w (Region.free_spec hi hf) (by simpa using hr) hy (Fr.refl S w) h

theorem E_op {i : Nat} {o : Oper} (hr : Region.ready .any ops listed = [i]) (ho : ops[i]? = some o) (hms : ms.contains i = false)
    (h : ∀ K' : Act → World → Prop, Shut (∀ a' w', Fr S w w' → wpE P S ops Q ms fuel (listed.setIfInBounds i true) a' w' → K' a' w') → if Region.wanted o (yielded ops a.tmps) = true then Oper.wp P o a w K' Q else K' (a.put o.dst undef) w) :
    wpE P S ops Q ms (fuel + 1) listed a w :=
  ⟨fun h0 => absurd (hr ▸ h0) (by simp), fun j hj => by
    obtain rfl : j = i := by rw [hr] at hj; simpa using hj
    refine wpOp_step ho fun K' hK => h K' fun a' w' hE hW => hK a' w' ?_
    rw [if_neg (by rw [hms]; exact Bool.false_ne_true)]
    exact ⟨hE, wpAnyM_weak (fun w'' h'' => hE.trans h'' (fun _ _ hs => hs)) _ _ _ _ hW⟩⟩
/-- One of ms: behind it another S may stand, and other ms. -/
theorem E_turn {i : Nat} {o : Oper} (S' : Nat → Prop) (ms' : List Nat) (hr : Region.ready .any ops listed = [i]) (ho : ops[i]? = some o) (hms : ms.contains i = true)
    (h : ∀ K' : Act → World → Prop, Shut (∀ a' w', wpE P S' ops Q ms' fuel (listed.setIfInBounds i true) a' w' → K' a' w') → if Region.wanted o (yielded ops a.tmps) = true then Oper.wp P o a w K' Q else K' (a.put o.dst undef) w) :
    wpE P S ops Q ms (fuel + 1) listed a w :=
  ⟨fun h0 => absurd (hr ▸ h0) (by simp), fun j hj => by
    obtain rfl : j = i := by rw [hr] at hj; simpa using hj
    refine wpOp_step ho fun K' hK => h K' fun a' w' hW => hK a' w' ?_
    rw [if_pos hms]
    exact wpAny_of_M _ _ _ _ hW⟩

theorem E_done (hr : Region.ready .any ops listed = []) (h : Q .normal a w) : wpE P S ops Q ms fuel listed a w :=
  match fuel with
  | 0 => ⟨hr, h⟩
  | _ + 1 => ⟨fun _ => h, by rw [hr]; simp⟩
end

/-! ### The same in an order that is given -/
def listedBy (n : Nat) (d : List Nat) : Array Bool := (Array.range n).map (fun j => d.contains j)
/-- In the order that is given: a call stands alone; what is none waits for nobody that may still come. -/
def regionOk (ops : Array Oper) (ord calls : List Nat) : Bool :=
  Region.noSelect ops && ord.length == ops.size && (Region.ready .any ops (listedBy ops.size ord)).isEmpty && (List.range ord.length).all fun k =>
    let listed := listedBy ops.size (ord.take k)
    let i := ord.getD k 0
    decide (i < ops.size) && (calls.contains (i + 1000) || if calls.contains i then Region.ready .any ops listed == [i] else Region.free .any ops listed i && (Region.ready .any ops listed).contains i)
theorem listedBy_nil (n : Nat) : listedBy n [] = Array.replicate n false := by
  apply Array.ext
  · simp [listedBy]
  · intro i h1 h2; simp [listedBy]
theorem listedBy_succ (n : Nat) (d : List Nat) (i : Nat) : (listedBy n d).setIfInBounds i true = listedBy n (d ++ [i]) := by
  apply Array.ext
  · simp [listedBy]
  · intro j h1 h2
    have hj : j < (listedBy n d).size := by simpa [listedBy] using h2
    rw [Array.getElem_setIfInBounds (by simpa using hj)]
    by_cases h : i = j
    · subst h; simp [listedBy]
    · rw [if_neg h]
      have : ¬ j = i := fun e => h e.symm
      simp [listedBy, this]
def pickOps (L : List Oper) (is : List Nat) : List Oper := is.filterMap (L[·]?)
/-- The rest of a region, in the order that is given, from its k-th on; the calls stand at 'calls'. -/
def wpT (P : Program) (S : Nat → Prop) (ops : Array Oper) (Q : Exit → Act → World → Prop) (ms : List Nat) (ord calls : List Nat) (k : Nat) (l : List Oper) (a : Act) (w : World) : Prop :=
  regionOk ops ord calls = true → pickOps ops.toList (ord.drop k) = l → wpE P S ops Q ms (ops.size - k) (listedBy ops.size (ord.take k)) a w
section
variable {P : Program} {S : Nat → Prop} {ops : Array Oper} {Q : Exit → Act → World → Prop} {ms : List Nat} {ord calls : List Nat} {k : Nat} {l : List Oper} {o : Oper} {a : Act} {w : World}
theorem regionOk_parts (h : regionOk ops ord calls = true) : Region.noSelect ops = true ∧ ord.length = ops.size ∧ Region.ready .any ops (listedBy ops.size ord) = [] ∧
    ∀ k, k < ord.length → ord.getD k 0 < ops.size ∧ (calls.contains (ord.getD k 0 + 1000) || if calls.contains (ord.getD k 0) then Region.ready .any ops (listedBy ops.size (ord.take k)) == [ord.getD k 0] else Region.free .any ops (listedBy ops.size (ord.take k)) (ord.getD k 0) && (Region.ready .any ops (listedBy ops.size (ord.take k))).contains (ord.getD k 0)) = true := by
  simp only [regionOk, Bool.and_eq_true, List.all_eq_true, List.mem_range, beq_iff_eq, List.isEmpty_iff, decide_eq_true_eq] at h
  obtain ⟨⟨⟨h1, h2⟩, h3⟩, h4⟩ := h
  exact ⟨h1, h2, h3, h4⟩
theorem step_parts (hok : regionOk ops ord calls = true) (h : pickOps ops.toList (ord.drop k) = o :: l) :
    k < ord.length ∧ ops[ord.getD k 0]? = some o ∧ pickOps ops.toList (ord.drop (k + 1)) = l ∧ ord.take (k + 1) = ord.take k ++ [ord.getD k 0] := by
  obtain ⟨_, _, _, h4⟩ := regionOk_parts hok
  have hk : k < ord.length := by
    rcases Nat.lt_or_ge k ord.length with h1 | h1
    · exact h1
    · rw [List.drop_eq_nil_of_le h1] at h; cases h
  have hg : ord.getD k 0 = ord[k] := by rw [List.getD_eq_getElem?_getD, List.getElem?_eq_getElem hk]; rfl
  have hlt := (h4 k hk).1
  rw [List.drop_eq_getElem_cons hk] at h
  have hlt' : ord[k] < ops.toList.length := by rw [← hg]; simpa using hlt
  have ho := List.getElem?_eq_getElem hlt'
  unfold pickOps at h
  rw [List.filterMap_cons, ho] at h
  injection h with h1 h2
  refine ⟨hk, ?_, h2, ?_⟩
  · rw [hg, ← h1, ← Array.getElem?_toList, ho]
  · rw [List.take_add_one, hg, List.getElem?_eq_getElem hk]; rfl
theorem T_begin {id : Nat} {l : List Oper} (S : Nat → Prop) (ord calls : List Nat) (hm : P.follows .mixedOrders = true) (hok : regionOk l.toArray ord calls = true) (h : wpT P S l.toArray Q [] ord calls 0 (pickOps l ord) a w.drew) : (Code.region id l.toArray true).wp P Q a w := by
  refine E_begin S [] hm ?_
  have h1 := h hok rfl
  rw [List.take_zero, listedBy_nil, Nat.sub_zero] at h1
  exact h1
theorem T_take {v : Value} (hc : calls.contains (ord.getD k 0) = false) (hw : Region.wanted o (yielded ops a.tmps) = true) (hQ : ∀ c a w, Q (.panic c) (a.put o.dst v) w → Q (.panic c) a w)
    (hy : ∀ w', (waitsFor ops (listedBy ops.size (ord.take k)) (ord.getD k 0) ms = true → Fr S w w') → (execOp a.eval o).run P w' = .ok (.value v) w') (h : wpT P S ops Q ms ord calls (k + 1) l (a.put o.dst v) w) (hxm : calls.contains (ord.getD k 0 + 1000) = false := by rfl) : wpT P S ops Q ms ord calls k (o :: l) a w := by
  intro hok hl
  obtain ⟨hi, ho, hl', ht⟩ := step_parts hok hl
  obtain ⟨h1, hlen, _, h4⟩ := regionOk_parts hok
  have h2 := (h4 k hi).2
  rw [hxm, hc] at h2
  simp only [Bool.false_or, Bool.false_eq_true, if_false, Bool.and_eq_true] at h2
  obtain ⟨n, hn⟩ : ∃ n, ops.size - k = n + 1 := ⟨ops.size - k - 1, by omega⟩
  rw [hn]
  refine E_take ho h1 h2.1 h2.2 hQ (.inl ⟨hw, hy⟩) ?_
  have h3 := h hok hl'
  rw [listedBy_succ, ← ht, show n = ops.size - (k + 1) by omega]
  exact h3
/-- An operation that hands a value on, or ends the run. -/
def plainOp (o : Oper) : Bool :=
  match o.op with
  | .move _ | .assign _ | .pick .. | .binOp .. | .unOp .. | .convert .. | .makeInterface .. | .fieldAddr .. | .field .. | .indexAddr .. | .index .. | .slice .. | .extract .. | .load .. | .lookup .. | .typeAssert .. | .build .. => true
  | .call { callee := .builtin b, .. } => (match b with | .len | .cap | .min | .max => true | _ => false)
  | _ => false
theorem plain_value {P : Program} (ρ : Operand → Value) (o : Oper) (h : plainOp o = true) (w w' : World) (x : Next) (hr : (execOp ρ o).run P w = .ok x w') : ∃ u, x = .value u := by
  have key : ∀ (s : Sem Value), ((do pure (Next.value (← s)) : Sem Next)).run P w = .ok x w' → ∃ u, x = .value u := by
    intro s hs
    rw [Sem.run_bind] at hs
    cases hs2 : s.run P w with
    | ok u w1 => rw [hs2] at hs; simp only [Result.andThen_ok, Sem.run_pure, Result.ok.injEq] at hs; exact ⟨u, hs.1.symm⟩
    | halt y w1 => rw [hs2] at hs; simp [Result.andThen] at hs
  have key0 : ∀ u : Value, ((pure (Next.value u) : Sem Next)).run P w = .ok x w' → ∃ u, x = .value u := by
    intro u hs
    simp only [Sem.run_pure, Result.ok.injEq] at hs
    exact ⟨u, hs.1.symm⟩
  cases o with
  | mk dst op type pos after guard =>
    have keyp : ∀ (c u v : Value), (do pure (Next.value (if ← asBool c then u else v)) : Sem Next).run P w = .ok x w' → ∃ u, x = .value u := by
      intro c u v hs
      rw [Sem.run_bind] at hs
      cases hs2 : (asBool c).run P w with
      | ok b w1 => rw [hs2] at hs; simp only [Result.andThen_ok, Sem.run_pure, Result.ok.injEq] at hs; exact ⟨_, hs.1.symm⟩
      | halt y w1 => rw [hs2] at hs; simp [Result.andThen] at hs
    cases op <;> simp only [plainOp, Bool.false_eq_true] at h <;> first
      | exact key0 _ hr
      | exact key _ hr
      | exact keyp _ _ _ hr
      | skip
    rename_i c
    obtain ⟨callee, args, ats⟩ := c
    cases callee with
    | value f => simp at h
    | invoke r n => simp at h
    | builtin b =>
      cases b <;> simp only [Bool.false_eq_true] at h <;> exact key _ hr
theorem T_quiet (hc : calls.contains (ord.getD k 0) = false) (hp : plainOp o = true) (hw : Region.wanted o (yielded ops a.tmps) = true) (hQ : ∀ v c a w, Q (.panic c) (a.put o.dst v) w → Q (.panic c) a w)
    (h : ∀ K : Act → Prop, (∀ a, wpT P S ops Q ms ord calls (k + 1) l a w → K a) → o.quiet P a (fun w' => waitsFor ops (listedBy ops.size (ord.take k)) (ord.getD k 0) ms = true → Fr S w w') K) (hxm : calls.contains (ord.getD k 0 + 1000) = false := by rfl) : wpT P S ops Q ms ord calls k (o :: l) a w := by
  obtain ⟨v, hv, hK⟩ := h (fun a => wpT P S ops Q ms ord calls (k + 1) l a w) (fun _ h => h)
  refine T_take hc hw (hQ v) (fun w' hf => ?_) hK hxm
  have h1 := hv w' hf
  unfold Oper.quietAt at h1
  cases hr : (execOp a.eval o).run P w' with
  | halt x w'' => rw [hr] at h1; exact h1.elim
  | ok x w'' =>
    obtain ⟨u, rfl⟩ := plain_value a.eval o hp _ _ _ hr
    rw [hr] at h1
    simp only [Oper.quietUpon] at h1
    obtain ⟨rfl, rfl⟩ := h1
    rfl
/-- A compare, or a pick: so that no other operation takes this road. -/
def twoOp (o : Oper) : Bool := match o.op with | .convert .. | .load .. | .index .. => false | _ => true
theorem T_two (_ : twoOp o = true) (hc : calls.contains (ord.getD k 0) = false) (hp : plainOp o = true) (hw : Region.wanted o (yielded ops a.tmps) = true) (hQ : ∀ v c a w, Q (.panic c) (a.put o.dst v) w → Q (.panic c) a w)
    (h : ∀ K : Act → Prop, (∀ a, wpT P S ops Q ms ord calls (k + 1) l a w → K a) → o.quiet P a (fun w' => waitsFor ops (listedBy ops.size (ord.take k)) (ord.getD k 0) ms = true → Fr S w w') K) (hxm : calls.contains (ord.getD k 0 + 1000) = false := by rfl) : wpT P S ops Q ms ord calls k (o :: l) a w := T_quiet hc hp hw hQ h hxm
/-- No load: a load of a struct would be taken apart cell by cell. -/
def noLoad (o : Oper) : Bool := match o.op with | .load .. => false | _ => true
theorem T_quietN (_ : noLoad o = true) (hc : calls.contains (ord.getD k 0) = false) (hp : plainOp o = true) (hw : Region.wanted o (yielded ops a.tmps) = true) (hQ : ∀ v c a w, Q (.panic c) (a.put o.dst v) w → Q (.panic c) a w)
    (h : ∀ K : Act → Prop, (∀ a, wpT P S ops Q ms ord calls (k + 1) l a w → K a) → o.quiet P a (fun w' => waitsFor ops (listedBy ops.size (ord.take k)) (ord.getD k 0) ms = true → Fr S w w') K) (hxm : calls.contains (ord.getD k 0 + 1000) = false := by rfl) : wpT P S ops Q ms ord calls k (o :: l) a w := T_quiet hc hp hw hQ h hxm
theorem T_str {src dst e : TypeId} (hs : P.underlying src = some (.slice e)) (he : P.underlying e = some (.int .u8)) (hd : P.underlying dst = some .string)
    {T : Nat → Prop} {A : Option Addr} {l' : List UInt8} (h : RdB w T A l') (hT : ∀ b, T b → ¬ S b) (hc : calls.contains (ord.getD k 0) = false) (hw : Region.wanted o (yielded ops a.tmps) = true) (hQ : ∀ v c a w, Q (.panic c) (a.put o.dst v) w → Q (.panic c) a w)
    {x : Operand} (ho : o.op = .convert src dst x) {c n : Nat} (hn : n = l'.length) (hx : a.eval x = .slice A n c)
    (hk : wpT P S ops Q ms ord calls (k + 1) l (a.put o.dst (.string ⟨l'.toArray⟩)) w) (hwt : waitsFor ops (listedBy ops.size (ord.take k)) (ord.getD k 0) ms = true := by first | rfl | kernel_rfl) (hxm : calls.contains (ord.getD k 0 + 1000) = false := by rfl) : wpT P S ops Q ms ord calls k (o :: l) a w := by
  subst hn
  refine T_take hc hw (hQ _) (fun w' hf => ?_) hk hxm
  have hf := hf hwt
  unfold execOp
  simp only [ho, hx, Sem.run_bind, Sem.run_pure, Result.andThen_ok, run_str w' hs he hd c (Rd.fr h hf hT)]
/-- A pointer that is not nil. -/
theorem T_nil {x : Operand} {p : Addr} (hc : calls.contains (ord.getD k 0) = false) (hw : Region.wanted o (yielded ops a.tmps) = true) (hQ : ∀ v c a w, Q (.panic c) (a.put o.dst v) w → Q (.panic c) a w)
    (ho : o.op = .nilCheck x) (hx : a.eval x = .pointer (some p))
    (h : wpT P S ops Q ms ord calls (k + 1) l (a.put o.dst (.pointer (some p))) w) (hxm : calls.contains (ord.getD k 0 + 1000) = false := by rfl) : wpT P S ops Q ms ord calls k (o :: l) a w := by
  refine T_take hc hw (hQ _) (fun w' hf => ?_) h hxm
  unfold execOp
  simp only [ho, hx, Sem.run_pure]
/-- A load of one cell, which stands. -/
theorem T_load {ty : TypeId} {x : Operand} {p : Addr} {v : Value} (hag : ∀ w, (isAgg ty).run P w = .ok false w) (hc : calls.contains (ord.getD k 0) = false) (hw : Region.wanted o (yielded ops a.tmps) = true) (hQ : ∀ v c a w, Q (.panic c) (a.put o.dst v) w → Q (.panic c) a w)
    (ho : o.op = .load ty x) (hx : a.eval x = .pointer (some p)) (hcell : w.cell? p = some v) (hS : ¬ S p.block)
    (h : wpT P S ops Q ms ord calls (k + 1) l (a.put o.dst v) w) (hwt : waitsFor ops (listedBy ops.size (ord.take k)) (ord.getD k 0) ms = true := by first | rfl | kernel_rfl) (hxm : calls.contains (ord.getD k 0 + 1000) = false := by rfl) : wpT P S ops Q ms ord calls k (o :: l) a w := by
  refine T_take hc hw (hQ _) (fun w' hf => ?_) h hxm
  have hf := hf hwt
  have hcell' := hf.cell_some hcell hS
  unfold execOp
  simp only [ho, hx, Instr.loadAt, Instr.sureAddr, loadVar, Sem.run_bind, Sem.run_pure, Result.andThen_ok, hag, Bool.false_eq_true, if_false, run_load, hcell']
/-- A load of a struct or an array, whose cells stand. -/
theorem T_loadA {ty : TypeId} {size : Nat} {x : Operand} {p : Addr} {cs : List Value} (he : AggOf P ty size) (hc : calls.contains (ord.getD k 0) = false) (hw : Region.wanted o (yielded ops a.tmps) = true) (hQ : ∀ v c a w, Q (.panic c) (a.put o.dst v) w → Q (.panic c) a w)
    (ho : o.op = .load ty x) (hx : a.eval x = .pointer (some p)) (hl : cs.length = size) (hcell : ∀ j u, cs[j]? = some u → w.cell? (p.add j) = some u) (hS : ¬ S p.block)
    (h : wpT P S ops Q ms ord calls (k + 1) l (a.put o.dst (.agg cs.toArray)) w) (hwt : waitsFor ops (listedBy ops.size (ord.take k)) (ord.getD k 0) ms = true := by first | rfl | kernel_rfl) (hxm : calls.contains (ord.getD k 0 + 1000) = false := by rfl) : wpT P S ops Q ms ord calls k (o :: l) a w := by
  refine T_take hc hw (hQ _) (fun w' hf => ?_) h hxm
  have hf := hf hwt
  have hcell' : ∀ j u, cs[j]? = some u → w'.cell? (p.add j) = some u := fun j u hu => hf.cell_some (hcell j u hu) (by rw [block_of_add]; exact hS)
  unfold execOp
  simp only [ho, hx, Instr.loadAt, Instr.sureAddr, Sem.run_bind, Sem.run_pure, Result.andThen_ok, run_ldA he w' p cs hl hcell']
theorem T_skip (hc : calls.contains (ord.getD k 0) = false) (hw : Region.wanted o (yielded ops a.tmps) = false) (hQ : ∀ c a w, Q (.panic c) (a.put o.dst undef) w → Q (.panic c) a w)
    (h : wpT P S ops Q ms ord calls (k + 1) l (a.put o.dst undef) w) (hxm : calls.contains (ord.getD k 0 + 1000) = false := by rfl) : wpT P S ops Q ms ord calls k (o :: l) a w := by
  intro hok hl
  obtain ⟨hi, ho, hl', ht⟩ := step_parts hok hl
  obtain ⟨h1, hlen, _, h4⟩ := regionOk_parts hok
  have h2 := (h4 k hi).2
  rw [hxm, hc] at h2
  simp only [Bool.false_or, Bool.false_eq_true, if_false, Bool.and_eq_true] at h2
  obtain ⟨n, hn⟩ : ∃ n, ops.size - k = n + 1 := ⟨ops.size - k - 1, by omega⟩
  rw [hn]
  refine E_take ho h1 h2.1 h2.2 hQ (.inr ⟨hw, rfl⟩) ?_
  have h3 := h hok hl'
  rw [listedBy_succ, ← ht, show n = ops.size - (k + 1) by omega]
  exact h3
theorem T_call (hc : calls.contains (ord.getD k 0) = true) (hw : Region.wanted o (yielded ops a.tmps) = true)
    (h : ∀ K' : Act → World → Prop, Shut (∀ a' w', Fr S w w' → wpT P S ops Q ms ord calls (k + 1) l a' w' → K' a' w') → Oper.wp P o a w K' Q) (hms : ms.contains (ord.getD k 0) = false := by rfl) (hxm : calls.contains (ord.getD k 0 + 1000) = false := by rfl) : wpT P S ops Q ms ord calls k (o :: l) a w := by
  intro hok hl
  obtain ⟨hi, ho, hl', ht⟩ := step_parts hok hl
  obtain ⟨h1, hlen, _, h4⟩ := regionOk_parts hok
  have h2 := (h4 k hi).2
  rw [hxm, hc] at h2
  simp only [Bool.false_or, if_true, beq_iff_eq] at h2
  obtain ⟨n, hn⟩ : ∃ n, ops.size - k = n + 1 := ⟨ops.size - k - 1, by omega⟩
  rw [hn]
  refine E_op h2 ho hms fun K' hK => ?_
  rw [if_pos hw]
  refine h K' fun a' w' hf hT => hK a' w' hf ?_
  have h3 := hT hok hl'
  rw [listedBy_succ, ← ht, show n = ops.size - (k + 1) by omega]
  exact h3
theorem T_pass (hc : calls.contains (ord.getD k 0) = true) (hw : Region.wanted o (yielded ops a.tmps) = false) (h : wpT P S ops Q ms ord calls (k + 1) l (a.put o.dst undef) w) (hms : ms.contains (ord.getD k 0) = false := by rfl) (hxm : calls.contains (ord.getD k 0 + 1000) = false := by rfl) : wpT P S ops Q ms ord calls k (o :: l) a w := by
  intro hok hl
  obtain ⟨hi, ho, hl', ht⟩ := step_parts hok hl
  obtain ⟨h1, hlen, _, h4⟩ := regionOk_parts hok
  have h2 := (h4 k hi).2
  rw [hxm, hc] at h2
  simp only [Bool.false_or, if_true, beq_iff_eq] at h2
  obtain ⟨n, hn⟩ : ∃ n, ops.size - k = n + 1 := ⟨ops.size - k - 1, by omega⟩
  rw [hn]
  refine E_op h2 ho hms fun K' hK => ?_
  rw [if_neg (by rw [hw]; exact Bool.false_ne_true)]
  refine hK.out _ _ (Fr.refl S w) ?_
  have h3 := h hok hl'
  rw [listedBy_succ, ← ht, show n = ops.size - (k + 1) by omega]
  exact h3
theorem T_begin2 {id : Nat} {l : List Oper} (S : Nat → Prop) (ms : List Nat) (ord calls : List Nat) (hm : P.follows .mixedOrders = true) (hok : regionOk l.toArray ord calls = true) (h : wpT P S l.toArray Q ms ord calls 0 (pickOps l ord) a w.drew) : (Code.region id l.toArray true).wp P Q a w := by
  refine E_begin S ms hm ?_
  have h1 := h hok rfl
  rw [List.take_zero, listedBy_nil, Nat.sub_zero] at h1
  exact h1
/-- One of ms: behind it another S may stand. -/
theorem T_turn (S' : Nat → Prop) (ms' : List Nat) (hc : calls.contains (ord.getD k 0) = true) (hms : ms.contains (ord.getD k 0) = true) (hw : Region.wanted o (yielded ops a.tmps) = true)
    (h : ∀ K' : Act → World → Prop, Shut (∀ a' w', wpT P S' ops Q ms' ord calls (k + 1) l a' w' → K' a' w') → Oper.wp P o a w K' Q) (hxm : calls.contains (ord.getD k 0 + 1000) = false := by rfl) : wpT P S ops Q ms ord calls k (o :: l) a w := by
  intro hok hl
  obtain ⟨hi, ho, hl', ht⟩ := step_parts hok hl
  obtain ⟨h1, hlen, _, h4⟩ := regionOk_parts hok
  have h2 := (h4 k hi).2
  rw [hxm, hc] at h2
  simp only [Bool.false_or, if_true, beq_iff_eq] at h2
  obtain ⟨n, hn⟩ : ∃ n, ops.size - k = n + 1 := ⟨ops.size - k - 1, by omega⟩
  rw [hn]
  refine E_turn S' ms' h2 ho hms fun K' hK => ?_
  rw [if_pos hw]
  refine h K' fun a' w' hT => hK a' w' ?_
  have h3 := hT hok hl'
  rw [listedBy_succ, ← ht, show n = ops.size - (k + 1) by omega]
  exact h3
/-- Two calls that may come in either order: each is a way of its own, in an order of its own. -/
theorem T_fork {ord2 calls2 : List Nat} {l2 : List Oper} {o2 : Oper} {i j : Nat} (hrd : Region.ready .any ops (listedBy ops.size (ord.take k)) = [i, j]) (hi : ord.getD k 0 = i) (hj : ord2.getD k 0 = j) (ht2 : ord2.take k = ord.take k)
    (hok2 : regionOk ops ord2 calls2 = true) (hl2 : pickOps ops.toList (ord2.drop k) = o2 :: l2) (hmi : ms.contains i = false) (hmj : ms.contains j = false) (hw1 : Region.wanted o (yielded ops a.tmps) = true) (hw2 : Region.wanted o2 (yielded ops a.tmps) = true)
    (h1 : ∀ K' : Act → World → Prop, Shut (∀ a' w', Fr S w w' → wpT P S ops Q ms ord calls (k + 1) l a' w' → K' a' w') → Oper.wp P o a w K' Q)
    (h2 : ∀ K' : Act → World → Prop, Shut (∀ a' w', Fr S w w' → wpT P S ops Q ms ord2 calls2 (k + 1) l2 a' w' → K' a' w') → Oper.wp P o2 a w K' Q) : wpT P S ops Q ms ord calls k (o :: l) a w := by
  intro hok hl
  obtain ⟨hk1, ho, hl', ht⟩ := step_parts hok hl
  obtain ⟨hk2, ho2, hl2', ht2'⟩ := step_parts hok2 hl2
  obtain ⟨_, hlen, _, _⟩ := regionOk_parts hok
  rw [hi] at ho ht
  rw [hj] at ho2 ht2'
  obtain ⟨n, hn⟩ : ∃ n, ops.size - k = n + 1 := ⟨ops.size - k - 1, by omega⟩
  rw [hn]
  refine ⟨fun h0 => absurd (hrd ▸ h0) (by simp), fun q hq => ?_⟩
  rw [hrd] at hq
  rcases List.mem_cons.1 hq with rfl | hq
  · refine wpOp_step ho fun K' hK => ?_
    rw [if_pos hw1]
    refine h1 K' fun a' w' hE hT => hK a' w' ?_
    rw [if_neg (by rw [hmi]; exact Bool.false_ne_true)]
    have h3 := hT hok hl'
    rw [listedBy_succ, ← ht, show n = ops.size - (k + 1) by omega]
    exact ⟨hE, wpAnyM_weak (fun w'' h'' => hE.trans h'' (fun _ _ hs => hs)) _ _ _ _ h3⟩
  · obtain rfl := List.mem_singleton.1 hq
    refine wpOp_step ho2 fun K' hK => ?_
    rw [if_pos hw2]
    refine h2 K' fun a' w' hE hT => hK a' w' ?_
    rw [if_neg (by rw [hmj]; exact Bool.false_ne_true)]
    have h3 := hT hok2 hl2'
    rw [listedBy_succ, ← ht2, ← ht2', show n = ops.size - (k + 1) by omega]
    exact ⟨hE, wpAnyM_weak (fun w'' h'' => hE.trans h'' (fun _ _ hs => hs)) _ _ _ _ h3⟩
theorem T_done (h : Q .normal a w) : wpT P S ops Q ms ord calls k [] a w := by
  intro hok hl
  obtain ⟨_, hlen, h3, h4⟩ := regionOk_parts hok
  have hk : ord.length ≤ k := by
    rcases Nat.lt_or_ge k ord.length with h1 | h1
    · exfalso
      have hg : ord.getD k 0 = ord[k] := by rw [List.getD_eq_getElem?_getD, List.getElem?_eq_getElem h1]; rfl
      have hlt := (h4 k h1).1
      rw [List.drop_eq_getElem_cons h1] at hl
      have hlt' : ord[k] < ops.toList.length := by rw [← hg]; simpa using hlt
      have ho := List.getElem?_eq_getElem hlt'
      unfold pickOps at hl
      rw [List.filterMap_cons, ho] at hl
      cases hl
    · exact h1
  rw [List.take_of_length_le hk]
  exact E_done h3 h
end
end Go.Proofs.YtannkgglgmbkdaaDoor
