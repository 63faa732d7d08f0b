/- A region that leaves its order open, whose calls stand in one order, and whose other operations yield the same in whatever comes behind: walked once. No condition. -/
import Derived.Test.YtonpnplcbcagfaaLap
import Derived.OrdersHeld
import Derived.Deep.RegionHeld
import Derived.Deep.QuietTactic
import Derived.BigQuiet
namespace Go.Proofs.Ytonpnplcbcagfaa
set_option linter.unusedVariables false
set_option linter.unusedSimpArgs false
open Go.RowKit

/-- Whatever order is picked from here on; the worlds that come are the one at hand but for blocks of S, and new ones. -/
abbrev wpE (P : Program) (S : Nat → Prop) (ops : Array Oper) (Q : Exit → Act → World → Prop) (fuel : Nat) (listed : Array Bool) (a : Act) (w : World) : Prop :=
  wpAnyH P .any ops Q (fun w' => Fr S w w') fuel listed a w
section
variable {P : Program} {S : Nat → Prop} {ops : Array Oper} {Q : Exit → Act → World → Prop} {fuel : Nat} {listed : Array Bool} {a : Act} {w : World}

theorem wpAnyH_weak {S1 S2 : World → Prop} (hS : ∀ w, S1 w → S2 w) : ∀ (fuel : Nat) (listed : Array Bool) (a : Act) (w : World), wpAnyH P .any ops Q S1 fuel listed a w → wpAnyH P .any ops Q S2 fuel listed a w
  | 0, _, _, _, h => h
  | fuel + 1, _, _, _, h => ⟨h.1, fun i hi => wpOp_mono (fun a' w' h' => ⟨hS _ h'.1, wpAnyH_weak hS fuel _ a' w' h'.2⟩) (h.2 i hi)⟩

theorem E_begin {id : Nat} (S : Nat → Prop) (hm : P.follows .mixedOrders = true) (h : wpE P S ops Q ops.size (Array.replicate ops.size false) a w.drew) : (Code.region id ops true).wp P Q a w :=
  wp_region_held hm h

theorem E_take {i : Nat} {oi : Oper} {v : Value} (hi : ops[i]? = some oi) (hs : Region.noSelect ops = true) (hf : Region.free .any ops listed i = true) (hr : (Region.ready .any ops listed).contains i = true)
    (hQ : ∀ c a w, Q (.panic c) (a.put oi.dst v) w → Q (.panic c) a w)
    (hy : (Region.wanted oi (yielded ops a.tmps) = true ∧ ∀ w', Fr S w w' → (execOp a.eval oi).run P w' = .ok (.value v) w') ∨ (Region.wanted oi (yielded ops a.tmps) = false ∧ v = undef))
    (h : wpE P S ops Q fuel (listed.setIfInBounds i true) (a.put oi.dst v) w) : wpE P S ops Q (fuel + 1) listed a w :=
  wpAnyH_take hi hs hf hr hQ hy (Fr.refl S w) h

theorem E_op {i : Nat} {o : Oper} (hr : Region.ready .any ops listed = [i]) (ho : ops[i]? = some o)
    (h : ∀ K' : Act → World → Prop, Shut (∀ a' w', Fr S w w' → wpE P S ops Q fuel (listed.setIfInBounds i true) a' w' → K' a' w') → if Region.wanted o (yielded ops a.tmps) = true then Oper.wp P o a w K' Q else K' (a.put o.dst undef) w) :
    wpE P S ops Q (fuel + 1) listed a w :=
  wpAnyH_all hr (by simp) fun j hj => by
    obtain rfl : j = i := by simpa using hj
    exact wpOp_step ho fun K' hK => h K' fun a' w' hE hW => hK a' w' ⟨hE, wpAnyH_weak (fun w'' h'' => hE.trans h'' (fun _ _ hs => hs)) _ _ _ _ hW⟩

theorem E_done (hr : Region.ready .any ops listed = []) (h : Q .normal a w) : wpE P S ops Q fuel listed a w := wpAnyH_done hr h fuel
end

/-! ### The same in the order of the text -/
/-- At place i: a call stands alone; what is none waits for nobody that may still come. -/
def regionOk (ops : Array Oper) (calls : List Nat) : Bool :=
  Region.noSelect ops && (List.range ops.size).all fun i =>
    let listed := (Array.range ops.size).map (fun j => decide (j < i))
    if calls.contains i then Region.ready .any ops listed == [i] else Region.free .any ops listed i && (Region.ready .any ops listed).contains i
def listedTo (n i : Nat) : Array Bool := (Array.range n).map (fun j => decide (j < i))
theorem listedTo_zero (n : Nat) : listedTo n 0 = Array.replicate n false := by
  apply Array.ext
  · simp [listedTo]
  · intro i h1 h2; simp [listedTo]
theorem listedTo_succ (n i : Nat) : (listedTo n i).setIfInBounds i true = listedTo n (i + 1) := by
  apply Array.ext
  · simp [listedTo]
  · intro j h1 h2
    have hj : j < (listedTo n i).size := by simpa [listedTo] using h2
    rw [Array.getElem_setIfInBounds (by simpa using hj)]
    by_cases h : i = j
    · subst h; simp [listedTo]
    · rw [if_neg h]
      have : (j < i + 1) ↔ j < i := by omega
      simp [listedTo, this]
/-- The rest of a region, in the order of the text; the calls stand at 'calls'. -/
def wpT (P : Program) (S : Nat → Prop) (ops : Array Oper) (Q : Exit → Act → World → Prop) (calls : List Nat) (i : Nat) (l : List Oper) (a : Act) (w : World) : Prop :=
  regionOk ops calls = true → ops.toList.drop i = l → wpE P S ops Q (ops.size - i) (listedTo ops.size i) a w
section
variable {P : Program} {S : Nat → Prop} {ops : Array Oper} {Q : Exit → Act → World → Prop} {calls : List Nat} {i : Nat} {l : List Oper} {o : Oper} {a : Act} {w : World}
theorem regionOk_at (h : regionOk ops calls = true) (hi : i < ops.size) : Region.noSelect ops = true ∧ (if calls.contains i then Region.ready .any ops (listedTo ops.size i) == [i] else Region.free .any ops (listedTo ops.size i) i && (Region.ready .any ops (listedTo ops.size i)).contains i) = true := by
  simp only [regionOk, Bool.and_eq_true, List.all_eq_true, List.mem_range] at h
  exact ⟨h.1, h.2 i hi⟩
theorem drop_parts (h : ops.toList.drop i = o :: l) : i < ops.size ∧ ops[i]? = some o ∧ ops.toList.drop (i + 1) = l := by
  have hi : i < ops.toList.length := by
    rcases Nat.lt_or_ge i ops.toList.length with h1 | h1
    · exact h1
    · rw [List.drop_eq_nil_of_le h1] at h; cases h
  rw [List.drop_eq_getElem_cons hi] at h
  injection h with h1 h2
  refine ⟨by simpa using hi, ?_, h2⟩
  rw [← Array.getElem?_toList, List.getElem?_eq_getElem hi, h1]
theorem T_begin {id : Nat} {l : List Oper} (S : Nat → Prop) (calls : List Nat) (hm : P.follows .mixedOrders = true) (hok : regionOk l.toArray calls = true) (h : wpT P S l.toArray Q calls 0 l a w.drew) : (Code.region id l.toArray true).wp P Q a w := by
  refine E_begin S hm ?_
  have h1 := h hok (by simp)
  rw [listedTo_zero, Nat.sub_zero] at h1
  exact h1
theorem T_take {v : Value} (hc : calls.contains i = false) (hw : Region.wanted o (yielded ops a.tmps) = true) (hQ : ∀ c a w, Q (.panic c) (a.put o.dst v) w → Q (.panic c) a w)
    (hy : ∀ w', Fr S w w' → (execOp a.eval o).run P w' = .ok (.value v) w') (h : wpT P S ops Q calls (i + 1) l (a.put o.dst v) w) : wpT P S ops Q calls i (o :: l) a w := by
  intro hok hl
  obtain ⟨hi, ho, hl'⟩ := drop_parts hl
  obtain ⟨h1, h2⟩ := regionOk_at hok hi
  rw [hc] at h2
  simp only [Bool.false_eq_true, if_false, Bool.and_eq_true] at h2
  obtain ⟨n, hn⟩ : ∃ n, ops.size - i = n + 1 := ⟨ops.size - i - 1, by omega⟩
  rw [hn]
  refine E_take ho h1 h2.1 h2.2 hQ (.inl ⟨hw, hy⟩) ?_
  have h3 := h hok hl'
  rw [listedTo_succ, show n = ops.size - (i + 1) by omega]
  exact h3
/-- An operation that hands a value on, or ends the run. -/
def plainOp (o : Oper) : Bool :=
  match o.op with
  | .move _ | .assign _ | .pick .. | .binOp .. | .unOp .. | .convert .. | .makeInterface .. | .fieldAddr .. | .field .. | .indexAddr .. | .index .. | .slice .. | .extract .. | .load .. | .lookup .. | .typeAssert .. | .build .. => true
  | .call { callee := .builtin b, .. } => (match b with | .len | .cap | .min | .max => true | _ => false)
  | _ => false
theorem plain_value {P : Program} (ρ : Operand → Value) (o : Oper) (h : plainOp o = true) (w w' : World) (x : Next) (hr : (execOp ρ o).run P w = .ok x w') : ∃ u, x = .value u := by
  have key : ∀ (s : Sem Value), ((do pure (Next.value (← s)) : Sem Next)).run P w = .ok x w' → ∃ u, x = .value u := by
    intro s hs
    rw [Sem.run_bind] at hs
    cases hs2 : s.run P w with
    | ok u w1 => rw [hs2] at hs; simp only [Result.andThen_ok, Sem.run_pure, Result.ok.injEq] at hs; exact ⟨u, hs.1.symm⟩
    | halt y w1 => rw [hs2] at hs; simp [Result.andThen] at hs
  have key0 : ∀ u : Value, ((pure (Next.value u) : Sem Next)).run P w = .ok x w' → ∃ u, x = .value u := by
    intro u hs
    simp only [Sem.run_pure, Result.ok.injEq] at hs
    exact ⟨u, hs.1.symm⟩
  cases o with
  | mk dst op type pos after guard =>
    have keyp : ∀ (c u v : Value), (do pure (Next.value (if ← asBool c then u else v)) : Sem Next).run P w = .ok x w' → ∃ u, x = .value u := by
      intro c u v hs
      rw [Sem.run_bind] at hs
      cases hs2 : (asBool c).run P w with
      | ok b w1 => rw [hs2] at hs; simp only [Result.andThen_ok, Sem.run_pure, Result.ok.injEq] at hs; exact ⟨_, hs.1.symm⟩
      | halt y w1 => rw [hs2] at hs; simp [Result.andThen] at hs
    cases op <;> simp only [plainOp, Bool.false_eq_true] at h <;> first
      | exact key0 _ hr
      | exact key _ hr
      | exact keyp _ _ _ hr
      | skip
    rename_i c
    obtain ⟨callee, args, ats⟩ := c
    cases callee with
    | value f => simp at h
    | invoke r n => simp at h
    | builtin b =>
      cases b <;> simp only [Bool.false_eq_true] at h <;> exact key _ hr
theorem T_quiet (hc : calls.contains i = false) (hp : plainOp o = true) (hw : Region.wanted o (yielded ops a.tmps) = true) (hQ : ∀ v c a w, Q (.panic c) (a.put o.dst v) w → Q (.panic c) a w)
    (h : ∀ K : Act → Prop, (∀ a, wpT P S ops Q calls (i + 1) l a w → K a) → o.quiet P a (fun w' => Fr S w w') K) : wpT P S ops Q calls i (o :: l) a w := by
  obtain ⟨v, hv, hK⟩ := h (fun a => wpT P S ops Q calls (i + 1) l a w) (fun _ h => h)
  refine T_take hc hw (hQ v) (fun w' hf => ?_) hK
  have h1 := hv w' hf
  unfold Oper.quietAt at h1
  cases hr : (execOp a.eval o).run P w' with
  | halt x w'' => rw [hr] at h1; exact h1.elim
  | ok x w'' =>
    obtain ⟨u, rfl⟩ := plain_value a.eval o hp _ _ _ hr
    rw [hr] at h1
    simp only [Oper.quietUpon] at h1
    obtain ⟨rfl, rfl⟩ := h1
    rfl
/-- A compare, or a pick: so that no other operation takes this road. -/
def twoOp (o : Oper) : Bool := match o.op with | .binOp .. | .pick .. | .unOp .. => true | _ => false
theorem T_two (_ : twoOp o = true) (hc : calls.contains i = false) (hp : plainOp o = true) (hw : Region.wanted o (yielded ops a.tmps) = true) (hQ : ∀ v c a w, Q (.panic c) (a.put o.dst v) w → Q (.panic c) a w)
    (h : ∀ K : Act → Prop, (∀ a, wpT P S ops Q calls (i + 1) l a w → K a) → o.quiet P a (fun w' => Fr S w w') K) : wpT P S ops Q calls i (o :: l) a w := T_quiet hc hp hw hQ h
theorem T_str {src dst e : TypeId} (hs : P.underlying src = some (.slice e)) (he : P.underlying e = some (.int .u8)) (hd : P.underlying dst = some .string)
    {T : Nat → Prop} {A : Option Addr} {l' : List UInt8} (h : RdB w T A l') (hT : ∀ b, T b → ¬ S b) (hc : calls.contains i = false) (hw : Region.wanted o (yielded ops a.tmps) = true) (hQ : ∀ v c a w, Q (.panic c) (a.put o.dst v) w → Q (.panic c) a w)
    {x : Operand} (ho : o.op = .convert src dst x) {c n : Nat} (hn : n = l'.length) (hx : a.eval x = .slice A n c)
    (hk : wpT P S ops Q calls (i + 1) l (a.put o.dst (.string ⟨l'.toArray⟩)) w) : wpT P S ops Q calls i (o :: l) a w := by
  subst hn
  refine T_take hc hw (hQ _) (fun w' hf => ?_) hk
  unfold execOp
  simp only [ho, hx, Sem.run_bind, Sem.run_pure, Result.andThen_ok, run_str w' hs he hd c (Rd.fr h hf hT)]
theorem T_skip (hc : calls.contains i = false) (hw : Region.wanted o (yielded ops a.tmps) = false) (hQ : ∀ c a w, Q (.panic c) (a.put o.dst undef) w → Q (.panic c) a w)
    (h : wpT P S ops Q calls (i + 1) l (a.put o.dst undef) w) : wpT P S ops Q calls i (o :: l) a w := by
  intro hok hl
  obtain ⟨hi, ho, hl'⟩ := drop_parts hl
  obtain ⟨h1, h2⟩ := regionOk_at hok hi
  rw [hc] at h2
  simp only [Bool.false_eq_true, if_false, Bool.and_eq_true] at h2
  obtain ⟨n, hn⟩ : ∃ n, ops.size - i = n + 1 := ⟨ops.size - i - 1, by omega⟩
  rw [hn]
  refine E_take ho h1 h2.1 h2.2 hQ (.inr ⟨hw, rfl⟩) ?_
  have h3 := h hok hl'
  rw [listedTo_succ, show n = ops.size - (i + 1) by omega]
  exact h3
theorem T_call (hc : calls.contains i = true) (hw : Region.wanted o (yielded ops a.tmps) = true)
    (h : ∀ K' : Act → World → Prop, Shut (∀ a' w', Fr S w w' → wpT P S ops Q calls (i + 1) l a' w' → K' a' w') → Oper.wp P o a w K' Q) : wpT P S ops Q calls i (o :: l) a w := by
  intro hok hl
  obtain ⟨hi, ho, hl'⟩ := drop_parts hl
  obtain ⟨h1, h2⟩ := regionOk_at hok hi
  rw [hc] at h2
  simp only [if_true, beq_iff_eq] at h2
  obtain ⟨n, hn⟩ : ∃ n, ops.size - i = n + 1 := ⟨ops.size - i - 1, by omega⟩
  rw [hn]
  refine E_op h2 ho fun K' hK => ?_
  rw [if_pos hw]
  refine h K' fun a' w' hf hT => hK a' w' hf ?_
  have h3 := hT hok hl'
  rw [listedTo_succ, show n = ops.size - (i + 1) by omega]
  exact h3
theorem T_pass (hc : calls.contains i = true) (hw : Region.wanted o (yielded ops a.tmps) = false) (h : wpT P S ops Q calls (i + 1) l (a.put o.dst undef) w) : wpT P S ops Q calls i (o :: l) a w := by
  intro hok hl
  obtain ⟨hi, ho, hl'⟩ := drop_parts hl
  obtain ⟨h1, h2⟩ := regionOk_at hok hi
  rw [hc] at h2
  simp only [if_true, beq_iff_eq] at h2
  obtain ⟨n, hn⟩ : ∃ n, ops.size - i = n + 1 := ⟨ops.size - i - 1, by omega⟩
  rw [hn]
  refine E_op h2 ho fun K' hK => ?_
  rw [if_neg (by rw [hw]; exact Bool.false_ne_true)]
  refine hK.out _ _ (Fr.refl S w) ?_
  have h3 := h hok hl'
  rw [listedTo_succ, show n = ops.size - (i + 1) by omega]
  exact h3
theorem T_done (h : Q .normal a w) : wpT P S ops Q calls i [] a w := by
  intro hok hl
  have hi : ops.size ≤ i := by
    rcases Nat.lt_or_ge i ops.toList.length with h1 | h1
    · rw [List.drop_eq_getElem_cons h1] at hl; cases hl
    · simpa using h1
  refine E_done ?_ h
  simp only [Region.ready, List.filter_eq_nil_iff, List.mem_range]
  intro j hj
  have : (listedTo ops.size i).getD j true = true := by
    have hj2 : j < (listedTo ops.size i).size := by simpa [listedTo] using hj
    simp [listedTo, hj]
    omega
  simp [this]
end
end Go.Proofs.Ytonpnplcbcagfaa
