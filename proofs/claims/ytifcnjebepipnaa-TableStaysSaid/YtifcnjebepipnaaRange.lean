/- A range over a map with int64 keys and elements of any kind, with stores at keys that are there, and deletes, in the round. No condition. -/
import Derived.Test.YtifcnjebepipnaaMapReg
import Derived.Maps.RangeWalk
namespace Go.Proofs.Ytifcnjebepipnaa
set_option linter.unusedVariables false
set_option linter.unusedSimpArgs false
open Go.RowKit Go.Maps Go.MapKept Go.WideElems Go.ChangeMaps

theorem modify_set {α : Type} (es : Array α) (j : Nat) (f : α → α) (e : α) (h : es.toList[j]? = some e) : (es.modify j f).toList = es.toList.set j (f e) := by
  rw [Array.toList_modify]
  apply List.ext_getElem?
  intro i
  rw [List.getElem?_modify, List.getElem?_set]
  by_cases hij : j = i
  · subst hij
    have hl : j < es.toList.length := (List.getElem?_eq_some_iff.1 h).1
    have hl2 : j < es.size := by simpa using hl
    have : es[j]? = some e := by simpa using h
    have he : es[j] = e := by rw [Array.getElem?_eq_getElem hl2] at this; exact Option.some.inj this
    simp [hl2, he]
  · simp [hij]
section
variable {H : Type} {P : Program} {k : TypeId} {R : Value → Option (DataW H × List MemPlace)} {w : World} {b r n : Nat} {D : DataW H} {left : Lit → Bool} {cnt : Nat}
/-- 'm[k] = v' in the round, at a key that is there. -/
theorem ranges_store {t e : TypeId} (h : w.ranges P k R b r n D left cnt) (K : Keyed P k) (ht : P.underlying t = some (.map k e)) (hn : n < maxLen) {key val : Value} {kl : Lit} {d : DataW H} {ps : List MemPlace}
    (hkey : keyOf P k key = some kl) (hv : R val = some (d, ps)) (hthere : Maps.has D kl = true) :
    ∃ w', (Instr.mapUpdate t (.map (some b)) key val).run P w = .ok () w' ∧ w'.ranges P k R b r n (D.put kl d) left cnt ∧ w.grownBy w' (some b) := by
  have hne := h.ne
  obtain ⟨es, clock, since, seen, c0, hb, F, hs, rfl, hr, hold, rfl, hl1, hl2, hsc, hsk⟩ := h
  obtain ⟨es', clock', hrun, F', hput, _⟩ := Maps.fit_store (R' := R) K ht hb F (Nat.lt_of_le_of_lt hs hn) (fun _ _ _ _ hz => hz) hkey hv
  rcases K.find w hkey es.toList F.keys with ⟨h1, h2⟩ | ⟨j, e0, h1, h2, h3⟩
  · exfalso
    obtain ⟨p, hp, hpk⟩ := List.any_eq_true.1 hthere
    obtain ⟨x, hx, rfl⟩ := List.mem_map.1 (mem_sorted.1 hp)
    obtain ⟨y, hy⟩ := F.reads x hx
    have e1 := WideAt.sameKey_eq hpk
    rw [rg_of hy] at e1
    exact h2 x hx (K.inj (e1 ▸ rd_key hy) hkey)
  · have hj : es[j]? = some e0 := by simpa using h2
    have hjl : j < es.toList.length := (List.getElem?_eq_some_iff.1 h2).1
    have hrun2 : (Instr.mapUpdate t (.map (some b)) key val).run P w = .ok () (setBlock w b (.map (es.modify j (fun e' => { e' with key := key, val := val })) clock)) := by
      simp [Instr.mapUpdate, run_underlying ht, MapKept.run_getObj_map hb, K.check w false hkey, h1, hj, h3, K.stays w hkey, MapKept.run_setObj_map _ hb, Result.andThen, setBlock]
    rw [hrun] at hrun2
    injection hrun2 with _ hw
    have e1 := heap_setBlock_same hb (.map es' clock')
    rw [hw, heap_setBlock_same hb] at e1
    injection e1 with e1
    injection e1 with e1 e2
    subst e1 e2
    have hlist := modify_set es j (fun e' => ({ e' with key := key, val := val } : MapEntry)) e0 h2
    have hrg0 : (rg P k R e0).1 = kl := by
      obtain ⟨y, hy⟩ := F.reads e0 (List.mem_of_getElem? h2)
      have := rd_key hy
      rw [h3, hkey] at this
      rw [rg_of hy]; exact (Option.some.inj this).symm
    have hrgn : (rg P k R ({ e0 with key := key, val := val } : MapEntry)).1 = kl := by rw [rg_of (rd_mk hkey hv)]
    have who : ∀ x ∈ (es.modify j (fun e' => ({ e' with key := key, val := val } : MapEntry))).toList, x = { e0 with key := key, val := val } ∨ x ∈ es.toList := by
      intro x hx
      rw [hlist] at hx
      rcases List.mem_or_eq_of_mem_set hx with h | h
      · exact .inr h
      · exact .inl h
    refine ⟨_, hrun, ⟨_, _, since, seen, c0, heap_setBlock_same hb _, F', ?_, ?_, (heap_setBlock_other hb _ hne).trans hr, ?_, ?_, ?_, ?_, hsc, hsk⟩, ⟨rfl, rfl, rfl, by simp [setBlock], fun i _ hi => heap_setBlock_other hb _ (fun e => hi (by rw [e]))⟩⟩
    · simpa using hs
    · rw [DataW.put_eq, hput]
    · intro x hx
      rcases who x hx with rfl | hx
      · exact hold e0 (List.mem_of_getElem? h2)
      · exact hold x hx
    · have e3 : ∀ a : Array MapEntry, (leftOf a seen).size = ((a.toList.map MapEntry.born).filter fun i => !seen.contains i).length := fun a => by
        unfold leftOf
        rw [List.filter_map, List.length_map, ← Array.length_toList, Array.toList_filter]
        rfl
      rw [e3, e3, hlist, List.map_set]
      have e4 : (es.toList.map MapEntry.born).set j e0.born = es.toList.map MapEntry.born := by
        apply List.ext_getElem?
        intro i
        rw [List.getElem?_set]
        split
        · rename_i hij
          subst hij
          split
          · simp [hj]
          · rename_i hh; simp at hh; simp at hjl; omega
        · rfl
      show (((es.toList.map MapEntry.born).set j e0.born).filter _).length = _
      rw [e4]
    · intro x hx
      rcases who x hx with rfl | hx
      · have := hl1 e0 (List.mem_of_getElem? h2)
        rw [hrgn]; rw [hrg0] at this; exact this
      · exact hl1 x hx
    · intro kl' hkl'
      obtain ⟨x, hx, rfl⟩ := hl2 kl' hkl'
      obtain ⟨i, hi, ex⟩ := List.getElem_of_mem hx
      by_cases hij : j = i
      · subst hij
        have : x = e0 := by
          rw [List.getElem?_eq_getElem hi, ex] at h2
          exact Option.some.inj h2
        subst this
        exact ⟨_, by rw [hlist]; exact List.mem_set hjl _, by rw [hrgn, hrg0]⟩
      · refine ⟨x, ?_, rfl⟩
        rw [hlist]
        exact List.mem_of_getElem? (i := i) (by rw [List.getElem?_set_ne hij, List.getElem?_eq_getElem hi, ex])
end
/-- A range under way over block b; left: the keys that are still to come, cnt: how many. -/
def RangeV (w : World) (b r n : Nat) (f : Int → Option Value) (left : Int → Bool) (cnt : Nat) : Prop :=
  ∃ (D : DataW Value) (lf : Lit → Bool), w.ranges Try.prog 2 hR b r n D lf cnt ∧ (∀ x, W64 x → has D (.int .i64 x) = (f x).isSome ∧ ∀ v, f x = some v → ∀ z, D.atKey (.int .i64 x) z = .held v) ∧ ∀ x, W64 x → lf (.int .i64 x) = left x
theorem RangeV.map {w : World} {b r n : Nat} {f : Int → Option Value} {left : Int → Bool} {cnt : Nat} (h : RangeV w b r n f left cnt) : MapV w b n f := by
  obtain ⟨D, lf, h1, h2, _⟩ := h
  exact ⟨D, h1.owns, h2⟩
theorem RangeV.lt {w : World} {b r n : Nat} {f : Int → Option Value} {left : Int → Bool} {cnt : Nat} (h : RangeV w b r n f left cnt) : r < w.heap.size ∧ b < w.heap.size ∧ r ≠ b := by
  have hm := h.map.lt
  obtain ⟨D, lf, h1, _⟩ := h
  exact ⟨h1.lt, hm, h1.ne⟩
theorem RangeV.fr {S : Nat → Prop} {w w' : World} {b r n : Nat} {f : Int → Option Value} {left : Int → Bool} {cnt : Nat} (h : RangeV w b r n f left cnt) (hf : Fr S w w') (h1 : ¬ S b) (h2 : ¬ S r) : RangeV w' b r n f left cnt := by
  have hl := h.lt
  obtain ⟨D, lf, ⟨es, clock, since, seen, c0, hb, F, hs, hD, hr, rest⟩, h3⟩ := h
  exact ⟨D, lf, ⟨es, clock, since, seen, c0, (hf.block b hl.2.1 h1).trans hb, F, hs, hD, (hf.block r hl.1 h2).trans hr, rest⟩, h3⟩
theorem RangeV.fr0 {w w' : World} {b r n : Nat} {f : Int → Option Value} {left : Int → Bool} {cnt : Nat} (h : RangeV w b r n f left cnt) (hf : Fr No w w') : RangeV w' b r n f left cnt := h.fr hf (fun hn => hn) (fun hn => hn)
theorem RangeV.left_eq {w : World} {b r n : Nat} {f : Int → Option Value} {left : Int → Bool} {cnt : Nat} (h : RangeV w b r n f left cnt) : w.rangeLeft b r = cnt := by
  obtain ⟨D, lf, h1, _⟩ := h
  exact h1.left_eq
theorem int_same {x y : Int} : (Lit.int .i64 y).sameKey (.int .i64 x) = decide (y = x) := by
  unfold Lit.sameKey
  by_cases h : y = x
  · subst h; simp
  · simp [h]
theorem wpList_rangeV {w : World} {ops : Array Oper} {rest : List Oper} {o : Oper} {a : Act} {Q : Exit → Act → World → Prop} (hg : o.guard = none) (m : Operand) (t e : TypeId) (hop : o.op = Op.range t m) (ht : Try.prog.underlying t = some (.map 2 e)) (b n : Nat) (f : Int → Option Value)
    (hm : a.eval m = .map (some b)) (h : MapV w b n f)
    (hK : ∀ w' cnt, RangeV w' b w.heap.size n f (fun x => (f x).isSome) cnt → Fr No w w' → wpList Try.prog ops Q rest (a.put o.dst (.pointer (some ⟨w.heap.size, 0, none⟩))) w') :
    wpList Try.prog ops Q (o :: rest) a w := by
  obtain ⟨D, ho, hf⟩ := h
  refine wpList_range_own w hg m t hop 2 e keyed64 ht hR b n D hm ho ?_
  intro w' h1 h2 h3
  exact hK w' _ ⟨D, _, h1, hf, fun x hx => (hf x hx).1⟩ ((Fr.refl No w).grown h2 (fun q hq => by cases hq))
theorem wpList_nextV {w : World} {ops : Array Oper} {rest : List Oper} {o : Oper} {a : Act} {Q : Exit → Act → World → Prop} (hg : o.guard = none) (it : Operand) (hop : o.op = Op.next it false) (b r n : Nat) (f : Int → Option Value) (left : Int → Bool) (cnt : Nat)
    (hit : a.eval it = .pointer (some ⟨r, 0, none⟩)) (h : RangeV w b r n f left cnt)
    (hDone : (∀ x, W64 x → left x = false) → wpList Try.prog ops Q rest (a.put o.dst (.tuple #[.bool false])) w)
    (hMore : ∀ (x : Int) (v : Value) (w' : World) (cnt' : Nat), W64 x → left x = true → f x = some v → RangeV w' b r n f (fun y => left y && !decide (y = x)) cnt' → cnt' < cnt → Fr (fun q => q = r) w w' → w'.heap.size = w.heap.size →
      (Instr.entry (.pointer (some ⟨r, 0, none⟩))).run Try.prog w' = .ok (.tuple #[.int .i64 x, v]) w' → wpList Try.prog ops Q rest (a.put o.dst (.tuple #[.bool true, .int .i64 x, v])) w') :
    wpList Try.prog ops Q (o :: rest) a w := by
  obtain ⟨D, lf, h1, h2, h3⟩ := h
  refine wpList_next_ranges w hg it hop 2 keyed64 hR (Value.int .i64) id (fun key kl hkey => by obtain ⟨x, rfl, _⟩ := Maps.keyOf_int_inv Try.underlying2 hkey; exact ⟨x, rfl⟩) (fun v y _ => ⟨v, rfl⟩) b r n D lf cnt hit h1 ?_ ?_
  · intro _ hl
    exact hDone (fun x hx => by rw [← h3 x hx]; exact hl _)
  · intro x v kl y w' cnt' hkey hlk hv hat hrg hlt hgr hsz hen
    obtain ⟨x', ex, rfl, hwx⟩ := Maps.keyOf_int_inv Try.underlying2 hkey
    cases ex
    unfold hR at hv
    simp only [id, Option.some.injEq] at hv
    subst hv
    simp only at hat
    have hlx : left x = true := by rw [← h3 x hwx]; exact hlk
    have hhas : has D (.int .i64 x) = true := has_true_of_atKey hat
    obtain ⟨a1, a2⟩ := h2 x hwx
    rw [hhas] at a1
    cases hfx : f x with
    | none => rw [hfx] at a1; cases a1
    | some u =>
      have e1 := a2 u hfx (.held u)
      rw [hat] at e1
      have e2 := held_inj e1
      subst e2
      exact hMore x v w' cnt' hwx hlx hfx ⟨D, _, hrg, h2, fun y hy => by show (_ && _) = (_ && _); rw [← h3 y hy, int_same]⟩ hlt ((Fr.refl _ w).grown hgr (fun q hq => by injection hq with hq; exact .inr hq.symm)) hsz hen
set_option maxRecDepth 100000 in
theorem RangeV.store {w : World} {b r n : Nat} {f : Int → Option Value} {left : Int → Bool} {cnt : Nat} (h : RangeV w b r n f left cnt) {t e : TypeId} (ht : Try.prog.underlying t = some (.map 2 e)) (hn : n < maxLen) {x : Int} (hx : W64 x) {u0 : Value} (hf0 : f x = some u0) (u : Value) :
    ∃ w', (Instr.mapUpdate t (.map (some b)) (.int .i64 x) u).run Try.prog w = .ok () w' ∧ RangeV w' b r n (fput f x u) left cnt ∧ w.grownBy w' (some b) := by
  obtain ⟨D, lf, h1, h2, h3⟩ := h
  obtain ⟨w', r1, r2, r3⟩ := ranges_store h1 keyed64 ht hn (keyOf_int_mk Try.underlying2 hx) (val := u) (d := .held u) (ps := []) rfl (by rw [(h2 x hx).1, hf0]; rfl)
  obtain ⟨D', ho', hf'⟩ := MapV.put_data h1.owns.isMap h2 r2.owns
  have hD : D' = D.put (.int .i64 x) (.held u) := by
    obtain ⟨es1, c1, b1, F1, s1, d1⟩ := ho'
    obtain ⟨es2, c2, b2, F2, s2, d2⟩ := r2.owns
    rw [b1] at b2
    injection b2 with b2
    injection b2 with b2 b3
    subst b2
    rw [d1, d2]
  subst hD
  exact ⟨w', r1, ⟨_, lf, r2, hf', h3⟩, r3⟩
theorem wp_storeV {w : World} {o : Oper} {a : Act} {K : Act → World → Prop} {Q : Exit → Act → World → Prop} {m k v : Operand} {t e : TypeId} (hop : o.op = Op.mapUpdate t m k v) (ht : Try.prog.underlying t = some (.map 2 e)) {b r n : Nat} {f : Int → Option Value} {left : Int → Bool} {cnt : Nat}
    (h : RangeV w b r n f left cnt) (hm : a.eval m = .map (some b)) (hn : n < maxLen) {x : Int} {u0 u : Value} (hk : a.eval k = .int .i64 x) (hx : W64 x) (hf0 : f x = some u0) (hv : a.eval v = u)
    (hK : ∀ w', RangeV w' b r n (fput f x u) left cnt → w.grownBy w' (some b) → K (a.put o.dst undef) w') : o.wp Try.prog a w K Q := by
  obtain ⟨w', hrun, h1, h2⟩ := h.store ht hn hx hf0 u
  unfold Oper.wp execOp
  simp only [hop, hm, hk, hv, Sem.run_bind, hrun, Sem.run_pure, Result.andThen_ok]
  exact hK w' h1 h2
def fdel (f : Int → Option Value) (x : Int) : Int → Option Value := fun y => if y = x then none else f y
theorem wpList_deleteV {w : World} {ops : Array Oper} {rest : List Oper} {o : Oper} {a : Act} {Q : Exit → Act → World → Prop} (hg : o.guard = none) (m k : Operand) (t e : TypeId) (hop : o.op = Op.call { callee := Callee.builtin Builtin.delete, args := #[m, k], argTypes := #[t, 2] }) (ht : Try.prog.underlying t = some (.map 2 e)) (b r n : Nat) (f : Int → Option Value) (left : Int → Bool) (cnt : Nat)
    (hm : a.eval m = .map (some b)) (h : RangeV w b r n f left cnt) {x : Int} (hk : a.eval k = .int .i64 x) (hx : W64 x) (hl : left x = false)
    (hK : ∀ w' cnt', RangeV w' b r n (fdel f x) left cnt' → cnt' ≤ cnt → Fr (fun q => q = b) w w' → wpList Try.prog ops Q rest (a.put o.dst (.tuple #[])) w') :
    wpList Try.prog ops Q (o :: rest) a w := by
  obtain ⟨D, lf, h1, h2, h3⟩ := h
  refine wpList_delete_ranges w hg m k t 2 hop e keyed64 ht hR b r n D lf cnt hm h1 _ _ hk (keyOf_int_mk Try.underlying2 hx) ?_
  intro w' cnt' r1 r2 r3
  refine hK w' cnt' ⟨_, _, r1, fun y hy => ?_, fun y hy => ?_⟩ r2 ((Fr.refl _ w).grown r3.grown (fun q hq => by injection hq with hq; exact .inr hq.symm))
  · by_cases hyx : y = x
    · subst hyx
      unfold fdel; rw [if_pos rfl]
      exact ⟨has_del_same, fun v hv => by cases hv⟩
    · unfold fdel; rw [if_neg hyx]
      have hne : (Lit.int .i64 y) ≠ .int .i64 x := fun e => hyx (by injection e)
      refine ⟨by rw [has_del_other hne]; exact (h2 y hy).1, fun v hv z => ?_⟩
      rw [atKey_del_other hne]
      exact (h2 y hy).2 v hv z
  · rw [int_same, h3 y hy]
    by_cases hyx : y = x
    · subst hyx; simp [hl]
    · simp [hyx]
end Go.Proofs.Ytifcnjebepipnaa
