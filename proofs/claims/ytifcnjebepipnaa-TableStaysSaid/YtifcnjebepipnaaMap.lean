/- Maps with int64 keys and elements of any kind: a map reads as a function from keys to the element's value itself. No condition. -/
import Derived.Test.YtifcnjebepipnaaProg
import Derived.Test.YtifcnjebepipnaaLap
import Derived.Maps.Own
import Derived.Maps.OwnOps
import Derived.Maps.OwnSet
import Derived.Maps.Views
import Derived.Maps.Ext
import Derived.Carry
namespace Go.Proofs.Ytifcnjebepipnaa
set_option linter.unusedVariables false
set_option linter.unusedSimpArgs false
open Go.RowKit Go.Maps

theorem keyed64 : Keyed Try.prog 2 := int_keyed Try.underlying2
theorem isKey64 (x : Int) : WideAt.IsKeyLit (.int .i64 x) := by
  unfold WideAt.IsKeyLit; trivial
/-- An element reads as itself. -/
def hR (v : Value) : Option (DataW Value × List MemPlace) := some (.held v, [])
abbrev W64 (x : Int) : Prop := (Lit.int .i64 x).wf = true
/-- Block b is a map of at most n entries; f: what it holds. -/
def MapV (w : World) (b n : Nat) (f : Int → Option Value) : Prop :=
  ∃ D : DataW Value, w.ownsMap Try.prog 2 hR b n D ∧ ∀ x, W64 x → has D (.int .i64 x) = (f x).isSome ∧ ∀ v, f x = some v → ∀ z, D.atKey (.int .i64 x) z = .held v
theorem MapV.made (w : World) : MapV (w.alloc (.map #[] 0)) w.heap.size 0 (fun _ => none) :=
  ⟨.map [], World.ownsMap_made _ _ _ _, fun x _ => ⟨rfl, fun v h => by cases h⟩⟩
theorem held_inj {a b : Value} (h : DataW.held (H := Value) a = .held b) : a = b := by injection h
theorem run_eq {a b : Value} (w : World) (h : a = b) : Result.ok a w = .ok b w := by rw [h]
theorem run_eq2 {a b : Value} (c : Bool) (w : World) (h : a = b) : Result.ok (Value.tuple #[a, .bool c]) w = .ok (.tuple #[b, .bool c]) w := by rw [h]
theorem MapV.look {w : World} {b n : Nat} {f : Int → Option Value} (h : MapV w b n f) {t e : TypeId} (ht : Try.prog.underlying t = some (.map 2 e)) {z : Value} (hz : (zeroValue e).run Try.prog w = .ok z w) {x : Int} (hx : W64 x) :
    (Instr.lookup t (.map (some b)) (.int .i64 x) false).run Try.prog w = .ok ((f x).getD z) w := by
  obtain ⟨D, ho, hf⟩ := h
  obtain ⟨v, ps, hrun, hv⟩ := World.ownsMap.lookup ho keyed64 ht hz (zd := .held z) (zp := []) rfl (keyOf_int_mk Try.underlying2 hx)
  rw [hrun]
  obtain ⟨h1, h2⟩ := hf x hx
  unfold hR at hv
  simp only [Option.some.injEq, Prod.mk.injEq] at hv
  cases hfx : f x with
  | none =>
    rw [hfx] at h1
    rw [atKey_of_not_has h1] at hv
    exact run_eq _ (held_inj hv.1)
  | some u =>
    rw [h2 u hfx] at hv
    exact run_eq _ (held_inj hv.1)
theorem MapV.look_ok {w : World} {b n : Nat} {f : Int → Option Value} (h : MapV w b n f) {t e : TypeId} (ht : Try.prog.underlying t = some (.map 2 e)) {z : Value} (hz : (zeroValue e).run Try.prog w = .ok z w) {x : Int} (hx : W64 x) :
    (Instr.lookup t (.map (some b)) (.int .i64 x) true).run Try.prog w = .ok (.tuple #[(f x).getD z, .bool (f x).isSome]) w := by
  obtain ⟨D, ho, hf⟩ := h
  obtain ⟨v, ps, hrun, hv⟩ := World.ownsMap.look_ok ho keyed64 ht hz (zd := .held z) (zp := []) rfl (keyOf_int_mk Try.underlying2 hx)
  rw [hrun]
  obtain ⟨h1, h2⟩ := hf x hx
  rw [h1]
  unfold hR at hv
  simp only [Option.some.injEq, Prod.mk.injEq] at hv
  cases hfx : f x with
  | none =>
    rw [hfx] at h1
    rw [atKey_of_not_has h1] at hv
    exact run_eq2 _ _ (held_inj hv.1)
  | some u =>
    rw [h2 u hfx] at hv
    exact run_eq2 _ _ (held_inj hv.1)
def fput (f : Int → Option Value) (x : Int) (v : Value) : Int → Option Value := fun y => if y = x then some v else f y
theorem fput_same (f : Int → Option Value) (x : Int) (v : Value) : fput f x v x = some v := by unfold fput; rw [if_pos rfl]
theorem fput_other (f : Int → Option Value) {x y : Int} (v : Value) (h : y ≠ x) : fput f x v y = f y := by unfold fput; rw [if_neg h]
theorem MapV.put_data {w' : World} {b n : Nat} {f : Int → Option Value} {D : DataW Value} {x : Int} {v : Value} (hm : IsMap D) (hf : ∀ x, W64 x → has D (.int .i64 x) = (f x).isSome ∧ ∀ v, f x = some v → ∀ z, D.atKey (.int .i64 x) z = .held v)
    (ho : w'.ownsMap Try.prog 2 hR b n (D.put (.int .i64 x) (.held v))) : MapV w' b n (fput f x v) := by
  refine ⟨_, ho, fun y hy => ?_⟩
  by_cases hyx : y = x
  · subst hyx
    rw [fput_same]
    exact ⟨has_put_same hm (isKey64 _) _, fun u hu z => by
      injection hu with e
      subst e
      exact atKey_put_same hm (isKey64 _) _ _⟩
  · rw [fput_other _ _ hyx]
    have hne : (Lit.int .i64 y) ≠ .int .i64 x := fun e => hyx (by injection e)
    refine ⟨by rw [has_put_other hne]; exact (hf y hy).1, fun u hu z => ?_⟩
    rw [atKey_put_other hne]
    exact (hf y hy).2 u hu z
theorem wpList_putM {w : World} {ops : Array Oper} {rest : List Oper} {o : Oper} {a : Act} {Q : Exit → Act → World → Prop}
    (hg : o.guard = none) (m k v : Operand) (t e : TypeId) (hop : o.op = Op.mapUpdate t m k v) (ht : Try.prog.underlying t = some (.map 2 e)) (b n : Nat) (f : Int → Option Value)
    (hm : a.eval m = .map (some b)) (h : MapV w b n f) (hn : n < maxLen) (x : Int) (u : Value) (hk : a.eval k = .int .i64 x) (hx : W64 x) (hv : a.eval v = u)
    (hK : ∀ w', MapV w' b (n + 1) (fput f x u) → w.grownBy w' (some b) → wpList Try.prog ops Q rest (a.put o.dst undef) w') :
    wpList Try.prog ops Q (o :: rest) a w := by
  obtain ⟨D, ho, hf⟩ := h
  have hmD : IsMap D := World.ownsMap.isMap ho
  refine wpList_mapUpdate_own _ hg m k v t hop 2 e keyed64 ht hR b n D hm ho hn _ _ _ hk hv (keyOf_int_mk Try.underlying2 hx) (.held u) [] rfl ?_
  intro w' h1 h2
  exact hK w' (MapV.put_data hmD hf h1) h2
theorem MapV.run_put {w : World} {b n : Nat} {f : Int → Option Value} (h : MapV w b n f) {t e : TypeId} (ht : Try.prog.underlying t = some (.map 2 e)) (hn : n < maxLen) {x : Int} (hx : W64 x) (u : Value) :
    ∃ w', (Instr.mapUpdate t (.map (some b)) (.int .i64 x) u).run Try.prog w = .ok () w' ∧ MapV w' b (n + 1) (fput f x u) ∧ w.grownBy w' (some b) := by
  obtain ⟨D, ho, hf⟩ := h
  have hmD : IsMap D := World.ownsMap.isMap ho
  obtain ⟨w', h1, h2, h3⟩ := World.ownsMap.update ho keyed64 ht hn (keyOf_int_mk Try.underlying2 hx) (val := u) (d := .held u) (ps := []) rfl
  exact ⟨w', h1, MapV.put_data hmD hf h2, h3⟩
theorem MapV.lt {w : World} {b n : Nat} {f : Int → Option Value} (h : MapV w b n f) : b < w.heap.size := by
  obtain ⟨D, ho, _⟩ := h; exact World.ownsMap.lt ho
theorem MapV.fr {S : Nat → Prop} {w w' : World} {b n : Nat} {f : Int → Option Value} (h : MapV w b n f) (hf : Fr S w w') (hs : ¬ S b) : MapV w' b n f := by
  obtain ⟨D, ⟨es, cl, hb, rest⟩, hD⟩ := h
  exact ⟨D, ⟨es, cl, (hf.block b (Array.getElem?_eq_some_iff.1 hb).1 hs).trans hb, rest⟩, hD⟩
theorem MapV.fr0 {w w' : World} {b n : Nat} {f : Int → Option Value} (h : MapV w b n f) (hf : Fr No w w') : MapV w' b n f := h.fr hf (fun hn => hn)
theorem MapV.grown {w w' : World} {b n : Nat} {f : Int → Option Value} {row : Option Nat} (h : MapV w b n f) (hg : w.grownBy w' row) (hne : some b ≠ row) : MapV w' b n f := by
  obtain ⟨D, ho, hD⟩ := h
  exact ⟨D, World.ownsMap.kept ho hg hne, hD⟩
theorem MapV.alloc {w : World} {b n : Nat} {f : Int → Option Value} (h : MapV w b n f) (o : Obj) : MapV (w.alloc o) b n f := h.fr0 ((Fr.refl No w).alloc o)
end Go.Proofs.Ytifcnjebepipnaa
