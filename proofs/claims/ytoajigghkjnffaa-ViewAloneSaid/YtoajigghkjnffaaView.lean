/- Views in memory; New, Read, Base, wrong. No condition but size. -/
import Derived.Test.YtoajigghkjnffaaTabAt2
import Derived.Test.YtoajigghkjnffaaMapReg
import Derived.Test.YtoajigghkjnffaaVwRight
namespace Go.Proofs.Ytoajigghkjnffaa
set_option linter.unusedVariables false
set_option linter.unusedSimpArgs false
open Go.RowKit

structure ViewM where
  base : Int
  own : Int → Option ObjM
  read : Int → Bool
  made : Int
  n : Nat
/-- What a view keeps to. -/
def ViewOk (v : ViewM) : Prop := 0 ≤ v.made ∧ v.made ≤ 4096 ∧ ∀ x o, v.own x = some o → o.slots.length ≤ 256 ∧ o.bytes.length ≤ 1024
theorem plain_mobj : ∀ w, (isAgg 79).run Try.prog w = .ok false w := plain_of Try.underlying79 rfl
theorem plain_mbool : ∀ w, (isAgg 80).run Try.prog w = .ok false w := plain_of Try.underlying80 rfl
theorem plain_ptab : ∀ w, (isAgg 33).run Try.prog w = .ok false w := plain_of Try.underlying33 rfl
theorem zero_obj (w : World) : (zeroValue 27).run Try.prog w = .ok (.agg #[.int .i64 0, .slice none 0 0, .slice none 0 0]) w := by kernel_rfl
structure ViewP (w : World) (V O : Nat → Prop) (q p ob rb : Nat) (f g : Int → Option Value) (v : ViewM) : Prop where
  blk : Blk w q 82 #[.pointer (some ⟨p, 0, none⟩), .int .i64 v.base, .map (some ob), .map (some rb), .int .i64 v.made]
  own : MapV w ob v.n f
  rd : MapV w rb v.n g
  objs : ∀ x, W64 x → (f x = none ∧ v.own x = none) ∨ ∃ cs o, f x = some (.agg (List.toArray cs)) ∧ v.own x = some o ∧ ObjC w O cs o
  reads : ∀ x, W64 x → g x = if v.read x = true then some (.bool true) else none
  inV : V q ∧ V ob ∧ V rb ∧ q ≠ ob ∧ q ≠ rb ∧ ob ≠ rb
  off : ∀ b, V b → b < w.heap.size ∧ ¬ O b
  offO : ∀ b, O b → b < w.heap.size
def ViewAt (w : World) (V O : Nat → Prop) (q p : Nat) (v : ViewM) : Prop := ∃ ob rb f g, ViewP w V O q p ob rb f g v
theorem ViewP.fr {w w' : World} {S V O : Nat → Prop} {q p ob rb : Nat} {f g : Int → Option Value} {v : ViewM} (h : ViewP w V O q p ob rb f g v) (hf : Fr S w w') (h1 : ∀ b, V b → ¬ S b) (h2 : ∀ b, O b → ¬ S b) : ViewP w' V O q p ob rb f g v where
  blk := h.blk.fr hf (h1 _ h.inV.1)
  own := h.own.fr hf (h1 _ h.inV.2.1)
  rd := h.rd.fr hf (h1 _ h.inV.2.2.1)
  objs := fun x hx => by
    rcases h.objs x hx with h3 | ⟨cs, o, e1, e2, e3⟩
    · exact .inl h3
    · exact .inr ⟨cs, o, e1, e2, e3.keep hf h2⟩
  reads := h.reads
  inV := h.inV
  off := fun b hb => ⟨Nat.lt_of_lt_of_le (h.off b hb).1 hf.size, (h.off b hb).2⟩
  offO := fun b hb => Nat.lt_of_lt_of_le (h.offO b hb) hf.size
theorem ViewAt.fr {w w' : World} {S V O : Nat → Prop} {q p : Nat} {v : ViewM} (h : ViewAt w V O q p v) (hf : Fr S w w') (h1 : ∀ b, V b → ¬ S b) (h2 : ∀ b, O b → ¬ S b) : ViewAt w' V O q p v := by
  obtain ⟨ob, rb, f, g, hP⟩ := h
  exact ⟨ob, rb, f, g, hP.fr hf h1 h2⟩
theorem ViewAt.fr0 {w w' : World} {V O : Nat → Prop} {q p : Nat} {v : ViewM} (h : ViewAt w V O q p v) (hf : Fr No w w') : ViewAt w' V O q p v := h.fr hf (fun _ _ hn => hn) (fun _ _ hn => hn)
theorem ViewAt.lt {w : World} {V O : Nat → Prop} {q p : Nat} {v : ViewM} (h : ViewAt w V O q p v) : (∀ b, V b → b < w.heap.size) ∧ (∀ b, O b → b < w.heap.size) ∧ V q := by
  obtain ⟨ob, rb, f, g, hP⟩ := h
  exact ⟨fun b hb => (hP.off b hb).1, hP.offO, hP.inV.1⟩
def view0 (base : Int) : ViewM := ⟨base, fun _ => none, fun _ => false, 0, 0⟩
theorem view0_ok (base : Int) : ViewOk (view0 base) := ⟨Int.le_refl _, by show (0 : Int) ≤ 4096; decide, fun x o h => by cases h⟩

theorem vnew_calls (w : World) (p : Nat) (first last : Int) (m1 m2 : Value) (h : Blk w p 92 #[.int .i64 first, .int .i64 last, m1, m2]) :
    Calls Try.prog 16 #[.pointer (some ⟨p, 0, none⟩)] w fun e w' => ∃ q, e = .returned (.pointer (some ⟨q, 0, none⟩)) ∧ ViewAt w' (fun b => w.heap.size ≤ b ∧ b < w'.heap.size) No q p (view0 last) ∧ Fr No w w' := by
  have hmm := @run_makeMap Try.prog
  have hf1 : Fr No w ((w.alloc (.map #[] 0)).alloc (.map #[] 0)) := ((Fr.refl No w).alloc _).alloc _
  have hm1 : MapV ((w.alloc (.map #[] 0)).alloc (.map #[] 0)) w.heap.size 0 (fun _ => none) := (MapV.made w).alloc _
  have hm2 : MapV ((w.alloc (.map #[] 0)).alloc (.map #[] 0)) (w.heap.size + 1) 0 (fun _ => none) := by have := MapV.made (w.alloc (.map #[] 0)); simpa using this
  go_enter Try.func16, Try.ntmps16
  go_wp2_with fail
  refine (tlast_calls _ p first last m1 m2 h).mono ?_
  rintro e w2 ⟨rfl, hw2⟩
  have hw2 := hw2.symm
  subst hw2
  go_wp2
  go_ret
  refine ⟨_, rfl, ⟨w.heap.size, w.heap.size + 1, fun _ => none, fun _ => none, ?_⟩, hf1.alloc _⟩
  exact { blk := Blk.newAt (by simp)
          own := hm1.alloc _
          rd := hm2.alloc _
          objs := fun x _ => .inl ⟨rfl, rfl⟩
          reads := fun x _ => by simp [view0]
          inV := by simp; omega
          off := fun b hb => ⟨hb.2, fun hn => hn⟩
          offO := fun b hb => hb.elim }
theorem base_calls (w : World) (q p : Nat) (base made : Int) (m1 m2 : Value) (h : Blk w q 82 #[.pointer (some ⟨p, 0, none⟩), .int .i64 base, m1, m2, .int .i64 made]) :
    Calls Try.prog 32 #[.pointer (some ⟨q, 0, none⟩)] w fun e w' => e = .returned (.int .i64 base) ∧ w' = w := by
  (have p0 := h.cell 0; have p1 := h.cell 1; have p2 := h.cell 2; have p3 := h.cell 3; have p4 := h.cell 4; have pf0 := h.frozen 0; have pf1 := h.frozen 1; have pf2 := h.frozen 2; have pf3 := h.frozen 3; have pf4 := h.frozen 4; simp only [List.getElem?_toArray, List.getElem?_cons_zero, List.getElem?_cons_succ] at p0 p1 p2 p3 p4)
  go_enter Try.func32, Try.ntmps32
  go_wp2
  go_ret
  exact ⟨rfl, rfl⟩
end Go.Proofs.Ytoajigghkjnffaa
