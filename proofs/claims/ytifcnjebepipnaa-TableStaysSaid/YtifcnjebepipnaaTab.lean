/- Tables in memory: versions of objects by their oops. table.New, Last, asked, behind, At. No condition but size. -/
import Derived.Test.YtifcnjebepipnaaMap
import Derived.Test.YtifcnjebepipnaaCh
import Derived.Test.YtifcnjebepipnaaRight
namespace Go.Proofs.Ytifcnjebepipnaa
set_option linter.unusedVariables false
set_option linter.unusedSimpArgs false
open Go.RowKit

/-- A table: a version is a change whose oop is the commit. n: how often something was stored. -/
structure TabM where
  first : Int
  last : Int
  vs : Int → List ChM
  wh : Int → Option Int
  n : Nat
def tab0 : TabM := ⟨0, 0, fun _ => [], fun _ => none, 0⟩
/-- What a table keeps to: versions rise. -/
def TabOk (t : TabM) : Prop := ∀ x, (t.vs x).Pairwise (fun a b => a.oop < b.oop) ∧ (∀ v ∈ t.vs x, v.oop ≤ t.last) ∧ (t.vs x).length ≤ t.n ∧ ∀ v ∈ t.vs x, v.obj.slots.length ≤ 256 ∧ v.obj.bytes.length ≤ 1024
abbrev tVer : TypeId := 66
abbrev tVers : TypeId := 63
theorem so_ver : SliceOf Try.prog tVers tVer (.agg #[.int .i64 0, .bool false, .int .i64 0, .slice none 0 0, .slice none 0 0]) 5 72 := ⟨Try.underlying63, by kernel_rfl, rfl, by decide, by decide, by decide⟩
theorem ag_ver : AggOf Try.prog tVer 5 := ⟨⟨_, Try.underlying66, rfl⟩, by kernel_rfl⟩
theorem plain_lver : ∀ w, (isAgg tVers).run Try.prog w = .ok false w := plain_of Try.underlying63 rfl
theorem plain_mver : ∀ w, (isAgg 56).run Try.prog w = .ok false w := plain_of Try.underlying56 rfl
theorem plain_mi64 : ∀ w, (isAgg 57).run Try.prog w = .ok false w := plain_of Try.underlying57 rfl
/-- One oop's entry: nothing, or a row of the table's own. -/
def RowAt (w : World) (T O : Nat → Prop) (o : Option Value) (l : List ChM) : Prop :=
  (o = none ∧ l = []) ∨ ∃ v xs, o = some v ∧ l ≠ [] ∧ w.ownsRow 0 tVer 5 v l.length xs ∧ ChsC w O xs l ∧ ∀ b, v.ownBlock = some b → T b
structure TabP (w : World) (T O : Nat → Prop) (p mb wb : Nat) (f g : Int → Option Value) (t : TabM) : Prop where
  blk : Blk w p 59 #[.int .i64 t.first, .int .i64 t.last, .map (some mb), .map (some wb)]
  vers : MapV w mb t.n f
  when : MapV w wb t.n g
  row : ∀ x, W64 x → RowAt w (fun b => T b ∧ b ≠ p ∧ b ≠ mb ∧ b ≠ wb) O (f x) (t.vs x)
  at_ : ∀ x, W64 x → g x = (t.wh x).map (.int .i64)
  apart : ∀ x y v u b, W64 x → W64 y → x ≠ y → f x = some v → f y = some u → v.ownBlock = some b → ¬ u.ownBlock = some b
  inT : T p ∧ T mb ∧ T wb ∧ p ≠ mb ∧ p ≠ wb ∧ mb ≠ wb
  off : ∀ b, T b → b < w.heap.size ∧ ¬ O b
  offO : ∀ b, O b → b < w.heap.size
  small : ∀ x, (t.vs x).length ≤ t.n
/-- A table at p: T its own blocks, O those that its objects lie in. -/
def TabAt (w : World) (T O : Nat → Prop) (p : Nat) (t : TabM) : Prop := ∃ mb wb f g, TabP w T O p mb wb f g t
theorem RowAt.fr {w w' : World} {S T O : Nat → Prop} {o : Option Value} {l : List ChM} (h : RowAt w T O o l) (hf : Fr S w w') (h1 : ∀ b, T b → ¬ S b) (h2 : ∀ b, O b → ¬ S b) : RowAt w' T O o l := by
  rcases h with h | ⟨v, xs, e, hl, hown, hc, hb⟩
  · exact .inl h
  · exact .inr ⟨v, xs, e, hl, own_fr hown hf (fun b hb' => h1 b (hb b hb')), hc.keep hf h2, hb⟩
theorem TabP.fr {w w' : World} {S T O : Nat → Prop} {p mb wb : Nat} {f g : Int → Option Value} {t : TabM} (h : TabP w T O p mb wb f g t) (hf : Fr S w w') (h1 : ∀ b, T b → ¬ S b) (h2 : ∀ b, O b → ¬ S b) : TabP w' T O p mb wb f g t where
  blk := h.blk.fr hf (h1 _ h.inT.1)
  vers := h.vers.fr hf (h1 _ h.inT.2.1)
  when := h.when.fr hf (h1 _ h.inT.2.2.1)
  row := fun x hx => (h.row x hx).fr hf (fun b hb => h1 b hb.1) h2
  at_ := h.at_
  apart := h.apart
  inT := h.inT
  off := fun b hb => ⟨Nat.lt_of_lt_of_le (h.off b hb).1 hf.size, (h.off b hb).2⟩
  offO := fun b hb => Nat.lt_of_lt_of_le (h.offO b hb) hf.size
  small := h.small
theorem TabAt.fr {w w' : World} {S T O : Nat → Prop} {p : Nat} {t : TabM} (h : TabAt w T O p t) (hf : Fr S w w') (h1 : ∀ b, T b → ¬ S b) (h2 : ∀ b, O b → ¬ S b) : TabAt w' T O p t := by
  obtain ⟨mb, wb, f, g, hP⟩ := h
  exact ⟨mb, wb, f, g, hP.fr hf h1 h2⟩
theorem TabAt.fr0 {w w' : World} {T O : Nat → Prop} {p : Nat} {t : TabM} (h : TabAt w T O p t) (hf : Fr No w w') : TabAt w' T O p t := h.fr hf (fun _ _ hn => hn) (fun _ _ hn => hn)
theorem TabAt.lt {w : World} {T O : Nat → Prop} {p : Nat} {t : TabM} (h : TabAt w T O p t) : (∀ b, T b → b < w.heap.size) ∧ (∀ b, O b → b < w.heap.size) ∧ T p := by
  obtain ⟨mb, wb, f, g, hP⟩ := h
  exact ⟨fun b hb => (hP.off b hb).1, hP.offO, hP.inT.1⟩

theorem tnew_calls (w : World) :
    Calls Try.prog 7 #[] w fun e w' => ∃ p, e = .returned (.pointer (some ⟨p, 0, none⟩)) ∧ TabAt w' (fun b => w.heap.size ≤ b ∧ b < w'.heap.size) No p tab0 ∧ Fr No w w' := by
  have hmm := @run_makeMap Try.prog
  have hf1 : Fr No w ((w.alloc (.map #[] 0)).alloc (.map #[] 0)) := ((Fr.refl No w).alloc _).alloc _
  have hm1 : MapV ((w.alloc (.map #[] 0)).alloc (.map #[] 0)) w.heap.size 0 (fun _ => none) := (MapV.made w).alloc _
  have hm2 : MapV ((w.alloc (.map #[] 0)).alloc (.map #[] 0)) (w.heap.size + 1) 0 (fun _ => none) := by have := MapV.made (w.alloc (.map #[] 0)); simpa using this
  go_enter Try.func7, Try.ntmps7
  go_wp2
  go_ret
  refine ⟨_, rfl, ⟨w.heap.size, w.heap.size + 1, fun _ => none, fun _ => none, ?_⟩, hf1.alloc _⟩
  exact { blk := Blk.newAt (by simp)
          vers := hm1.alloc _
          when := hm2.alloc _
          row := fun x _ => .inl ⟨rfl, rfl⟩
          at_ := fun x _ => rfl
          apart := fun x y v u b _ _ _ h => by cases h
          inT := by simp; omega
          off := fun b hb => ⟨hb.2, fun hn => hn⟩
          offO := fun b hb => hb.elim
          small := fun x => Nat.le_refl _ }
theorem tlast_calls (w : World) (p : Nat) (first last : Int) (m1 m2 : Value) (h : Blk w p 59 #[.int .i64 first, .int .i64 last, m1, m2]) :
    Calls Try.prog 10 #[.pointer (some ⟨p, 0, none⟩)] w fun e w' => e = .returned (.int .i64 last) ∧ w' = w := by
  (have p0 := h.cell 0; have p1 := h.cell 1; have p2 := h.cell 2; have p3 := h.cell 3; have pf0 := h.frozen 0; have pf1 := h.frozen 1; have pf2 := h.frozen 2; have pf3 := h.frozen 3; simp only [List.getElem?_toArray, List.getElem?_cons_zero, List.getElem?_cons_succ] at p0 p1 p2 p3)
  go_enter Try.func10, Try.ntmps10
  go_wp2
  go_ret
  exact ⟨rfl, rfl⟩
theorem asked_calls (w : World) (p : Nat) (first last c : Int) (m1 m2 : Value) (h : Blk w p 59 #[.int .i64 first, .int .i64 last, m1, m2]) :
    Calls Try.prog 27 #[.pointer (some ⟨p, 0, none⟩), .int .i64 c] w fun e w' => e = .returned (.bool (decide (first ≤ c) && decide (c ≤ last))) ∧ w' = w := by
  (have p0 := h.cell 0; have p1 := h.cell 1; have p2 := h.cell 2; have p3 := h.cell 3; have pf0 := h.frozen 0; have pf1 := h.frozen 1; have pf2 := h.frozen 2; have pf3 := h.frozen 3; simp only [List.getElem?_toArray, List.getElem?_cons_zero, List.getElem?_cons_succ] at p0 p1 p2 p3)
  by_cases h1 : first ≤ c
  · have e1 : decide (first ≤ c) = true := by simpa using h1
    have H : Hid ((decide (first ≤ c) && decide (c ≤ last)) = decide (c ≤ last)) := Lib.hid (by rw [e1, Bool.true_and])
    clear h1
    go_enter Try.func27, Try.ntmps27
    go_wp2
    go_ret
    exact ⟨ret_bool H.out.symm, rfl⟩
  · have e1 : decide (first ≤ c) = false := by simpa using h1
    have H : Hid ((decide (first ≤ c) && decide (c ≤ last)) = false) := Lib.hid (by rw [e1, Bool.false_and])
    clear h1
    go_enter Try.func27, Try.ntmps27
    go_wp2
    go_ret
    exact ⟨ret_bool H.out.symm, rfl⟩
end Go.Proofs.Ytifcnjebepipnaa
