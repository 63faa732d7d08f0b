/- How acts (chapter 12) come in. No condition. -/
import Derived.Test.YtoajigghkjnffaaROpenV
import Derived.Test.YtoajigghkjnffaaAct12
namespace Go.Proofs.Ytoajigghkjnffaa
set_option linter.unusedVariables false
set_option linter.unusedSimpArgs false
open Go.ChangeShapes Go.WideShapes Go.ChangeAt Go.RowKit

def ActR (w : World) (cs : List Value) (a : ActM) : Prop := ActC w (fun b => b < w.heap.size) cs a ∧ ActOk a
set_option maxRecDepth 100000 in
theorem opens_act : Opens Try.prog 52 ActR (fun _ => 1) := by
  intro H enc w sp held fuel cs x h hw
  have hu := Try.underlying52
  obtain ⟨xs, n, _, rfl, hl, hxl, hf⟩ := DataW.trod_struct hu h
  have hc7 : Try.prog.cellsOf 52 = 7 := by kernel_rfl
  have hi1 : Try.prog.cellsOf 3 = 1 := by kernel_rfl
  have hi2 : Try.prog.cellsOf 2 = 1 := by kernel_rfl
  have hi3 : Try.prog.cellsOf 27 = 3 := by kernel_rfl
  have hi4 : Try.prog.cellsOf 50 = 2 := by kernel_rfl
  rw [hc7] at hl
  have f0 := hf 0 _ rfl
  have f1 := hf 1 _ rfl
  have f2 := hf 2 _ rfl
  have f3 := hf 3 _ rfl
  match cs, hl with
  | [c0, c1, c2, c3, c4, c5, c6], _ =>
  match xs, hxl with
  | [x0, x1, x2, x3], _ =>
  simp only [hi1, hi2, hi3, hi4, List.drop_zero, List.drop_succ_cons, List.take_succ_cons, List.take_zero, List.getElem?_cons_zero, List.getElem?_cons_succ] at f0 f1 f2 f3
  have hw2 : ∀ m, m ∈ DataW.weights Try.prog 27 x2.1 → m ≤ reachBytes := by
    intro m hm
    refine hw m ?_
    rw [DataW.weights, hu]
    simp only [DataW.weightsEach, List.map_cons, List.map_nil, List.mem_append]
    exact .inr (.inr (.inl hm))
  have hw3 : ∀ m, m ∈ DataW.weights Try.prog 50 x3.1 → m ≤ reachBytes := by
    intro m hm
    refine hw m ?_
    rw [DataW.weights, hu]
    simp only [DataW.weightsEach, List.map_cons, List.map_nil, List.mem_append]
    exact .inr (.inr (.inr (.inl hm)))
  obtain ⟨a0, e0, _, w0⟩ := DataW.trod_int Try.underlying3 f0
  obtain ⟨a1, e1, _, w1⟩ := DataW.trod_int Try.underlying2 f1
  obtain ⟨o, ⟨ho, hob, _, _⟩, _⟩ := opens_obj H enc w sp held n [c2, c3, c4] x2 f2 hw2
  obtain ⟨r, ⟨hr, hrok, _, _⟩, _⟩ := opens_rec H enc w sp held n [c5, c6] x3 f3 hw3
  obtain ⟨A, na, D, m, e2, r1, r2⟩ := ho
  obtain ⟨E, ne, e3, r3⟩ := hr
  injection e0 with e0 _
  injection e1 with e1 _
  injection e2 with e20 e2
  injection e2 with e21 e2
  injection e2 with e22 _
  injection e3 with e30 e3
  injection e3 with e31 _
  subst e0 e1 e20 e21 e22 e30 e31
  exact ⟨⟨a0, a1, o, r⟩, ⟨⟨A, na, D, m, E, ne, rfl, r1, r2, r3⟩, w1, hob, hrok, wf_i64 w0⟩, bulk_pos _⟩
theorem acts_of_all2 {w : World} : ∀ {css : List (List Value)} {ts : List ActM}, All2 (ActR w) css ts → ActsC w (fun b => b < w.heap.size) css.flatten ts ∧ ∀ a ∈ ts, ActOk a
  | [], [], _ => ⟨rfl, fun d hd => by cases hd⟩
  | c :: css, t :: ts, h => by
    obtain ⟨h1, h2⟩ := acts_of_all2 h.2
    refine ⟨⟨c, css.flatten, rfl, h.1.1, h1⟩, fun d hd => ?_⟩
    rcases List.mem_cons.1 hd with rfl | hd
    · exact h.1.2
    · exact h2 d hd
set_option maxRecDepth 100000 in
theorem opens_acts : Opens Try.prog 47 (fun w cs (ts : List ActM) => (∃ A c, cs = [.slice A ts.length c] ∧ RdAct w (fun b => b < w.heap.size) A ts ∧ ts.length ≤ c ∧ c ≤ maxLen) ∧ ∀ a ∈ ts, ActOk a) (fun ts => (ts.map (fun _ => 1)).sum + 1) := by
  intro H enc w sp held fuel cs x h hw
  obtain ⟨ys, ⟨⟨A, c, css, rfl, hrd, hall, hc, hm⟩, h8⟩, hb⟩ := opens_list Try.underlying47 (size := 7) (bytes := 104) (by kernel_rfl) (by kernel_rfl) (by decide) (by decide) opens_act (fun w cs y hy => hy.1.len) H enc w sp held fuel cs x h hw
  obtain ⟨k1, k2⟩ := acts_of_all2 hall
  exact ⟨ys, ⟨⟨A, c, rfl, ⟨css.flatten, hrd, k1⟩, hc, hm⟩, k2⟩, hb⟩
section
variable {H : Type} {enc : TypeId × Value → H} {W : World} {held : Bool}
theorem open_acts {ts : List TypeId} {ds : List (DataW H)} (hsz : (DataW.weightsEach Try.prog ts ds).all (· ≤ reachBytes) = true) {j : Nat} {v : Value} {d : DataW H} {p : List MemPlace}
    (ht : ts[j]? = some 47) (hd : ds[j]? = some d) (h : DataW.Trod enc Try.prog W 0 (fun _ => true) held 47 v d p) (hv : ∃ A n c, v = .slice A n c) :
    ∃ (A : Option Addr) (c : Nat) (l : List ActM), v = .slice A l.length c ∧ RdAct W (fun b => b < W.heap.size) A l ∧ (∀ a ∈ l, ActOk a) := by
  obtain ⟨A, n, c, rfl⟩ := hv
  obtain ⟨fuel, hf⟩ := h
  obtain ⟨l, ⟨⟨A', c', e, h1, h2, h3⟩, h4⟩, h6⟩ := opens_acts H enc W (fun _ => true) held fuel _ _ hf (weights_of hsz ht hd)
  simp [Value.cells] at e
  obtain ⟨rfl, rfl, rfl⟩ := e
  exact ⟨_, _, l, rfl, h1, h4⟩
end
end Go.Proofs.Ytoajigghkjnffaa
