/- How changes and records come in. No condition. -/
import Derived.Test.YtifcnjebepipnaaOOpen
import Derived.Test.YtifcnjebepipnaaTGiven
import Derived.Test.YtifcnjebepipnaaRecs
namespace Go.Proofs.Ytifcnjebepipnaa
set_option linter.unusedVariables false
set_option linter.unusedSimpArgs false
open Go.ChangeShapes Go.WideShapes Go.ChangeAt Go.RowKit

/-- What a change's cells read as. -/
def ChR (w : World) (cs : List Value) (c : ChM) : Prop :=
  ChC w (fun b => b < w.heap.size) cs c ∧ c.obj.slots.length * 16 ≤ 140737488351232 ∧ c.obj.bytes.length ≤ 140737488351232
set_option maxRecDepth 100000 in
theorem opens_ch : Opens Try.prog 67 ChR (fun c => c.obj.slots.length + c.obj.bytes.length + 4) := by
  intro H enc w sp held fuel cs x h hw
  have hu := Try.underlying67
  obtain ⟨xs, n, _, rfl, hl, hxl, hf⟩ := DataW.trod_struct hu h
  have hc5 : Try.prog.cellsOf 67 = 5 := by kernel_rfl
  have hi1 : Try.prog.cellsOf 2 = 1 := by kernel_rfl
  have hi2 : Try.prog.cellsOf 4 = 1 := by kernel_rfl
  have hi3 : Try.prog.cellsOf 38 = 3 := by kernel_rfl
  rw [hc5] at hl
  have f0 := hf 0 _ rfl
  have f1 := hf 1 _ rfl
  have f2 := hf 2 _ rfl
  match cs, hl with
  | [c0, c1, c2, c3, c4], _ =>
  match xs, hxl with
  | [x0, x1, x2], _ =>
  simp only [hi1, hi2, hi3, List.drop_zero, List.drop_succ_cons, List.take_succ_cons, List.take_zero, List.getElem?_cons_zero, List.getElem?_cons_succ] at f0 f1 f2
  have hw' : ∀ m, m ∈ DataW.weights Try.prog 38 x2.1 → m ≤ reachBytes := by
    intro m hm
    refine hw m ?_
    rw [DataW.weights, hu]
    simp only [DataW.weightsEach, List.map_cons, List.map_nil, List.mem_append]
    exact .inr (.inr (.inl hm))
  obtain ⟨a0, e0, _, w0⟩ := DataW.trod_int Try.underlying2 f0
  obtain ⟨b1, e1, _⟩ := DataW.trod_bool Try.underlying4 f1
  obtain ⟨o, ⟨ho, hob, _, _⟩, hb⟩ := opens_obj H enc w sp held n [c2, c3, c4] x2 f2 hw'
  obtain ⟨A, na, D, m, e2, r1, r2⟩ := ho
  injection e0 with e0 _
  injection e1 with e1 _
  injection e2 with e20 e2
  injection e2 with e21 e2
  injection e2 with e22 _
  subst e0 e1 e20 e21 e22
  refine ⟨⟨a0, b1, o⟩, ⟨⟨A, na, D, m, rfl, r1, r2⟩, hob.1, hob.2⟩, ?_⟩
  have := bulk_pos x0.1
  have := bulk_pos x1.1
  simp only at hb
  simp only [List.map_cons, List.map_nil, Rows.uptoBulk, Rows.uptoBulkAll]
  omega
def bulkC (l : List ChM) : Nat := (l.map (fun c => c.obj.slots.length + c.obj.bytes.length + 4)).sum
theorem chs_of_all2 {w : World} : ∀ {css : List (List Value)} {ts : List ChM}, All2 (ChR w) css ts → ChsC w (fun b => b < w.heap.size) css.flatten ts ∧ ∀ c ∈ ts, c.obj.slots.length * 16 ≤ 140737488351232 ∧ c.obj.bytes.length ≤ 140737488351232
  | [], [], _ => ⟨rfl, fun d hd => by cases hd⟩
  | c :: css, t :: ts, h => by
    obtain ⟨h1, h2⟩ := chs_of_all2 h.2
    refine ⟨⟨c, css.flatten, rfl, h.1.1, h1⟩, fun d hd => ?_⟩
    rcases List.mem_cons.1 hd with rfl | hd
    · exact h.1.2
    · exact h2 d hd
set_option maxRecDepth 100000 in
theorem opens_chs : Opens Try.prog 31 (fun w cs (ts : List ChM) => (∃ A c, cs = [.slice A ts.length c] ∧ RdCh w (fun b => b < w.heap.size) A ts ∧ ts.length ≤ c ∧ c ≤ maxLen) ∧ (∀ c ∈ ts, c.obj.slots.length * 16 ≤ 140737488351232 ∧ c.obj.bytes.length ≤ 140737488351232) ∧ ts.length * 72 ≤ reachBytes) (fun ts => bulkC ts + 1) := by
  intro H enc w sp held fuel cs x h hw
  obtain ⟨ys, ⟨⟨A, c, css, rfl, hrd, hall, hc, hm⟩, h8⟩, hb⟩ := opens_list Try.underlying31 (size := 5) (bytes := 72) (by kernel_rfl) (by kernel_rfl) (by decide) (by decide) opens_ch (fun w cs y hy => hy.1.len) H enc w sp held fuel cs x h hw
  obtain ⟨k1, k2⟩ := chs_of_all2 hall
  exact ⟨ys, ⟨⟨A, c, rfl, ⟨css.flatten, hrd, k1⟩, hc, hm⟩, k2, h8⟩, hb⟩
/-- What a record's cells read as. -/
def RecR (w : World) (cs : List Value) (r : RecM) : Prop := RecC w (fun b => b < w.heap.size) cs r ∧ RecOk r ∧ -9223372036854775808 ≤ r.commit ∧ r.commit ≤ 9223372036854775807
set_option maxRecDepth 100000 in
theorem opens_rec : Opens Try.prog 33 RecR (fun r => bulkC r.chs + 2) := by
  intro H enc w sp held fuel cs x h hw
  have hu := Try.underlying33
  obtain ⟨xs, n, _, rfl, hl, hxl, hf⟩ := DataW.trod_struct hu h
  have hc2 : Try.prog.cellsOf 33 = 2 := by kernel_rfl
  have hi1 : Try.prog.cellsOf 2 = 1 := by kernel_rfl
  have hi2 : Try.prog.cellsOf 31 = 1 := by kernel_rfl
  rw [hc2] at hl
  have f0 := hf 0 _ rfl
  have f1 := hf 1 _ rfl
  match cs, hl with
  | [c0, c1], _ =>
  match xs, hxl with
  | [x0, x1], _ =>
  simp only [hi1, hi2, List.drop_zero, List.drop_succ_cons, List.take_succ_cons, List.take_zero, List.getElem?_cons_zero, List.getElem?_cons_succ] at f0 f1
  have hw' : ∀ m, m ∈ DataW.weights Try.prog 31 x1.1 → m ≤ reachBytes := by
    intro m hm
    refine hw m ?_
    rw [DataW.weights, hu]
    simp only [DataW.weightsEach, List.map_cons, List.map_nil, List.mem_append]
    exact .inr (.inl hm)
  obtain ⟨a0, e0, _, w0⟩ := DataW.trod_int Try.underlying2 f0
  obtain ⟨ts, ⟨⟨A, c, e1, hrd, _, _⟩, hts, h72⟩, hb⟩ := opens_chs H enc w sp held n [c1] x1 f1 hw'
  injection e0 with e0 _
  injection e1 with e1 _
  subst e0 e1
  refine ⟨⟨a0, ts⟩, ⟨⟨A, c, rfl, hrd⟩, ⟨by simpa [reachBytes] using h72, hts⟩, wf_i64 w0⟩, ?_⟩
  have := bulk_pos x0.1
  simp only at hb
  simp only [List.map_cons, List.map_nil, Rows.uptoBulk, Rows.uptoBulkAll]
  omega
section
variable {H : Type} {enc : TypeId × Value → H} {W : World} {held : Bool}
theorem open_rec {ts : List TypeId} {ds : List (DataW H)} (hsz : (DataW.weightsEach Try.prog ts ds).all (· ≤ reachBytes) = true) {j : Nat} {v : Value} {d : DataW H} {p : List MemPlace}
    (ht : ts[j]? = some 33) (hd : ds[j]? = some d) (h : DataW.Trod enc Try.prog W 0 (fun _ => true) held 33 v d p) :
    ∃ (cs : List Value) (r : RecM), v = .agg cs.toArray ∧ RecR W cs r ∧ bulkC r.chs + 2 ≤ Rows.uptoBulk d := by
  obtain ⟨fuel, hf⟩ := h
  obtain ⟨r, h1, h3⟩ := opens_rec H enc W (fun _ => true) held fuel _ _ hf (weights_of hsz ht hd)
  have hl : v.cells.toList.length = 2 := by obtain ⟨⟨A, c, e, _⟩, _⟩ := h1; rw [e]; rfl
  cases v with
  | agg cs => exact ⟨cs.toList, r, rfl, h1, h3⟩
  | _ => simp [Value.cells] at hl
end
theorem recs_of_all2 {w : World} : ∀ {css : List (List Value)} {ts : List RecM}, All2 (RecR w) css ts → RecsC w (fun b => b < w.heap.size) css.flatten ts ∧ ∀ r ∈ ts, RecOk r
  | [], [], _ => ⟨rfl, fun d hd => by cases hd⟩
  | c :: css, t :: ts, h => by
    obtain ⟨h1, h2⟩ := recs_of_all2 h.2
    refine ⟨⟨c, css.flatten, rfl, h.1.1, h1⟩, fun d hd => ?_⟩
    rcases List.mem_cons.1 hd with rfl | hd
    · exact h.1.2.1
    · exact h2 d hd
set_option maxRecDepth 100000 in
theorem opens_recs : Opens Try.prog 22 (fun w cs (ts : List RecM) => (∃ A c, cs = [.slice A ts.length c] ∧ RdRec w (fun b => b < w.heap.size) A ts ∧ ts.length ≤ c ∧ c ≤ maxLen) ∧ (∀ r ∈ ts, RecOk r) ∧ ts.length * 32 ≤ reachBytes) (fun ts => (ts.map (fun r => bulkC r.chs + 2)).sum + 1) := by
  intro H enc w sp held fuel cs x h hw
  obtain ⟨ys, ⟨⟨A, c, css, rfl, hrd, hall, hc, hm⟩, h8⟩, hb⟩ := opens_list Try.underlying22 (size := 2) (bytes := 32) (by kernel_rfl) (by kernel_rfl) (by decide) (by decide) opens_rec (fun w cs y hy => hy.1.len) H enc w sp held fuel cs x h hw
  obtain ⟨k1, k2⟩ := recs_of_all2 hall
  exact ⟨ys, ⟨⟨A, c, rfl, ⟨css.flatten, hrd, k1⟩, hc, hm⟩, k2, h8⟩, hb⟩
section
variable {H : Type} {enc : TypeId × Value → H} {W : World} {held : Bool}
theorem open_recs {ts : List TypeId} {ds : List (DataW H)} (hsz : (DataW.weightsEach Try.prog ts ds).all (· ≤ reachBytes) = true) {j : Nat} {v : Value} {d : DataW H} {p : List MemPlace}
    (ht : ts[j]? = some 22) (hd : ds[j]? = some d) (h : DataW.Trod enc Try.prog W 0 (fun _ => true) held 22 v d p) (hv : ∃ A n c, v = .slice A n c) :
    ∃ (A : Option Addr) (c : Nat) (l : List RecM), v = .slice A l.length c ∧ RdRec W (fun b => b < W.heap.size) A l ∧ (∀ r ∈ l, RecOk r) ∧ (l.map (fun r => bulkC r.chs + 2)).sum + 1 ≤ Rows.uptoBulk d := by
  obtain ⟨A, n, c, rfl⟩ := hv
  obtain ⟨fuel, hf⟩ := h
  obtain ⟨l, ⟨⟨A', c', e, h1, h2, h3⟩, h4, h5⟩, h6⟩ := opens_recs H enc W (fun _ => true) held fuel _ _ hf (weights_of hsz ht hd)
  simp [Value.cells] at e
  obtain ⟨rfl, rfl, rfl⟩ := e
  exact ⟨_, _, l, rfl, h1, h4, h6⟩
end
end Go.Proofs.Ytifcnjebepipnaa
