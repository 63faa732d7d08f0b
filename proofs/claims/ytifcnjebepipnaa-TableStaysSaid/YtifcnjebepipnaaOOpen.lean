/- How values, objects and bytes come in. No condition. -/
import Derived.Test.YtifcnjebepipnaaOpen
import Derived.Test.YtifcnjebepipnaaODef
namespace Go.Proofs.Ytifcnjebepipnaa
set_option linter.unusedVariables false
set_option linter.unusedSimpArgs false
open Go.ChangeShapes Go.WideShapes Go.ChangeAt Go.RowKit

set_option maxRecDepth 100000 in
theorem opens_int {t : TypeId} {k : IntKind} (ht : Try.prog.underlying t = some (.int k)) : Opens Try.prog t (fun _ cs (x : Int) => cs = [.int k x] ∧ (Lit.int k x).wf = true) (fun _ => 1) := by
  intro H enc w sp held fuel cs x h _
  obtain ⟨n, rfl, rfl, hw⟩ := DataW.trod_int ht h
  exact ⟨n, ⟨rfl, hw⟩, bulk_pos _⟩
set_option maxRecDepth 100000 in
theorem opens_bool {t : TypeId} (ht : Try.prog.underlying t = some .bool) : Opens Try.prog t (fun _ cs (x : Bool) => cs = [.bool x]) (fun _ => 1) := by
  intro H enc w sp held fuel cs x h _
  obtain ⟨b, h1, h2⟩ := DataW.trod_bool ht h
  exact ⟨b, h1, bulk_pos _⟩
theorem wf_i64 {x : Int} (h : (Lit.int .i64 x).wf = true) : -9223372036854775808 ≤ x ∧ x ≤ 9223372036854775807 := by simpa [Lit.wf, IntKind.min, IntKind.max, IntKind.signed, IntKind.bits] using h
theorem wf_u8 {x : Int} (h : (Lit.int .u8 x).wf = true) : 0 ≤ x ∧ x ≤ 255 := by simpa [Lit.wf, IntKind.min, IntKind.max, IntKind.signed, IntKind.bits] using h
def VWf (v : VL) : Prop := (-9223372036854775808 ≤ v.k ∧ v.k ≤ 9223372036854775807) ∧ -9223372036854775808 ≤ v.n ∧ v.n ≤ 9223372036854775807
set_option maxRecDepth 100000 in
theorem opens_byte : Opens Try.prog 5 (fun _ cs (x : UInt8) => cs = [.int .u8 (x.toNat : Int)]) (fun _ => 1) := by
  intro H enc w sp held fuel cs x h hw
  obtain ⟨n, ⟨rfl, hn⟩, hb⟩ := opens_int Try.underlying5 H enc w sp held fuel cs x h hw
  have hr := wf_u8 hn
  refine ⟨UInt8.ofNat n.toNat, ?_, hb⟩
  show [Value.int .u8 n] = [Value.int .u8 ((UInt8.ofNat n.toNat).toNat : Int)]
  rw [UInt8.toNat_ofNat']
  congr 2; omega
theorem sum_ones {α : Type} (l : List α) : (l.map (fun _ => 1)).sum = l.length := by induction l with | nil => rfl | cons x l ih => rw [List.map_cons, List.sum_cons, ih, List.length_cons]; omega
set_option maxRecDepth 100000 in
theorem opens_u8s : Opens Try.prog 36 (fun w cs (l : List UInt8) => (∃ A c, cs = [.slice A l.length c] ∧ RdB w (fun b => b < w.heap.size) A l ∧ l.length ≤ c ∧ c ≤ maxLen) ∧ l.length ≤ reachBytes) (fun l => l.length + 1) := by
  intro H enc w sp held fuel cs x h hw
  obtain ⟨ys, ⟨⟨A, c, css, rfl, hrd, hall, hc, hm⟩, h8⟩, hb⟩ := opens_list Try.underlying36 (size := 1) (bytes := 1) (by kernel_rfl) (by kernel_rfl) (by decide) (by decide) opens_byte (fun w cs y hy => by rw [hy]; rfl) H enc w sp held fuel cs x h hw
  have key : ∀ (css : List (List Value)) (ys : List UInt8), All2 (fun cs (x : UInt8) => cs = [Value.int .u8 (x.toNat : Int)]) css ys → css.flatten = U8 ys := by
    intro css
    induction css with
    | nil => intro ys h; cases ys with
      | nil => rfl
      | cons y ys => exact h.elim
    | cons c0 css ih => intro ys h; cases ys with
      | nil => exact h.elim
      | cons y ys => rw [List.flatten_cons, ih ys h.2, h.1]; rfl
  rw [key css ys hall] at hrd
  simp only at hb
  rw [sum_ones] at hb
  exact ⟨ys, ⟨⟨A, c, rfl, hrd, hc, hm⟩, by omega⟩, hb⟩
set_option maxRecDepth 100000 in
theorem opens_val : Opens Try.prog 75 (fun _ cs (v : VL) => cs = vcells v ∧ VWf v) (fun _ => 1) := by
  intro H enc w sp held fuel cs x h hw
  have hu := Try.underlying75
  obtain ⟨xs, n, _, rfl, hl, hxl, hf⟩ := DataW.trod_struct hu h
  have hc2 : Try.prog.cellsOf 75 = 2 := by kernel_rfl
  have hi1 : Try.prog.cellsOf 3 = 1 := by kernel_rfl
  have hi2 : Try.prog.cellsOf 2 = 1 := by kernel_rfl
  rw [hc2] at hl
  have f0 := hf 0 _ rfl
  have f1 := hf 1 _ rfl
  match cs, hl with
  | [c0, c1], _ =>
  match xs, hxl with
  | [x0, x1], _ =>
  simp only [hi1, hi2, List.drop_zero, List.drop_succ_cons, List.take_succ_cons, List.take_zero, List.getElem?_cons_zero, List.getElem?_cons_succ] at f0 f1
  obtain ⟨a0, e0, _, w0⟩ := DataW.trod_int Try.underlying3 f0
  obtain ⟨a1, e1, _, w1⟩ := DataW.trod_int Try.underlying2 f1
  injection e0 with e0 _
  injection e1 with e1 _
  subst e0 e1
  exact ⟨⟨a0, a1⟩, ⟨rfl, wf_i64 w0, wf_i64 w1⟩, bulk_pos _⟩
set_option maxRecDepth 100000 in
theorem opens_vals : Opens Try.prog 35 (fun w cs (l : List VL) => (∃ A c, cs = [.slice A l.length c] ∧ RdV w (fun b => b < w.heap.size) A l ∧ l.length ≤ c ∧ c ≤ maxLen) ∧ (∀ v ∈ l, VWf v) ∧ l.length * 16 ≤ reachBytes) (fun l => l.length + 1) := by
  intro H enc w sp held fuel cs x h hw
  obtain ⟨ys, ⟨⟨A, c, css, rfl, hrd, hall, hc, hm⟩, h8⟩, hb⟩ := opens_list Try.underlying35 (size := 2) (bytes := 16) (by kernel_rfl) (by kernel_rfl) (by decide) (by decide) opens_val (fun w cs y hy => by rw [hy.1]; rfl) H enc w sp held fuel cs x h hw
  have key : ∀ (css : List (List Value)) (ys : List VL), All2 (fun cs (v : VL) => cs = vcells v ∧ VWf v) css ys → css.flatten = vals ys ∧ ∀ v ∈ ys, VWf v := by
    intro css
    induction css with
    | nil => intro ys h; cases ys with
      | nil => exact ⟨rfl, fun v hv => by cases hv⟩
      | cons y ys => exact h.elim
    | cons c0 css ih => intro ys h; cases ys with
      | nil => exact h.elim
      | cons y ys =>
        obtain ⟨h1, h2⟩ := ih ys h.2
        refine ⟨by rw [List.flatten_cons, h1, h.1.1]; rfl, fun v hv => ?_⟩
        rcases List.mem_cons.1 hv with rfl | hv
        · exact h.1.2
        · exact h2 v hv
  obtain ⟨k1, k2⟩ := key css ys hall
  rw [k1] at hrd
  simp only at hb
  rw [sum_ones] at hb
  exact ⟨ys, ⟨⟨A, c, rfl, hrd, hc, hm⟩, k2, h8⟩, hb⟩
/-- What an object's cells read as. -/
def ObjR (w : World) (cs : List Value) (o : ObjM) : Prop :=
  ObjC w (fun b => b < w.heap.size) cs o ∧ (o.slots.length * 16 ≤ 140737488351232 ∧ o.bytes.length ≤ 140737488351232) ∧ (∀ v ∈ o.slots, VWf v) ∧ -9223372036854775808 ≤ o.cls ∧ o.cls ≤ 9223372036854775807
theorem ObjC.len {w : World} {S : Nat → Prop} {cs : List Value} {o : ObjM} (h : ObjC w S cs o) : cs.length = 3 := by
  obtain ⟨A, c, B, c2, rfl, _⟩ := h; rfl
set_option maxRecDepth 100000 in
theorem opens_obj : Opens Try.prog 38 ObjR (fun o => o.slots.length + o.bytes.length + 2) := by
  intro H enc w sp held fuel cs x h hw
  have hu := Try.underlying38
  obtain ⟨xs, n, _, rfl, hl, hxl, hf⟩ := DataW.trod_struct hu h
  have hc3 : Try.prog.cellsOf 38 = 3 := by kernel_rfl
  have hi1 : Try.prog.cellsOf 2 = 1 := by kernel_rfl
  have hi2 : Try.prog.cellsOf 35 = 1 := by kernel_rfl
  have hi3 : Try.prog.cellsOf 36 = 1 := by kernel_rfl
  rw [hc3] at hl
  have f0 := hf 0 _ rfl
  have f1 := hf 1 _ rfl
  have f2 := hf 2 _ rfl
  match cs, hl with
  | [c0, c1, c2], _ =>
  match xs, hxl with
  | [x0, x1, x2], _ =>
  simp only [hi1, hi2, hi3, List.drop_zero, List.drop_succ_cons, List.take_succ_cons, List.take_zero, List.getElem?_cons_zero, List.getElem?_cons_succ] at f0 f1 f2
  have hw' : ∀ m, (m ∈ DataW.weights Try.prog 35 x1.1 ∨ m ∈ DataW.weights Try.prog 36 x2.1) → m ≤ reachBytes := by
    intro m hm
    refine hw m ?_
    simp only [DataW.weights, hu, DataW.weightsEach, List.map_cons, List.map_nil, List.mem_append]
    rcases hm with hm | hm
    · exact .inr (.inl hm)
    · exact .inr (.inr (.inl hm))
  obtain ⟨a0, e0, _, w0⟩ := DataW.trod_int Try.underlying2 f0
  obtain ⟨vs, ⟨⟨Av, cv, e1, hv, _, _⟩, wv, v8⟩, bv⟩ := opens_vals H enc w sp held n [c1] x1 f1 (fun m hm => hw' m (.inl hm))
  obtain ⟨bs, ⟨⟨Ab, cb, e2, hbr, _, _⟩, b8⟩, bb⟩ := opens_u8s H enc w sp held n [c2] x2 f2 (fun m hm => hw' m (.inr hm))
  injection e0 with e0 _
  injection e1 with e1 _
  injection e2 with e2 _
  subst e0 e1 e2
  refine ⟨⟨a0, vs, bs⟩, ⟨⟨Av, cv, Ab, cb, rfl, hv, hbr⟩, ⟨by simpa [reachBytes] using v8, by simpa [reachBytes] using b8⟩, wv, wf_i64 w0⟩, ?_⟩
  have := bulk_pos x0.1
  simp only at bv bb
  simp only [List.map_cons, List.map_nil, Rows.uptoBulk, Rows.uptoBulkAll]
  omega
section
variable {H : Type} {enc : TypeId × Value → H} {W : World} {held : Bool}
theorem weights_of {ts : List TypeId} {ds : List (DataW H)} (hsz : (DataW.weightsEach Try.prog ts ds).all (· ≤ reachBytes) = true) {j : Nat} {t : TypeId} {d : DataW H} (ht : ts[j]? = some t) (hd : ds[j]? = some d) : ∀ n ∈ DataW.weights Try.prog t d, n ≤ reachBytes :=
  fun n hn => by have := List.all_eq_true.1 hsz _ (DataW.weights_mem_each ht hd n hn); simpa using this
theorem open_obj {ts : List TypeId} {ds : List (DataW H)} (hsz : (DataW.weightsEach Try.prog ts ds).all (· ≤ reachBytes) = true) {j : Nat} {v : Value} {d : DataW H} {p : List MemPlace}
    (ht : ts[j]? = some 38) (hd : ds[j]? = some d) (h : DataW.Trod enc Try.prog W 0 (fun _ => true) held 38 v d p) :
    ∃ (cs : List Value) (o : ObjM), v = .agg cs.toArray ∧ ObjR W cs o ∧ o.slots.length + o.bytes.length + 2 ≤ Rows.uptoBulk d := by
  obtain ⟨fuel, hf⟩ := h
  obtain ⟨o, h1, h3⟩ := opens_obj H enc W (fun _ => true) held fuel _ _ hf (weights_of hsz ht hd)
  have hl := h1.1.len
  cases v with
  | agg cs => exact ⟨cs.toList, o, rfl, h1, h3⟩
  | _ => simp [Value.cells] at hl
theorem open_val {ts : List TypeId} {ds : List (DataW H)} (hsz : (DataW.weightsEach Try.prog ts ds).all (· ≤ reachBytes) = true) {j : Nat} {v : Value} {d : DataW H} {p : List MemPlace}
    (ht : ts[j]? = some 75) (hd : ds[j]? = some d) (h : DataW.Trod enc Try.prog W 0 (fun _ => true) held 75 v d p) :
    ∃ x : VL, v = .agg #[.int .i64 x.k, .int .i64 x.n] ∧ VWf x := by
  obtain ⟨fuel, hf⟩ := h
  obtain ⟨x, ⟨h1, h2⟩, h3⟩ := opens_val H enc W (fun _ => true) held fuel _ _ hf (weights_of hsz ht hd)
  have hl : v.cells.toList.length = 2 := by rw [h1]; rfl
  cases v with
  | agg cs =>
    refine ⟨x, ?_, h2⟩
    have e : cs.toList = vcells x := h1
    rw [← Array.toArray_toList (xs := cs), e]; rfl
  | _ => simp [Value.cells] at hl
theorem open_u8s {ts : List TypeId} {ds : List (DataW H)} (hsz : (DataW.weightsEach Try.prog ts ds).all (· ≤ reachBytes) = true) {j : Nat} {v : Value} {d : DataW H} {p : List MemPlace}
    (ht : ts[j]? = some 36) (hd : ds[j]? = some d) (h : DataW.Trod enc Try.prog W 0 (fun _ => true) held 36 v d p) (hv : ∃ A n c, v = .slice A n c) :
    ∃ (A : Option Addr) (c : Nat) (l : List UInt8), v = .slice A l.length c ∧ RdB W (fun b => b < W.heap.size) A l ∧ l.length ≤ 140737488351232 ∧ l.length ≤ c ∧ c ≤ maxLen ∧ l.length < Rows.uptoBulk d := by
  obtain ⟨A, n, c, rfl⟩ := hv
  obtain ⟨fuel, hf⟩ := h
  obtain ⟨l, ⟨⟨A', c', e, h1, h2, h3⟩, h5⟩, h6⟩ := opens_u8s H enc W (fun _ => true) held fuel _ _ hf (weights_of hsz ht hd)
  simp [Value.cells] at e
  obtain ⟨rfl, rfl, rfl⟩ := e
  exact ⟨_, _, l, rfl, h1, by simpa [reachBytes] using h5, h2, h3, h6⟩
end
end Go.Proofs.Ytifcnjebepipnaa
