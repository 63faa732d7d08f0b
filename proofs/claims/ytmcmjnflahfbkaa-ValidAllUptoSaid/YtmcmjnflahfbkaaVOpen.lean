/- How a session, and a list of sessions, come in. No condition. -/
import Derived.Test.YtmcmjnflahfbkaaOpen
import Derived.Test.YtmcmjnflahfbkaaLValidAlone
namespace Go.Proofs.Ytmcmjnflahfbkaa
set_option linter.unusedVariables false
set_option linter.unusedSimpArgs false
open Go.ChangeShapes Go.WideShapes Go.ChangeAt Go.RowKit

theorem opens_int {t : TypeId} {k : IntKind} (ht : Try.prog.underlying t = some (.int k)) : Opens Try.prog t (fun _ cs (x : Int) => cs = [.int k x] ∧ (Lit.int k x).wf = true) (fun _ => 1) := by
  intro H enc w sp held fuel cs x h _
  obtain ⟨n, rfl, rfl, hw⟩ := DataW.trod_int ht h
  exact ⟨n, ⟨rfl, hw⟩, bulk_pos _⟩
theorem opens_li64 : Opens Try.prog 23 (fun w cs (l : List Int) => (∃ A c, cs = [.slice A l.length c] ∧ RdI w (fun b => b < w.heap.size) A l ∧ l.length ≤ c ∧ c ≤ maxLen) ∧ Wf l ∧ l.length * 8 ≤ reachBytes) (fun l => l.length + 1) := by
  intro H enc w sp held fuel cs x h hw
  obtain ⟨ys, ⟨⟨A, c, css, rfl, hrd, hall, hc, hm⟩, h8⟩, hb⟩ := opens_list Try.underlying23 (size := 1) (bytes := 8) (by kernel_rfl) (by kernel_rfl) (by decide) (by decide) (opens_int Try.underlying2) (fun w cs y hy => by rw [hy.1]; rfl) H enc w sp held fuel cs x h hw
  have key : ∀ (css : List (List Value)) (ys : List Int), All2 (fun cs (x : Int) => cs = [Value.int .i64 x] ∧ (Lit.int .i64 x).wf = true) css ys → css.flatten = I64 ys ∧ Wf ys := by
    intro css
    induction css with
    | nil => intro ys h; cases ys with
      | nil => exact ⟨rfl, fun x hx => by cases hx⟩
      | cons y ys => exact h.elim
    | cons c0 css ih => intro ys h; cases ys with
      | nil => exact h.elim
      | cons y ys =>
        obtain ⟨h1, h2⟩ := ih ys h.2
        refine ⟨by rw [List.flatten_cons, h1, h.1.1]; rfl, fun x hx => ?_⟩
        rcases List.mem_cons.1 hx with rfl | hx
        · exact h.1.2
        · exact h2 x hx
  obtain ⟨k1, k2⟩ := key css ys hall
  rw [k1] at hrd
  refine ⟨ys, ⟨⟨A, c, rfl, hrd, hc, hm⟩, k2, h8⟩, ?_⟩
  have hs : ∀ l : List Int, (l.map (fun _ => 1)).sum = l.length := by intro l; induction l with | nil => rfl | cons x l ih => rw [List.map_cons, List.sum_cons, ih, List.length_cons]; omega
  simp only at hb ⊢
  rw [hs] at hb
  exact hb
/-- What a session's struct reads as. -/
def TxnR (w : World) (cs : List Value) (t : Txn) : Prop := TxnC w (fun b => b < w.heap.size) cs t ∧ TxnOk t
theorem opens_txn : Opens Try.prog 25 TxnR (fun t => t.reads.length + t.writes.length + 1) := by
  intro H enc w sp held fuel cs x h hw
  have hu := Try.underlying25
  obtain ⟨xs, n, _, rfl, hl, hxl, hf⟩ := DataW.trod_struct hu h
  have hc4 : Try.prog.cellsOf 25 = 4 := by kernel_rfl
  have hi1 : Try.prog.cellsOf 2 = 1 := by kernel_rfl
  have hs1 : Try.prog.cellsOf 23 = 1 := by kernel_rfl
  rw [hc4] at hl
  have f0 := hf 0 _ rfl
  have f1 := hf 1 _ rfl
  have f2 := hf 2 _ rfl
  have f3 := hf 3 _ rfl
  match cs, hl with
  | [c0, c1, c2, c3], _ =>
  match xs, hxl with
  | [x0, x1, x2, x3], _ =>
  simp only [hi1, hs1, List.drop_zero, List.drop_succ_cons, List.take_succ_cons, List.take_zero, List.getElem?_cons_zero, List.getElem?_cons_succ] at f0 f1 f2 f3
  have hw' : ∀ m, (m ∈ DataW.weights Try.prog 23 x2.1 ∨ m ∈ DataW.weights Try.prog 23 x3.1) → m ≤ reachBytes := by
    intro m hm
    refine hw m ?_
    simp only [DataW.weights, hu, DataW.weightsEach, List.map_cons, List.map_nil, List.mem_append]
    rcases hm with hm | hm
    · exact .inr (.inr (.inl hm))
    · exact .inr (.inr (.inr (.inl hm)))
  obtain ⟨b, e0, ex0, _⟩ := DataW.trod_int Try.underlying2 f0
  obtain ⟨c, e1, ex1, _⟩ := DataW.trod_int Try.underlying2 f1
  obtain ⟨rs, ⟨⟨Ar, cr, e2, hr, _, _⟩, wr, r8⟩, br⟩ := opens_li64 H enc w sp held n [c2] x2 f2 (fun m hm => hw' m (.inl hm))
  obtain ⟨ws, ⟨⟨Aw, cw, e3, hwr, _, _⟩, ww, w8⟩, bw⟩ := opens_li64 H enc w sp held n [c3] x3 f3 (fun m hm => hw' m (.inr hm))
  injection e0 with e0 _
  injection e1 with e1 _
  injection e2 with e2 _
  injection e3 with e3 _
  subst e0 e1 e2 e3
  refine ⟨⟨b, c, rs, ws⟩, ⟨⟨Ar, cr, Aw, cw, rfl, hr, hwr⟩, wr, ww, r8, w8⟩, ?_⟩
  have := bulk_pos x0.1
  simp only at br bw
  simp only [List.map_cons, List.map_nil, Rows.uptoBulk, Rows.uptoBulkAll]
  omega
theorem txns_of_all2 {w : World} : ∀ {css : List (List Value)} {ts : List Txn}, All2 (TxnR w) css ts → TxnsC w (fun b => b < w.heap.size) css.flatten ts ∧ ∀ d ∈ ts, TxnOk d
  | [], [], _ => ⟨rfl, fun d hd => by cases hd⟩
  | c :: css, t :: ts, h => by
    obtain ⟨h1, h2⟩ := txns_of_all2 h.2
    refine ⟨⟨c, css.flatten, rfl, h.1.1, h1⟩, fun d hd => ?_⟩
    rcases List.mem_cons.1 hd with rfl | hd
    · exact h.1.2
    · exact h2 d hd
def bulkT (ts : List Txn) : Nat := (ts.map (fun t => t.reads.length + t.writes.length + 1)).sum
theorem opens_txns : Opens Try.prog 22 (fun w cs (ts : List Txn) => (∃ A c, cs = [.slice A ts.length c] ∧ RdT w (fun b => b < w.heap.size) A ts ∧ ts.length ≤ c ∧ c ≤ maxLen) ∧ (∀ d ∈ ts, TxnOk d) ∧ ts.length * 64 ≤ reachBytes) (fun ts => bulkT ts + 1) := by
  intro H enc w sp held fuel cs x h hw
  obtain ⟨ys, ⟨⟨A, c, css, rfl, hrd, hall, hc, hm⟩, h8⟩, hb⟩ := opens_list Try.underlying22 (size := 4) (bytes := 64) (by kernel_rfl) (by kernel_rfl) (by decide) (by decide) opens_txn (fun w cs y hy => hy.1.len) H enc w sp held fuel cs x h hw
  obtain ⟨k1, k2⟩ := txns_of_all2 hall
  exact ⟨ys, ⟨⟨A, c, rfl, ⟨css.flatten, hrd, k1⟩, hc, hm⟩, k2, h8⟩, hb⟩
section
variable {H : Type} {enc : TypeId × Value → H} {W : World} {held : Bool}
theorem weights_of {ts : List TypeId} {ds : List (DataW H)} (hsz : (DataW.weightsEach Try.prog ts ds).all (· ≤ reachBytes) = true) {j : Nat} {t : TypeId} {d : DataW H} (ht : ts[j]? = some t) (hd : ds[j]? = some d) : ∀ n ∈ DataW.weights Try.prog t d, n ≤ reachBytes :=
  fun n hn => by have := List.all_eq_true.1 hsz _ (DataW.weights_mem_each ht hd n hn); simpa using this
theorem open_txns {ts : List TypeId} {ds : List (DataW H)} (hsz : (DataW.weightsEach Try.prog ts ds).all (· ≤ reachBytes) = true) {j : Nat} {v : Value} {d : DataW H} {p : List MemPlace}
    (ht : ts[j]? = some 22) (hd : ds[j]? = some d) (h : DataW.Trod enc Try.prog W 0 (fun _ => true) held 22 v d p) (hv : ∃ A n c, v = .slice A n c) :
    ∃ (A : Option Addr) (c : Nat) (l : List Txn), v = .slice A l.length c ∧ RdT W (fun b => b < W.heap.size) A l ∧ (∀ d ∈ l, TxnOk d) ∧ l.length * 64 ≤ 140737488351232 ∧ l.length ≤ c ∧ c ≤ maxLen ∧ bulkT l < Rows.uptoBulk d := by
  obtain ⟨A, n, c, rfl⟩ := hv
  obtain ⟨fuel, hf⟩ := h
  obtain ⟨l, ⟨⟨A', c', e, h1, h2, h3⟩, h4, h5⟩, h6⟩ := opens_txns H enc W (fun _ => true) held fuel _ _ hf (weights_of hsz ht hd)
  simp [Value.cells] at e
  obtain ⟨rfl, rfl, rfl⟩ := e
  exact ⟨_, _, l, rfl, h1, h4, by simpa [reachBytes] using h5, h2, h3, h6⟩
theorem open_txn {ts : List TypeId} {ds : List (DataW H)} (hsz : (DataW.weightsEach Try.prog ts ds).all (· ≤ reachBytes) = true) {j : Nat} {v : Value} {d : DataW H} {p : List MemPlace}
    (ht : ts[j]? = some 25) (hd : ds[j]? = some d) (h : DataW.Trod enc Try.prog W 0 (fun _ => true) held 25 v d p) :
    ∃ (cs : List Value) (t : Txn), v = .agg cs.toArray ∧ TxnC W (fun b => b < W.heap.size) cs t ∧ TxnOk t ∧ t.reads.length + t.writes.length + 1 ≤ Rows.uptoBulk d := by
  obtain ⟨fuel, hf⟩ := h
  obtain ⟨t, ⟨h1, h2⟩, h3⟩ := opens_txn H enc W (fun _ => true) held fuel _ _ hf (weights_of hsz ht hd)
  have hl := h1.len
  cases v with
  | agg cs => exact ⟨cs.toList, t, rfl, h1, h2, h3⟩
  | _ => simp [Value.cells] at hl
theorem open_li64 {ts : List TypeId} {ds : List (DataW H)} (hsz : (DataW.weightsEach Try.prog ts ds).all (· ≤ reachBytes) = true) {j : Nat} {v : Value} {d : DataW H} {p : List MemPlace}
    (ht : ts[j]? = some 23) (hd : ds[j]? = some d) (h : DataW.Trod enc Try.prog W 0 (fun _ => true) held 23 v d p) (hv : ∃ A n c, v = .slice A n c) :
    ∃ (A : Option Addr) (c : Nat) (l : List Int), v = .slice A l.length c ∧ RdI W (fun b => b < W.heap.size) A l ∧ Wf l ∧ l.length * 8 ≤ 140737488351232 ∧ l.length ≤ c ∧ c ≤ maxLen ∧ l.length < Rows.uptoBulk d := by
  obtain ⟨A, n, c, rfl⟩ := hv
  obtain ⟨fuel, hf⟩ := h
  obtain ⟨l, ⟨⟨A', c', e, h1, h2, h3⟩, h4, h5⟩, h6⟩ := opens_li64 H enc W (fun _ => true) held fuel _ _ hf (weights_of hsz ht hd)
  simp [Value.cells] at e
  obtain ⟨rfl, rfl, rfl⟩ := e
  exact ⟨_, _, l, rfl, h1, h4, by simpa [reachBytes] using h5, h2, h3, h6⟩
end
end Go.Proofs.Ytmcmjnflahfbkaa
