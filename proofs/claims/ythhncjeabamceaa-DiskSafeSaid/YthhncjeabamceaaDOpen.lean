/- How acts and bools come in. No condition. -/
import Derived.Test.YthhncjeabamceaaOpen
import Derived.Test.YthhncjeabamceaaDAct
namespace Go.Proofs.Ythhncjeabamceaa
set_option linter.unusedVariables false
set_option linter.unusedSimpArgs false
open Go.ChangeShapes Go.WideShapes Go.ChangeAt Go.RowKit

theorem opens_int {t : TypeId} {k : IntKind} (ht : Try.prog.underlying t = some (.int k)) : Opens Try.prog t (fun _ cs (x : Int) => cs = [.int k x] ∧ (Lit.int k x).wf = true) (fun _ => 1) := by
  intro H enc w sp held fuel cs x h _
  obtain ⟨n, rfl, rfl, hw⟩ := DataW.trod_int ht h
  exact ⟨n, ⟨rfl, hw⟩, bulk_pos _⟩
theorem opens_bool {t : TypeId} (ht : Try.prog.underlying t = some .bool) : Opens Try.prog t (fun _ cs (x : Bool) => cs = [.bool x]) (fun _ => 1) := by
  intro H enc w sp held fuel cs x h _
  obtain ⟨b, h1, h2⟩ := DataW.trod_bool ht h
  exact ⟨b, h1, bulk_pos _⟩
theorem opens_bools : Opens Try.prog 23 (fun w cs (l : List Bool) => (∃ A c, cs = [.slice A l.length c] ∧ Rd w (fun b => b < w.heap.size) 1 A l.length (BLs l)) ∧ l.length * 1 ≤ reachBytes) (fun l => (l.map (fun _ => 1)).sum + 1) := by
  intro H enc w sp held fuel cs x h hw
  obtain ⟨ys, ⟨⟨A, c, css, rfl, hrd, hall, hc, hm⟩, h8⟩, hb⟩ := opens_list Try.underlying23 (size := 1) (bytes := 1) (by kernel_rfl) (by kernel_rfl) (by decide) (by decide) (opens_bool Try.underlying4) (fun w cs y hy => by rw [hy]; rfl) H enc w sp held fuel cs x h hw
  have key : ∀ (css : List (List Value)) (ys : List Bool), All2 (fun cs (x : Bool) => cs = [Value.bool x]) css ys → css.flatten = BLs ys := by
    intro css
    induction css with
    | nil => intro ys h; cases ys with
      | nil => rfl
      | cons y ys => exact h.elim
    | cons c0 css ih => intro ys h; cases ys with
      | nil => exact h.elim
      | cons y ys => rw [List.flatten_cons, ih ys h.2, h.1]; rfl
  rw [key css ys hall] at hrd
  exact ⟨ys, ⟨⟨A, c, rfl, hrd⟩, h8⟩, hb⟩
/-- What an act's struct reads as. -/
def ActR (cs : List Value) (a : Act) : Prop := (∃ kd mo v5, cs = [.int .i64 kd, .int .i64 a.at_, .int .i64 a.n, .int .u8 (a.c.toNat : Int), mo, v5]) ∧ ActOk a
theorem opens_act : Opens Try.prog 30 (fun _ cs a => ActR cs a) (fun _ => 1) := by
  intro H enc w sp held fuel cs x h hw
  have hu := Try.underlying30
  obtain ⟨xs, n, _, rfl, hl, hxl, hf⟩ := DataW.trod_struct hu h
  have hc6 : Try.prog.cellsOf 30 = 6 := by kernel_rfl
  have hi1 : Try.prog.cellsOf 3 = 1 := by kernel_rfl
  have hb1 : Try.prog.cellsOf 5 = 1 := by kernel_rfl
  rw [hc6] at hl
  have f0 := hf 0 _ rfl
  have f1 := hf 1 _ rfl
  have f2 := hf 2 _ rfl
  have f3 := hf 3 _ rfl
  match cs, hl with
  | [c0, c1, c2, c3, c4, c5], _ =>
  match xs, hxl with
  | [x0, x1, x2, x3, x4, x5], _ =>
  simp only [hi1, hb1, List.drop_zero, List.drop_succ_cons, List.take_succ_cons, List.take_zero, List.getElem?_cons_zero, List.getElem?_cons_succ] at f0 f1 f2 f3
  obtain ⟨a0, e0, _, w0⟩ := DataW.trod_int Try.underlying3 f0
  obtain ⟨a1, e1, _, w1⟩ := DataW.trod_int Try.underlying3 f1
  obtain ⟨a2, e2, _, w2⟩ := DataW.trod_int Try.underlying3 f2
  obtain ⟨a3, e3, _, w3⟩ := DataW.trod_int Try.underlying5 f3
  injection e0 with e0 _
  injection e1 with e1 _
  injection e2 with e2 _
  injection e3 with e3 _
  subst e0 e1 e2 e3
  have b1 : -9223372036854775808 ≤ a1 ∧ a1 ≤ 9223372036854775807 := by simpa [Lit.wf, IntKind.min, IntKind.max, IntKind.signed, IntKind.bits] using w1
  have b2 : -9223372036854775808 ≤ a2 ∧ a2 ≤ 9223372036854775807 := by simpa [Lit.wf, IntKind.min, IntKind.max, IntKind.signed, IntKind.bits] using w2
  have b3 : 0 ≤ a3 ∧ a3 ≤ 255 := by simpa [Lit.wf, IntKind.min, IntKind.max, IntKind.signed, IntKind.bits] using w3
  have h3 : ((UInt8.ofNat a3.toNat).toNat : Int) = a3 := by rw [UInt8.toNat_ofNat']; omega
  exact ⟨⟨a1, a2, UInt8.ofNat a3.toNat⟩, ⟨⟨a0, c4, c5, by simp only; rw [h3]⟩, b1, b2⟩, bulk_pos _⟩
theorem acts_of_all2 : ∀ {css : List (List Value)} {l : List Act}, All2 ActR css l → ActsC css.flatten l ∧ ∀ a ∈ l, ActOk a
  | [], [], _ => ⟨fun k hk => by simp at hk, fun a ha => by cases ha⟩
  | c :: css, a :: l, h => by
    obtain ⟨h1, h2⟩ := acts_of_all2 h.2
    obtain ⟨⟨⟨kd, mo, v5, hc⟩, hok⟩, _⟩ := h
    subst hc
    refine ⟨fun k hk => ?_, fun x hx => ?_⟩
    · rw [List.flatten_cons]
      cases k with
      | zero => exact ⟨rfl, rfl, rfl⟩
      | succ k =>
        have h3 := h1 k (by simpa using hk)
        have e : ∀ j, (k + 1) * 6 + j = (k * 6 + j) + 6 := fun j => by omega
        simp only [List.getElem_cons_succ]
        rw [e 1, e 2, e 3]
        exact h3
    · rcases List.mem_cons.1 hx with rfl | hx
      · exact hok
      · exact h2 x hx
section
variable {H : Type} {enc : TypeId × Value → H} {W : World} {held : Bool}
theorem weights_of {ts : List TypeId} {ds : List (DataW H)} (hsz : (DataW.weightsEach Try.prog ts ds).all (· ≤ reachBytes) = true) {j : Nat} {t : TypeId} {d : DataW H} (ht : ts[j]? = some t) (hd : ds[j]? = some d) : ∀ n ∈ DataW.weights Try.prog t d, n ≤ reachBytes :=
  fun n hn => by have := List.all_eq_true.1 hsz _ (DataW.weights_mem_each ht hd n hn); simpa using this
theorem open_acts {ts : List TypeId} {ds : List (DataW H)} (hsz : (DataW.weightsEach Try.prog ts ds).all (· ≤ reachBytes) = true) {j : Nat} {v : Value} {d : DataW H} {p : List MemPlace}
    (ht : ts[j]? = some 22) (hd : ds[j]? = some d) (h : DataW.Trod enc Try.prog W 0 (fun _ => true) held 22 v d p) (hv : ∃ A n c, v = .slice A n c) :
    ∃ (A : Option Addr) (c : Nat) (l : List Act), v = .slice A l.length c ∧ RdA W (fun b => b < W.heap.size) A l ∧ ∀ a ∈ l, ActOk a := by
  obtain ⟨A, n, c, rfl⟩ := hv
  obtain ⟨fuel, hf⟩ := h
  obtain ⟨l, ⟨⟨A', c', css, e, h1, h2, h3, h4⟩, h5⟩, h6⟩ := opens_list Try.underlying22 (size := 6) (bytes := 64) (by kernel_rfl) (by kernel_rfl) (by decide) (by decide) opens_act (fun w cs y hy => by obtain ⟨⟨_, _, _, rfl⟩, _⟩ := hy; rfl) H enc W (fun _ => true) held fuel _ _ hf (weights_of hsz ht hd)
  simp [Value.cells] at e
  obtain ⟨rfl, rfl, rfl⟩ := e
  obtain ⟨k1, k2⟩ := acts_of_all2 h2
  exact ⟨_, _, l, rfl, ⟨css.flatten, h1, k1⟩, k2⟩
theorem open_bools {ts : List TypeId} {ds : List (DataW H)} (hsz : (DataW.weightsEach Try.prog ts ds).all (· ≤ reachBytes) = true) {j : Nat} {v : Value} {d : DataW H} {p : List MemPlace}
    (ht : ts[j]? = some 23) (hd : ds[j]? = some d) (h : DataW.Trod enc Try.prog W 0 (fun _ => true) held 23 v d p) (hv : ∃ A n c, v = .slice A n c) :
    ∃ (A : Option Addr) (c : Nat) (l : List Bool), v = .slice A l.length c ∧ Rd W (fun b => b < W.heap.size) 1 A l.length (BLs l) := by
  obtain ⟨A, n, c, rfl⟩ := hv
  obtain ⟨fuel, hf⟩ := h
  obtain ⟨l, ⟨⟨A', c', e, h1⟩, h5⟩, h6⟩ := opens_bools H enc W (fun _ => true) held fuel _ _ hf (weights_of hsz ht hd)
  simp [Value.cells] at e
  obtain ⟨rfl, rfl, rfl⟩ := e
  exact ⟨_, _, l, rfl, h1⟩
end
end Go.Proofs.Ythhncjeabamceaa
