/- Objects and values as plain data, and how they lie in memory; value.Copy; the reference's Same at objects alike. No condition but size. How values, objects and bytes come in. No condition. value.Copy; the reference's Same at objects alike. No condition but size. The reference's Same at objects alike. No condition but size. rc.count: a Counter is more by a number, or can not be. No condition. rc.Replay over a Counter. No condition but size. How lists of ops and of int64 come in. No condition. counter: an object of one number. No condition. slices.Index of values: the first place of a value, or none. No condition. rc.put: what is not there can not be removed. No condition. bag: an object of numbers. No condition but size. -/
import Derived.Test.YtgchpfennbggoaaProg
import Derived.Test.YtgchpfennbggoaaJRRcOrderp0
import Derived.Lib.SliceRun
namespace Go.Proofs.Ytgchpfennbggoaa
set_option linter.unusedVariables false
set_option linter.unusedSimpArgs false
open Go.RowKit

def vcells (v : VL) : List Value := [.int .i64 v.k, .int .i64 v.n]
def vals (l : List VL) : List Value := l.flatMap vcells
theorem vals_append (a b : List VL) : vals (a ++ b) = vals a ++ vals b := by simp [vals]
theorem vals_cons (v : VL) (l : List VL) : vals (v :: l) = vcells v ++ vals l := rfl
theorem vals_len (l : List VL) : (vals l).length = l.length * 2 := by
  induction l with
  | nil => rfl
  | cons v l ih => rw [vals_cons, List.length_append, ih, List.length_cons]; simp [vcells]; omega
theorem vals_one (l : List VL) : ∀ u ∈ vals l, u.oneCell' = true := by
  intro u hu
  obtain ⟨v, _, hv⟩ := List.mem_flatMap.1 hu
  simp [vcells] at hv
  rcases hv with rfl | rfl <;> rfl
theorem vals_at {l : List VL} {k : Nat} (hk : k < l.length) (j : Nat) (u : Value) (hu : (vcells l[k])[j]? = some u) : (vals l)[k * 2 + j]? = some u := by
  have hj : j < 2 := by have := (List.getElem?_eq_some_iff.1 hu).1; simpa [vcells] using this
  have e : l = l.take k ++ (l[k] :: l.drop (k + 1)) := by rw [← List.drop_eq_getElem_cons hk, List.take_append_drop]
  have e2 : vals l = vals (l.take k) ++ (vcells l[k] ++ vals (l.drop (k + 1))) := by
    conv => lhs; rw [e]
    rw [vals_append]; rfl
  have hl : (vals (l.take k)).length = k * 2 := by rw [vals_len, List.length_take, Nat.min_eq_left (by omega)]
  rw [e2, List.getElem?_append_right (by omega), hl, show k * 2 + j - k * 2 = j by omega, List.getElem?_append_left (by simpa [vcells] using hj)]
  exact hu
/-- A slice of values that reads as l. -/
def RdV (w : World) (S : Nat → Prop) (A : Option Addr) (l : List VL) : Prop := Rd w S 2 A l.length (vals l)
theorem RdV.le {w : World} {S : Nat → Prop} {A : Option Addr} {l : List VL} (h : RdV w S A l) : l.length ≤ 211106232532992 := h.2.1
theorem Rd.plain {w : World} {S : Nat → Prop} {size n : Nat} {A : Option Addr} {xs : List Value} (h : Rd w S size A n xs) (hn : 0 < n) (hs : 0 < size) : ∃ g o, A = some ⟨g, o, none⟩ ∧ S g ∧ ∀ j u, xs[j]? = some u → w.cell? ⟨g, o + j, none⟩ = some u := by
  obtain ⟨ad, rfl, hS, hc⟩ := h.2.2 hn
  have hl : 0 < xs.length := by rw [h.1]; exact Nat.mul_pos hn hs
  have hsp : ad.spot = none := by
    have h3 := hc 0 _ (List.getElem?_eq_getElem hl)
    have := World.cell?_spot h3
    simpa [Addr.add] using this
  obtain ⟨g, o, sp⟩ := ad
  simp only at hsp
  subst hsp
  refine ⟨g, o, rfl, hS, fun j u hu => ?_⟩
  have := hc j u hu
  have key : (⟨g, o, none⟩ : Addr).add j = ⟨g, o + j, none⟩ := by unfold Addr.add; split <;> simp_all
  rwa [key] at this
/-- The k-th value's two cells. -/
theorem RdV.at_ {w : World} {S : Nat → Prop} {A : Option Addr} {l : List VL} (h : RdV w S A l) {k : Nat} (hk : k < l.length) :
    ∃ g o, A = some ⟨g, o, none⟩ ∧ S g ∧ w.cell? ⟨g, o + k * 2, none⟩ = some (.int .i64 l[k].k) ∧ w.cell? ⟨g, o + k * 2 + 1, none⟩ = some (.int .i64 l[k].n) ∧ (∀ j u, (vcells l[k])[j]? = some u → w.cell? ((⟨g, o + k * 2, none⟩ : Addr).add j) = some u) := by
  obtain ⟨g, o, rfl, hS, hc⟩ := h.plain (by omega) (by decide)
  have key : ∀ j u, (vcells l[k])[j]? = some u → w.cell? ⟨g, o + k * 2 + j, none⟩ = some u := fun j u hu => by
    have := hc _ u (vals_at hk j u hu); rwa [← Nat.add_assoc] at this
  refine ⟨g, o, rfl, hS, key 0 _ rfl, key 1 _ rfl, fun j u hu => ?_⟩
  have e : (⟨g, o + k * 2, none⟩ : Addr).add j = ⟨g, o + k * 2 + j, none⟩ := by unfold Addr.add; split <;> simp_all
  rw [e]; exact key j u hu
def ObjC (w : World) (S : Nat → Prop) (cs : List Value) (o : ObjM) : Prop :=
  ∃ A c B c2, cs = [.int .i64 o.cls, .slice A o.slots.length c, .slice B o.bytes.length c2] ∧ RdV w S A o.slots ∧ RdB w S B o.bytes
theorem ObjC.keep {w w' : World} {S T : Nat → Prop} {cs : List Value} {o : ObjM} (h : ObjC w S cs o) (hf : Fr T w w') (hd : ∀ b, S b → ¬ T b) : ObjC w' S cs o := by
  obtain ⟨A, c, B, c2, e, h1, h2⟩ := h; exact ⟨A, c, B, c2, e, Rd.fr h1 hf hd, Rd.fr h2 hf hd⟩
theorem ObjC.fr0 {w w' : World} {S : Nat → Prop} {cs : List Value} {o : ObjM} (h : ObjC w S cs o) (hf : Fr No w w') : ObjC w' S cs o := h.keep hf (fun _ _ hn => hn)
theorem ObjC.mono {w : World} {S T : Nat → Prop} {cs : List Value} {o : ObjM} (h : ObjC w S cs o) (hS : ∀ b, b < w.heap.size → S b → T b) : ObjC w T cs o := by
  obtain ⟨A, c, B, c2, e, h1, h2⟩ := h; exact ⟨A, c, B, c2, e, Rd.mono h1 hS (by decide), Rd.mono h2 hS (by decide)⟩
theorem ObjC.lt {w : World} {S : Nat → Prop} {cs : List Value} {o : ObjM} (h : ObjC w S cs o) : ObjC w (fun b => S b ∧ b < w.heap.size) cs o := by
  obtain ⟨A, c, B, c2, e, h1, h2⟩ := h; exact ⟨A, c, B, c2, e, Rd.lt h1 (by decide), Rd.lt h2 (by decide)⟩
theorem plain_of {T : TypeId} {d : TypeDesc} (h : Try.prog.underlying T = some d) (hd : (match d with | .struct _ | .array _ _ => true | _ => false) = false) : ∀ w, (isAgg T).run Try.prog w = .ok false w := by
  intro w
  unfold isAgg
  rw [Sem.run_bind, run_underlying h w]
  cases d <;> simp_all
theorem plain_int : ∀ w, (isAgg 3).run Try.prog w = .ok false w := plain_of Try.underlying3 rfl
theorem plain_i64 : ∀ w, (isAgg 2).run Try.prog w = .ok false w := plain_of Try.underlying2 rfl
theorem plain_bool : ∀ w, (isAgg 4).run Try.prog w = .ok false w := plain_of Try.underlying4 rfl
theorem plain_lval : ∀ w, (isAgg 22).run Try.prog w = .ok false w := plain_of Try.underlying22 rfl
theorem plain_lu8 : ∀ w, (isAgg 23).run Try.prog w = .ok false w := plain_of Try.underlying23 rfl
theorem so_val : SliceOf Try.prog 22 30 (.agg #[.int .i64 0, .int .i64 0]) 2 16 := ⟨Try.underlying22, by kernel_rfl, rfl, by decide, by decide, by decide⟩
theorem ag_val : AggOf Try.prog 30 2 := ⟨⟨_, Try.underlying30, rfl⟩, by kernel_rfl⟩
theorem ag_obj : AggOf Try.prog 25 3 := ⟨⟨_, Try.underlying25, rfl⟩, by kernel_rfl⟩

theorem clone_vals (S : Nat → Prop) (A : Option Addr) (c : Nat) (l : List VL) (w : World) (h : RdV w S A l) (hb : l.length * 16 ≤ 211106232532992) :
    Calls Try.prog 41 #[.slice A l.length c] w fun e w' => ∃ v, e = .returned v ∧ w'.ownsRow w.heap.size 30 2 v l.length (vals l) ∧ Fr No w w' := by
  have hle := h.le
  have E := fun (w : World) (a : Option Addr) (n c n' c' : Nat) => Lib.run_eql_slice_nil (P := Try.prog) w 22 30 a n c n' c' Try.underlying22
  cases A with
  | none =>
    obtain rfl : l = [] := by
      cases l with
      | nil => rfl
      | cons x l => obtain ⟨g, o, hA, _⟩ := h.at_ (k := 0) (by simp); cases hA
    go_enter Try.func41, Try.ntmps41
    go_wp2
    go_ret
    exact ⟨_, rfl, World.ownsRow_nil _ _ _ _, Fr.refl _ _⟩
  | some ad =>
    go_enter Try.func41, Try.ntmps41
    go_wp2_with (refine wpList_app so_val (World.ownsRow_made w #[] 0 (Nat.le_refl _) (Nat.zero_le _) rfl) (Rd.alloc h _) (vals_one _) (by omega) (by simp) rfl rfl rfl rfl ?_; intro v2 w2 hown2 hg2 hat2)
    go_ret
    exact ⟨v2, rfl, by simpa using hown2, ((Fr.refl No w).alloc _).grown hg2 (by simp [Value.ownBlock])⟩
theorem clone_bytes (S : Nat → Prop) (A : Option Addr) (c : Nat) (l : List UInt8) (w : World) (h : RdB w S A l) :
    Calls Try.prog 42 #[.slice A l.length c] w fun e w' => ∃ v, e = .returned v ∧ w'.ownsRow w.heap.size 5 1 v l.length (U8 l) ∧ Fr No w w' := by
  have hle := h.le
  have E := fun (w : World) (a : Option Addr) (n c n' c' : Nat) => Lib.run_eql_slice_nil (P := Try.prog) w 23 5 a n c n' c' Try.underlying23
  cases A with
  | none =>
    obtain rfl : l = [] := by
      cases l with
      | nil => rfl
      | cons x l => obtain ⟨ad, hA, _⟩ := RdB.at_ h (k := 0) (by simp); cases hA
    go_enter Try.func42, Try.ntmps42
    go_wp2
    go_ret
    exact ⟨_, rfl, World.ownsRow_nil _ _ _ _, Fr.refl _ _⟩
  | some ad =>
    go_enter Try.func42, Try.ntmps42
    go_wp2_with (refine wpList_app so_u8 (World.ownsRow_made w #[] 0 (Nat.le_refl _) (Nat.zero_le _) rfl) (Rd.alloc h _) (U8_one _) (by omega) (by simp) rfl rfl rfl rfl ?_; intro v2 w2 hown2 hg2 hat2)
    go_ret
    exact ⟨v2, rfl, by simpa using hown2, ((Fr.refl No w).alloc _).grown hg2 (by simp [Value.ownBlock])⟩
end Go.Proofs.Ytgchpfennbggoaa
namespace Go.Proofs.Ytgchpfennbggoaa
set_option linter.unusedVariables false
set_option linter.unusedSimpArgs false
open Go.ChangeShapes Go.WideShapes Go.ChangeAt Go.RowKit

set_option maxRecDepth 100000 in
theorem opens_int {t : TypeId} {k : IntKind} (ht : Try.prog.underlying t = some (.int k)) : Opens Try.prog t (fun _ cs (x : Int) => cs = [.int k x] ∧ (Lit.int k x).wf = true) (fun _ => 1) := by
  intro H enc w sp held fuel cs x h _
  obtain ⟨n, rfl, rfl, hw⟩ := DataW.trod_int ht h
  exact ⟨n, ⟨rfl, hw⟩, bulk_pos _⟩
set_option maxRecDepth 100000 in
theorem opens_bool {t : TypeId} (ht : Try.prog.underlying t = some .bool) : Opens Try.prog t (fun _ cs (x : Bool) => cs = [.bool x]) (fun _ => 1) := by
  intro H enc w sp held fuel cs x h _
  obtain ⟨b, h1, h2⟩ := DataW.trod_bool ht h
  exact ⟨b, h1, bulk_pos _⟩
theorem wf_i64 {x : Int} (h : (Lit.int .i64 x).wf = true) : -9223372036854775808 ≤ x ∧ x ≤ 9223372036854775807 := by simpa [Lit.wf, IntKind.min, IntKind.max, IntKind.signed, IntKind.bits] using h
theorem wf_u8 {x : Int} (h : (Lit.int .u8 x).wf = true) : 0 ≤ x ∧ x ≤ 255 := by simpa [Lit.wf, IntKind.min, IntKind.max, IntKind.signed, IntKind.bits] using h
def VWf (v : VL) : Prop := (-9223372036854775808 ≤ v.k ∧ v.k ≤ 9223372036854775807) ∧ -9223372036854775808 ≤ v.n ∧ v.n ≤ 9223372036854775807
set_option maxRecDepth 100000 in
theorem opens_byte : Opens Try.prog 5 (fun _ cs (x : UInt8) => cs = [.int .u8 (x.toNat : Int)]) (fun _ => 1) := by
  intro H enc w sp held fuel cs x h hw
  obtain ⟨n, ⟨rfl, hn⟩, hb⟩ := opens_int Try.underlying5 H enc w sp held fuel cs x h hw
  have hr := wf_u8 hn
  refine ⟨UInt8.ofNat n.toNat, ?_, hb⟩
  show [Value.int .u8 n] = [Value.int .u8 ((UInt8.ofNat n.toNat).toNat : Int)]
  rw [UInt8.toNat_ofNat']
  congr 2; omega
theorem sum_ones {α : Type} (l : List α) : (l.map (fun _ => 1)).sum = l.length := by induction l with | nil => rfl | cons x l ih => rw [List.map_cons, List.sum_cons, ih, List.length_cons]; omega
set_option maxRecDepth 100000 in
theorem opens_u8s : Opens Try.prog 23 (fun w cs (l : List UInt8) => (∃ A c, cs = [.slice A l.length c] ∧ RdB w (fun b => b < w.heap.size) A l ∧ l.length ≤ c ∧ c ≤ maxLen) ∧ l.length ≤ reachBytes) (fun l => l.length + 1) := by
  intro H enc w sp held fuel cs x h hw
  obtain ⟨ys, ⟨⟨A, c, css, rfl, hrd, hall, hc, hm⟩, h8⟩, hb⟩ := opens_list Try.underlying23 (size := 1) (bytes := 1) (by kernel_rfl) (by kernel_rfl) (by decide) (by decide) opens_byte (fun w cs y hy => by rw [hy]; rfl) H enc w sp held fuel cs x h hw
  have key : ∀ (css : List (List Value)) (ys : List UInt8), All2 (fun cs (x : UInt8) => cs = [Value.int .u8 (x.toNat : Int)]) css ys → css.flatten = U8 ys := by
    intro css
    induction css with
    | nil => intro ys h; cases ys with
      | nil => rfl
      | cons y ys => exact h.elim
    | cons c0 css ih => intro ys h; cases ys with
      | nil => exact h.elim
      | cons y ys => rw [List.flatten_cons, ih ys h.2, h.1]; rfl
  rw [key css ys hall] at hrd
  simp only at hb
  rw [sum_ones] at hb
  exact ⟨ys, ⟨⟨A, c, rfl, hrd, hc, hm⟩, by omega⟩, hb⟩
set_option maxRecDepth 100000 in
theorem opens_val : Opens Try.prog 30 (fun _ cs (v : VL) => cs = vcells v ∧ VWf v) (fun _ => 1) := by
  intro H enc w sp held fuel cs x h hw
  have hu := Try.underlying30
  obtain ⟨xs, n, _, rfl, hl, hxl, hf⟩ := DataW.trod_struct hu h
  have hc2 : Try.prog.cellsOf 30 = 2 := by kernel_rfl
  have hi1 : Try.prog.cellsOf 3 = 1 := by kernel_rfl
  have hi2 : Try.prog.cellsOf 2 = 1 := by kernel_rfl
  rw [hc2] at hl
  have f0 := hf 0 _ rfl
  have f1 := hf 1 _ rfl
  match cs, hl with
  | [c0, c1], _ =>
  match xs, hxl with
  | [x0, x1], _ =>
  simp only [hi1, hi2, List.drop_zero, List.drop_succ_cons, List.take_succ_cons, List.take_zero, List.getElem?_cons_zero, List.getElem?_cons_succ] at f0 f1
  obtain ⟨a0, e0, _, w0⟩ := DataW.trod_int Try.underlying3 f0
  obtain ⟨a1, e1, _, w1⟩ := DataW.trod_int Try.underlying2 f1
  injection e0 with e0 _
  injection e1 with e1 _
  subst e0 e1
  exact ⟨⟨a0, a1⟩, ⟨rfl, wf_i64 w0, wf_i64 w1⟩, bulk_pos _⟩
set_option maxRecDepth 100000 in
theorem opens_vals : Opens Try.prog 22 (fun w cs (l : List VL) => (∃ A c, cs = [.slice A l.length c] ∧ RdV w (fun b => b < w.heap.size) A l ∧ l.length ≤ c ∧ c ≤ maxLen) ∧ (∀ v ∈ l, VWf v) ∧ l.length * 16 ≤ reachBytes) (fun l => l.length + 1) := by
  intro H enc w sp held fuel cs x h hw
  obtain ⟨ys, ⟨⟨A, c, css, rfl, hrd, hall, hc, hm⟩, h8⟩, hb⟩ := opens_list Try.underlying22 (size := 2) (bytes := 16) (by kernel_rfl) (by kernel_rfl) (by decide) (by decide) opens_val (fun w cs y hy => by rw [hy.1]; rfl) H enc w sp held fuel cs x h hw
  have key : ∀ (css : List (List Value)) (ys : List VL), All2 (fun cs (v : VL) => cs = vcells v ∧ VWf v) css ys → css.flatten = vals ys ∧ ∀ v ∈ ys, VWf v := by
    intro css
    induction css with
    | nil => intro ys h; cases ys with
      | nil => exact ⟨rfl, fun v hv => by cases hv⟩
      | cons y ys => exact h.elim
    | cons c0 css ih => intro ys h; cases ys with
      | nil => exact h.elim
      | cons y ys =>
        obtain ⟨h1, h2⟩ := ih ys h.2
        refine ⟨by rw [List.flatten_cons, h1, h.1.1]; rfl, fun v hv => ?_⟩
        rcases List.mem_cons.1 hv with rfl | hv
        · exact h.1.2
        · exact h2 v hv
  obtain ⟨k1, k2⟩ := key css ys hall
  rw [k1] at hrd
  simp only at hb
  rw [sum_ones] at hb
  exact ⟨ys, ⟨⟨A, c, rfl, hrd, hc, hm⟩, k2, h8⟩, hb⟩
/-- What an object's cells read as. -/
def ObjR (w : World) (cs : List Value) (o : ObjM) : Prop :=
  ObjC w (fun b => b < w.heap.size) cs o ∧ (o.slots.length * 16 ≤ 140737488351232 ∧ o.bytes.length ≤ 140737488351232) ∧ (∀ v ∈ o.slots, VWf v) ∧ -9223372036854775808 ≤ o.cls ∧ o.cls ≤ 9223372036854775807
theorem ObjC.len {w : World} {S : Nat → Prop} {cs : List Value} {o : ObjM} (h : ObjC w S cs o) : cs.length = 3 := by
  obtain ⟨A, c, B, c2, rfl, _⟩ := h; rfl
set_option maxRecDepth 100000 in
theorem opens_obj : Opens Try.prog 25 ObjR (fun o => o.slots.length + o.bytes.length + 2) := by
  intro H enc w sp held fuel cs x h hw
  have hu := Try.underlying25
  obtain ⟨xs, n, _, rfl, hl, hxl, hf⟩ := DataW.trod_struct hu h
  have hc3 : Try.prog.cellsOf 25 = 3 := by kernel_rfl
  have hi1 : Try.prog.cellsOf 2 = 1 := by kernel_rfl
  have hi2 : Try.prog.cellsOf 22 = 1 := by kernel_rfl
  have hi3 : Try.prog.cellsOf 23 = 1 := by kernel_rfl
  rw [hc3] at hl
  have f0 := hf 0 _ rfl
  have f1 := hf 1 _ rfl
  have f2 := hf 2 _ rfl
  match cs, hl with
  | [c0, c1, c2], _ =>
  match xs, hxl with
  | [x0, x1, x2], _ =>
  simp only [hi1, hi2, hi3, List.drop_zero, List.drop_succ_cons, List.take_succ_cons, List.take_zero, List.getElem?_cons_zero, List.getElem?_cons_succ] at f0 f1 f2
  have hw' : ∀ m, (m ∈ DataW.weights Try.prog 22 x1.1 ∨ m ∈ DataW.weights Try.prog 23 x2.1) → m ≤ reachBytes := by
    intro m hm
    refine hw m ?_
    simp only [DataW.weights, hu, DataW.weightsEach, List.map_cons, List.map_nil, List.mem_append]
    rcases hm with hm | hm
    · exact .inr (.inl hm)
    · exact .inr (.inr (.inl hm))
  obtain ⟨a0, e0, _, w0⟩ := DataW.trod_int Try.underlying2 f0
  obtain ⟨vs, ⟨⟨Av, cv, e1, hv, _, _⟩, wv, v8⟩, bv⟩ := opens_vals H enc w sp held n [c1] x1 f1 (fun m hm => hw' m (.inl hm))
  obtain ⟨bs, ⟨⟨Ab, cb, e2, hbr, _, _⟩, b8⟩, bb⟩ := opens_u8s H enc w sp held n [c2] x2 f2 (fun m hm => hw' m (.inr hm))
  injection e0 with e0 _
  injection e1 with e1 _
  injection e2 with e2 _
  subst e0 e1 e2
  refine ⟨⟨a0, vs, bs⟩, ⟨⟨Av, cv, Ab, cb, rfl, hv, hbr⟩, ⟨by simpa [reachBytes] using v8, by simpa [reachBytes] using b8⟩, wv, wf_i64 w0⟩, ?_⟩
  have := bulk_pos x0.1
  simp only at bv bb
  simp only [List.map_cons, List.map_nil, Rows.uptoBulk, Rows.uptoBulkAll]
  omega
section
variable {H : Type} {enc : TypeId × Value → H} {W : World} {held : Bool}
theorem weights_of {ts : List TypeId} {ds : List (DataW H)} (hsz : (DataW.weightsEach Try.prog ts ds).all (· ≤ reachBytes) = true) {j : Nat} {t : TypeId} {d : DataW H} (ht : ts[j]? = some t) (hd : ds[j]? = some d) : ∀ n ∈ DataW.weights Try.prog t d, n ≤ reachBytes :=
  fun n hn => by have := List.all_eq_true.1 hsz _ (DataW.weights_mem_each ht hd n hn); simpa using this
theorem open_obj {ts : List TypeId} {ds : List (DataW H)} (hsz : (DataW.weightsEach Try.prog ts ds).all (· ≤ reachBytes) = true) {j : Nat} {v : Value} {d : DataW H} {p : List MemPlace}
    (ht : ts[j]? = some 25) (hd : ds[j]? = some d) (h : DataW.Trod enc Try.prog W 0 (fun _ => true) held 25 v d p) :
    ∃ (cs : List Value) (o : ObjM), v = .agg cs.toArray ∧ ObjR W cs o ∧ o.slots.length + o.bytes.length + 2 ≤ Rows.uptoBulk d := by
  obtain ⟨fuel, hf⟩ := h
  obtain ⟨o, h1, h3⟩ := opens_obj H enc W (fun _ => true) held fuel _ _ hf (weights_of hsz ht hd)
  have hl := h1.1.len
  cases v with
  | agg cs => exact ⟨cs.toList, o, rfl, h1, h3⟩
  | _ => simp [Value.cells] at hl
theorem open_val {ts : List TypeId} {ds : List (DataW H)} (hsz : (DataW.weightsEach Try.prog ts ds).all (· ≤ reachBytes) = true) {j : Nat} {v : Value} {d : DataW H} {p : List MemPlace}
    (ht : ts[j]? = some 30) (hd : ds[j]? = some d) (h : DataW.Trod enc Try.prog W 0 (fun _ => true) held 30 v d p) :
    ∃ x : VL, v = .agg #[.int .i64 x.k, .int .i64 x.n] ∧ VWf x := by
  obtain ⟨fuel, hf⟩ := h
  obtain ⟨x, ⟨h1, h2⟩, h3⟩ := opens_val H enc W (fun _ => true) held fuel _ _ hf (weights_of hsz ht hd)
  have hl : v.cells.toList.length = 2 := by rw [h1]; rfl
  cases v with
  | agg cs =>
    refine ⟨x, ?_, h2⟩
    have e : cs.toList = vcells x := h1
    rw [← Array.toArray_toList (xs := cs), e]; rfl
  | _ => simp [Value.cells] at hl
theorem open_u8s {ts : List TypeId} {ds : List (DataW H)} (hsz : (DataW.weightsEach Try.prog ts ds).all (· ≤ reachBytes) = true) {j : Nat} {v : Value} {d : DataW H} {p : List MemPlace}
    (ht : ts[j]? = some 23) (hd : ds[j]? = some d) (h : DataW.Trod enc Try.prog W 0 (fun _ => true) held 23 v d p) (hv : ∃ A n c, v = .slice A n c) :
    ∃ (A : Option Addr) (c : Nat) (l : List UInt8), v = .slice A l.length c ∧ RdB W (fun b => b < W.heap.size) A l ∧ l.length ≤ 140737488351232 ∧ l.length ≤ c ∧ c ≤ maxLen ∧ l.length < Rows.uptoBulk d := by
  obtain ⟨A, n, c, rfl⟩ := hv
  obtain ⟨fuel, hf⟩ := h
  obtain ⟨l, ⟨⟨A', c', e, h1, h2, h3⟩, h5⟩, h6⟩ := opens_u8s H enc W (fun _ => true) held fuel _ _ hf (weights_of hsz ht hd)
  simp [Value.cells] at e
  obtain ⟨rfl, rfl, rfl⟩ := e
  exact ⟨_, _, l, rfl, h1, by simpa [reachBytes] using h5, h2, h3, h6⟩
end
end Go.Proofs.Ytgchpfennbggoaa
namespace Go.Proofs.Ytgchpfennbggoaa
set_option linter.unusedVariables false
set_option linter.unusedSimpArgs false
open Go.RowKit

/-- An object's cells with rows of its own, from B on. -/
def ObjOwn (w : World) (B : Nat) (cs : List Value) (o : ObjM) : Prop :=
  ∃ A c D c2 M, cs = [.int .i64 o.cls, .slice A o.slots.length c, .slice D o.bytes.length c2] ∧ w.ownsRow B 30 2 (.slice A o.slots.length c) o.slots.length (vals o.slots) ∧ (∀ b, (Value.slice A o.slots.length c).ownBlock = some b → b < M) ∧ w.ownsRow M 5 1 (.slice D o.bytes.length c2) o.bytes.length (U8 o.bytes) ∧ B ≤ M
theorem ObjOwn.rd {w : World} {B : Nat} {cs : List Value} {o : ObjM} (h : ObjOwn w B cs o) (h1 : o.slots.length ≤ 211106232532992) (h2 : o.bytes.length ≤ 211106232532992) : ObjC w (fun b => B ≤ b) cs o := by
  obtain ⟨A, c, D, c2, M, rfl, hs, hM, hb, hBM⟩ := h
  obtain ⟨A', c', e, _, _, hA⟩ := own_form hs
  injection e with e1 e2 e3
  subst e1 e3
  obtain ⟨D', d', e, _, _, hD⟩ := own_form hb
  injection e with e1 e2 e3
  subst e1 e3
  exact ⟨A, c, D, c2, rfl, (own_rd hs h1).mono (fun b _ hb' => (hs.lt b ((hA b).2 hb')).1) (by decide), (own_rd hb h2).mono (fun b _ hb' => by have := (hb.lt b ((hD b).2 hb')).1; omega) (by decide)⟩
set_option maxHeartbeats 2000000 in
set_option maxRecDepth 100000 in
theorem ocopy_calls (S : Nat → Prop) (cs : List Value) (o : ObjM) (w : World) (h : ObjC w S cs o) (h1 : o.slots.length * 16 ≤ 211106232532992) :
    Calls Try.prog 25 #[.agg cs.toArray] w fun e w' => ∃ cs' : List Value, e = .returned (.agg cs'.toArray) ∧ ObjOwn w' w.heap.size cs' o ∧ Fr No w w' := by
  obtain ⟨A, c, D, c2, rfl, hs, hb⟩ := h
  have g1 := plain_i64
  have g2 := plain_lval
  have g3 := plain_lu8
  have hle1 := hs.le
  have hle2 := RdB.le hb
  go_enter Try.func25, Try.ntmps25
  go_wp2_with fail
  have hbx : Blk ((w.alloc (.cells #[.int .i64 o.cls, .slice A o.slots.length c, .slice D o.bytes.length c2] 25)).alloc (.cells #[.int .i64 0, .slice none 0 0, .slice none 0 0] 25)) w.heap.size 25 #[.int .i64 o.cls, .slice A o.slots.length c, .slice D o.bytes.length c2] := (Blk.new w _ _).alloc _
  have hbr : Blk ((w.alloc (.cells #[.int .i64 o.cls, .slice A o.slots.length c, .slice D o.bytes.length c2] 25)).alloc (.cells #[.int .i64 0, .slice none 0 0, .slice none 0 0] 25)) (w.heap.size + 1) 25 #[.int .i64 0, .slice none 0 0, .slice none 0 0] := Blk.newAt (by simp)
  have hf1 : Fr No w ((w.alloc (.cells #[.int .i64 o.cls, .slice A o.slots.length c, .slice D o.bytes.length c2] 25)).alloc (.cells #[.int .i64 0, .slice none 0 0, .slice none 0 0] 25)) := ((Fr.refl No w).alloc _).alloc _
  generalize hw1 : ((w.alloc (.cells #[.int .i64 o.cls, .slice A o.slots.length c, .slice D o.bytes.length c2] 25)).alloc (.cells #[.int .i64 0, .slice none 0 0, .slice none 0 0] 25)) = w1 at *
  clear hw1
  have q0 := hbx.cell 0
  have q1 := hbx.cell 1
  have q2 := hbx.cell 2
  simp only [List.getElem?_toArray, List.getElem?_cons_zero, List.getElem?_cons_succ] at q0 q1 q2
  have hs1 := hf1.size
  have hl1 := hbr.lt
  have hnx : ¬ (w.heap.size = w.heap.size + 1) := by omega
  (refine T_begin (fun b => b = w.heap.size + 1) [0, 1, 2, 3, 5, 6, 4, 7, 8, 9] [4, 7, 9] (by kernel_rfl) (by kernel_rfl) ?_; simp only [pickOps, List.filterMap_cons, List.filterMap_nil, List.getElem?_cons_zero, List.getElem?_cons_succ, Act.put])
  repeat (first | (refine T_skip (by rfl) (by rfl) (fun _ _ _ h => h) ?_; try simp only [Act.put, List.setIfInBounds_toArray, List.set_cons_zero, List.set_cons_succ]) | (refine T_pass (by rfl) (by rfl) ?_; try simp only [Act.put, List.setIfInBounds_toArray, List.set_cons_zero, List.set_cons_succ]) | (refine T_load (by assumption) (by rfl) (by rfl) (fun _ _ _ _ h => h) rfl rfl (by assumption) (by first | exact (fun hn => hn) | assumption) ?_; try simp only [Act.put, List.setIfInBounds_toArray, List.set_cons_zero, List.set_cons_succ]) | (refine T_nil (by rfl) (by rfl) (fun _ _ _ _ h => h) rfl rfl ?_; try simp only [Act.put, List.setIfInBounds_toArray, List.set_cons_zero, List.set_cons_succ]) | (refine T_quietN (by rfl) (by rfl) (by rfl) (by rfl) (fun _ _ _ _ h => h) (fun K hK => ?_); go_big_quiet_op; refine hK _ ?_; clear hK K) | (refine T_two (by rfl) (by rfl) (by rfl) (by rfl) (fun _ _ _ _ h => h) (fun K hK => ?_); go_big_quiet_op; refine ⟨_, fun _ _ => rfl, ?_⟩; refine hK _ ?_; clear hK K; try simp only [Act.put, List.setIfInBounds_toArray, List.set_cons_zero, List.set_cons_succ]) | fail)
  (refine T_call (by rfl) (by rfl) (fun K hK => ?_); go_wp2_with fail)
  refine (clone_vals S A c o.slots _ (Rd.fr0 hs hf1.drew) h1).mono ?_
  rintro e w2 ⟨v2, rfl, hown2, hf2⟩
  obtain ⟨A2, c2', rfl, hc2, _, hA2⟩ := own_form hown2
  replace hown2 : w2.ownsRow w1.heap.size 30 2 (.slice A2 o.slots.length c2') o.slots.length (vals o.slots) := hown2
  have hf2' : Fr No w1 w2 := (Fr.refl No w1).drew.tr hf2
  (refine hK.out _ _ ((hf2.mono (fun _ _ hn => hn.elim))) ?_; clear hK K; try simp only [Act.put, List.setIfInBounds_toArray, List.set_cons_zero, List.set_cons_succ])
  repeat (first | (refine T_skip (by rfl) (by rfl) (fun _ _ _ h => h) ?_; try simp only [Act.put, List.setIfInBounds_toArray, List.set_cons_zero, List.set_cons_succ]) | (refine T_pass (by rfl) (by rfl) ?_; try simp only [Act.put, List.setIfInBounds_toArray, List.set_cons_zero, List.set_cons_succ]) | (refine T_load (by assumption) (by rfl) (by rfl) (fun _ _ _ _ h => h) rfl rfl (by assumption) (by first | exact (fun hn => hn) | assumption) ?_; try simp only [Act.put, List.setIfInBounds_toArray, List.set_cons_zero, List.set_cons_succ]) | (refine T_nil (by rfl) (by rfl) (fun _ _ _ _ h => h) rfl rfl ?_; try simp only [Act.put, List.setIfInBounds_toArray, List.set_cons_zero, List.set_cons_succ]) | (refine T_quietN (by rfl) (by rfl) (by rfl) (by rfl) (fun _ _ _ _ h => h) (fun K hK => ?_); go_big_quiet_op; refine hK _ ?_; clear hK K) | (refine T_two (by rfl) (by rfl) (by rfl) (by rfl) (fun _ _ _ _ h => h) (fun K hK => ?_); go_big_quiet_op; refine ⟨_, fun _ _ => rfl, ?_⟩; refine hK _ ?_; clear hK K; try simp only [Act.put, List.setIfInBounds_toArray, List.set_cons_zero, List.set_cons_succ]) | fail)
  (refine T_call (by rfl) (by rfl) (fun K hK => ?_); go_wp2_with fail)
  refine (clone_bytes S D c2 o.bytes _ (Rd.fr0 hb (hf1.tr hf2'))).mono ?_
  rintro e w3 ⟨v3, rfl, hown3, hf3⟩
  obtain ⟨A3, c3, rfl, hc3, _, hA3⟩ := own_form hown3
  (refine hK.out _ _ ((hf3.mono (fun _ _ hn => hn.elim))) ?_; clear hK K; try simp only [Act.put, List.setIfInBounds_toArray, List.set_cons_zero, List.set_cons_succ])
  repeat (first | (refine T_skip (by rfl) (by rfl) (fun _ _ _ h => h) ?_; try simp only [Act.put, List.setIfInBounds_toArray, List.set_cons_zero, List.set_cons_succ]) | (refine T_pass (by rfl) (by rfl) ?_; try simp only [Act.put, List.setIfInBounds_toArray, List.set_cons_zero, List.set_cons_succ]) | (refine T_load (by assumption) (by rfl) (by rfl) (fun _ _ _ _ h => h) rfl rfl (by assumption) (by first | exact (fun hn => hn) | assumption) ?_; try simp only [Act.put, List.setIfInBounds_toArray, List.set_cons_zero, List.set_cons_succ]) | (refine T_nil (by rfl) (by rfl) (fun _ _ _ _ h => h) rfl rfl ?_; try simp only [Act.put, List.setIfInBounds_toArray, List.set_cons_zero, List.set_cons_succ]) | (refine T_quietN (by rfl) (by rfl) (by rfl) (by rfl) (fun _ _ _ _ h => h) (fun K hK => ?_); go_big_quiet_op; refine hK _ ?_; clear hK K) | (refine T_two (by rfl) (by rfl) (by rfl) (by rfl) (fun _ _ _ _ h => h) (fun K hK => ?_); go_big_quiet_op; refine ⟨_, fun _ _ => rfl, ?_⟩; refine hK _ ?_; clear hK K; try simp only [Act.put, List.setIfInBounds_toArray, List.set_cons_zero, List.set_cons_succ]) | fail)
  have hbr3 := (hbr.fr0 hf2').fr0 hf3
  refine T_call (by rfl) (by rfl) (fun K hK => ?_)
  refine wp_stA ag_obj.info _ _ rfl (w.heap.size + 1) 0 _ _ [.int .i64 o.cls, .slice A2 o.slots.length c2', .slice A3 o.bytes.length c3] _ rfl rfl rfl rfl (by intro u hu; simp at hu; rcases hu with rfl | rfl | rfl <;> rfl) hbr3 (by decide) ?_
  intro w4 hb4 hg4 hz4
  rw [splice_all _ _ (by rfl)] at hb4
  refine hK.out _ _ ((Fr.refl _ _).grown hg4 (fun q hq => by injection hq with hq; exact .inr hq.symm)) ?_
  clear hK K
  try simp only [Act.put, List.setIfInBounds_toArray, List.set_cons_zero, List.set_cons_succ]
  refine T_done ?_
  go_wp2_with fail
  have hs2 := hf2'.size
  have hf34 : Fr (fun b => b = w.heap.size + 1) w3 w4 := (Fr.refl (fun b => b = w.heap.size + 1) w3).grown hg4 (fun q hq => by injection hq with hq; exact .inr hq.symm)
  refine bodyPost_ret (results_blk ag_obj rfl _ _ _ _ _ rfl hb4 rfl) rfl ⟨_, rfl, ⟨A2, c2', A3, c3, w2.heap.size, rfl, ?_, fun b hb => (hown2.lt b hb).2, ?_, by omega⟩, ((hf1.tr hf2').tr hf3).trans hf34 (fun b hb hT => by omega)⟩
  · exact own_down (own_fr (own_fr0 hown2 hf3) hf34 (fun b hb hT => by have := (hown2.lt b hb).1; omega)) (by omega)
  · exact own_fr hown3 hf34 (fun b hb hT => by have := (hown3.lt b hb).1; omega)
end Go.Proofs.Ytgchpfennbggoaa
namespace Go.Proofs.Ytgchpfennbggoaa
set_option linter.unusedVariables false
set_option linter.unusedSimpArgs false
open Go.RowKit

set_option maxHeartbeats 2000000 in
set_option maxRecDepth 100000 in
theorem same_calls (S T : Nat → Prop) (cs cs2 : List Value) (o : ObjM) (w : World) (h : ObjC w S cs o) (h2 : ObjC w T cs2 o) :
    Calls Try.prog 11 #[.agg cs.toArray, .agg cs2.toArray] w fun e w' => e = .returned (.bool true) ∧ Fr No w w' := by
  obtain ⟨A, c, D, d, rfl, hs, hb⟩ := h
  obtain ⟨A2, c2, D2, d2, rfl, hs2, hb2⟩ := h2
  have g2 := plain_lval
  have hle1 := hs.le
  have hle2 := RdB.le hb
  go_enter Try.func11, Try.ntmps11
  have hf1 : Fr No w ((w.alloc (.cells #[.int .i64 o.cls, .slice A o.slots.length c, .slice D o.bytes.length d] 25)).alloc (.cells #[.int .i64 o.cls, .slice A2 o.slots.length c2, .slice D2 o.bytes.length d2] 25)) := ((Fr.refl No w).alloc _).alloc _
  have hbx : Blk ((w.alloc (.cells #[.int .i64 o.cls, .slice A o.slots.length c, .slice D o.bytes.length d] 25)).alloc (.cells #[.int .i64 o.cls, .slice A2 o.slots.length c2, .slice D2 o.bytes.length d2] 25)) w.heap.size 25 #[.int .i64 o.cls, .slice A o.slots.length c, .slice D o.bytes.length d] := (Blk.new w _ _).alloc _
  have hby : Blk ((w.alloc (.cells #[.int .i64 o.cls, .slice A o.slots.length c, .slice D o.bytes.length d] 25)).alloc (.cells #[.int .i64 o.cls, .slice A2 o.slots.length c2, .slice D2 o.bytes.length d2] 25)) (w.heap.size + 1) 25 #[.int .i64 o.cls, .slice A2 o.slots.length c2, .slice D2 o.bytes.length d2] := Blk.newAt (by simp)
  go_wp2_with (first
    | (refine wpList_str Try.underlying23 Try.underlying5 Try.underlying9 rfl (.tmp 22) rfl rfl rfl (Rd.fr0 hb hf1) ?_)
    | (refine wpList_str Try.underlying23 Try.underlying5 Try.underlying9 rfl (.tmp 25) rfl rfl rfl (Rd.fr0 hb2 hf1) ?_)
    | fail)
  generalize hw1 : ((w.alloc (.cells #[.int .i64 o.cls, .slice A o.slots.length c, .slice D o.bytes.length d] 25)).alloc (.cells #[.int .i64 o.cls, .slice A2 o.slots.length c2, .slice D2 o.bytes.length d2] 25)) = w1 at *
  clear hw1
  have hs1 := Rd.fr0 hs hf1
  have hs21 := Rd.fr0 hs2 hf1
  have hl1 := hby.lt
  go_loopw [5] (fun i wr => ∃ k : Nat, k ≤ o.slots.length ∧ i = .int .i64 (k : Int) ∧ Fr No w1 wr) (fun i _ => o.slots.length - (intOf i).toNat)
  case atStart => exact ⟨0, by omega, rfl, Fr.refl _ _⟩
  case round =>
    obtain ⟨k, hk, rfl, hf⟩ := hrel
    have q1 := (hbx.fr0 hf).cell 1
    have y1 := (hby.fr0 hf).cell 1
    simp only [List.getElem?_toArray, List.getElem?_cons_zero, List.getElem?_cons_succ] at q1 y1
    by_cases hlt : k < o.slots.length
    · have ek : decide ((k : Int) < o.slots.length) = true := by simpa using (by omega : (k : Int) < o.slots.length)
      obtain ⟨g, of, rfl, _, _, _, hv⟩ := RdV.at_ (Rd.fr0 hs1 hf) hlt
      obtain ⟨g', of', rfl, _, _, _, hv'⟩ := RdV.at_ (Rd.fr0 hs21 hf) hlt
      generalize o.slots[k] = x at *
      go_wp2_with fail
      (refine T_begin No [0, 1, 2, 3, 4, 5, 6, 7, 8, 9, 10] [] (by kernel_rfl) (by kernel_rfl) ?_; simp only [pickOps, List.filterMap_cons, List.filterMap_nil, List.getElem?_cons_zero, List.getElem?_cons_succ, Act.put])
      repeat (first | (refine T_skip (by rfl) (by rfl) (fun _ _ _ h => h) ?_; try simp only [Act.put, List.setIfInBounds_toArray, List.set_cons_zero, List.set_cons_succ]) | (refine T_pass (by rfl) (by rfl) ?_; try simp only [Act.put, List.setIfInBounds_toArray, List.set_cons_zero, List.set_cons_succ]) | (refine T_load (by assumption) (by rfl) (by rfl) (fun _ _ _ _ h => h) rfl rfl (by assumption) (by first | exact (fun hn => hn) | assumption) ?_; try simp only [Act.put, List.setIfInBounds_toArray, List.set_cons_zero, List.set_cons_succ]) | (refine T_nil (by rfl) (by rfl) (fun _ _ _ _ h => h) rfl rfl ?_; try simp only [Act.put, List.setIfInBounds_toArray, List.set_cons_zero, List.set_cons_succ]) | (refine T_quietN (by rfl) (by rfl) (by rfl) (by rfl) (fun _ _ _ _ h => h) (fun K hK => ?_); go_big_quiet_op; refine hK _ ?_; clear hK K) | (refine T_two (by rfl) (by rfl) (by rfl) (by rfl) (fun _ _ _ _ h => h) (fun K hK => ?_); go_big_quiet_op; refine ⟨_, fun _ _ => rfl, ?_⟩; refine hK _ ?_; clear hK K; try simp only [Act.put, List.setIfInBounds_toArray, List.set_cons_zero, List.set_cons_succ]) | fail)
      refine T_loadA (cs := vcells x) ag_val (by rfl) (by rfl) (fun _ _ _ _ h => h) rfl rfl rfl hv (fun hn => hn) ?_
      try simp only [Act.put, List.setIfInBounds_toArray, List.set_cons_zero, List.set_cons_succ]
      repeat (first | (refine T_skip (by rfl) (by rfl) (fun _ _ _ h => h) ?_; try simp only [Act.put, List.setIfInBounds_toArray, List.set_cons_zero, List.set_cons_succ]) | (refine T_pass (by rfl) (by rfl) ?_; try simp only [Act.put, List.setIfInBounds_toArray, List.set_cons_zero, List.set_cons_succ]) | (refine T_load (by assumption) (by rfl) (by rfl) (fun _ _ _ _ h => h) rfl rfl (by assumption) (by first | exact (fun hn => hn) | assumption) ?_; try simp only [Act.put, List.setIfInBounds_toArray, List.set_cons_zero, List.set_cons_succ]) | (refine T_nil (by rfl) (by rfl) (fun _ _ _ _ h => h) rfl rfl ?_; try simp only [Act.put, List.setIfInBounds_toArray, List.set_cons_zero, List.set_cons_succ]) | (refine T_quietN (by rfl) (by rfl) (by rfl) (by rfl) (fun _ _ _ _ h => h) (fun K hK => ?_); go_big_quiet_op; refine hK _ ?_; clear hK K) | (refine T_two (by rfl) (by rfl) (by rfl) (by rfl) (fun _ _ _ _ h => h) (fun K hK => ?_); go_big_quiet_op; refine ⟨_, fun _ _ => rfl, ?_⟩; refine hK _ ?_; clear hK K; try simp only [Act.put, List.setIfInBounds_toArray, List.set_cons_zero, List.set_cons_succ]) | fail)
      refine T_loadA (cs := vcells x) ag_val (by rfl) (by rfl) (fun _ _ _ _ h => h) rfl rfl rfl hv' (fun hn => hn) ?_
      try simp only [Act.put, List.setIfInBounds_toArray, List.set_cons_zero, List.set_cons_succ]
      unfold vcells
      repeat (first | (refine T_skip (by rfl) (by rfl) (fun _ _ _ h => h) ?_; try simp only [Act.put, List.setIfInBounds_toArray, List.set_cons_zero, List.set_cons_succ]) | (refine T_pass (by rfl) (by rfl) ?_; try simp only [Act.put, List.setIfInBounds_toArray, List.set_cons_zero, List.set_cons_succ]) | (refine T_load (by assumption) (by rfl) (by rfl) (fun _ _ _ _ h => h) rfl rfl (by assumption) (by first | exact (fun hn => hn) | assumption) ?_; try simp only [Act.put, List.setIfInBounds_toArray, List.set_cons_zero, List.set_cons_succ]) | (refine T_nil (by rfl) (by rfl) (fun _ _ _ _ h => h) rfl rfl ?_; try simp only [Act.put, List.setIfInBounds_toArray, List.set_cons_zero, List.set_cons_succ]) | (refine T_quietN (by rfl) (by rfl) (by rfl) (by rfl) (fun _ _ _ _ h => h) (fun K hK => ?_); go_big_quiet_op; refine hK _ ?_; clear hK K) | (refine T_two (by rfl) (by rfl) (by rfl) (by rfl) (fun _ _ _ _ h => h) (fun K hK => ?_); go_big_quiet_op; refine ⟨_, fun _ _ => rfl, ?_⟩; refine hK _ ?_; clear hK K; try simp only [Act.put, List.setIfInBounds_toArray, List.set_cons_zero, List.set_cons_succ]) | fail)
      refine T_done ?_
      go_wp2
      go_roundw
      case rel => exact ⟨k + 1, by omega, by go_num, hf.drew⟩
      case measure => simp [intOf]; omega
    · obtain rfl : k = o.slots.length := by omega
      have ek : decide ((o.slots.length : Int) < o.slots.length) = false := by simp
      go_wp2
      go_ret
      exact ⟨rfl, hf1.tr hf⟩
end Go.Proofs.Ytgchpfennbggoaa
namespace Go.Proofs.Ytgchpfennbggoaa
set_option linter.unusedVariables false
set_option linter.unusedSimpArgs false
open Go.RowKit

/-- What was done to an object. -/
structure OpM where
  oop : Int
  add : Bool
  v : VL
def opcells (p : OpM) : List Value := [.int .i64 p.oop, .bool p.add, .int .i64 p.v.k, .int .i64 p.v.n]
def opsC (l : List OpM) : List Value := l.flatMap opcells
def smallB (n : Int) : Bool := decide (-1152921504606846976 ≤ n) && decide (n < 1152921504606846976)
theorem small_yes (n : Int) (h : -1152921504606846976 ≤ n ∧ n < 1152921504606846976) (w : World) : Calls Try.prog 49 #[.int .i64 n] w fun e w' => e = .returned (.bool true) ∧ w = w' := by
  have e1 : decide (-1152921504606846976 ≤ n) = true := by simpa using h.1
  have e2 : decide (n < 1152921504606846976) = true := by simpa using h.2
  clear h
  go_enter Try.func49, Try.ntmps49
  go_wp2
  go_ret
  exact ⟨rfl, rfl⟩
theorem small_no (n : Int) (h : n < -1152921504606846976 ∨ 1152921504606846976 ≤ n) (w : World) : Calls Try.prog 49 #[.int .i64 n] w fun e w' => e = .returned (.bool false) ∧ w = w' := by
  rcases h with h | h
  · have e1 : decide (-1152921504606846976 ≤ n) = false := by simp; omega
    clear h
    go_enter Try.func49, Try.ntmps49
    go_wp2
    go_ret
    exact ⟨rfl, rfl⟩
  · have e1 : decide (-1152921504606846976 ≤ n) = true := by simp; omega
    have e2 : decide (n < 1152921504606846976) = false := by simp; omega
    clear h
    go_enter Try.func49, Try.ntmps49
    go_wp2
    go_ret
    exact ⟨rfl, rfl⟩
/-- What a number more comes to. -/
def countM (l : List VL) (p : OpM) : Option (List VL) :=
  match l with
  | [] => none
  | s :: r => if p.add = true ∧ p.v.k = 3 ∧ s.k = 3 ∧ (-1152921504606846976 ≤ s.n ∧ s.n < 1152921504606846976) ∧ p.v.n ≤ 2305843009213693952 ∧ -2305843009213693952 ≤ p.v.n ∧ (-1152921504606846976 ≤ s.n + p.v.n ∧ s.n + p.v.n < 1152921504606846976)
    then some (⟨s.k, s.n + p.v.n⟩ :: r) else none
theorem countM_three (xn n oop : Int) (r : List VL) : countM (⟨3, xn⟩ :: r) ⟨oop, true, ⟨3, n⟩⟩ = if (-1152921504606846976 ≤ xn ∧ xn < 1152921504606846976) ∧ n ≤ 2305843009213693952 ∧ -2305843009213693952 ≤ n ∧ (-1152921504606846976 ≤ xn + n ∧ xn + n < 1152921504606846976) then some (⟨3, xn + n⟩ :: r) else none := by
  simp [countM]
/-- An object's box, with rows of its own. -/
def BoxAt (w : World) (g : Nat) (B : Nat) (o : ObjM) : Prop :=
  ∃ A c D c2, Blk w g 25 #[.int .i64 o.cls, .slice A o.slots.length c, .slice D o.bytes.length c2] ∧ w.ownsRow B 30 2 (.slice A o.slots.length c) o.slots.length (vals o.slots) ∧ (∀ b, (Value.slice A o.slots.length c).ownBlock = some b → b ≠ g) ∧ RdB w (fun b => (b ≠ g ∧ (Value.slice A o.slots.length c).ownBlock ≠ some b) ∧ B ≤ b) D o.bytes
def DoneR (w : World) (g B : Nat) (o : ObjM) (r : Option (List VL)) (e : Ending) (w' : World) : Prop :=
  (r = none ∧ e = .returned (.bool false) ∧ BoxAt w' g B o ∧ Fr No w w') ∨ (∃ l, r = some l ∧ e = .returned (.bool true) ∧ BoxAt w' g B { o with slots := l } ∧ Fr (fun b => b = g ∨ B ≤ b) w w')
theorem own_put {w : World} {B size n c g : Nat} {e : TypeId} {xs : List Value} (h : w.ownsRow B e size (.slice (some ⟨g, 0, none⟩) n c) n xs) {j : Nat} (hj : j < xs.length) (v : Value) : (w.setCell ⟨g, j, none⟩ v).ownsRow B e size (.slice (some ⟨g, 0, none⟩) n c) n (xs.set j v) := by
  refine ⟨by rw [List.length_set]; exact h.1, ?_⟩
  rcases h.2 with ⟨hv, _⟩ | ⟨g', cap, cur, hv, h1, h2, h3, h4, h5, h6⟩
  · cases hv
  · injection hv with e1 e2 e3
    injection e1 with e1
    injection e1 with e1 _ _
    subst e1 e3
    refine .inr ⟨g, c, cur.setIfInBounds j v, rfl, h1, Blk.put h2 j v, h3, h4, by simpa using h5, ?_⟩
    rw [Array.toList_setIfInBounds, List.take_set, h6]
theorem own_blk {w : World} {B size n c g : Nat} {e : TypeId} {xs : List Value} (h : w.ownsRow B e size (.slice (some ⟨g, 0, none⟩) n c) n xs) : ∃ cur, Blk w g e cur := by
  rcases h.2 with ⟨hv, _⟩ | ⟨g', cap, cur, hv, h1, h2, h3, h4, h5, h6⟩
  · cases hv
  · injection hv with e1 e2 e3
    injection e1 with e1
    injection e1 with e1 _ _
    subst e1
    exact ⟨cur, h2⟩
theorem BoxAt.fr0 {w w' : World} {g B : Nat} {o : ObjM} (h : BoxAt w g B o) (hf : Fr No w w') : BoxAt w' g B o := by
  obtain ⟨A, c, D, c2, hb, ho, hg, hd⟩ := h
  exact ⟨A, c, D, c2, hb.fr0 hf, own_fr0 ho hf, hg, Rd.fr0 hd hf⟩

set_option maxHeartbeats 4000000 in
set_option maxRecDepth 100000 in
theorem count_calls2 (w : World) (g B : Nat) (o : ObjM) (p : OpM) (h : BoxAt w g B o) (hp : (-9223372036854775808 ≤ p.v.n ∧ p.v.n ≤ 9223372036854775807)) (hlen : o.slots.length ≤ 8796093022208) :
    Calls Try.prog 27 #[.pointer (some ⟨g, 0, none⟩), .agg (opcells p).toArray] w (DoneR w g B o (countM o.slots p)) := by
  have g2 := plain_lval
  have g4 := plain_i64
  have hB := h
  obtain ⟨A, c, D, c2, hb, hown, hgB, hd⟩ := h
  obtain ⟨oop, add, ⟨k, n⟩⟩ := p
  obtain ⟨cls, slots, bytes⟩ := o
  simp only at hb hown hd hp hlen
  unfold opcells
  simp only
  have HGB := Lib.hid hgB
  clear hgB
  have hf1 : Fr No w (w.alloc (.cells #[.int .i64 oop, .bool add, .int .i64 k, .int .i64 n] 41)) := (Fr.refl No w).alloc _
  have hbT := Blk.new w 41 #[.int .i64 oop, .bool add, .int .i64 k, .int .i64 n]
  have hb1 := hb.fr0 hf1
  have q1 := hb1.cell 1
  have p3 := hbT.cell 3
  simp only [List.getElem?_toArray, List.getElem?_cons_zero, List.getElem?_cons_succ] at q1 p3
  have hnone : ∀ r : Option (List VL), r = none → DoneR w g B ⟨cls, slots, bytes⟩ r (.returned (.bool false)) (w.alloc (.cells #[.int .i64 oop, .bool add, .int .i64 k, .int .i64 n] 41)) := fun r hr => .inl ⟨hr, rfl, hB.fr0 hf1, hf1⟩
  have HNone := Lib.hid hnone
  clear hnone
  cases slots with
  | nil =>
    have hN : countM [] ⟨oop, add, ⟨k, n⟩⟩ = none := rfl
    have HN := Lib.hid hN
    clear hN
    cases add with
    | false =>
      go_enter Try.func27, Try.ntmps27
      go_wp2
      go_ret
      exact HNone.out _ (HN.out)
    | true =>
      by_cases hk : k = 3
      · subst hk
        go_enter Try.func27, Try.ntmps27
        go_wp2
        go_ret
        exact HNone.out _ (HN.out)
      · have ek : (k == 3) = false := by simpa using hk
        go_enter Try.func27, Try.ntmps27
        go_wp2
        go_ret
        exact HNone.out _ (HN.out)
  | cons x r =>
    cases add with
    | false =>
      have HN := Lib.hid (show countM (x :: r) ⟨oop, false, ⟨k, n⟩⟩ = none by unfold countM; simp)
      go_enter Try.func27, Try.ntmps27
      go_wp2
      go_ret
      exact HNone.out _ (HN.out)
    | true =>
      by_cases hk : k = 3
      case neg =>
        have ek : (k == 3) = false := by simpa using hk
        have ek2 : (k != 3) = true := by simpa using hk
        have HN := Lib.hid (show countM (x :: r) ⟨oop, true, ⟨k, n⟩⟩ = none by unfold countM; simp [hk])
        clear hk
        go_enter Try.func27, Try.ntmps27
        go_wp2
        go_ret
        exact HNone.out _ (HN.out)
      subst hk
      obtain ⟨gr, cap, hvA, hBg, hglt⟩ := hown.form (by simp)
      have hA : A = some ⟨gr, 0, none⟩ := by injection hvA
      subst hA
      obtain ⟨xk, xn⟩ := x
      have r0 : w.cell? ⟨gr, 0, none⟩ = some (.int .i64 xk) := by
        have := (hown.cells (g := gr) rfl) 0 (.int .i64 xk) rfl
        rwa [add_plain] at this
      have r1 : w.cell? ⟨gr, 1, none⟩ = some (.int .i64 xn) := by
        have := (hown.cells (g := gr) rfl) 1 (.int .i64 xn) rfl
        rwa [add_plain] at this
      have z1 : w.frozen? ⟨gr, 1, none⟩ = false := by obtain ⟨cur, hbg⟩ := own_blk hown; exact hbg.frozen 1
      have s0 := hf1.cell_some r0 (fun hn => hn)
      have s1 := hf1.cell_some r1 (fun hn => hn)
      have hlr : r.length ≤ 8796093022208 := by simp at hlen; omega
      clear hvA
      by_cases hxk : xk = 3
      case neg =>
        have ek : (xk == 3) = false := by simpa using hxk
        have ek2 : (xk != 3) = true := by simpa using hxk
        have HN := Lib.hid (show countM (⟨xk, xn⟩ :: r) ⟨oop, true, ⟨3, n⟩⟩ = none by unfold countM; simp [hxk])
        clear hxk
        go_enter Try.func27, Try.ntmps27
        go_wp2
        go_ret
        exact HNone.out _ (HN.out)
      subst hxk
      have HNone2 := Lib.hid (show ∀ r' : Option (List VL), r' = none → DoneR w g B ⟨cls, ⟨3, xn⟩ :: r, bytes⟩ r' (.returned (.bool false)) (w.alloc (.cells #[.int .i64 oop, .bool true, .int .i64 3, .int .i64 n] 41)).drew from fun r' hr => .inl ⟨hr, rfl, hB.fr0 hf1.drew, hf1.drew⟩)
      go_enter Try.func27, Try.ntmps27
      go_wp2_with fail
      (refine T_begin No [0, 1, 2, 3, 4, 5, 6, 7, 8, 9, 10, 11] [] (by kernel_rfl) (by kernel_rfl) ?_; simp only [pickOps, List.filterMap_cons, List.filterMap_nil, List.getElem?_cons_zero, List.getElem?_cons_succ, Act.put])
      repeat (first | (refine T_skip (by rfl) (by rfl) (fun _ _ _ h => h) ?_; try simp only [Act.put, List.setIfInBounds_toArray, List.set_cons_zero, List.set_cons_succ]) | (refine T_pass (by rfl) (by rfl) ?_; try simp only [Act.put, List.setIfInBounds_toArray, List.set_cons_zero, List.set_cons_succ]) | (refine T_load (by assumption) (by rfl) (by rfl) (fun _ _ _ _ h => h) rfl rfl (by assumption) (by first | exact (fun hn => hn) | assumption) ?_; try simp only [Act.put, List.setIfInBounds_toArray, List.set_cons_zero, List.set_cons_succ]) | (refine T_nil (by rfl) (by rfl) (fun _ _ _ _ h => h) rfl rfl ?_; try simp only [Act.put, List.setIfInBounds_toArray, List.set_cons_zero, List.set_cons_succ]) | (refine T_quietN (by rfl) (by rfl) (by rfl) (by rfl) (fun _ _ _ _ h => h) (fun K hK => ?_); go_big_quiet_op; refine hK _ ?_; clear hK K) | (refine T_two (by rfl) (by rfl) (by rfl) (by rfl) (fun _ _ _ _ h => h) (fun K hK => ?_); go_big_quiet_op; refine ⟨_, fun _ _ => rfl, ?_⟩; refine hK _ ?_; clear hK K; try simp only [Act.put, List.setIfInBounds_toArray, List.set_cons_zero, List.set_cons_succ]) | fail)
      refine T_done ?_
      go_wp2_with fail
      by_cases hs : -1152921504606846976 ≤ xn ∧ xn < 1152921504606846976
      case neg =>
        refine (small_no xn (by omega) _).mono ?_
        rintro e _ ⟨rfl, rfl⟩
        have HN := Lib.hid (show countM (⟨3, xn⟩ :: r) ⟨oop, true, ⟨3, n⟩⟩ = none by rw [countM_three, if_neg (by omega)])
        clear hs
        go_wp2
        go_ret
        exact HNone2.out _ HN.out
      refine (small_yes xn hs _).mono ?_
      rintro e _ ⟨rfl, rfl⟩
      by_cases hb1 : 2305843009213693952 < n
      · have e1 : decide (2305843009213693952 < n) = true := by simpa using hb1
        have HN := Lib.hid (show countM (⟨3, xn⟩ :: r) ⟨oop, true, ⟨3, n⟩⟩ = none by rw [countM_three, if_neg (by omega)])
        clear hb1 hs
        go_wp2
        go_ret
        exact HNone2.out _ HN.out
      have e1 : decide (2305843009213693952 < n) = false := by simpa using hb1
      by_cases hb2 : n < -2305843009213693952
      · have e2 : decide (n < -2305843009213693952) = true := by simpa using hb2
        have HN := Lib.hid (show countM (⟨3, xn⟩ :: r) ⟨oop, true, ⟨3, n⟩⟩ = none by rw [countM_three, if_neg (by omega)])
        clear hb1 hb2 hs
        go_wp2
        go_ret
        exact HNone2.out _ HN.out
      have e2 : decide (n < -2305843009213693952) = false := by simpa using hb2
      have hlo : -3458764513820540928 ≤ xn + n := by omega
      have hhi : xn + n ≤ 3458764513820540928 := by omega
      go_wp2_with fail
      by_cases hs2 : -1152921504606846976 ≤ xn + n ∧ xn + n < 1152921504606846976
      case neg =>
        refine (small_no (xn + n) (by omega) _).mono ?_
        rintro e _ ⟨rfl, rfl⟩
        have HN := Lib.hid (show countM (⟨3, xn⟩ :: r) ⟨oop, true, ⟨3, n⟩⟩ = none by rw [countM_three, if_neg (by omega)])
        clear hs2 hb1 hb2 hs
        go_wp2
        go_ret
        exact HNone2.out _ HN.out
      refine (small_yes (xn + n) hs2 _).mono ?_
      rintro e _ ⟨rfl, rfl⟩
      have HN := Lib.hid (show countM (⟨3, xn⟩ :: r) ⟨oop, true, ⟨3, n⟩⟩ = some (⟨3, xn + n⟩ :: r) by rw [countM_three, if_pos (by omega)])
      clear hs2 hb1 hb2 hs
      go_wp2
      go_ret
      have hne : g ≠ gr := fun e => HGB.out gr rfl e.symm
      have hset : Fr (fun b => b = gr) w (((w.setCell ⟨gr, 1, none⟩ (.int .i64 (xn + n))).alloc (.cells #[.int .i64 oop, .bool true, .int .i64 3, .int .i64 n] 41)).drew) := (((Fr.refl (fun b => b = gr) w).set (.inr rfl) _).alloc _).drew
      have hset2 : Fr No (w.setCell ⟨gr, 1, none⟩ (.int .i64 (xn + n))) (((w.setCell ⟨gr, 1, none⟩ (.int .i64 (xn + n))).alloc (.cells #[.int .i64 oop, .bool true, .int .i64 3, .int .i64 n] 41)).drew) := ((Fr.refl No _).alloc _).drew
      rw [HN.out]
      refine .inr ⟨_, rfl, rfl, ⟨_, c, D, c2, hb.fr hset hne, ?_, HGB.out, ?_⟩, hset.mono (fun b _ hb => .inr (by subst hb; exact hBg))⟩
      · exact own_fr0 (own_put hown (j := 1) (by simp [vals, vcells]) (.int .i64 (xn + n))) hset2
      · exact Rd.mono (Rd.fr hd hset (fun b hb hT => by subst hT; exact hb.1.2 rfl)) (fun b _ hb => hb) (by decide)
end Go.Proofs.Ytgchpfennbggoaa
namespace Go.Proofs.Ytgchpfennbggoaa
set_option linter.unusedVariables false
set_option linter.unusedSimpArgs false
open Go.RowKit

theorem opsC_append (a b : List OpM) : opsC (a ++ b) = opsC a ++ opsC b := by simp [opsC]
theorem opsC_len (l : List OpM) : (opsC l).length = l.length * 4 := by
  induction l with
  | nil => rfl
  | cons p l ih =>
    have : opsC (p :: l) = opcells p ++ opsC l := rfl
    rw [this, List.length_append, ih, List.length_cons]; simp [opcells]; omega
theorem opsC_one (l : List OpM) : ∀ u ∈ opsC l, u.oneCell' = true := by
  intro u hu
  obtain ⟨p, _, hp⟩ := List.mem_flatMap.1 hu
  simp [opcells] at hp
  rcases hp with rfl | rfl | rfl | rfl <;> rfl
theorem opsC_at {l : List OpM} {k : Nat} (hk : k < l.length) (j : Nat) (u : Value) (hu : (opcells l[k])[j]? = some u) : (opsC l)[k * 4 + j]? = some u := by
  have hj : j < 4 := by have := (List.getElem?_eq_some_iff.1 hu).1; simpa [opcells] using this
  have e : l = l.take k ++ (l[k] :: l.drop (k + 1)) := by rw [← List.drop_eq_getElem_cons hk, List.take_append_drop]
  have e2 : opsC l = opsC (l.take k) ++ (opcells l[k] ++ opsC (l.drop (k + 1))) := by
    conv => lhs; rw [e]
    rw [opsC_append]; rfl
  have hl : (opsC (l.take k)).length = k * 4 := by rw [opsC_len, List.length_take, Nat.min_eq_left (by omega)]
  rw [e2, List.getElem?_append_right (by omega), hl, show k * 4 + j - k * 4 = j by omega, List.getElem?_append_left (by simpa [opcells] using hj)]
  exact hu
def RdO (w : World) (S : Nat → Prop) (A : Option Addr) (l : List OpM) : Prop := Rd w S 4 A l.length (opsC l)
theorem RdO.at_ {w : World} {S : Nat → Prop} {A : Option Addr} {l : List OpM} (h : RdO w S A l) {k : Nat} (hk : k < l.length) :
    ∃ g o, A = some ⟨g, o, none⟩ ∧ S g ∧ ∀ j u, (opcells l[k])[j]? = some u → w.cell? ((⟨g, o + k * 4, none⟩ : Addr).add j) = some u := by
  obtain ⟨g, o, rfl, hS, hc⟩ := Rd.plain h (by omega) (by decide)
  refine ⟨g, o, rfl, hS, fun j u hu => ?_⟩
  have e : (⟨g, o + k * 4, none⟩ : Addr).add j = ⟨g, o + k * 4 + j, none⟩ := by unfold Addr.add; split <;> simp_all
  rw [e]
  have := hc _ u (opsC_at hk j u hu); rwa [← Nat.add_assoc] at this
theorem ag_op : AggOf Try.prog 41 4 := ⟨⟨_, Try.underlying41, rfl⟩, by kernel_rfl⟩
theorem so_op : SliceOf Try.prog 34 41 (.agg #[.int .i64 0, .bool false, .int .i64 0, .int .i64 0]) 4 32 := ⟨Try.underlying34, by kernel_rfl, rfl, by decide, by decide, by decide⟩
/-- All that was done, one behind the other. -/
def runM (f : List VL → OpM → Option (List VL)) : List VL → List OpM → Option (List VL)
  | l, [] => some l
  | l, p :: ps => match f l p with | none => none | some l' => runM f l' ps
theorem runM_drop (f : List VL → OpM → Option (List VL)) (l : List VL) (ops : List OpM) {k : Nat} (hk : k < ops.length) : runM f l (ops.drop k) = match f l ops[k] with | none => none | some l' => runM f l' (ops.drop (k + 1)) := by
  rw [List.drop_eq_getElem_cons hk]; rfl
theorem countM_len {l l' : List VL} {p : OpM} (h : countM l p = some l') : l'.length = l.length := by
  cases l with
  | nil => cases h
  | cons s r =>
    unfold countM at h
    simp only at h
    split at h
    · injection h with h; subst h; rfl
    · cases h
/-- What Replay says. -/
def ReplR (w : World) (o : ObjM) (r : Option (List VL)) (e : Ending) (w' : World) : Prop :=
  Fr No w w' ∧ ((r = none ∧ e = .returned (.tuple #[.agg #[.int .i64 0, .slice none 0 0, .slice none 0 0], .int .i64 30])) ∨
    ∃ l cs, r = some l ∧ e = .returned (.tuple #[.agg cs.toArray, .int .i64 0]) ∧ ObjC w' (fun b => w.heap.size ≤ b) cs { o with slots := l })

set_option maxHeartbeats 4000000 in
set_option maxRecDepth 100000 in
theorem replay13_calls (S : Nat → Prop) (cs : List Value) (o : ObjM) (w : World) (A0 : Option Addr) (c0 : Nat) (ops : List OpM) (h : ObjC w S cs o) (hc : o.cls = 13) (h1 : o.slots.length ≤ 8796093022208) (hops : RdO w (fun b => b < w.heap.size) A0 ops) (hb : ∀ p ∈ ops, -9223372036854775808 ≤ p.v.n ∧ p.v.n ≤ 9223372036854775807) :
    Calls Try.prog 8 #[.agg cs.toArray, .slice A0 ops.length c0] w (ReplR w o (runM countM o.slots ops)) := by
  have hle := hops.2.1
  have ho := h
  obtain ⟨A, c, D, c2, rfl, hs, hbt⟩ := h
  obtain ⟨cls, slots, bytes⟩ := o
  simp only at hc h1 hs hbt
  subst hc
  simp only
  have HB := Lib.hid hb
  clear hb
  go_enter Try.func8, Try.ntmps8
  go_wp2_with (first
    | (refine wpList_ldA ag_obj rfl _ rfl ⟨w.heap.size, 0, none⟩ [.int .i64 13, .slice A slots.length c, .slice D bytes.length c2] rfl rfl (show ∀ j u, _ → ((w.alloc (.cells #[.int .i64 13, .slice A slots.length c, .slice D bytes.length c2] 25)).alloc (.cells #[.int .i64 0, .slice none 0 0, .slice none 0 0] 25)).cell? _ = some u from Blk.all (Blk.alloc (Blk.new w _ _) _)) ?_)
    | fail)
  -- the walk's rest
  have hf1 : Fr No w ((w.alloc (.cells #[.int .i64 13, .slice A slots.length c, .slice D bytes.length c2] 25)).alloc (.cells #[.int .i64 0, .slice none 0 0, .slice none 0 0] 25)) := ((Fr.refl No w).alloc _).alloc _
  have hbR1 : Blk ((w.alloc (.cells #[.int .i64 13, .slice A slots.length c, .slice D bytes.length c2] 25)).alloc (.cells #[.int .i64 0, .slice none 0 0, .slice none 0 0] 25)) (w.heap.size + 1) 25 #[.int .i64 0, .slice none 0 0, .slice none 0 0] := Blk.newAt (by simp)
  have hbX1 : Blk ((w.alloc (.cells #[.int .i64 13, .slice A slots.length c, .slice D bytes.length c2] 25)).alloc (.cells #[.int .i64 0, .slice none 0 0, .slice none 0 0] 25)) w.heap.size 25 #[.int .i64 13, .slice A slots.length c, .slice D bytes.length c2] := (Blk.new w _ _).alloc _
  have hs1 : ((w.alloc (.cells #[.int .i64 13, .slice A slots.length c, .slice D bytes.length c2] 25)).alloc (.cells #[.int .i64 0, .slice none 0 0, .slice none 0 0] 25)).heap.size = w.heap.size + 1 + 1 := by simp
  refine (ocopy_calls S [.int .i64 13, .slice A slots.length c, .slice D bytes.length c2] ⟨13, slots, bytes⟩ _ (ho.fr0 hf1) (by simp only; omega)).mono ?_
  rintro e w2 ⟨cs', rfl, hown, hf2⟩
  rw [hs1] at hown
  obtain ⟨A2, c2', D2, d2, M, rfl, hso, hMl, hbo, hBM⟩ := hown
  simp only at hso hMl hbo
  have hbR2 := hbR1.fr0 hf2
  have hbX2 := hbX1.fr0 hf2
  have hF2 := hf1.tr hf2
  have hsz2 : w.heap.size + 1 + 1 ≤ w2.heap.size := by have := hf2.size; omega
  have q0 := hbX2.cell 0
  simp only [List.getElem?_toArray, List.getElem?_cons_zero, List.getElem?_cons_succ] at q0
  clear hbR1 hbX1 hf1 hf2 hs1
  have hle2 := RdB.le hbt
  obtain ⟨_, _, e9, _, _, hD2⟩ := own_form hbo
  injection e9 with e91 e92 e93
  subst e91 e93
  have hbox : BoxAt (w2.alloc (.cells #[.int .i64 13, .slice A2 slots.length c2', .slice D2 bytes.length d2] 25)) w2.heap.size (w.heap.size + 1 + 1) ⟨13, slots, bytes⟩ := by
    refine ⟨A2, c2', D2, d2, Blk.new w2 _ _, own_fr0 hso ((Fr.refl No w2).alloc _), fun b hb => by have := (hso.lt b hb).2; omega, ?_⟩
    refine Rd.mono (Rd.fr0 (own_rd hbo hle2) ((Fr.refl No w2).alloc _)) (fun b _ hb => ⟨⟨?_, fun h3 => ?_⟩, ?_⟩) (by decide)
    · have := (hbo.lt b ((hD2 b).2 hb)).2; omega
    · have := (hbo.lt b ((hD2 b).2 hb)).1; have := hMl b h3; omega
    · have := (hbo.lt b ((hD2 b).2 hb)).1; omega
  have hfB : Fr No w2 (w2.alloc (.cells #[.int .i64 13, .slice A2 slots.length c2', .slice D2 bytes.length d2] 25)) := (Fr.refl No w2).alloc _
  have q0a := (hbX2.fr0 hfB).cell 0
  simp only [List.getElem?_toArray, List.getElem?_cons_zero, List.getElem?_cons_succ] at q0a
  go_wp2_with fail
  generalize hw3 : w2.alloc (.cells #[.int .i64 13, .slice A2 slots.length c2', .slice D2 bytes.length d2] 25) = w3 at *
  clear hw3
  obtain ⟨g, hg⟩ : ∃ g, g = w2.heap.size := ⟨_, rfl⟩
  have hsz3 := hfB.size
  have hF3 := hF2.tr hfB
  have hbR3 := hbR2.fr0 hfB
  have hgl : w.heap.size + 1 + 1 ≤ g := by omega
  rw [← hg] at hbox ⊢
  clear hg hbX2 q0 q0a hbR2 hfB hso hMl hbo hD2 hF2
  go_loopw [20] (fun i wr => ∃ (k : Nat) (l : List VL), k ≤ ops.length ∧ i = .int .i64 (k : Int) ∧ BoxAt wr g (w.heap.size + 1 + 1) ⟨13, l, bytes⟩ ∧ l.length ≤ 8796093022208 ∧ Hid (runM countM slots ops = runM countM l (ops.drop k)) ∧ Fr (fun b => w.heap.size + 1 + 1 ≤ b) w3 wr) (fun i _ => ops.length - (intOf i).toNat)
  case atStart => exact ⟨0, slots, by omega, rfl, hbox, h1, Lib.hid rfl, Fr.refl _ _⟩
  case round =>
    obtain ⟨k, l, hk, rfl, hbox, hl, HR, hf⟩ := hrel
    have hszr := hf.size
    have hfW : Fr No w wr := hF3.trans hf (fun b hb hT => by omega)
    have hbR := hbR3.fr hf (fun hT => by omega)
    by_cases hlt : k < ops.length
    · have ek : decide ((k : Int) < ops.length) = true := by simpa using (by omega : (k : Int) < ops.length)
      obtain ⟨go, of, rfl, _, hco⟩ := RdO.at_ (w := wr) (S := fun b => b < w.heap.size) (A := A0) (l := ops) (Rd.fr hops hfW (fun _ _ hn => hn)) hlt
      have hpb := HB.out _ (List.getElem_mem hlt)
      have hdr := runM_drop countM l ops hlt
      have HD := Lib.hid (HR.out.trans hdr)
      clear hdr
      generalize ops[k] = p at *
      have hbo := Blk.new wr 41 (opcells p).toArray
      have hfo : Fr No wr (wr.alloc (.cells (opcells p).toArray 41)) := (Fr.refl No wr).alloc _
      unfold opcells at hco hbo hfo
      go_wp2_with (first
        | (refine wpList_ldA ag_op rfl _ rfl ⟨go, of + k * 4, none⟩ [.int .i64 p.oop, .bool p.add, .int .i64 p.v.k, .int .i64 p.v.n] rfl rfl hco ?_)
        | (refine wpList_ldA ag_op rfl _ rfl ⟨wr.heap.size, 0, none⟩ [.int .i64 p.oop, .bool p.add, .int .i64 p.v.k, .int .i64 p.v.n] rfl rfl hbo.all ?_)
        | fail)
      refine (count_calls2 _ g (w.heap.size + 1 + 1) ⟨13, l, bytes⟩ p (hbox.fr0 hfo) hpb hl).mono ?_
      rintro e w4 (⟨hn, rfl, hbox4, hf4⟩ | ⟨l', hsome, rfl, hbox4, hf4⟩)
      · have HN := Lib.hid (show runM countM slots ops = none by rw [HD.out]; simp only at hn; rw [hn])
        have hbR4 := (hbR.fr0 hfo).fr0 hf4
        clear hn
        go_wp2_with (first
          | (refine wpList_stA ag_obj.info rfl _ _ rfl (w.heap.size + 1) 0 _ _ [.int .i64 0, .slice none 0 0, .slice none 0 0] _ rfl rfl rfl rfl (by intro u hu; simp at hu; rcases hu with rfl | rfl | rfl <;> rfl) hbR4 (by decide) ?_; intro w5 hb5 hg5 hz5)
          | fail)
        rw [splice_all _ _ (by rfl)] at hb5
        refine bodyPost_ret (results_blk2 ag_obj rfl _ _ _ _ _ _ rfl rfl hb5 rfl) rfl ?_
        rw [HN.out]
        exact ⟨((hfW.tr hfo).tr hf4).grown hg5 (fun q hq => by injection hq with hq; exact .inl (by omega)), .inl ⟨rfl, rfl⟩⟩
      · simp only at hsome hbox4
        have HN := Lib.hid (show runM countM slots ops = runM countM l' (ops.drop (k + 1)) by rw [HD.out, hsome])
        have hl' := countM_len hsome
        clear hsome
        go_wp2
        go_roundw
        case rel => exact ⟨k + 1, l', by omega, by go_num, hbox4, by omega, HN, (hf.trans (hfo.mono (fun _ _ hn => hn.elim)) (fun _ _ hb => hb)).trans hf4 (fun b hb hT => hT.elim (fun h => by omega) id)⟩
        case measure => simp [intOf]; omega
    · obtain rfl : k = ops.length := by omega
      have ek : decide ((ops.length : Int) < ops.length) = false := by simp
      have HN := Lib.hid (show runM countM slots ops = some l by have := HR.out; rw [List.drop_length] at this; exact this)
      obtain ⟨Al, cl, Dl, dl, hbg, hol, hgol, hdl⟩ := id hbox
      have HGO := Lib.hid hgol
      clear hgol
      simp only at hbg hol hdl
      go_wp2_with (first
        | (refine wpList_ldA ag_obj rfl _ rfl ⟨g, 0, none⟩ [.int .i64 13, .slice Al l.length cl, .slice Dl bytes.length dl] rfl rfl hbg.all ?_)
        | (refine wpList_stA ag_obj.info rfl _ _ rfl (w.heap.size + 1) 0 _ _ [.int .i64 13, .slice Al l.length cl, .slice Dl bytes.length dl] _ rfl rfl rfl rfl (by intro u hu; simp at hu; rcases hu with rfl | rfl | rfl <;> rfl) hbR (by decide) ?_; intro w5 hb5 hg5 hz5)
        | fail)
      rw [splice_all _ _ (by rfl)] at hb5
      refine bodyPost_ret (results_blk2 ag_obj rfl _ _ _ _ _ _ rfl rfl hb5 rfl) rfl ?_
      rw [HN.out]
      have hFw := hfW.grown hg5 (fun q hq => by injection hq with hq; exact .inl (by omega))
      obtain ⟨_, _, e9, _, _, hDl⟩ := own_form hol
      injection e9 with e91 e92 e93
      subst e91
      refine ⟨hFw, .inr ⟨l, _, rfl, rfl, Al, cl, Dl, dl, rfl, ?_, ?_⟩⟩
      · refine Rd.mono (Rd.grown (own_rd hol (show l.length ≤ 211106232532992 by omega)) hg5 (fun q hq hb => ?_)) (fun b _ hb => ?_) (by decide)
        · injection hq with hq; have := (hol.lt q ((hDl q).2 hb)).1; omega
        · have := (hol.lt b ((hDl b).2 hb)).1; omega
      · refine Rd.mono (Rd.grown hdl hg5 (fun q hq hb => ?_)) (fun b _ hb => ?_) (by decide)
        · injection hq with hq; have := hb.2; omega
        · have := hb.2; omega
end Go.Proofs.Ytgchpfennbggoaa
namespace Go.Proofs.Ytgchpfennbggoaa
set_option linter.unusedVariables false
set_option linter.unusedSimpArgs false
open Go.ChangeShapes Go.WideShapes Go.ChangeAt Go.RowKit

def I64 (l : List Int) : List Value := l.map (Value.int .i64)
def RdI (w : World) (S : Nat → Prop) (A : Option Addr) (l : List Int) : Prop := Rd w S 1 A l.length (I64 l)
def Wf (l : List Int) : Prop := ∀ x ∈ l, (Lit.int .i64 x).wf = true
theorem opens_li64 : Opens Try.prog 39 (fun w cs (l : List Int) => (∃ A c, cs = [.slice A l.length c] ∧ RdI w (fun b => b < w.heap.size) A l ∧ l.length ≤ c ∧ c ≤ maxLen) ∧ Wf l ∧ l.length * 8 ≤ reachBytes) (fun l => l.length + 1) := by
  intro H enc w sp held fuel cs x h hw
  obtain ⟨ys, ⟨⟨A, c, css, rfl, hrd, hall, hc, hm⟩, h8⟩, hb⟩ := opens_list Try.underlying39 (size := 1) (bytes := 8) (by kernel_rfl) (by kernel_rfl) (by decide) (by decide) (opens_int Try.underlying2) (fun w cs y hy => by rw [hy.1]; rfl) H enc w sp held fuel cs x h hw
  have key : ∀ (css : List (List Value)) (ys : List Int), All2 (fun cs (x : Int) => cs = [Value.int .i64 x] ∧ (Lit.int .i64 x).wf = true) css ys → css.flatten = I64 ys ∧ Wf ys := by
    intro css
    induction css with
    | nil => intro ys h; cases ys with
      | nil => exact ⟨rfl, fun x hx => by cases hx⟩
      | cons y ys => exact h.elim
    | cons c0 css ih => intro ys h; cases ys with
      | nil => exact h.elim
      | cons y ys =>
        obtain ⟨h1, h2⟩ := ih ys h.2
        refine ⟨by rw [List.flatten_cons, h1, h.1.1]; rfl, fun x hx => ?_⟩
        rcases List.mem_cons.1 hx with rfl | hx
        · exact h.1.2
        · exact h2 x hx
  obtain ⟨k1, k2⟩ := key css ys hall
  rw [k1] at hrd
  refine ⟨ys, ⟨⟨A, c, rfl, hrd, hc, hm⟩, k2, h8⟩, ?_⟩
  have hs : ∀ l : List Int, (l.map (fun _ => 1)).sum = l.length := by intro l; induction l with | nil => rfl | cons x l ih => rw [List.map_cons, List.sum_cons, ih, List.length_cons]; omega
  simp only at hb ⊢
  rw [hs] at hb
  exact hb
theorem opens_lint : Opens Try.prog 27 (fun w cs (l : List Int) => (∃ A c, cs = [.slice A l.length c] ∧ RdI w (fun b => b < w.heap.size) A l ∧ l.length ≤ c ∧ c ≤ maxLen) ∧ Wf l ∧ l.length * 8 ≤ reachBytes) (fun l => l.length + 1) := by
  intro H enc w sp held fuel cs x h hw
  obtain ⟨ys, ⟨⟨A, c, css, rfl, hrd, hall, hc, hm⟩, h8⟩, hb⟩ := opens_list Try.underlying27 (size := 1) (bytes := 8) (by kernel_rfl) (by kernel_rfl) (by decide) (by decide) (opens_int Try.underlying3) (fun w cs y hy => by rw [hy.1]; rfl) H enc w sp held fuel cs x h hw
  have key : ∀ (css : List (List Value)) (ys : List Int), All2 (fun cs (x : Int) => cs = [Value.int .i64 x] ∧ (Lit.int .i64 x).wf = true) css ys → css.flatten = I64 ys ∧ Wf ys := by
    intro css
    induction css with
    | nil => intro ys h; cases ys with
      | nil => exact ⟨rfl, fun x hx => by cases hx⟩
      | cons y ys => exact h.elim
    | cons c0 css ih => intro ys h; cases ys with
      | nil => exact h.elim
      | cons y ys =>
        obtain ⟨h1, h2⟩ := ih ys h.2
        refine ⟨by rw [List.flatten_cons, h1, h.1.1]; rfl, fun x hx => ?_⟩
        rcases List.mem_cons.1 hx with rfl | hx
        · exact h.1.2
        · exact h2 x hx
  obtain ⟨k1, k2⟩ := key css ys hall
  rw [k1] at hrd
  refine ⟨ys, ⟨⟨A, c, rfl, hrd, hc, hm⟩, k2, h8⟩, ?_⟩
  have hs : ∀ l : List Int, (l.map (fun _ => 1)).sum = l.length := by intro l; induction l with | nil => rfl | cons x l ih => rw [List.map_cons, List.sum_cons, ih, List.length_cons]; omega
  simp only at hb ⊢
  rw [hs] at hb
  exact hb
def OWf (p : OpM) : Prop := (-9223372036854775808 ≤ p.oop ∧ p.oop ≤ 9223372036854775807) ∧ VWf p.v
set_option maxRecDepth 100000 in
theorem opens_op : Opens Try.prog 44 (fun _ cs (p : OpM) => cs = opcells p ∧ OWf p) (fun _ => 1) := by
  intro H enc w sp held fuel cs x h hw
  have hu := Try.underlying44
  obtain ⟨xs, n, _, rfl, hl, hxl, hf⟩ := DataW.trod_struct hu h
  have hc4 : Try.prog.cellsOf 44 = 4 := by kernel_rfl
  have hi1 : Try.prog.cellsOf 2 = 1 := by kernel_rfl
  have hi2 : Try.prog.cellsOf 4 = 1 := by kernel_rfl
  have hi3 : Try.prog.cellsOf 30 = 2 := by kernel_rfl
  rw [hc4] at hl
  have f0 := hf 0 _ rfl
  have f1 := hf 1 _ rfl
  have f2 := hf 2 _ rfl
  match cs, hl with
  | [c0, c1, c2, c3], _ =>
  match xs, hxl with
  | [x0, x1, x2], _ =>
  simp only [hi1, hi2, hi3, List.drop_zero, List.drop_succ_cons, List.take_succ_cons, List.take_zero, List.getElem?_cons_zero, List.getElem?_cons_succ] at f0 f1 f2
  have hw' : ∀ m, m ∈ DataW.weights Try.prog 30 x2.1 → m ≤ reachBytes := by
    intro m hm
    refine hw m ?_
    rw [DataW.weights, hu]
    simp only [DataW.weightsEach, List.map_cons, List.map_nil, List.mem_append]
    exact .inr (.inr (.inl hm))
  obtain ⟨a0, e0, _, w0⟩ := DataW.trod_int Try.underlying2 f0
  obtain ⟨b1, e1, _⟩ := DataW.trod_bool Try.underlying4 f1
  obtain ⟨v, ⟨e2, hv⟩, hb⟩ := opens_val H enc w sp held n [c2, c3] x2 f2 hw'
  injection e0 with e0 _
  injection e1 with e1 _
  injection e2 with e20 e2
  injection e2 with e21 _
  subst e0 e1 e20 e21
  exact ⟨⟨a0, b1, v⟩, ⟨rfl, wf_i64 w0, hv⟩, bulk_pos _⟩
set_option maxRecDepth 100000 in
theorem opens_ops : Opens Try.prog 26 (fun w cs (l : List OpM) => (∃ A c, cs = [.slice A l.length c] ∧ RdO w (fun b => b < w.heap.size) A l ∧ l.length ≤ c ∧ c ≤ maxLen) ∧ (∀ p ∈ l, OWf p) ∧ l.length * 32 ≤ reachBytes) (fun l => l.length + 1) := by
  intro H enc w sp held fuel cs x h hw
  obtain ⟨ys, ⟨⟨A, c, css, rfl, hrd, hall, hc, hm⟩, h8⟩, hb⟩ := opens_list Try.underlying26 (size := 4) (bytes := 32) (by kernel_rfl) (by kernel_rfl) (by decide) (by decide) opens_op (fun w cs y hy => by rw [hy.1]; rfl) H enc w sp held fuel cs x h hw
  have key : ∀ (css : List (List Value)) (ys : List OpM), All2 (fun cs (p : OpM) => cs = opcells p ∧ OWf p) css ys → css.flatten = opsC ys ∧ ∀ p ∈ ys, OWf p := by
    intro css
    induction css with
    | nil => intro ys h; cases ys with
      | nil => exact ⟨rfl, fun v hv => by cases hv⟩
      | cons y ys => exact h.elim
    | cons c0 css ih => intro ys h; cases ys with
      | nil => exact h.elim
      | cons y ys =>
        obtain ⟨h1, h2⟩ := ih ys h.2
        refine ⟨by rw [List.flatten_cons, h1, h.1.1]; rfl, fun x hx => ?_⟩
        rcases List.mem_cons.1 hx with rfl | hx
        · exact h.1.2
        · exact h2 x hx
  obtain ⟨k1, k2⟩ := key css ys hall
  rw [k1] at hrd
  refine ⟨ys, ⟨⟨A, c, rfl, hrd, hc, hm⟩, k2, h8⟩, ?_⟩
  simp only at hb ⊢
  rw [sum_ones] at hb
  exact hb
section
variable {H : Type} {enc : TypeId × Value → H} {W : World} {held : Bool}
theorem open_li64 {ts : List TypeId} {ds : List (DataW H)} (hsz : (DataW.weightsEach Try.prog ts ds).all (· ≤ reachBytes) = true) {j : Nat} {v : Value} {d : DataW H} {p : List MemPlace}
    (ht : ts[j]? = some 39) (hd : ds[j]? = some d) (h : DataW.Trod enc Try.prog W 0 (fun _ => true) held 39 v d p) (hv : ∃ A n c, v = .slice A n c) :
    ∃ (A : Option Addr) (c : Nat) (l : List Int), v = .slice A l.length c ∧ RdI W (fun b => b < W.heap.size) A l ∧ Wf l ∧ l.length * 8 ≤ 140737488351232 ∧ l.length ≤ c ∧ c ≤ maxLen ∧ l.length < Rows.uptoBulk d := by
  obtain ⟨A, n, c, rfl⟩ := hv
  obtain ⟨fuel, hf⟩ := h
  obtain ⟨l, ⟨⟨A', c', e, h1, h2, h3⟩, h4, h5⟩, h6⟩ := opens_li64 H enc W (fun _ => true) held fuel _ _ hf (weights_of hsz ht hd)
  simp [Value.cells] at e
  obtain ⟨rfl, rfl, rfl⟩ := e
  exact ⟨_, _, l, rfl, h1, h4, by simpa [reachBytes] using h5, h2, h3, h6⟩
theorem open_lint {ts : List TypeId} {ds : List (DataW H)} (hsz : (DataW.weightsEach Try.prog ts ds).all (· ≤ reachBytes) = true) {j : Nat} {v : Value} {d : DataW H} {p : List MemPlace}
    (ht : ts[j]? = some 27) (hd : ds[j]? = some d) (h : DataW.Trod enc Try.prog W 0 (fun _ => true) held 27 v d p) (hv : ∃ A n c, v = .slice A n c) :
    ∃ (A : Option Addr) (c : Nat) (l : List Int), v = .slice A l.length c ∧ RdI W (fun b => b < W.heap.size) A l ∧ Wf l ∧ l.length * 8 ≤ 140737488351232 ∧ l.length ≤ c ∧ c ≤ maxLen ∧ l.length < Rows.uptoBulk d := by
  obtain ⟨A, n, c, rfl⟩ := hv
  obtain ⟨fuel, hf⟩ := h
  obtain ⟨l, ⟨⟨A', c', e, h1, h2, h3⟩, h4, h5⟩, h6⟩ := opens_lint H enc W (fun _ => true) held fuel _ _ hf (weights_of hsz ht hd)
  simp [Value.cells] at e
  obtain ⟨rfl, rfl, rfl⟩ := e
  exact ⟨_, _, l, rfl, h1, h4, by simpa [reachBytes] using h5, h2, h3, h6⟩
theorem open_ops {ts : List TypeId} {ds : List (DataW H)} (hsz : (DataW.weightsEach Try.prog ts ds).all (· ≤ reachBytes) = true) {j : Nat} {v : Value} {d : DataW H} {p : List MemPlace}
    (ht : ts[j]? = some 26) (hd : ds[j]? = some d) (h : DataW.Trod enc Try.prog W 0 (fun _ => true) held 26 v d p) (hv : ∃ A n c, v = .slice A n c) :
    ∃ (A : Option Addr) (c : Nat) (l : List OpM), v = .slice A l.length c ∧ RdO W (fun b => b < W.heap.size) A l ∧ (∀ p ∈ l, OWf p) ∧ l.length * 32 ≤ 140737488351232 := by
  obtain ⟨A, n, c, rfl⟩ := hv
  obtain ⟨fuel, hf⟩ := h
  obtain ⟨l, ⟨⟨A', c', e, h1, h2, h3⟩, h4, h5⟩, h6⟩ := opens_ops H enc W (fun _ => true) held fuel _ _ hf (weights_of hsz ht hd)
  simp [Value.cells] at e
  obtain ⟨rfl, rfl, rfl⟩ := e
  exact ⟨_, _, l, rfl, h1, h4, by simpa [reachBytes] using h5⟩
end
end Go.Proofs.Ytgchpfennbggoaa
namespace Go.Proofs.Ytgchpfennbggoaa
set_option linter.unusedVariables false
set_option linter.unusedSimpArgs false
open Go.RowKit

set_option maxHeartbeats 1000000 in
theorem counter_calls (n : Int) (w : World) :
    Calls Try.prog 12 #[.int .i64 n] w fun e w' => ∃ cs, e = .returned (.agg cs.toArray) ∧ ObjC w' (fun b => w.heap.size ≤ b) cs ⟨13, [⟨3, n⟩], []⟩ ∧ Fr No w w' := by
  go_enter Try.func12, Try.ntmps12
  have hb0 : Blk (w.alloc (.cells #[.int .i64 0, .slice none 0 0, .slice none 0 0] 25)) w.heap.size 25 #[.int .i64 0, .slice none 0 0, .slice none 0 0] := Blk.new w _ _
  have hf0 : Fr No w (w.alloc (.cells #[.int .i64 0, .slice none 0 0, .slice none 0 0] 25)) := (Fr.refl No w).alloc _
  go_wp2_with fail
  have hf1 : Fr No w ((w.alloc (.cells #[.int .i64 13, .slice (some ⟨w.heap.size + 1, 0, none⟩) 1 1, .slice none 0 0] 25)).alloc (.cells #[.int .i64 3, .int .i64 n] 30)) := ((Fr.refl No w).alloc _).alloc _
  have hb1 : Blk ((w.alloc (.cells #[.int .i64 13, .slice (some ⟨w.heap.size + 1, 0, none⟩) 1 1, .slice none 0 0] 25)).alloc (.cells #[.int .i64 3, .int .i64 n] 30)) w.heap.size 25 #[.int .i64 13, .slice (some ⟨w.heap.size + 1, 0, none⟩) 1 1, .slice none 0 0] := (Blk.new w _ _).alloc _
  have hb2 : Blk ((w.alloc (.cells #[.int .i64 13, .slice (some ⟨w.heap.size + 1, 0, none⟩) 1 1, .slice none 0 0] 25)).alloc (.cells #[.int .i64 3, .int .i64 n] 30)) (w.heap.size + 1) 30 #[.int .i64 3, .int .i64 n] := Blk.newAt (by simp)
  refine bodyPost_ret (results_blk ag_obj rfl _ _ _ _ _ rfl hb1 rfl) rfl ?_
  refine ⟨_, rfl, ⟨some ⟨w.heap.size + 1, 0, none⟩, 1, none, 0, rfl, ⟨rfl, by simp, fun _ => ⟨_, rfl, by simp, hb2.all⟩⟩, ⟨rfl, by simp, fun h => (Nat.not_lt_zero _ h).elim⟩⟩, hf1⟩
end Go.Proofs.Ytgchpfennbggoaa
namespace Go.Proofs.Ytgchpfennbggoaa
set_option linter.unusedVariables false
set_option linter.unusedSimpArgs false
open Go.RowKit

set_option maxHeartbeats 1000000 in
set_option maxRecDepth 100000 in
theorem index_calls (S : Nat → Prop) (A : Option Addr) (c : Nat) (l : List VL) (v : VL) (w : World) (h : RdV w S A l) :
    Calls Try.prog 43 #[.slice A l.length c, .agg #[.int .i64 v.k, .int .i64 v.n]] w fun e w' => Fr No w w' ∧
      ((∃ k, ∃ hk : k < l.length, l[k] = v ∧ (∀ i, ∀ hi : i < k, l[i] ≠ v) ∧ e = .returned (.int .i64 (k : Int))) ∨ (v ∉ l ∧ e = .returned (.int .i64 (-1)))) := by
  have hle := h.le
  go_enter Try.func43, Try.ntmps43
  have hb0 : Blk (w.alloc (.cells #[.int .i64 v.k, .int .i64 v.n] 30)) w.heap.size 30 #[.int .i64 v.k, .int .i64 v.n] := Blk.new w _ _
  have hf0 : Fr No w (w.alloc (.cells #[.int .i64 v.k, .int .i64 v.n] 30)) := (Fr.refl No w).alloc _
  go_wp2_with fail
  generalize hw1 : w.alloc (.cells #[.int .i64 v.k, .int .i64 v.n] 30) = w1 at *
  clear hw1
  go_loopw [8] (fun i wr => ∃ k : Nat, k ≤ l.length ∧ i = .int .i64 (k : Int) ∧ Hid (∀ i, ∀ hi : i < l.length, i < k → l[i] ≠ v) ∧ Fr No w1 wr) (fun i _ => l.length - (intOf i).toNat)
  case atStart => exact ⟨0, by omega, rfl, Lib.hid (fun i _ h => by omega), Fr.refl _ _⟩
  case round =>
    obtain ⟨k, hk, rfl, HN, hf⟩ := hrel
    have hv := (hb0.fr0 hf).all
    by_cases hlt : k < l.length
    · have ek : decide ((k : Int) < l.length) = true := by simpa using (by omega : (k : Int) < l.length)
      obtain ⟨g, of, rfl, _, _, _, hv'⟩ := RdV.at_ (Rd.fr0 h (hf0.tr hf)) hlt
      have HX : Hid (l[k] = v ∨ l[k] ≠ v) := Lib.hid (Decidable.em _)
      obtain ⟨x, hx⟩ : ∃ x, Hid (x = l[k]) := ⟨_, Lib.hid rfl⟩
      rw [← hx.out] at hv' HX
      go_wp2_with fail
      (refine T_begin No [0, 1, 2, 3, 4, 5] [] (by kernel_rfl) (by kernel_rfl) ?_; simp only [pickOps, List.filterMap_cons, List.filterMap_nil, List.getElem?_cons_zero, List.getElem?_cons_succ, Act.put])
      repeat (first | (refine T_skip (by rfl) (by rfl) (fun _ _ _ h => h) ?_; try simp only [Act.put, List.setIfInBounds_toArray, List.set_cons_zero, List.set_cons_succ]) | (refine T_pass (by rfl) (by rfl) ?_; try simp only [Act.put, List.setIfInBounds_toArray, List.set_cons_zero, List.set_cons_succ]) | (refine T_load (by assumption) (by rfl) (by rfl) (fun _ _ _ _ h => h) rfl rfl (by assumption) (by first | exact (fun hn => hn) | assumption) ?_; try simp only [Act.put, List.setIfInBounds_toArray, List.set_cons_zero, List.set_cons_succ]) | (refine T_nil (by rfl) (by rfl) (fun _ _ _ _ h => h) rfl rfl ?_; try simp only [Act.put, List.setIfInBounds_toArray, List.set_cons_zero, List.set_cons_succ]) | (refine T_quietN (by rfl) (by rfl) (by rfl) (by rfl) (fun _ _ _ _ h => h) (fun K hK => ?_); go_big_quiet_op; refine hK _ ?_; clear hK K) | (refine T_two (by rfl) (by rfl) (by rfl) (by rfl) (fun _ _ _ _ h => h) (fun K hK => ?_); go_big_quiet_op; refine ⟨_, fun _ _ => rfl, ?_⟩; refine hK _ ?_; clear hK K; try simp only [Act.put, List.setIfInBounds_toArray, List.set_cons_zero, List.set_cons_succ]) | fail)
      refine T_loadA (cs := vcells v) ag_val (by rfl) (by rfl) (fun _ _ _ _ h => h) rfl rfl rfl hv (fun hn => hn) ?_
      try simp only [Act.put, List.setIfInBounds_toArray, List.set_cons_zero, List.set_cons_succ]
      repeat (first | (refine T_skip (by rfl) (by rfl) (fun _ _ _ h => h) ?_; try simp only [Act.put, List.setIfInBounds_toArray, List.set_cons_zero, List.set_cons_succ]) | (refine T_pass (by rfl) (by rfl) ?_; try simp only [Act.put, List.setIfInBounds_toArray, List.set_cons_zero, List.set_cons_succ]) | (refine T_load (by assumption) (by rfl) (by rfl) (fun _ _ _ _ h => h) rfl rfl (by assumption) (by first | exact (fun hn => hn) | assumption) ?_; try simp only [Act.put, List.setIfInBounds_toArray, List.set_cons_zero, List.set_cons_succ]) | (refine T_nil (by rfl) (by rfl) (fun _ _ _ _ h => h) rfl rfl ?_; try simp only [Act.put, List.setIfInBounds_toArray, List.set_cons_zero, List.set_cons_succ]) | (refine T_quietN (by rfl) (by rfl) (by rfl) (by rfl) (fun _ _ _ _ h => h) (fun K hK => ?_); go_big_quiet_op; refine hK _ ?_; clear hK K) | (refine T_two (by rfl) (by rfl) (by rfl) (by rfl) (fun _ _ _ _ h => h) (fun K hK => ?_); go_big_quiet_op; refine ⟨_, fun _ _ => rfl, ?_⟩; refine hK _ ?_; clear hK K; try simp only [Act.put, List.setIfInBounds_toArray, List.set_cons_zero, List.set_cons_succ]) | fail)
      refine T_loadA (cs := vcells x) ag_val (by rfl) (by rfl) (fun _ _ _ _ h => h) rfl rfl rfl hv' (fun hn => hn) ?_
      try simp only [Act.put, List.setIfInBounds_toArray, List.set_cons_zero, List.set_cons_succ]
      unfold vcells
      rcases HX.out with he | hne
      · have hk2 : l[k] = v := by rw [← hx.out]; exact he
        have HK := Lib.hid hk2
        clear hk2 hx HX
        subst he
        repeat (first | (refine T_skip (by rfl) (by rfl) (fun _ _ _ h => h) ?_; try simp only [Act.put, List.setIfInBounds_toArray, List.set_cons_zero, List.set_cons_succ]) | (refine T_pass (by rfl) (by rfl) ?_; try simp only [Act.put, List.setIfInBounds_toArray, List.set_cons_zero, List.set_cons_succ]) | (refine T_load (by assumption) (by rfl) (by rfl) (fun _ _ _ _ h => h) rfl rfl (by assumption) (by first | exact (fun hn => hn) | assumption) ?_; try simp only [Act.put, List.setIfInBounds_toArray, List.set_cons_zero, List.set_cons_succ]) | (refine T_nil (by rfl) (by rfl) (fun _ _ _ _ h => h) rfl rfl ?_; try simp only [Act.put, List.setIfInBounds_toArray, List.set_cons_zero, List.set_cons_succ]) | (refine T_quietN (by rfl) (by rfl) (by rfl) (by rfl) (fun _ _ _ _ h => h) (fun K hK => ?_); go_big_quiet_op; refine hK _ ?_; clear hK K) | (refine T_two (by rfl) (by rfl) (by rfl) (by rfl) (fun _ _ _ _ h => h) (fun K hK => ?_); go_big_quiet_op; refine ⟨_, fun _ _ => rfl, ?_⟩; refine hK _ ?_; clear hK K; try simp only [Act.put, List.setIfInBounds_toArray, List.set_cons_zero, List.set_cons_succ]) | fail)
        refine T_done ?_
        go_wp2
        go_ret
        refine ⟨(hf0.tr hf).drew, .inl ⟨k, hlt, HK.out, fun i hi => HN.out i (by omega) hi, rfl⟩⟩
      · have hk2 : l[k] ≠ v := by rw [← hx.out]; exact hne
        have HK := Lib.hid hk2
        clear hk2 hx HX
        obtain ⟨a, b⟩ := v
        obtain ⟨a', b'⟩ := x
        by_cases h1 : a = a'
        · have h2 : b ≠ b' := fun h2 => hne (by rw [h1, h2])
          subst h1
          have hd : (b == b') = false := by simpa using h2
          have hd2 : (b' == b) = false := by simpa using (Ne.symm h2)
          clear hne h2
          simp only at *
          repeat (first | (refine T_skip (by rfl) (by rfl) (fun _ _ _ h => h) ?_; try simp only [Act.put, List.setIfInBounds_toArray, List.set_cons_zero, List.set_cons_succ]) | (refine T_pass (by rfl) (by rfl) ?_; try simp only [Act.put, List.setIfInBounds_toArray, List.set_cons_zero, List.set_cons_succ]) | (refine T_load (by assumption) (by rfl) (by rfl) (fun _ _ _ _ h => h) rfl rfl (by assumption) (by first | exact (fun hn => hn) | assumption) ?_; try simp only [Act.put, List.setIfInBounds_toArray, List.set_cons_zero, List.set_cons_succ]) | (refine T_nil (by rfl) (by rfl) (fun _ _ _ _ h => h) rfl rfl ?_; try simp only [Act.put, List.setIfInBounds_toArray, List.set_cons_zero, List.set_cons_succ]) | (refine T_quietN (by rfl) (by rfl) (by rfl) (by rfl) (fun _ _ _ _ h => h) (fun K hK => ?_); go_big_quiet_op; refine hK _ ?_; clear hK K) | (refine T_two (by rfl) (by rfl) (by rfl) (by rfl) (fun _ _ _ _ h => h) (fun K hK => ?_); go_big_quiet_op; refine ⟨_, fun _ _ => rfl, ?_⟩; refine hK _ ?_; clear hK K; try simp only [Act.put, List.setIfInBounds_toArray, List.set_cons_zero, List.set_cons_succ]) | fail)
          refine T_done ?_
          go_wp2
          go_roundw
          case rel =>
            refine ⟨k + 1, by omega, by go_num, Lib.hid (fun i hi hik => ?_), hf.drew⟩
            rcases Nat.lt_or_ge i k with h5 | h5
            · exact HN.out i hi h5
            · obtain rfl : i = k := by omega
              exact HK.out
          case measure => simp [intOf]; omega
        · have hd : (a == a') = false := by simpa using h1
          have hd2 : (a' == a) = false := by simpa using (Ne.symm h1)
          clear hne h1
          simp only at *
          repeat (first | (refine T_skip (by rfl) (by rfl) (fun _ _ _ h => h) ?_; try simp only [Act.put, List.setIfInBounds_toArray, List.set_cons_zero, List.set_cons_succ]) | (refine T_pass (by rfl) (by rfl) ?_; try simp only [Act.put, List.setIfInBounds_toArray, List.set_cons_zero, List.set_cons_succ]) | (refine T_load (by assumption) (by rfl) (by rfl) (fun _ _ _ _ h => h) rfl rfl (by assumption) (by first | exact (fun hn => hn) | assumption) ?_; try simp only [Act.put, List.setIfInBounds_toArray, List.set_cons_zero, List.set_cons_succ]) | (refine T_nil (by rfl) (by rfl) (fun _ _ _ _ h => h) rfl rfl ?_; try simp only [Act.put, List.setIfInBounds_toArray, List.set_cons_zero, List.set_cons_succ]) | (refine T_quietN (by rfl) (by rfl) (by rfl) (by rfl) (fun _ _ _ _ h => h) (fun K hK => ?_); go_big_quiet_op; refine hK _ ?_; clear hK K) | (refine T_two (by rfl) (by rfl) (by rfl) (by rfl) (fun _ _ _ _ h => h) (fun K hK => ?_); go_big_quiet_op; refine ⟨_, fun _ _ => rfl, ?_⟩; refine hK _ ?_; clear hK K; try simp only [Act.put, List.setIfInBounds_toArray, List.set_cons_zero, List.set_cons_succ]) | fail)
          refine T_done ?_
          go_wp2
          go_roundw
          case rel =>
            refine ⟨k + 1, by omega, by go_num, Lib.hid (fun i hi hik => ?_), hf.drew⟩
            rcases Nat.lt_or_ge i k with h5 | h5
            · exact HN.out i hi h5
            · obtain rfl : i = k := by omega
              exact HK.out
          case measure => simp [intOf]; omega
    · obtain rfl : k = l.length := by omega
      have ek : decide ((l.length : Int) < l.length) = false := by simp
      go_wp2
      go_ret
      refine ⟨hf0.tr hf, .inr ⟨fun hm => ?_, rfl⟩⟩
      obtain ⟨i, hi, e⟩ := List.mem_iff_getElem.1 hm
      exact HN.out i hi hi e
end Go.Proofs.Ytgchpfennbggoaa
namespace Go.Proofs.Ytgchpfennbggoaa
set_option linter.unusedVariables false
set_option linter.unusedSimpArgs false
open Go.RowKit

set_option maxHeartbeats 2000000 in
set_option maxRecDepth 100000 in
theorem put_miss (S : Nat → Prop) (w : World) (g c d : Nat) (A D : Option Addr) (l : List VL) (m : Nat) (oop : Int) (v : VL) (hb : Blk w g 25 #[.int .i64 14, .slice A l.length c, .slice D m d]) (h : RdV w S A l) (hv : v ∉ l) :
    Calls Try.prog 26 #[.pointer (some ⟨g, 0, none⟩), .agg #[.int .i64 oop, .bool false, .int .i64 v.k, .int .i64 v.n]] w fun e w' => e = .returned (.bool false) ∧ Fr No w w' := by
  have HV := Lib.hid hv
  have g2 := plain_lval
  clear hv
  have q1 := hb.cell 1
  simp only [List.getElem?_toArray, List.getElem?_cons_zero, List.getElem?_cons_succ] at q1
  have hf0 : Fr No w ((w.alloc (.cells #[.int .i64 oop, .bool false, .int .i64 v.k, .int .i64 v.n] 41)).alloc (.cells #[.int .i64 v.k, .int .i64 v.n] 30)) := ((Fr.refl No w).alloc _).alloc _
  have hbv : Blk ((w.alloc (.cells #[.int .i64 oop, .bool false, .int .i64 v.k, .int .i64 v.n] 41)).alloc (.cells #[.int .i64 v.k, .int .i64 v.n] 30)) (w.heap.size + 1) 30 #[.int .i64 v.k, .int .i64 v.n] := Blk.newAt (by simp)
  go_enter Try.func26, Try.ntmps26
  go_wp2_with fail
  generalize hw1 : ((w.alloc (.cells #[.int .i64 oop, .bool false, .int .i64 v.k, .int .i64 v.n] 41)).alloc (.cells #[.int .i64 v.k, .int .i64 v.n] 30)) = w1 at *
  clear hw1
  have q2 := (hb.fr0 hf0).cell 1
  simp only [List.getElem?_toArray, List.getElem?_cons_zero, List.getElem?_cons_succ] at q2
  have hv := hbv.all
  (refine T_begin No [0, 1, 2, 3, 4, 5, 6] [5] (by kernel_rfl) (by kernel_rfl) ?_; simp only [pickOps, List.filterMap_cons, List.filterMap_nil, List.getElem?_cons_zero, List.getElem?_cons_succ, Act.put])
  repeat (first | (refine T_skip (by rfl) (by rfl) (fun _ _ _ h => h) ?_; try simp only [Act.put, List.setIfInBounds_toArray, List.set_cons_zero, List.set_cons_succ]) | (refine T_pass (by rfl) (by rfl) ?_; try simp only [Act.put, List.setIfInBounds_toArray, List.set_cons_zero, List.set_cons_succ]) | (refine T_load (by assumption) (by rfl) (by rfl) (fun _ _ _ _ h => h) rfl rfl (by assumption) (by first | exact (fun hn => hn) | assumption) ?_; try simp only [Act.put, List.setIfInBounds_toArray, List.set_cons_zero, List.set_cons_succ]) | (refine T_nil (by rfl) (by rfl) (fun _ _ _ _ h => h) rfl rfl ?_; try simp only [Act.put, List.setIfInBounds_toArray, List.set_cons_zero, List.set_cons_succ]) | (refine T_quietN (by rfl) (by rfl) (by rfl) (by rfl) (fun _ _ _ _ h => h) (fun K hK => ?_); go_big_quiet_op; refine hK _ ?_; clear hK K) | (refine T_two (by rfl) (by rfl) (by rfl) (by rfl) (fun _ _ _ _ h => h) (fun K hK => ?_); go_big_quiet_op; refine ⟨_, fun _ _ => rfl, ?_⟩; refine hK _ ?_; clear hK K; try simp only [Act.put, List.setIfInBounds_toArray, List.set_cons_zero, List.set_cons_succ]) | fail)
  refine T_loadA (cs := vcells v) ag_val (by rfl) (by rfl) (fun _ _ _ _ h => h) rfl rfl rfl hv (fun hn => hn) ?_
  try simp only [Act.put, List.setIfInBounds_toArray, List.set_cons_zero, List.set_cons_succ]
  unfold vcells
  repeat (first | (refine T_skip (by rfl) (by rfl) (fun _ _ _ h => h) ?_; try simp only [Act.put, List.setIfInBounds_toArray, List.set_cons_zero, List.set_cons_succ]) | (refine T_pass (by rfl) (by rfl) ?_; try simp only [Act.put, List.setIfInBounds_toArray, List.set_cons_zero, List.set_cons_succ]) | (refine T_load (by assumption) (by rfl) (by rfl) (fun _ _ _ _ h => h) rfl rfl (by assumption) (by first | exact (fun hn => hn) | assumption) ?_; try simp only [Act.put, List.setIfInBounds_toArray, List.set_cons_zero, List.set_cons_succ]) | (refine T_nil (by rfl) (by rfl) (fun _ _ _ _ h => h) rfl rfl ?_; try simp only [Act.put, List.setIfInBounds_toArray, List.set_cons_zero, List.set_cons_succ]) | (refine T_quietN (by rfl) (by rfl) (by rfl) (by rfl) (fun _ _ _ _ h => h) (fun K hK => ?_); go_big_quiet_op; refine hK _ ?_; clear hK K) | (refine T_two (by rfl) (by rfl) (by rfl) (by rfl) (fun _ _ _ _ h => h) (fun K hK => ?_); go_big_quiet_op; refine ⟨_, fun _ _ => rfl, ?_⟩; refine hK _ ?_; clear hK K; try simp only [Act.put, List.setIfInBounds_toArray, List.set_cons_zero, List.set_cons_succ]) | fail)
  (refine T_call (by rfl) (by rfl) (fun K hK => ?_); go_wp2_with fail)
  refine (index_calls S A c l v _ (Rd.fr0 h hf0.drew)).mono ?_
  rintro e w2 ⟨hf2, (⟨k, hk, hkv, _, _⟩ | ⟨_, rfl⟩)⟩
  · exact absurd (hkv ▸ List.getElem_mem hk) HV.out
  · go_wp2_with fail
    (refine hK.out _ _ (hf2) ?_; clear hK K; try simp only [Act.put, List.setIfInBounds_toArray, List.set_cons_zero, List.set_cons_succ])
    repeat (first | (refine T_skip (by rfl) (by rfl) (fun _ _ _ h => h) ?_; try simp only [Act.put, List.setIfInBounds_toArray, List.set_cons_zero, List.set_cons_succ]) | (refine T_pass (by rfl) (by rfl) ?_; try simp only [Act.put, List.setIfInBounds_toArray, List.set_cons_zero, List.set_cons_succ]) | (refine T_load (by assumption) (by rfl) (by rfl) (fun _ _ _ _ h => h) rfl rfl (by assumption) (by first | exact (fun hn => hn) | assumption) ?_; try simp only [Act.put, List.setIfInBounds_toArray, List.set_cons_zero, List.set_cons_succ]) | (refine T_nil (by rfl) (by rfl) (fun _ _ _ _ h => h) rfl rfl ?_; try simp only [Act.put, List.setIfInBounds_toArray, List.set_cons_zero, List.set_cons_succ]) | (refine T_quietN (by rfl) (by rfl) (by rfl) (by rfl) (fun _ _ _ _ h => h) (fun K hK => ?_); go_big_quiet_op; refine hK _ ?_; clear hK K) | (refine T_two (by rfl) (by rfl) (by rfl) (by rfl) (fun _ _ _ _ h => h) (fun K hK => ?_); go_big_quiet_op; refine ⟨_, fun _ _ => rfl, ?_⟩; refine hK _ ?_; clear hK K; try simp only [Act.put, List.setIfInBounds_toArray, List.set_cons_zero, List.set_cons_succ]) | fail)
    refine T_done ?_
    go_wp2
    go_ret
    exact ⟨rfl, hf0.drew.tr hf2⟩
end Go.Proofs.Ytgchpfennbggoaa
namespace Go.Proofs.Ytgchpfennbggoaa
set_option linter.unusedVariables false
set_option linter.unusedSimpArgs false
open Go.RowKit

def nums (l : List Int) : List VL := l.map fun n => ⟨3, n⟩
set_option maxHeartbeats 2000000 in
set_option maxRecDepth 100000 in
theorem bag_calls (S : Nat → Prop) (A0 : Option Addr) (c0 : Nat) (l : List Int) (w : World) (h : Rd w S 1 A0 l.length (l.map (Value.int .i64))) (hl : l.length ≤ 1048576) :
    Calls Try.prog 24 #[.slice A0 l.length c0] w fun e w' => ∃ cs, e = .returned (.agg cs.toArray) ∧ ObjC w' (fun b => w.heap.size ≤ b) cs ⟨14, nums l, []⟩ ∧ Fr No w w' := by
  have g2 := plain_lval
  have g4 := plain_i64
  go_enter Try.func24, Try.ntmps24
  go_wp2_with fail
  have hf0 : Fr No w ((w.alloc (.cells #[.int .i64 0, .slice none 0 0, .slice none 0 0] 25)).alloc (.cells #[.int .i64 14, .slice none 0 0, .slice none 0 0] 25)) := ((Fr.refl No w).alloc _).alloc _
  have hbr : Blk ((w.alloc (.cells #[.int .i64 0, .slice none 0 0, .slice none 0 0] 25)).alloc (.cells #[.int .i64 14, .slice none 0 0, .slice none 0 0] 25)) w.heap.size 25 #[.int .i64 0, .slice none 0 0, .slice none 0 0] := (Blk.new w _ _).alloc _
  have hbo : Blk ((w.alloc (.cells #[.int .i64 0, .slice none 0 0, .slice none 0 0] 25)).alloc (.cells #[.int .i64 14, .slice none 0 0, .slice none 0 0] 25)) (w.heap.size + 1) 25 #[.int .i64 14, .slice none 0 0, .slice none 0 0] := Blk.newAt (by simp)
  have hz : ((w.alloc (.cells #[.int .i64 0, .slice none 0 0, .slice none 0 0] 25)).alloc (.cells #[.int .i64 14, .slice none 0 0, .slice none 0 0] 25)).heap.size = w.heap.size + 1 + 1 := by simp
  generalize hw1 : ((w.alloc (.cells #[.int .i64 0, .slice none 0 0, .slice none 0 0] 25)).alloc (.cells #[.int .i64 14, .slice none 0 0, .slice none 0 0] 25)) = w1 at *
  clear hw1
  go_loopw [4] (fun i wr => ∃ (k : Nat) (A : Option Addr) (c : Nat), k ≤ l.length ∧ i = .int .i64 (k : Int) ∧ Blk wr (w.heap.size + 1) 25 #[.int .i64 14, .slice A k c, .slice none 0 0] ∧ wr.ownsRow (w.heap.size + 1 + 1) 30 2 (.slice A k c) k (vals (nums (l.take k))) ∧ Fr (fun b => w.heap.size + 1 ≤ b) w1 wr) (fun i _ => l.length - (intOf i).toNat)
  case atStart => exact ⟨0, none, 0, by omega, rfl, hbo, by simpa [nums, vals] using World.ownsRow_nil _ _ _ _, Fr.refl _ _⟩
  case round =>
    obtain ⟨k, A, c, hk, rfl, hb, hown, hf⟩ := hrel
    have hsr := hf.size
    have hfW : Fr No w wr := hf0.trans hf (fun b hb hT => by omega)
    have hbR := hbr.fr hf (fun hT => by omega)
    by_cases hlt : k < l.length
    · have ek : decide ((k : Int) < l.length) = true := by simpa using (by omega : (k : Int) < l.length)
      obtain ⟨g, of, rfl, _, hc⟩ := Rd.plain h (by omega) (by decide)
      have hc0 := hc k (.int .i64 l[k]) (by simp [hlt])
      have hgl : g < w.heap.size := World.block_lt_of_cell? w _ hc0
      have hcx := hfW.cell_some hc0 (fun hn => hn)
      have hSG : ¬ ((Value.slice A k c).ownBlock = some g) := fun hh => by have := (hown.lt _ hh).1; omega
      have HT := Lib.hid (show vals (nums (l.take (k + 1))) = vals (nums (l.take k)) ++ vcells ⟨3, l[k]⟩ by
        have e : nums (l.take (k + 1)) = nums (l.take k) ++ [⟨3, l[k]⟩] := by unfold nums; rw [← List.take_append_getElem hlt, List.map_append]; rfl
        rw [e, vals_append]; simp [vals])
      generalize l[k] = x at *
      have q1 := hb.cell 1
      simp only [List.getElem?_toArray, List.getElem?_cons_zero, List.getElem?_cons_succ] at q1
      clear hc hc0
      go_wp2_with fail
      have hSH : ¬ ((Value.slice A k c).ownBlock = some (w.heap.size + 1)) := fun hh => by have := (hown.lt _ hh).1; omega
      refine T_begin2 (fun b => (Value.slice A k c).ownBlock = some b) [10] [0, 1, 2, 3, 4, 5, 6, 7, 8, 9, 10] [7, 8, 10] (by kernel_rfl) (by kernel_rfl) ?_
      simp only [pickOps, List.filterMap_cons, List.filterMap_nil, List.getElem?_cons_zero, List.getElem?_cons_succ, Act.put]
      repeat (first | (refine T_skip (by rfl) (by rfl) (fun _ _ _ h => h) ?_; try simp only [Act.put, List.setIfInBounds_toArray, List.set_cons_zero, List.set_cons_succ]) | (refine T_pass (by rfl) (by rfl) ?_; try simp only [Act.put, List.setIfInBounds_toArray, List.set_cons_zero, List.set_cons_succ]) | (refine T_load (by assumption) (by rfl) (by rfl) (fun _ _ _ _ h => h) rfl rfl (by assumption) (by first | exact (fun hn => hn) | assumption) ?_; try simp only [Act.put, List.setIfInBounds_toArray, List.set_cons_zero, List.set_cons_succ]) | (refine T_nil (by rfl) (by rfl) (fun _ _ _ _ h => h) rfl rfl ?_; try simp only [Act.put, List.setIfInBounds_toArray, List.set_cons_zero, List.set_cons_succ]) | (refine T_quietN (by rfl) (by rfl) (by rfl) (by rfl) (fun _ _ _ _ h => h) (fun K hK => ?_); go_big_quiet_op; refine hK _ ?_; clear hK K) | (refine T_two (by rfl) (by rfl) (by rfl) (by rfl) (fun _ _ _ _ h => h) (fun K hK => ?_); go_big_quiet_op; refine ⟨_, fun _ _ => rfl, ?_⟩; refine hK _ ?_; clear hK K; try simp only [Act.put, List.setIfInBounds_toArray, List.set_cons_zero, List.set_cons_succ]) | fail)
      refine T_call (by rfl) (by rfl) (fun K hK => ?_)
      refine wp_buildOne so_val (by decide) (vcells ⟨3, x⟩) rfl rfl rfl ?_
      (refine hK.out _ _ (((Fr.refl _ _).alloc _)) ?_; clear hK K; try simp only [Act.put, List.setIfInBounds_toArray, List.set_cons_zero, List.set_cons_succ])
      refine T_call (by rfl) (by rfl) (fun K hK => ?_)
      refine wp_app_at so_val (own_fr0 hown ((Fr.refl No _).drew.alloc (.cells (vcells ⟨3, x⟩).toArray 30))) ((Blk.new _ _ _).rd (size := 2) (n := 1) (by rfl) (by decide)) (by intro u hu; simp [vcells] at hu; rcases hu with rfl | rfl <;> rfl) (by omega) (by simp; omega) rfl rfl rfl ?_
      intro v5 w5 hown5 hg5 hat5
      refine hK.out _ _ ((Fr.refl _ _).grown hg5 (fun q hq => .inr hq)) ?_
      clear hK K
      try simp only [Act.put, List.setIfInBounds_toArray, List.set_cons_zero, List.set_cons_succ]
      have hb5 := (hb.drew.alloc (.cells (vcells ⟨3, x⟩).toArray 30)).grown hg5 (fun hh => hSH hh.symm)
      obtain ⟨A3, c3, rfl, hc3, _, hA3⟩ := own_form hown5
      have q52 := hb5.cell 1
      have z52 := hb5.frozen 1
      simp only [List.getElem?_toArray, List.getElem?_cons_zero, List.getElem?_cons_succ] at q52
      repeat (first | (refine T_skip (by rfl) (by rfl) (fun _ _ _ h => h) ?_; try simp only [Act.put, List.setIfInBounds_toArray, List.set_cons_zero, List.set_cons_succ]) | (refine T_pass (by rfl) (by rfl) ?_; try simp only [Act.put, List.setIfInBounds_toArray, List.set_cons_zero, List.set_cons_succ]) | (refine T_load (by assumption) (by rfl) (by rfl) (fun _ _ _ _ h => h) rfl rfl (by assumption) (by first | exact (fun hn => hn) | assumption) ?_; try simp only [Act.put, List.setIfInBounds_toArray, List.set_cons_zero, List.set_cons_succ]) | (refine T_nil (by rfl) (by rfl) (fun _ _ _ _ h => h) rfl rfl ?_; try simp only [Act.put, List.setIfInBounds_toArray, List.set_cons_zero, List.set_cons_succ]) | (refine T_quietN (by rfl) (by rfl) (by rfl) (by rfl) (fun _ _ _ _ h => h) (fun K hK => ?_); go_big_quiet_op; refine hK _ ?_; clear hK K) | (refine T_two (by rfl) (by rfl) (by rfl) (by rfl) (fun _ _ _ _ h => h) (fun K hK => ?_); go_big_quiet_op; refine ⟨_, fun _ _ => rfl, ?_⟩; refine hK _ ?_; clear hK K; try simp only [Act.put, List.setIfInBounds_toArray, List.set_cons_zero, List.set_cons_succ]) | fail)
      refine T_turn No [] (by rfl) (by rfl) (by rfl) (fun K hK => ?_)
      go_wp2_with fail
      refine hK.out _ _ ?_
      clear hK K
      refine T_done ?_
      go_wp2
      go_roundw
      case rel =>
        refine ⟨k + 1, A3, c3, by omega, by go_num, hb5.put 1 _, ?_, ?_⟩
        · rw [HT.out]
          exact own_fr hown5 ((Fr.refl (fun b => b = w.heap.size + 1) w5).set (p := ⟨w.heap.size + 1, 1, none⟩) (.inr rfl) _) (fun b hb hT => by have := (hown5.lt _ hb).1; omega)
        · refine (((hf.drew.alloc (.cells (vcells ⟨3, x⟩).toArray 30)).grown hg5 (fun q hq => .inr ?_)).set (p := ⟨w.heap.size + 1, 1, none⟩) (.inr (Nat.le_refl _)) _)
          have := (hown.lt _ hq).1
          omega
      case measure => simp [intOf]; omega
    · obtain rfl : k = l.length := by omega
      have ek : decide ((l.length : Int) < l.length) = false := by simp
      rw [List.take_length] at hown
      have hcs := hb.all
      go_wp2_with (first
        | (refine wpList_ldA ag_obj rfl _ rfl ⟨w.heap.size + 1, 0, none⟩ [.int .i64 14, .slice A l.length c, .slice none 0 0] rfl rfl hcs ?_)
        | (refine wpList_stA ag_obj.info rfl _ _ rfl w.heap.size 0 _ _ [.int .i64 14, .slice A l.length c, .slice none 0 0] _ rfl rfl rfl rfl (by intro u hu; simp at hu; rcases hu with rfl | rfl | rfl <;> rfl) hbR (by decide) ?_; intro w5 hb5 hg5 hz5)
        | fail)
      rw [splice_all _ _ (by rfl)] at hb5
      refine bodyPost_ret (results_blk ag_obj rfl _ _ _ _ _ rfl hb5 rfl) rfl ?_
      obtain ⟨_, _, e9, _, _, hDl⟩ := own_form hown
      injection e9 with e91 e92 e93
      subst e91
      have hnl : (nums l).length = l.length := by simp [nums]
      refine ⟨_, rfl, ⟨A, c, none, 0, by simp [nums], ?_, Rd.nil_⟩, hfW.grown hg5 (fun q hq => by injection hq with hq; exact .inl (by omega))⟩
      unfold RdV
      rw [hnl]
      refine Rd.mono (Rd.grown (own_rd hown (show l.length ≤ 211106232532992 by omega)) hg5 (fun q hq hb => ?_)) (fun b _ hb => ?_) (by decide)
      · injection hq with hq; have := (hown.lt q ((hDl q).2 hb)).1; omega
      · have := (hown.lt b ((hDl b).2 hb)).1; omega
end Go.Proofs.Ytgchpfennbggoaa
