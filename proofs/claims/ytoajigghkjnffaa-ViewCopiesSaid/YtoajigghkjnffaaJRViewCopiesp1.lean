/- Objects and values as plain data, and how they lie in memory; value.Copy; the reference's Same at objects alike. No condition but size. How values, objects and bytes come in. No condition. Maps with int64 keys and elements of any kind: a map reads as a function from keys to the element's value itself. No condition. value.Copy; the reference's Same at objects alike. No condition but size. Numbers as bytes, plainly; no program in it. No condition. Numbers read from bytes, plainly; no program in it. No condition. Texts behind how many bytes they are, plainly; no program in it. No condition. Values and objects as bytes, plainly; no program in it. No condition. Records as bytes, plainly; no program in it. No condition. Changes and records in memory. No condition. Which values and which objects can be kept: value's, and the reference's. No condition. -/
import Derived.Test.YtoajigghkjnffaaProg
import Derived.Test.YtoajigghkjnffaaJRViewCopiesp0
import Derived.Lib.SliceRun
import Derived.Maps.Own
import Derived.Maps.OwnOps
import Derived.Maps.OwnSet
import Derived.Maps.Views
import Derived.Maps.Ext
import Derived.Carry
import Derived.Laws.BitsAllLaws
namespace Go.Proofs.Ytoajigghkjnffaa
set_option linter.unusedVariables false
set_option linter.unusedSimpArgs false
open Go.RowKit

def vcells (v : VL) : List Value := [.int .i64 v.k, .int .i64 v.n]
def vals (l : List VL) : List Value := l.flatMap vcells
theorem vals_append (a b : List VL) : vals (a ++ b) = vals a ++ vals b := by simp [vals]
theorem vals_cons (v : VL) (l : List VL) : vals (v :: l) = vcells v ++ vals l := rfl
theorem vals_len (l : List VL) : (vals l).length = l.length * 2 := by
  induction l with
  | nil => rfl
  | cons v l ih => rw [vals_cons, List.length_append, ih, List.length_cons]; simp [vcells]; omega
theorem vals_one (l : List VL) : ∀ u ∈ vals l, u.oneCell' = true := by
  intro u hu
  obtain ⟨v, _, hv⟩ := List.mem_flatMap.1 hu
  simp [vcells] at hv
  rcases hv with rfl | rfl <;> rfl
theorem vals_at {l : List VL} {k : Nat} (hk : k < l.length) (j : Nat) (u : Value) (hu : (vcells l[k])[j]? = some u) : (vals l)[k * 2 + j]? = some u := by
  have hj : j < 2 := by have := (List.getElem?_eq_some_iff.1 hu).1; simpa [vcells] using this
  have e : l = l.take k ++ (l[k] :: l.drop (k + 1)) := by rw [← List.drop_eq_getElem_cons hk, List.take_append_drop]
  have e2 : vals l = vals (l.take k) ++ (vcells l[k] ++ vals (l.drop (k + 1))) := by
    conv => lhs; rw [e]
    rw [vals_append]; rfl
  have hl : (vals (l.take k)).length = k * 2 := by rw [vals_len, List.length_take, Nat.min_eq_left (by omega)]
  rw [e2, List.getElem?_append_right (by omega), hl, show k * 2 + j - k * 2 = j by omega, List.getElem?_append_left (by simpa [vcells] using hj)]
  exact hu
/-- A slice of values that reads as l. -/
def RdV (w : World) (S : Nat → Prop) (A : Option Addr) (l : List VL) : Prop := Rd w S 2 A l.length (vals l)
theorem RdV.le {w : World} {S : Nat → Prop} {A : Option Addr} {l : List VL} (h : RdV w S A l) : l.length ≤ 211106232532992 := h.2.1
theorem Rd.plain {w : World} {S : Nat → Prop} {size n : Nat} {A : Option Addr} {xs : List Value} (h : Rd w S size A n xs) (hn : 0 < n) (hs : 0 < size) : ∃ g o, A = some ⟨g, o, none⟩ ∧ S g ∧ ∀ j u, xs[j]? = some u → w.cell? ⟨g, o + j, none⟩ = some u := by
  obtain ⟨ad, rfl, hS, hc⟩ := h.2.2 hn
  have hl : 0 < xs.length := by rw [h.1]; exact Nat.mul_pos hn hs
  have hsp : ad.spot = none := by
    have h3 := hc 0 _ (List.getElem?_eq_getElem hl)
    have := World.cell?_spot h3
    simpa [Addr.add] using this
  obtain ⟨g, o, sp⟩ := ad
  simp only at hsp
  subst hsp
  refine ⟨g, o, rfl, hS, fun j u hu => ?_⟩
  have := hc j u hu
  have key : (⟨g, o, none⟩ : Addr).add j = ⟨g, o + j, none⟩ := by unfold Addr.add; split <;> simp_all
  rwa [key] at this
/-- The k-th value's two cells. -/
theorem RdV.at_ {w : World} {S : Nat → Prop} {A : Option Addr} {l : List VL} (h : RdV w S A l) {k : Nat} (hk : k < l.length) :
    ∃ g o, A = some ⟨g, o, none⟩ ∧ S g ∧ w.cell? ⟨g, o + k * 2, none⟩ = some (.int .i64 l[k].k) ∧ w.cell? ⟨g, o + k * 2 + 1, none⟩ = some (.int .i64 l[k].n) ∧ (∀ j u, (vcells l[k])[j]? = some u → w.cell? ((⟨g, o + k * 2, none⟩ : Addr).add j) = some u) := by
  obtain ⟨g, o, rfl, hS, hc⟩ := h.plain (by omega) (by decide)
  have key : ∀ j u, (vcells l[k])[j]? = some u → w.cell? ⟨g, o + k * 2 + j, none⟩ = some u := fun j u hu => by
    have := hc _ u (vals_at hk j u hu); rwa [← Nat.add_assoc] at this
  refine ⟨g, o, rfl, hS, key 0 _ rfl, key 1 _ rfl, fun j u hu => ?_⟩
  have e : (⟨g, o + k * 2, none⟩ : Addr).add j = ⟨g, o + k * 2 + j, none⟩ := by unfold Addr.add; split <;> simp_all
  rw [e]; exact key j u hu
def ObjC (w : World) (S : Nat → Prop) (cs : List Value) (o : ObjM) : Prop :=
  ∃ A c B c2, cs = [.int .i64 o.cls, .slice A o.slots.length c, .slice B o.bytes.length c2] ∧ RdV w S A o.slots ∧ RdB w S B o.bytes
theorem ObjC.keep {w w' : World} {S T : Nat → Prop} {cs : List Value} {o : ObjM} (h : ObjC w S cs o) (hf : Fr T w w') (hd : ∀ b, S b → ¬ T b) : ObjC w' S cs o := by
  obtain ⟨A, c, B, c2, e, h1, h2⟩ := h; exact ⟨A, c, B, c2, e, Rd.fr h1 hf hd, Rd.fr h2 hf hd⟩
theorem ObjC.fr0 {w w' : World} {S : Nat → Prop} {cs : List Value} {o : ObjM} (h : ObjC w S cs o) (hf : Fr No w w') : ObjC w' S cs o := h.keep hf (fun _ _ hn => hn)
theorem ObjC.mono {w : World} {S T : Nat → Prop} {cs : List Value} {o : ObjM} (h : ObjC w S cs o) (hS : ∀ b, b < w.heap.size → S b → T b) : ObjC w T cs o := by
  obtain ⟨A, c, B, c2, e, h1, h2⟩ := h; exact ⟨A, c, B, c2, e, Rd.mono h1 hS (by decide), Rd.mono h2 hS (by decide)⟩
theorem ObjC.lt {w : World} {S : Nat → Prop} {cs : List Value} {o : ObjM} (h : ObjC w S cs o) : ObjC w (fun b => S b ∧ b < w.heap.size) cs o := by
  obtain ⟨A, c, B, c2, e, h1, h2⟩ := h; exact ⟨A, c, B, c2, e, Rd.lt h1 (by decide), Rd.lt h2 (by decide)⟩
theorem plain_of {T : TypeId} {d : TypeDesc} (h : Try.prog.underlying T = some d) (hd : (match d with | .struct _ | .array _ _ => true | _ => false) = false) : ∀ w, (isAgg T).run Try.prog w = .ok false w := by
  intro w
  unfold isAgg
  rw [Sem.run_bind, run_underlying h w]
  cases d <;> simp_all
theorem plain_int : ∀ w, (isAgg 3).run Try.prog w = .ok false w := plain_of Try.underlying3 rfl
theorem plain_i64 : ∀ w, (isAgg 2).run Try.prog w = .ok false w := plain_of Try.underlying2 rfl
theorem plain_bool : ∀ w, (isAgg 4).run Try.prog w = .ok false w := plain_of Try.underlying4 rfl
theorem plain_lval : ∀ w, (isAgg 24).run Try.prog w = .ok false w := plain_of Try.underlying24 rfl
theorem plain_lu8 : ∀ w, (isAgg 25).run Try.prog w = .ok false w := plain_of Try.underlying25 rfl
theorem so_val : SliceOf Try.prog 24 23 (.agg #[.int .i64 0, .int .i64 0]) 2 16 := ⟨Try.underlying24, by kernel_rfl, rfl, by decide, by decide, by decide⟩
theorem ag_val : AggOf Try.prog 23 2 := ⟨⟨_, Try.underlying23, rfl⟩, by kernel_rfl⟩
theorem ag_obj : AggOf Try.prog 27 3 := ⟨⟨_, Try.underlying27, rfl⟩, by kernel_rfl⟩

theorem clone_vals (S : Nat → Prop) (A : Option Addr) (c : Nat) (l : List VL) (w : World) (h : RdV w S A l) (hb : l.length * 16 ≤ 211106232532992) :
    Calls Try.prog 60 #[.slice A l.length c] w fun e w' => ∃ v, e = .returned v ∧ w'.ownsRow w.heap.size 23 2 v l.length (vals l) ∧ Fr No w w' := by
  have hle := h.le
  have E := fun (w : World) (a : Option Addr) (n c n' c' : Nat) => Lib.run_eql_slice_nil (P := Try.prog) w 24 23 a n c n' c' Try.underlying24
  cases A with
  | none =>
    obtain rfl : l = [] := by
      cases l with
      | nil => rfl
      | cons x l => obtain ⟨g, o, hA, _⟩ := h.at_ (k := 0) (by simp); cases hA
    go_enter Try.func60, Try.ntmps60
    go_wp2
    go_ret
    exact ⟨_, rfl, World.ownsRow_nil _ _ _ _, Fr.refl _ _⟩
  | some ad =>
    go_enter Try.func60, Try.ntmps60
    go_wp2_with (refine wpList_app so_val (World.ownsRow_made w #[] 0 (Nat.le_refl _) (Nat.zero_le _) rfl) (Rd.alloc h _) (vals_one _) (by omega) (by simp) rfl rfl rfl rfl ?_; intro v2 w2 hown2 hg2 hat2)
    go_ret
    exact ⟨v2, rfl, by simpa using hown2, ((Fr.refl No w).alloc _).grown hg2 (by simp [Value.ownBlock])⟩
theorem clone_bytes (S : Nat → Prop) (A : Option Addr) (c : Nat) (l : List UInt8) (w : World) (h : RdB w S A l) :
    Calls Try.prog 61 #[.slice A l.length c] w fun e w' => ∃ v, e = .returned v ∧ w'.ownsRow w.heap.size 5 1 v l.length (U8 l) ∧ Fr No w w' := by
  have hle := h.le
  have E := fun (w : World) (a : Option Addr) (n c n' c' : Nat) => Lib.run_eql_slice_nil (P := Try.prog) w 25 5 a n c n' c' Try.underlying25
  cases A with
  | none =>
    obtain rfl : l = [] := by
      cases l with
      | nil => rfl
      | cons x l => obtain ⟨ad, hA, _⟩ := RdB.at_ h (k := 0) (by simp); cases hA
    go_enter Try.func61, Try.ntmps61
    go_wp2
    go_ret
    exact ⟨_, rfl, World.ownsRow_nil _ _ _ _, Fr.refl _ _⟩
  | some ad =>
    go_enter Try.func61, Try.ntmps61
    go_wp2_with (refine wpList_app so_u8 (World.ownsRow_made w #[] 0 (Nat.le_refl _) (Nat.zero_le _) rfl) (Rd.alloc h _) (U8_one _) (by omega) (by simp) rfl rfl rfl rfl ?_; intro v2 w2 hown2 hg2 hat2)
    go_ret
    exact ⟨v2, rfl, by simpa using hown2, ((Fr.refl No w).alloc _).grown hg2 (by simp [Value.ownBlock])⟩
end Go.Proofs.Ytoajigghkjnffaa
namespace Go.Proofs.Ytoajigghkjnffaa
set_option linter.unusedVariables false
set_option linter.unusedSimpArgs false
open Go.ChangeShapes Go.WideShapes Go.ChangeAt Go.RowKit

set_option maxRecDepth 100000 in
theorem opens_int {t : TypeId} {k : IntKind} (ht : Try.prog.underlying t = some (.int k)) : Opens Try.prog t (fun _ cs (x : Int) => cs = [.int k x] ∧ (Lit.int k x).wf = true) (fun _ => 1) := by
  intro H enc w sp held fuel cs x h _
  obtain ⟨n, rfl, rfl, hw⟩ := DataW.trod_int ht h
  exact ⟨n, ⟨rfl, hw⟩, bulk_pos _⟩
set_option maxRecDepth 100000 in
theorem opens_bool {t : TypeId} (ht : Try.prog.underlying t = some .bool) : Opens Try.prog t (fun _ cs (x : Bool) => cs = [.bool x]) (fun _ => 1) := by
  intro H enc w sp held fuel cs x h _
  obtain ⟨b, h1, h2⟩ := DataW.trod_bool ht h
  exact ⟨b, h1, bulk_pos _⟩
theorem wf_i64 {x : Int} (h : (Lit.int .i64 x).wf = true) : -9223372036854775808 ≤ x ∧ x ≤ 9223372036854775807 := by simpa [Lit.wf, IntKind.min, IntKind.max, IntKind.signed, IntKind.bits] using h
theorem wf_u8 {x : Int} (h : (Lit.int .u8 x).wf = true) : 0 ≤ x ∧ x ≤ 255 := by simpa [Lit.wf, IntKind.min, IntKind.max, IntKind.signed, IntKind.bits] using h
def VWf (v : VL) : Prop := (-9223372036854775808 ≤ v.k ∧ v.k ≤ 9223372036854775807) ∧ -9223372036854775808 ≤ v.n ∧ v.n ≤ 9223372036854775807
set_option maxRecDepth 100000 in
theorem opens_byte : Opens Try.prog 5 (fun _ cs (x : UInt8) => cs = [.int .u8 (x.toNat : Int)]) (fun _ => 1) := by
  intro H enc w sp held fuel cs x h hw
  obtain ⟨n, ⟨rfl, hn⟩, hb⟩ := opens_int Try.underlying5 H enc w sp held fuel cs x h hw
  have hr := wf_u8 hn
  refine ⟨UInt8.ofNat n.toNat, ?_, hb⟩
  show [Value.int .u8 n] = [Value.int .u8 ((UInt8.ofNat n.toNat).toNat : Int)]
  rw [UInt8.toNat_ofNat']
  congr 2; omega
theorem sum_ones {α : Type} (l : List α) : (l.map (fun _ => 1)).sum = l.length := by induction l with | nil => rfl | cons x l ih => rw [List.map_cons, List.sum_cons, ih, List.length_cons]; omega
set_option maxRecDepth 100000 in
theorem opens_u8s : Opens Try.prog 25 (fun w cs (l : List UInt8) => (∃ A c, cs = [.slice A l.length c] ∧ RdB w (fun b => b < w.heap.size) A l ∧ l.length ≤ c ∧ c ≤ maxLen) ∧ l.length ≤ reachBytes) (fun l => l.length + 1) := by
  intro H enc w sp held fuel cs x h hw
  obtain ⟨ys, ⟨⟨A, c, css, rfl, hrd, hall, hc, hm⟩, h8⟩, hb⟩ := opens_list Try.underlying25 (size := 1) (bytes := 1) (by kernel_rfl) (by kernel_rfl) (by decide) (by decide) opens_byte (fun w cs y hy => by rw [hy]; rfl) H enc w sp held fuel cs x h hw
  have key : ∀ (css : List (List Value)) (ys : List UInt8), All2 (fun cs (x : UInt8) => cs = [Value.int .u8 (x.toNat : Int)]) css ys → css.flatten = U8 ys := by
    intro css
    induction css with
    | nil => intro ys h; cases ys with
      | nil => rfl
      | cons y ys => exact h.elim
    | cons c0 css ih => intro ys h; cases ys with
      | nil => exact h.elim
      | cons y ys => rw [List.flatten_cons, ih ys h.2, h.1]; rfl
  rw [key css ys hall] at hrd
  simp only at hb
  rw [sum_ones] at hb
  exact ⟨ys, ⟨⟨A, c, rfl, hrd, hc, hm⟩, by omega⟩, hb⟩
set_option maxRecDepth 100000 in
theorem opens_val : Opens Try.prog 23 (fun _ cs (v : VL) => cs = vcells v ∧ VWf v) (fun _ => 1) := by
  intro H enc w sp held fuel cs x h hw
  have hu := Try.underlying23
  obtain ⟨xs, n, _, rfl, hl, hxl, hf⟩ := DataW.trod_struct hu h
  have hc2 : Try.prog.cellsOf 23 = 2 := by kernel_rfl
  have hi1 : Try.prog.cellsOf 3 = 1 := by kernel_rfl
  have hi2 : Try.prog.cellsOf 2 = 1 := by kernel_rfl
  rw [hc2] at hl
  have f0 := hf 0 _ rfl
  have f1 := hf 1 _ rfl
  match cs, hl with
  | [c0, c1], _ =>
  match xs, hxl with
  | [x0, x1], _ =>
  simp only [hi1, hi2, List.drop_zero, List.drop_succ_cons, List.take_succ_cons, List.take_zero, List.getElem?_cons_zero, List.getElem?_cons_succ] at f0 f1
  obtain ⟨a0, e0, _, w0⟩ := DataW.trod_int Try.underlying3 f0
  obtain ⟨a1, e1, _, w1⟩ := DataW.trod_int Try.underlying2 f1
  injection e0 with e0 _
  injection e1 with e1 _
  subst e0 e1
  exact ⟨⟨a0, a1⟩, ⟨rfl, wf_i64 w0, wf_i64 w1⟩, bulk_pos _⟩
set_option maxRecDepth 100000 in
theorem opens_vals : Opens Try.prog 24 (fun w cs (l : List VL) => (∃ A c, cs = [.slice A l.length c] ∧ RdV w (fun b => b < w.heap.size) A l ∧ l.length ≤ c ∧ c ≤ maxLen) ∧ (∀ v ∈ l, VWf v) ∧ l.length * 16 ≤ reachBytes) (fun l => l.length + 1) := by
  intro H enc w sp held fuel cs x h hw
  obtain ⟨ys, ⟨⟨A, c, css, rfl, hrd, hall, hc, hm⟩, h8⟩, hb⟩ := opens_list Try.underlying24 (size := 2) (bytes := 16) (by kernel_rfl) (by kernel_rfl) (by decide) (by decide) opens_val (fun w cs y hy => by rw [hy.1]; rfl) H enc w sp held fuel cs x h hw
  have key : ∀ (css : List (List Value)) (ys : List VL), All2 (fun cs (v : VL) => cs = vcells v ∧ VWf v) css ys → css.flatten = vals ys ∧ ∀ v ∈ ys, VWf v := by
    intro css
    induction css with
    | nil => intro ys h; cases ys with
      | nil => exact ⟨rfl, fun v hv => by cases hv⟩
      | cons y ys => exact h.elim
    | cons c0 css ih => intro ys h; cases ys with
      | nil => exact h.elim
      | cons y ys =>
        obtain ⟨h1, h2⟩ := ih ys h.2
        refine ⟨by rw [List.flatten_cons, h1, h.1.1]; rfl, fun v hv => ?_⟩
        rcases List.mem_cons.1 hv with rfl | hv
        · exact h.1.2
        · exact h2 v hv
  obtain ⟨k1, k2⟩ := key css ys hall
  rw [k1] at hrd
  simp only at hb
  rw [sum_ones] at hb
  exact ⟨ys, ⟨⟨A, c, rfl, hrd, hc, hm⟩, k2, h8⟩, hb⟩
/-- What an object's cells read as. -/
def ObjR (w : World) (cs : List Value) (o : ObjM) : Prop :=
  ObjC w (fun b => b < w.heap.size) cs o ∧ (o.slots.length * 16 ≤ 140737488351232 ∧ o.bytes.length ≤ 140737488351232) ∧ (∀ v ∈ o.slots, VWf v) ∧ -9223372036854775808 ≤ o.cls ∧ o.cls ≤ 9223372036854775807
theorem ObjC.len {w : World} {S : Nat → Prop} {cs : List Value} {o : ObjM} (h : ObjC w S cs o) : cs.length = 3 := by
  obtain ⟨A, c, B, c2, rfl, _⟩ := h; rfl
set_option maxRecDepth 100000 in
theorem opens_obj : Opens Try.prog 27 ObjR (fun o => o.slots.length + o.bytes.length + 2) := by
  intro H enc w sp held fuel cs x h hw
  have hu := Try.underlying27
  obtain ⟨xs, n, _, rfl, hl, hxl, hf⟩ := DataW.trod_struct hu h
  have hc3 : Try.prog.cellsOf 27 = 3 := by kernel_rfl
  have hi1 : Try.prog.cellsOf 2 = 1 := by kernel_rfl
  have hi2 : Try.prog.cellsOf 24 = 1 := by kernel_rfl
  have hi3 : Try.prog.cellsOf 25 = 1 := by kernel_rfl
  rw [hc3] at hl
  have f0 := hf 0 _ rfl
  have f1 := hf 1 _ rfl
  have f2 := hf 2 _ rfl
  match cs, hl with
  | [c0, c1, c2], _ =>
  match xs, hxl with
  | [x0, x1, x2], _ =>
  simp only [hi1, hi2, hi3, List.drop_zero, List.drop_succ_cons, List.take_succ_cons, List.take_zero, List.getElem?_cons_zero, List.getElem?_cons_succ] at f0 f1 f2
  have hw' : ∀ m, (m ∈ DataW.weights Try.prog 24 x1.1 ∨ m ∈ DataW.weights Try.prog 25 x2.1) → m ≤ reachBytes := by
    intro m hm
    refine hw m ?_
    simp only [DataW.weights, hu, DataW.weightsEach, List.map_cons, List.map_nil, List.mem_append]
    rcases hm with hm | hm
    · exact .inr (.inl hm)
    · exact .inr (.inr (.inl hm))
  obtain ⟨a0, e0, _, w0⟩ := DataW.trod_int Try.underlying2 f0
  obtain ⟨vs, ⟨⟨Av, cv, e1, hv, _, _⟩, wv, v8⟩, bv⟩ := opens_vals H enc w sp held n [c1] x1 f1 (fun m hm => hw' m (.inl hm))
  obtain ⟨bs, ⟨⟨Ab, cb, e2, hbr, _, _⟩, b8⟩, bb⟩ := opens_u8s H enc w sp held n [c2] x2 f2 (fun m hm => hw' m (.inr hm))
  injection e0 with e0 _
  injection e1 with e1 _
  injection e2 with e2 _
  subst e0 e1 e2
  refine ⟨⟨a0, vs, bs⟩, ⟨⟨Av, cv, Ab, cb, rfl, hv, hbr⟩, ⟨by simpa [reachBytes] using v8, by simpa [reachBytes] using b8⟩, wv, wf_i64 w0⟩, ?_⟩
  have := bulk_pos x0.1
  simp only at bv bb
  simp only [List.map_cons, List.map_nil, Rows.uptoBulk, Rows.uptoBulkAll]
  omega
section
variable {H : Type} {enc : TypeId × Value → H} {W : World} {held : Bool}
theorem weights_of {ts : List TypeId} {ds : List (DataW H)} (hsz : (DataW.weightsEach Try.prog ts ds).all (· ≤ reachBytes) = true) {j : Nat} {t : TypeId} {d : DataW H} (ht : ts[j]? = some t) (hd : ds[j]? = some d) : ∀ n ∈ DataW.weights Try.prog t d, n ≤ reachBytes :=
  fun n hn => by have := List.all_eq_true.1 hsz _ (DataW.weights_mem_each ht hd n hn); simpa using this
theorem open_obj {ts : List TypeId} {ds : List (DataW H)} (hsz : (DataW.weightsEach Try.prog ts ds).all (· ≤ reachBytes) = true) {j : Nat} {v : Value} {d : DataW H} {p : List MemPlace}
    (ht : ts[j]? = some 27) (hd : ds[j]? = some d) (h : DataW.Trod enc Try.prog W 0 (fun _ => true) held 27 v d p) :
    ∃ (cs : List Value) (o : ObjM), v = .agg cs.toArray ∧ ObjR W cs o ∧ o.slots.length + o.bytes.length + 2 ≤ Rows.uptoBulk d := by
  obtain ⟨fuel, hf⟩ := h
  obtain ⟨o, h1, h3⟩ := opens_obj H enc W (fun _ => true) held fuel _ _ hf (weights_of hsz ht hd)
  have hl := h1.1.len
  cases v with
  | agg cs => exact ⟨cs.toList, o, rfl, h1, h3⟩
  | _ => simp [Value.cells] at hl
theorem open_val {ts : List TypeId} {ds : List (DataW H)} (hsz : (DataW.weightsEach Try.prog ts ds).all (· ≤ reachBytes) = true) {j : Nat} {v : Value} {d : DataW H} {p : List MemPlace}
    (ht : ts[j]? = some 23) (hd : ds[j]? = some d) (h : DataW.Trod enc Try.prog W 0 (fun _ => true) held 23 v d p) :
    ∃ x : VL, v = .agg #[.int .i64 x.k, .int .i64 x.n] ∧ VWf x := by
  obtain ⟨fuel, hf⟩ := h
  obtain ⟨x, ⟨h1, h2⟩, h3⟩ := opens_val H enc W (fun _ => true) held fuel _ _ hf (weights_of hsz ht hd)
  have hl : v.cells.toList.length = 2 := by rw [h1]; rfl
  cases v with
  | agg cs =>
    refine ⟨x, ?_, h2⟩
    have e : cs.toList = vcells x := h1
    rw [← Array.toArray_toList (xs := cs), e]; rfl
  | _ => simp [Value.cells] at hl
theorem open_u8s {ts : List TypeId} {ds : List (DataW H)} (hsz : (DataW.weightsEach Try.prog ts ds).all (· ≤ reachBytes) = true) {j : Nat} {v : Value} {d : DataW H} {p : List MemPlace}
    (ht : ts[j]? = some 25) (hd : ds[j]? = some d) (h : DataW.Trod enc Try.prog W 0 (fun _ => true) held 25 v d p) (hv : ∃ A n c, v = .slice A n c) :
    ∃ (A : Option Addr) (c : Nat) (l : List UInt8), v = .slice A l.length c ∧ RdB W (fun b => b < W.heap.size) A l ∧ l.length ≤ 140737488351232 ∧ l.length ≤ c ∧ c ≤ maxLen ∧ l.length < Rows.uptoBulk d := by
  obtain ⟨A, n, c, rfl⟩ := hv
  obtain ⟨fuel, hf⟩ := h
  obtain ⟨l, ⟨⟨A', c', e, h1, h2, h3⟩, h5⟩, h6⟩ := opens_u8s H enc W (fun _ => true) held fuel _ _ hf (weights_of hsz ht hd)
  simp [Value.cells] at e
  obtain ⟨rfl, rfl, rfl⟩ := e
  exact ⟨_, _, l, rfl, h1, by simpa [reachBytes] using h5, h2, h3, h6⟩
end
end Go.Proofs.Ytoajigghkjnffaa
namespace Go.Proofs.Ytoajigghkjnffaa
set_option linter.unusedVariables false
set_option linter.unusedSimpArgs false
open Go.RowKit Go.Maps

theorem keyed64 : Keyed Try.prog 2 := int_keyed Try.underlying2
theorem isKey64 (x : Int) : WideAt.IsKeyLit (.int .i64 x) := by
  unfold WideAt.IsKeyLit; trivial
/-- An element reads as itself. -/
def hR (v : Value) : Option (DataW Value × List MemPlace) := some (.held v, [])
abbrev W64 (x : Int) : Prop := (Lit.int .i64 x).wf = true
/-- Block b is a map of at most n entries; f: what it holds. -/
def MapV (w : World) (b n : Nat) (f : Int → Option Value) : Prop :=
  ∃ D : DataW Value, w.ownsMap Try.prog 2 hR b n D ∧ ∀ x, W64 x → has D (.int .i64 x) = (f x).isSome ∧ ∀ v, f x = some v → ∀ z, D.atKey (.int .i64 x) z = .held v
theorem MapV.made (w : World) : MapV (w.alloc (.map #[] 0)) w.heap.size 0 (fun _ => none) :=
  ⟨.map [], World.ownsMap_made _ _ _ _, fun x _ => ⟨rfl, fun v h => by cases h⟩⟩
theorem held_inj {a b : Value} (h : DataW.held (H := Value) a = .held b) : a = b := by injection h
theorem run_eq {a b : Value} (w : World) (h : a = b) : Result.ok a w = .ok b w := by rw [h]
theorem run_eq2 {a b : Value} (c : Bool) (w : World) (h : a = b) : Result.ok (Value.tuple #[a, .bool c]) w = .ok (.tuple #[b, .bool c]) w := by rw [h]
theorem MapV.look {w : World} {b n : Nat} {f : Int → Option Value} (h : MapV w b n f) {t e : TypeId} (ht : Try.prog.underlying t = some (.map 2 e)) {z : Value} (hz : (zeroValue e).run Try.prog w = .ok z w) {x : Int} (hx : W64 x) :
    (Instr.lookup t (.map (some b)) (.int .i64 x) false).run Try.prog w = .ok ((f x).getD z) w := by
  obtain ⟨D, ho, hf⟩ := h
  obtain ⟨v, ps, hrun, hv⟩ := World.ownsMap.lookup ho keyed64 ht hz (zd := .held z) (zp := []) rfl (keyOf_int_mk Try.underlying2 hx)
  rw [hrun]
  obtain ⟨h1, h2⟩ := hf x hx
  unfold hR at hv
  simp only [Option.some.injEq, Prod.mk.injEq] at hv
  cases hfx : f x with
  | none =>
    rw [hfx] at h1
    rw [atKey_of_not_has h1] at hv
    exact run_eq _ (held_inj hv.1)
  | some u =>
    rw [h2 u hfx] at hv
    exact run_eq _ (held_inj hv.1)
theorem MapV.look_ok {w : World} {b n : Nat} {f : Int → Option Value} (h : MapV w b n f) {t e : TypeId} (ht : Try.prog.underlying t = some (.map 2 e)) {z : Value} (hz : (zeroValue e).run Try.prog w = .ok z w) {x : Int} (hx : W64 x) :
    (Instr.lookup t (.map (some b)) (.int .i64 x) true).run Try.prog w = .ok (.tuple #[(f x).getD z, .bool (f x).isSome]) w := by
  obtain ⟨D, ho, hf⟩ := h
  obtain ⟨v, ps, hrun, hv⟩ := World.ownsMap.look_ok ho keyed64 ht hz (zd := .held z) (zp := []) rfl (keyOf_int_mk Try.underlying2 hx)
  rw [hrun]
  obtain ⟨h1, h2⟩ := hf x hx
  rw [h1]
  unfold hR at hv
  simp only [Option.some.injEq, Prod.mk.injEq] at hv
  cases hfx : f x with
  | none =>
    rw [hfx] at h1
    rw [atKey_of_not_has h1] at hv
    exact run_eq2 _ _ (held_inj hv.1)
  | some u =>
    rw [h2 u hfx] at hv
    exact run_eq2 _ _ (held_inj hv.1)
def fput (f : Int → Option Value) (x : Int) (v : Value) : Int → Option Value := fun y => if y = x then some v else f y
theorem fput_same (f : Int → Option Value) (x : Int) (v : Value) : fput f x v x = some v := by unfold fput; rw [if_pos rfl]
theorem fput_other (f : Int → Option Value) {x y : Int} (v : Value) (h : y ≠ x) : fput f x v y = f y := by unfold fput; rw [if_neg h]
theorem MapV.put_data {w' : World} {b n : Nat} {f : Int → Option Value} {D : DataW Value} {x : Int} {v : Value} (hm : IsMap D) (hf : ∀ x, W64 x → has D (.int .i64 x) = (f x).isSome ∧ ∀ v, f x = some v → ∀ z, D.atKey (.int .i64 x) z = .held v)
    (ho : w'.ownsMap Try.prog 2 hR b n (D.put (.int .i64 x) (.held v))) : MapV w' b n (fput f x v) := by
  refine ⟨_, ho, fun y hy => ?_⟩
  by_cases hyx : y = x
  · subst hyx
    rw [fput_same]
    exact ⟨has_put_same hm (isKey64 _) _, fun u hu z => by
      injection hu with e
      subst e
      exact atKey_put_same hm (isKey64 _) _ _⟩
  · rw [fput_other _ _ hyx]
    have hne : (Lit.int .i64 y) ≠ .int .i64 x := fun e => hyx (by injection e)
    refine ⟨by rw [has_put_other hne]; exact (hf y hy).1, fun u hu z => ?_⟩
    rw [atKey_put_other hne]
    exact (hf y hy).2 u hu z
theorem wpList_putM {w : World} {ops : Array Oper} {rest : List Oper} {o : Oper} {a : Act} {Q : Exit → Act → World → Prop}
    (hg : o.guard = none) (m k v : Operand) (t e : TypeId) (hop : o.op = Op.mapUpdate t m k v) (ht : Try.prog.underlying t = some (.map 2 e)) (b n : Nat) (f : Int → Option Value)
    (hm : a.eval m = .map (some b)) (h : MapV w b n f) (hn : n < maxLen) (x : Int) (u : Value) (hk : a.eval k = .int .i64 x) (hx : W64 x) (hv : a.eval v = u)
    (hK : ∀ w', MapV w' b (n + 1) (fput f x u) → w.grownBy w' (some b) → wpList Try.prog ops Q rest (a.put o.dst undef) w') :
    wpList Try.prog ops Q (o :: rest) a w := by
  obtain ⟨D, ho, hf⟩ := h
  have hmD : IsMap D := World.ownsMap.isMap ho
  refine wpList_mapUpdate_own _ hg m k v t hop 2 e keyed64 ht hR b n D hm ho hn _ _ _ hk hv (keyOf_int_mk Try.underlying2 hx) (.held u) [] rfl ?_
  intro w' h1 h2
  exact hK w' (MapV.put_data hmD hf h1) h2
theorem MapV.run_put {w : World} {b n : Nat} {f : Int → Option Value} (h : MapV w b n f) {t e : TypeId} (ht : Try.prog.underlying t = some (.map 2 e)) (hn : n < maxLen) {x : Int} (hx : W64 x) (u : Value) :
    ∃ w', (Instr.mapUpdate t (.map (some b)) (.int .i64 x) u).run Try.prog w = .ok () w' ∧ MapV w' b (n + 1) (fput f x u) ∧ w.grownBy w' (some b) := by
  obtain ⟨D, ho, hf⟩ := h
  have hmD : IsMap D := World.ownsMap.isMap ho
  obtain ⟨w', h1, h2, h3⟩ := World.ownsMap.update ho keyed64 ht hn (keyOf_int_mk Try.underlying2 hx) (val := u) (d := .held u) (ps := []) rfl
  exact ⟨w', h1, MapV.put_data hmD hf h2, h3⟩
theorem MapV.lt {w : World} {b n : Nat} {f : Int → Option Value} (h : MapV w b n f) : b < w.heap.size := by
  obtain ⟨D, ho, _⟩ := h; exact World.ownsMap.lt ho
theorem MapV.fr {S : Nat → Prop} {w w' : World} {b n : Nat} {f : Int → Option Value} (h : MapV w b n f) (hf : Fr S w w') (hs : ¬ S b) : MapV w' b n f := by
  obtain ⟨D, ⟨es, cl, hb, rest⟩, hD⟩ := h
  exact ⟨D, ⟨es, cl, (hf.block b (Array.getElem?_eq_some_iff.1 hb).1 hs).trans hb, rest⟩, hD⟩
theorem MapV.fr0 {w w' : World} {b n : Nat} {f : Int → Option Value} (h : MapV w b n f) (hf : Fr No w w') : MapV w' b n f := h.fr hf (fun hn => hn)
theorem MapV.grown {w w' : World} {b n : Nat} {f : Int → Option Value} {row : Option Nat} (h : MapV w b n f) (hg : w.grownBy w' row) (hne : some b ≠ row) : MapV w' b n f := by
  obtain ⟨D, ho, hD⟩ := h
  exact ⟨D, World.ownsMap.kept ho hg hne, hD⟩
theorem MapV.alloc {w : World} {b n : Nat} {f : Int → Option Value} (h : MapV w b n f) (o : Obj) : MapV (w.alloc o) b n f := h.fr0 ((Fr.refl No w).alloc o)
end Go.Proofs.Ytoajigghkjnffaa
namespace Go.Proofs.Ytoajigghkjnffaa
set_option linter.unusedVariables false
set_option linter.unusedSimpArgs false
open Go.RowKit

/-- An object's cells with rows of its own, from B on. -/
def ObjOwn (w : World) (B : Nat) (cs : List Value) (o : ObjM) : Prop :=
  ∃ A c D c2 M, cs = [.int .i64 o.cls, .slice A o.slots.length c, .slice D o.bytes.length c2] ∧ w.ownsRow B 23 2 (.slice A o.slots.length c) o.slots.length (vals o.slots) ∧ (∀ b, (Value.slice A o.slots.length c).ownBlock = some b → b < M) ∧ w.ownsRow M 5 1 (.slice D o.bytes.length c2) o.bytes.length (U8 o.bytes) ∧ B ≤ M
theorem ObjOwn.rd {w : World} {B : Nat} {cs : List Value} {o : ObjM} (h : ObjOwn w B cs o) (h1 : o.slots.length ≤ 211106232532992) (h2 : o.bytes.length ≤ 211106232532992) : ObjC w (fun b => B ≤ b) cs o := by
  obtain ⟨A, c, D, c2, M, rfl, hs, hM, hb, hBM⟩ := h
  obtain ⟨A', c', e, _, _, hA⟩ := own_form hs
  injection e with e1 e2 e3
  subst e1 e3
  obtain ⟨D', d', e, _, _, hD⟩ := own_form hb
  injection e with e1 e2 e3
  subst e1 e3
  exact ⟨A, c, D, c2, rfl, (own_rd hs h1).mono (fun b _ hb' => (hs.lt b ((hA b).2 hb')).1) (by decide), (own_rd hb h2).mono (fun b _ hb' => by have := (hb.lt b ((hD b).2 hb')).1; omega) (by decide)⟩
set_option maxHeartbeats 2000000 in
set_option maxRecDepth 100000 in
theorem ocopy_calls (S : Nat → Prop) (cs : List Value) (o : ObjM) (w : World) (h : ObjC w S cs o) (h1 : o.slots.length * 16 ≤ 211106232532992) :
    Calls Try.prog 43 #[.agg cs.toArray] w fun e w' => ∃ cs' : List Value, e = .returned (.agg cs'.toArray) ∧ ObjOwn w' w.heap.size cs' o ∧ Fr No w w' := by
  obtain ⟨A, c, D, c2, rfl, hs, hb⟩ := h
  have g1 := plain_i64
  have g2 := plain_lval
  have g3 := plain_lu8
  have hle1 := hs.le
  have hle2 := RdB.le hb
  go_enter Try.func43, Try.ntmps43
  go_wp2_with fail
  have hbx : Blk ((w.alloc (.cells #[.int .i64 o.cls, .slice A o.slots.length c, .slice D o.bytes.length c2] 27)).alloc (.cells #[.int .i64 0, .slice none 0 0, .slice none 0 0] 27)) w.heap.size 27 #[.int .i64 o.cls, .slice A o.slots.length c, .slice D o.bytes.length c2] := (Blk.new w _ _).alloc _
  have hbr : Blk ((w.alloc (.cells #[.int .i64 o.cls, .slice A o.slots.length c, .slice D o.bytes.length c2] 27)).alloc (.cells #[.int .i64 0, .slice none 0 0, .slice none 0 0] 27)) (w.heap.size + 1) 27 #[.int .i64 0, .slice none 0 0, .slice none 0 0] := Blk.newAt (by simp)
  have hf1 : Fr No w ((w.alloc (.cells #[.int .i64 o.cls, .slice A o.slots.length c, .slice D o.bytes.length c2] 27)).alloc (.cells #[.int .i64 0, .slice none 0 0, .slice none 0 0] 27)) := ((Fr.refl No w).alloc _).alloc _
  generalize hw1 : ((w.alloc (.cells #[.int .i64 o.cls, .slice A o.slots.length c, .slice D o.bytes.length c2] 27)).alloc (.cells #[.int .i64 0, .slice none 0 0, .slice none 0 0] 27)) = w1 at *
  clear hw1
  have q0 := hbx.cell 0
  have q1 := hbx.cell 1
  have q2 := hbx.cell 2
  simp only [List.getElem?_toArray, List.getElem?_cons_zero, List.getElem?_cons_succ] at q0 q1 q2
  have hs1 := hf1.size
  have hl1 := hbr.lt
  have hnx : ¬ (w.heap.size = w.heap.size + 1) := by omega
  (refine T_begin (fun b => b = w.heap.size + 1) [0, 1, 2, 3, 5, 6, 4, 7, 8, 9] [4, 7, 9] (by kernel_rfl) (by kernel_rfl) ?_; simp only [pickOps, List.filterMap_cons, List.filterMap_nil, List.getElem?_cons_zero, List.getElem?_cons_succ, Act.put])
  repeat (first | (refine T_skip (by rfl) (by rfl) (fun _ _ _ h => h) ?_; try simp only [Act.put, List.setIfInBounds_toArray, List.set_cons_zero, List.set_cons_succ]) | (refine T_pass (by rfl) (by rfl) ?_; try simp only [Act.put, List.setIfInBounds_toArray, List.set_cons_zero, List.set_cons_succ]) | (refine T_load (by assumption) (by rfl) (by rfl) (fun _ _ _ _ h => h) rfl rfl (by assumption) (by first | exact (fun hn => hn) | assumption) ?_; try simp only [Act.put, List.setIfInBounds_toArray, List.set_cons_zero, List.set_cons_succ]) | (refine T_nil (by rfl) (by rfl) (fun _ _ _ _ h => h) rfl rfl ?_; try simp only [Act.put, List.setIfInBounds_toArray, List.set_cons_zero, List.set_cons_succ]) | (refine T_quietN (by rfl) (by rfl) (by rfl) (by rfl) (fun _ _ _ _ h => h) (fun K hK => ?_); go_big_quiet_op; refine hK _ ?_; clear hK K) | (refine T_two (by rfl) (by rfl) (by rfl) (by rfl) (fun _ _ _ _ h => h) (fun K hK => ?_); go_big_quiet_op; refine ⟨_, fun _ _ => rfl, ?_⟩; refine hK _ ?_; clear hK K; try simp only [Act.put, List.setIfInBounds_toArray, List.set_cons_zero, List.set_cons_succ]) | fail)
  (refine T_call (by rfl) (by rfl) (fun K hK => ?_); go_wp2_with fail)
  refine (clone_vals S A c o.slots _ (Rd.fr0 hs hf1.drew) h1).mono ?_
  rintro e w2 ⟨v2, rfl, hown2, hf2⟩
  obtain ⟨A2, c2', rfl, hc2, _, hA2⟩ := own_form hown2
  replace hown2 : w2.ownsRow w1.heap.size 23 2 (.slice A2 o.slots.length c2') o.slots.length (vals o.slots) := hown2
  have hf2' : Fr No w1 w2 := (Fr.refl No w1).drew.tr hf2
  (refine hK.out _ _ ((hf2.mono (fun _ _ hn => hn.elim))) ?_; clear hK K; try simp only [Act.put, List.setIfInBounds_toArray, List.set_cons_zero, List.set_cons_succ])
  repeat (first | (refine T_skip (by rfl) (by rfl) (fun _ _ _ h => h) ?_; try simp only [Act.put, List.setIfInBounds_toArray, List.set_cons_zero, List.set_cons_succ]) | (refine T_pass (by rfl) (by rfl) ?_; try simp only [Act.put, List.setIfInBounds_toArray, List.set_cons_zero, List.set_cons_succ]) | (refine T_load (by assumption) (by rfl) (by rfl) (fun _ _ _ _ h => h) rfl rfl (by assumption) (by first | exact (fun hn => hn) | assumption) ?_; try simp only [Act.put, List.setIfInBounds_toArray, List.set_cons_zero, List.set_cons_succ]) | (refine T_nil (by rfl) (by rfl) (fun _ _ _ _ h => h) rfl rfl ?_; try simp only [Act.put, List.setIfInBounds_toArray, List.set_cons_zero, List.set_cons_succ]) | (refine T_quietN (by rfl) (by rfl) (by rfl) (by rfl) (fun _ _ _ _ h => h) (fun K hK => ?_); go_big_quiet_op; refine hK _ ?_; clear hK K) | (refine T_two (by rfl) (by rfl) (by rfl) (by rfl) (fun _ _ _ _ h => h) (fun K hK => ?_); go_big_quiet_op; refine ⟨_, fun _ _ => rfl, ?_⟩; refine hK _ ?_; clear hK K; try simp only [Act.put, List.setIfInBounds_toArray, List.set_cons_zero, List.set_cons_succ]) | fail)
  (refine T_call (by rfl) (by rfl) (fun K hK => ?_); go_wp2_with fail)
  refine (clone_bytes S D c2 o.bytes _ (Rd.fr0 hb (hf1.tr hf2'))).mono ?_
  rintro e w3 ⟨v3, rfl, hown3, hf3⟩
  obtain ⟨A3, c3, rfl, hc3, _, hA3⟩ := own_form hown3
  (refine hK.out _ _ ((hf3.mono (fun _ _ hn => hn.elim))) ?_; clear hK K; try simp only [Act.put, List.setIfInBounds_toArray, List.set_cons_zero, List.set_cons_succ])
  repeat (first | (refine T_skip (by rfl) (by rfl) (fun _ _ _ h => h) ?_; try simp only [Act.put, List.setIfInBounds_toArray, List.set_cons_zero, List.set_cons_succ]) | (refine T_pass (by rfl) (by rfl) ?_; try simp only [Act.put, List.setIfInBounds_toArray, List.set_cons_zero, List.set_cons_succ]) | (refine T_load (by assumption) (by rfl) (by rfl) (fun _ _ _ _ h => h) rfl rfl (by assumption) (by first | exact (fun hn => hn) | assumption) ?_; try simp only [Act.put, List.setIfInBounds_toArray, List.set_cons_zero, List.set_cons_succ]) | (refine T_nil (by rfl) (by rfl) (fun _ _ _ _ h => h) rfl rfl ?_; try simp only [Act.put, List.setIfInBounds_toArray, List.set_cons_zero, List.set_cons_succ]) | (refine T_quietN (by rfl) (by rfl) (by rfl) (by rfl) (fun _ _ _ _ h => h) (fun K hK => ?_); go_big_quiet_op; refine hK _ ?_; clear hK K) | (refine T_two (by rfl) (by rfl) (by rfl) (by rfl) (fun _ _ _ _ h => h) (fun K hK => ?_); go_big_quiet_op; refine ⟨_, fun _ _ => rfl, ?_⟩; refine hK _ ?_; clear hK K; try simp only [Act.put, List.setIfInBounds_toArray, List.set_cons_zero, List.set_cons_succ]) | fail)
  have hbr3 := (hbr.fr0 hf2').fr0 hf3
  refine T_call (by rfl) (by rfl) (fun K hK => ?_)
  refine wp_stA ag_obj.info _ _ rfl (w.heap.size + 1) 0 _ _ [.int .i64 o.cls, .slice A2 o.slots.length c2', .slice A3 o.bytes.length c3] _ rfl rfl rfl rfl (by intro u hu; simp at hu; rcases hu with rfl | rfl | rfl <;> rfl) hbr3 (by decide) ?_
  intro w4 hb4 hg4 hz4
  rw [splice_all _ _ (by rfl)] at hb4
  refine hK.out _ _ ((Fr.refl _ _).grown hg4 (fun q hq => by injection hq with hq; exact .inr hq.symm)) ?_
  clear hK K
  try simp only [Act.put, List.setIfInBounds_toArray, List.set_cons_zero, List.set_cons_succ]
  refine T_done ?_
  go_wp2_with fail
  have hs2 := hf2'.size
  have hf34 : Fr (fun b => b = w.heap.size + 1) w3 w4 := (Fr.refl (fun b => b = w.heap.size + 1) w3).grown hg4 (fun q hq => by injection hq with hq; exact .inr hq.symm)
  refine bodyPost_ret (results_blk ag_obj rfl _ _ _ _ _ rfl hb4 rfl) rfl ⟨_, rfl, ⟨A2, c2', A3, c3, w2.heap.size, rfl, ?_, fun b hb => (hown2.lt b hb).2, ?_, by omega⟩, ((hf1.tr hf2').tr hf3).trans hf34 (fun b hb hT => by omega)⟩
  · exact own_down (own_fr (own_fr0 hown2 hf3) hf34 (fun b hb hT => by have := (hown2.lt b hb).1; omega)) (by omega)
  · exact own_fr hown3 hf34 (fun b hb hT => by have := (hown3.lt b hb).1; omega)
end Go.Proofs.Ytoajigghkjnffaa
namespace Go.Proofs.Ytoajigghkjnffaa
set_option linter.unusedVariables false
set_option linter.unusedSimpArgs false
open Go.RowKit

/-- A number as few bytes as can be. -/
def uintL (n : Nat) : List UInt8 := if n < 128 then [UInt8.ofNat n] else UInt8.ofNat (128 + n % 128) :: uintL (n / 128)
  termination_by n
  decreasing_by omega

theorem uintL_small (n : Nat) (h : n < 128) : uintL n = [UInt8.ofNat n] := by rw [uintL, if_pos h]
theorem uintL_big (n : Nat) (h : ¬ n < 128) : uintL n = UInt8.ofNat (128 + n % 128) :: uintL (n / 128) := by rw [uintL, if_neg h]
theorem uintL_len : ∀ (k n : Nat), n < 128 ^ (k + 1) → 1 ≤ (uintL n).length ∧ (uintL n).length ≤ k + 1
  | 0, n, h => by rw [uintL_small n (by simpa using h)]; simp
  | k + 1, n, h => by
    by_cases hs : n < 128
    · rw [uintL_small n hs]; simp
    · rw [uintL_big n hs, List.length_cons]
      have := uintL_len k (n / 128) (by rw [Nat.pow_succ] at h; omega)
      omega
theorem uintL_ten (n : Nat) (h : n < 18446744073709551616) : 1 ≤ (uintL n).length ∧ (uintL n).length ≤ 10 := uintL_len 9 n (by omega)
theorem uintL_mono : ∀ (k n m : Nat), n ≤ m → m < 128 ^ (k + 1) → (uintL n).length ≤ (uintL m).length
  | 0, n, m, h, hm => by rw [uintL_small n (by omega), uintL_small m (by omega)]; simp
  | k + 1, n, m, h, hm => by
    by_cases hs : n < 128
    · rw [uintL_small n hs]
      have := uintL_len (k + 1) m hm
      simpa using this.1
    · rw [uintL_big n hs, uintL_big m (by omega), List.length_cons, List.length_cons]
      have := uintL_mono k (n / 128) (m / 128) (by omega) (by rw [Nat.pow_succ] at hm; omega)
      omega
theorem or128 (x : Nat) (h : x < 256) : 128 ||| x = 128 + x % 128 := by
  by_cases hx : x < 128
  · rw [nat_join 7 128 x (by decide) (by omega)]; omega
  · have h1 : x = 128 ||| (x - 128) := by rw [nat_join 7 128 (x - 128) (by decide) (by omega)]; omega
    rw [h1, ← Nat.or_assoc, Nat.or_self, nat_join 7 128 (x - 128) (by decide) (by omega)]; omega
theorem more_byte (m : Nat) : bits .or .u8 128 ((m : Int) % 256) = ((UInt8.ofNat (128 + m % 128)).toNat : Int) := by
  have h1 : ((m : Int) % 256) = ((m % 256 : Nat) : Int) := by omega
  have h2 : (128 : Int) = ((128 : Nat) : Int) := rfl
  rw [h1, h2, u8_or_nat 128 (m % 256) (by omega) (by omega), or128 _ (by omega), UInt8.toNat_ofNat']
  omega
def foldZ (n : Int) : Int := if 0 ≤ n then 2 * n else -2 * n - 1
def unfoldZ (m : Int) : Int := if m % 2 = 0 then m / 2 else -(m / 2) - 1
theorem foldZ_unfold (m : Int) (h : 0 ≤ m) : foldZ (unfoldZ m) = m := by unfold foldZ unfoldZ; split <;> split <;> omega
theorem unfoldZ_fold (n : Int) : unfoldZ (foldZ n) = n := by unfold foldZ unfoldZ; split <;> split <;> omega

theorem xor_ones (x : Nat) (h : x < 18446744073709551616) : x ^^^ 18446744073709551615 = 18446744073709551615 - x := by
  have h1 := BitVec.toNat_not (x := BitVec.ofNat 64 x)
  rw [← BitVec.xor_allOnes, BitVec.toNat_xor, BitVec.toNat_ofNat, BitVec.toNat_allOnes] at h1
  simpa [Nat.mod_eq_of_lt h] using h1
theorem fold_bits (n : Int) (h0 : -9223372036854775808 ≤ n) (h1 : n ≤ 9223372036854775807) :
    bits .xor .u64 (IntKind.u64.wrap (IntKind.u64.wrap n * 2)) (IntKind.u64.wrap (n / 9223372036854775808)) = foldZ n := by
  have hw : ∀ x : Int, IntKind.u64.wrap x = x % 18446744073709551616 := fun x => by simp [IntKind.wrap, IntKind.bits, IntKind.signed]
  simp only [hw]
  by_cases h : 0 ≤ n
  · have e1 : n / 9223372036854775808 = 0 := by omega
    have e2 : n % 18446744073709551616 * 2 % 18446744073709551616 = ((2 * n).toNat : Int) := by omega
    rw [e1, e2]
    show bits .xor .u64 ((2 * n).toNat : Int) ((0 : Nat) : Int) = _
    rw [u64_xor_nat _ _ (by omega) (by omega), Nat.xor_zero, foldZ, if_pos h]
    omega
  · have e1 : n / 9223372036854775808 % 18446744073709551616 = ((18446744073709551615 : Nat) : Int) := by omega
    have e2 : n % 18446744073709551616 * 2 % 18446744073709551616 = ((18446744073709551616 - 2 * (-n).toNat : Nat) : Int) := by omega
    rw [e1, e2, u64_xor_nat _ _ (by omega) (by omega), foldZ, if_neg h]
    have e3 : ((18446744073709551616 - 2 * (-n).toNat) ^^^ 18446744073709551615 : Nat) = 18446744073709551615 - (18446744073709551616 - 2 * (-n).toNat) := by
      exact xor_ones _ (by omega)
    rw [e3]
    omega
theorem and1_u64 (m : Int) (h0 : 0 ≤ m) (h1 : m ≤ 18446744073709551615) : bits .and .u64 m 1 = m % 2 := by
  obtain ⟨k, rfl⟩ := Int.eq_ofNat_of_zero_le h0
  have h2 : (1 : Int) = ((1 : Nat) : Int) := rfl
  rw [h2, u64_and_nat k 1 (by omega) (by omega), nat_mask1]
  omega
theorem xor_i64_zero (x : Int) (h0 : 0 ≤ x) (h1 : x ≤ 9223372036854775807) : bits .xor .i64 x 0 = x := by
  show IntKind.i64.wrap ((BitVec.ofInt 64 x ^^^ BitVec.ofInt 64 0).toNat : Int) = x
  have e : BitVec.ofInt 64 (0 : Int) = 0#64 := by decide
  rw [e, BitVec.xor_zero, IntKind.wrap_i64, BitVec.toNat_ofInt]
  omega
theorem xor_i64_ones (x : Int) (h0 : 0 ≤ x) (h1 : x ≤ 9223372036854775807) : bits .xor .i64 x (-1) = -x - 1 := by
  show IntKind.i64.wrap ((BitVec.ofInt 64 x ^^^ BitVec.ofInt 64 (-1)).toNat : Int) = _
  have e : BitVec.ofInt 64 (-1 : Int) = BitVec.allOnes 64 := by decide
  rw [e, BitVec.xor_allOnes, BitVec.toNat_not, IntKind.wrap_i64, BitVec.toNat_ofInt]
  omega
theorem unfold_bits (m : Int) (h0 : 0 ≤ m) (h1 : m ≤ 18446744073709551615) :
    bits .xor .i64 (m / 2) (wrap64 (-wrap64 (bits .and .u64 m 1))) = unfoldZ m := by
  rw [and1_u64 m h0 h1]
  have e1 : wrap64 (m % 2) = m % 2 := by unfold wrap64; omega
  have e2 : wrap64 (-(m % 2)) = -(m % 2) := by unfold wrap64; omega
  rw [e1, e2, unfoldZ]
  by_cases h : m % 2 = 0
  · rw [if_pos h, h]; exact xor_i64_zero _ (by omega) (by omega)
  · have h3 : m % 2 = 1 := by omega
    rw [if_neg h, h3]; exact xor_i64_ones _ (by omega) (by omega)
end Go.Proofs.Ytoajigghkjnffaa
namespace Go.Proofs.Ytoajigghkjnffaa
set_option linter.unusedVariables false
set_option linter.unusedSimpArgs false
open Go.RowKit

/-- A number read from bytes: the number, how many bytes, an error's number. -/
def rdU : Nat → Nat → List UInt8 → Nat × Nat × Int
  | _, _, [] => (0, 0, 10)
  | i, n, c :: rest =>
    if i = 9 ∧ 1 < c.toNat then (0, 0, 11)
    else if c.toNat < 128 then if c.toNat = 0 ∧ 0 < i then (0, 0, 11) else (n + (c.toNat % 128) * 128 ^ i, i + 1, 0)
    else rdU (i + 1) (n + (c.toNat % 128) * 128 ^ i) rest
def readU (l : List UInt8) : Nat × Nat × Int := rdU 0 0 l

theorem drop_cons (l : List UInt8) (k : Nat) (hk : k < l.length) : l.drop k = l[k] :: l.drop (k + 1) := by
  rw [List.drop_eq_getElem_cons hk]

theorem rdU_nil (i n : Nat) : rdU i n [] = (0, 0, 10) := rfl
theorem rdU_far (i n : Nat) (c : UInt8) (r : List UInt8) (hi : i = 9) (h : 1 < c.toNat) : rdU i n (c :: r) = (0, 0, 11) := by
  rw [rdU, if_pos ⟨hi, h⟩]
theorem rdU_zero (i n : Nat) (c : UInt8) (r : List UInt8) (h : c.toNat = 0) (hi : 0 < i) : rdU i n (c :: r) = (0, 0, 11) := by
  rw [rdU, if_neg (by omega), if_pos (by omega), if_pos ⟨h, hi⟩]
theorem rdU_end (i n : Nat) (c : UInt8) (r : List UInt8) (h : c.toNat < 128) (h0 : ¬ (c.toNat = 0 ∧ 0 < i)) (h9 : ¬ (i = 9 ∧ 1 < c.toNat)) : rdU i n (c :: r) = (n + (c.toNat % 128) * 128 ^ i, i + 1, 0) := by
  rw [rdU, if_neg h9, if_pos h, if_neg h0]
theorem rdU_more (i n : Nat) (c : UInt8) (r : List UInt8) (h : ¬ c.toNat < 128) (h9 : ¬ i = 9) : rdU i n (c :: r) = rdU (i + 1) (n + (c.toNat % 128) * 128 ^ i) r := by
  rw [rdU, if_neg (by omega), if_neg h]

theorem pow128 (k : Nat) : 128 ^ k = 2 ^ (7 * k) := by rw [show 128 = 2 ^ 7 from rfl, ← Nat.pow_mul]
theorem acc_lt (k n c : Nat) (hk : k ≤ 9) (hn : n < 128 ^ k) (h9 : k = 9 → c ≤ 1) : n + (c % 128) * 128 ^ k < 18446744073709551616 ∧ (c % 128) * 128 ^ k < 18446744073709551616 := by
  rcases Nat.lt_or_ge k 9 with h | h
  · have h1 : (c % 128) * 128 ^ k ≤ 127 * 128 ^ k := Nat.mul_le_mul_right _ (by omega)
    have h2 : 128 ^ k ≤ 128 ^ 8 := Nat.pow_le_pow_right (by decide) (by omega)
    omega
  · obtain rfl : k = 9 := by omega
    have h1 : (c % 128) * 128 ^ 9 ≤ 1 * 128 ^ 9 := Nat.mul_le_mul_right _ (by have := h9 rfl; omega)
    omega
theorem acc_next (k n c : Nat) (hn : n < 128 ^ k) : n + (c % 128) * 128 ^ k < 128 ^ (k + 1) := by
  have h1 : (c % 128) * 128 ^ k ≤ 127 * 128 ^ k := Nat.mul_le_mul_right _ (by omega)
  rw [Nat.pow_succ]; omega

/-- What the number's bits are behind a byte more, in the walk's own spelling. -/
theorem acc_bits (k n c : Nat) (hk : k ≤ 9) (hn : n < 128 ^ k) (h9 : k = 9 → c ≤ 1) :
    bits .or .u64 (n : Int) (IntKind.u64.wrap (((c % 128 : Nat) : Int) * 2 ^ (7 * k))) = ((n + (c % 128) * 128 ^ k : Nat) : Int) := by
  obtain ⟨h1, h2⟩ := acc_lt k n c hk hn h9
  have e : ((c % 128 : Nat) : Int) * 2 ^ (7 * k) = ((c % 128 * 128 ^ k : Nat) : Int) := by rw [pow128]; push_cast; rfl
  have hw : IntKind.u64.wrap ((c % 128 * 128 ^ k : Nat) : Int) = ((c % 128 * 128 ^ k : Nat) : Int) := by
    have : ∀ x : Int, IntKind.u64.wrap x = x % 18446744073709551616 := fun x => by simp [IntKind.wrap, IntKind.bits, IntKind.signed]
    rw [this]; omega
  rw [e, hw, u64_or_nat _ _ (by omega) (by omega), Nat.or_comm, nat_join (7 * k) _ n (by rw [pow128]; exact Nat.mul_mod_left _ _) (by rw [← pow128]; exact hn)]
  congr 1; omega

/-- There and back. -/
theorem rdU_uintL : ∀ (k n i a : Nat) (r : List UInt8), n < 128 ^ (k + 1) → i + k ≤ 9 → (i + k = 9 → n * 128 ^ i < 18446744073709551616) → (0 < i → 0 < n) → rdU i a (uintL n ++ r) = (a + n * 128 ^ i, i + (uintL n).length, 0)
  | k, n, i, a, r, hn, hi, h9, h0 => by
    by_cases hs : n < 128
    · rw [uintL_small n hs]
      have hc : (UInt8.ofNat n).toNat = n := by rw [UInt8.toNat_ofNat']; omega
      rw [List.singleton_append, rdU_end i a _ r (by omega) (by rw [hc]; intro h; have := h0 h.2; omega) (by
        rw [hc]; rintro ⟨rfl, h1⟩
        have : n * 128 ^ 9 < 18446744073709551616 := h9 (by omega)
        omega), hc, Nat.mod_eq_of_lt hs]
      rfl
    · rw [uintL_big n hs, List.cons_append]
      have hk : k ≠ 0 := by rintro rfl; omega
      obtain ⟨k, rfl⟩ : ∃ m, k = m + 1 := ⟨k - 1, by omega⟩
      have hc : (UInt8.ofNat (128 + n % 128)).toNat = 128 + n % 128 := by rw [UInt8.toNat_ofNat']; omega
      rw [rdU_more i a _ _ (by rw [hc]; omega) (by omega), hc]
      have hq : (128 + n % 128) % 128 = n % 128 := by omega
      rw [hq, rdU_uintL k (n / 128) (i + 1) _ r (by rw [Nat.pow_succ] at hn; omega) (by omega) (fun h => by
        have := h9 (by omega)
        rw [Nat.pow_succ]
        have h2 : n / 128 * (128 ^ i * 128) ≤ n * 128 ^ i := by
          rw [Nat.mul_comm (128 ^ i) 128, ← Nat.mul_assoc]
          exact Nat.mul_le_mul_right _ (Nat.div_mul_le_self n 128)
        omega) (fun _ => by omega)]
      have hd : n = n % 128 + n / 128 * 128 := by omega
      simp only [Prod.mk.injEq, List.length_cons]
      refine ⟨?_, by omega, trivial⟩
      rw [Nat.pow_succ, Nat.add_assoc, Nat.mul_comm (128 ^ i) 128, ← Nat.mul_assoc, ← Nat.add_mul, ← hd]
theorem readU_uintL (n : Nat) (hn : n < 18446744073709551616) (r : List UInt8) : readU (uintL n ++ r) = (n, (uintL n).length, 0) := by
  have h := rdU_uintL 9 n 0 0 r (by omega) (by omega) (fun _ => by omega) (fun h => absurd h (by omega))
  simpa [readU] using h

/-- How many bytes are read. -/
theorem rdU_used : ∀ (l : List UInt8) (i n : Nat), (rdU i n l).2.1 ≤ i + l.length
  | [], i, n => by simp [rdU]
  | c :: r, i, n => by
    have ih := rdU_used r (i + 1) (n + (c.toNat % 128) * 128 ^ i)
    rw [rdU]
    repeat' split
    all_goals simp only [List.length_cons]
    all_goals omega
theorem readU_used (l : List UInt8) : (readU l).2.1 ≤ l.length := by have := rdU_used l 0 0; simpa [readU] using this
theorem rdU_lt : ∀ (l : List UInt8) (i n : Nat), i ≤ 9 → n < 128 ^ i → (rdU i n l).1 < 18446744073709551616
  | [], i, n, _, _ => by simp [rdU]
  | c :: r, i, n, hi, hn => by
    rw [rdU]
    split
    · simp
    · rename_i h9
      obtain ⟨h1, h2⟩ := acc_lt i n c.toNat hi hn (fun h => by omega)
      split
      · split
        · simp
        · exact h1
      · exact rdU_lt r (i + 1) _ (by omega) (acc_next i n c.toNat hn)
theorem readU_lt (l : List UInt8) : (readU l).1 < 18446744073709551616 := rdU_lt l 0 0 (by omega) (by simp)
end Go.Proofs.Ytoajigghkjnffaa
namespace Go.Proofs.Ytoajigghkjnffaa
set_option linter.unusedVariables false
set_option linter.unusedSimpArgs false
open Go.RowKit

/-- n bytes behind k, where they are, and are not more than can be. -/
def partM (l : List UInt8) (k n : Nat) : List UInt8 × Nat × Int :=
  if 60000 < n then ([], 0, 3) else if l.length - k < n then ([], 0, 10) else ((l.drop k).take n, k + n, 0)
theorem partM_big (l : List UInt8) (k n : Nat) (h : 60000 < n) : partM l k n = ([], 0, 3) := by rw [partM, if_pos h]
theorem partM_short (l : List UInt8) (k n : Nat) (h : ¬ 60000 < n) (h2 : l.length - k < n) : partM l k n = ([], 0, 10) := by rw [partM, if_neg h, if_pos h2]
theorem partM_ok (l : List UInt8) (k n : Nat) (h : ¬ 60000 < n) (h2 : ¬ l.length - k < n) : partM l k n = ((l.drop k).take n, k + n, 0) := by rw [partM, if_neg h, if_neg h2]
def textM (l : List UInt8) : List UInt8 × Int := if 60000 < l.length then ([], 3) else (uintL l.length ++ l, 0)
theorem textM_bad (l : List UInt8) (h : 60000 < l.length) : textM l = ([], 3) := by rw [textM, if_pos h]
theorem textM_ok (l : List UInt8) (h : ¬ 60000 < l.length) : textM l = (uintL l.length ++ l, 0) := by rw [textM, if_neg h]
/-- What a text's bytes read as. -/
def readT (l : List UInt8) : List UInt8 × Nat × Int := if (readU l).2.2 = 0 then partM l (readU l).2.1 (readU l).1 else ([], 0, (readU l).2.2)
theorem readT_bad (l : List UInt8) (h : ¬ (readU l).2.2 = 0) : readT l = ([], 0, (readU l).2.2) := by rw [readT, if_neg h]
theorem readT_ok (l : List UInt8) (h : (readU l).2.2 = 0) : readT l = partM l (readU l).2.1 (readU l).1 := by rw [readT, if_pos h]
theorem partM_fine (l : List UInt8) (k n : Nat) (h : (partM l k n).2.2 = 0) : ¬ 60000 < n ∧ ¬ l.length - k < n ∧ partM l k n = ((l.drop k).take n, k + n, 0) := by
  by_cases h1 : 60000 < n
  · rw [partM_big l k n h1] at h; simp at h
  by_cases h2 : l.length - k < n
  · rw [partM_short l k n h1 h2] at h; simp at h
  · exact ⟨h1, h2, partM_ok l k n h1 h2⟩
theorem readT_text (t r : List UInt8) (h : t.length ≤ 60000) : readT (uintL t.length ++ t ++ r) = (t, (uintL t.length).length + t.length, 0) := by
  have hu := readU_uintL t.length (by omega) (t ++ r)
  rw [← List.append_assoc] at hu
  rw [readT_ok _ (by rw [hu]), hu]
  simp only
  have hd : (uintL t.length ++ t ++ r).drop (uintL t.length).length = t ++ r := by rw [List.append_assoc, List.drop_left]
  rw [partM_ok _ _ _ (by omega) (by simp only [List.length_append]; omega), hd, List.take_left]
theorem partM_len (l : List UInt8) (k n : Nat) : (partM l k n).1.length ≤ 60000 := by
  unfold partM
  split
  · simp
  · split
    · simp
    · simp only [List.length_take]; omega
theorem readT_len (l : List UInt8) : (readT l).1.length ≤ 60000 := by
  unfold readT
  split
  · exact partM_len _ _ _
  · simp
theorem textM_len (l : List UInt8) : (textM l).1.length ≤ 60010 := by
  by_cases h : 60000 < l.length
  · rw [textM_bad l h]; simp
  · rw [textM_ok l h]
    have := uintL_ten l.length (by omega)
    simp only [List.length_append]; omega
theorem textM_back (l : List UInt8) (h : (textM l).2 = 0) (r : List UInt8) : readT ((textM l).1 ++ r) = (l, (textM l).1.length, 0) := by
  by_cases h1 : 60000 < l.length
  · rw [textM_bad l h1] at h; simp at h
  · rw [textM_ok l h1, readT_text l r (by omega)]; simp [List.length_append]
theorem textM_err (l : List UInt8) : (textM l).2 = 0 ∨ (textM l).2 = 3 := by
  unfold textM; split <;> simp
end Go.Proofs.Ytoajigghkjnffaa
namespace Go.Proofs.Ytoajigghkjnffaa
set_option linter.unusedVariables false
set_option linter.unusedSimpArgs false
open Go.RowKit

/-- A value's bytes. -/
def valB (v : VL) : List UInt8 := UInt8.ofNat v.k.toNat :: (if v.k = 3 then uintL (foldZ v.n).toNat else if v.k = 4 then uintL v.n.toNat else [])
def valsB (l : List VL) : List UInt8 := l.flatMap valB
def objB (o : ObjM) : List UInt8 := uintL o.cls.toNat ++ uintL o.slots.length ++ valsB o.slots ++ (uintL o.bytes.length ++ o.bytes)
theorem valsB_append (a b : List VL) : valsB (a ++ b) = valsB a ++ valsB b := by simp [valsB]
theorem valsB_cons (v : VL) (l : List VL) : valsB (v :: l) = valB v ++ valsB l := rfl
/-- What is left to be read; none: something was not as it must be. -/
abbrev St := Option (List UInt8)
def numO (most : Nat) : St → Nat × St
  | none => (0, none)
  | some l => if (readU l).2.2 = 0 ∧ (readU l).1 ≤ most then ((readU l).1, some (l.drop (readU l).2.1)) else (0, none)
def oneO (most : Nat) : St → Nat × St
  | none => (0, none)
  | some [] => (0, none)
  | some (c :: l) => if c.toNat ≤ most then (c.toNat, some l) else (0, none)
def valO (s : St) : VL × St :=
  if (oneO 4 s).1 = 3 then (⟨3, unfoldZ (numO 18446744073709551615 (oneO 4 s).2).1⟩, (numO 18446744073709551615 (oneO 4 s).2).2)
  else if (oneO 4 s).1 = 4 then (⟨4, (numO 4096 (oneO 4 s).2).1⟩, (numO 4096 (oneO 4 s).2).2)
  else (⟨(oneO 4 s).1, 0⟩, (oneO 4 s).2)
/-- n values; where one is bad, all is. -/
def valsO : Nat → St → List VL × St
  | 0, s => ([], s)
  | n + 1, s => match (valO s).2 with
    | none => ([], none)
    | some l => ((valO s).1 :: (valsO n (some l)).1, (valsO n (some l)).2)
def textO : St → List UInt8 × St
  | none => ([], none)
  | some l => if (readT l).2.2 = 0 then ((readT l).1, some (l.drop (readT l).2.1)) else ([], none)
def objO (s : St) : ObjM × St :=
  let a := numO 4096 s
  let b := numO 256 a.2
  let c := valsO b.1 b.2
  let d := textO c.2
  match d.2 with
  | none => (⟨0, [], []⟩, none)
  | some l => if rightO ⟨a.1, c.1, d.1⟩ then (⟨a.1, c.1, d.1⟩, some l) else (⟨0, [], []⟩, none)
def getM (l : List UInt8) : Option ObjM := match (objO (some l)).2 with
  | some [] => some (objO (some l)).1
  | _ => none
theorem ofNat_self (c : UInt8) : UInt8.ofNat c.toNat = c := by
  apply UInt8.toNat_inj.1; rw [UInt8.toNat_ofNat']; have := c.toNat_lt; omega
theorem rdU_canon : ∀ (l : List UInt8) (i a : Nat), i ≤ 9 → (rdU i a l).2.2 = 0 → ∃ x, rdU i a l = (a + x * 128 ^ i, i + (uintL x).length, 0) ∧ l = uintL x ++ l.drop (uintL x).length ∧ (0 < i → 0 < x)
  | [], i, a, _, h => by simp [rdU] at h
  | c :: r, i, a, hi, h => by
    have hc := c.toNat_lt
    by_cases h9 : i = 9 ∧ 1 < c.toNat
    · rw [rdU_far i a c r h9.1 h9.2] at h; simp at h
    by_cases hs : c.toNat < 128
    · by_cases h0 : c.toNat = 0 ∧ 0 < i
      · rw [rdU_zero i a c r h0.1 h0.2] at h; simp at h
      · refine ⟨c.toNat, ?_, ?_, fun hi0 => by omega⟩
        · rw [rdU_end i a c r hs h0 h9, uintL_small _ hs, Nat.mod_eq_of_lt hs]; rfl
        · rw [uintL_small _ hs, ofNat_self]; rfl
    · have hi9 : ¬ i = 9 := fun e => h9 ⟨e, by omega⟩
      rw [rdU_more i a c r hs hi9] at h ⊢
      obtain ⟨x, hx, hl, h0⟩ := rdU_canon r (i + 1) _ (by omega) h
      have hx0 := h0 (by omega)
      have hq : (c.toNat % 128 + 128 * x) % 128 = c.toNat % 128 := by omega
      have hd : (c.toNat % 128 + 128 * x) / 128 = x := by omega
      have hu : uintL (c.toNat % 128 + 128 * x) = c :: uintL x := by
        rw [uintL_big _ (by omega), hq, hd]
        congr 1
        apply UInt8.toNat_inj.1; rw [UInt8.toNat_ofNat']; omega
      refine ⟨c.toNat % 128 + 128 * x, ?_, ?_, fun _ => by omega⟩
      · rw [hx, hu, List.length_cons]
        simp only [Prod.mk.injEq, and_true]
        refine ⟨?_, by omega⟩
        rw [Nat.pow_succ, Nat.add_mul, Nat.add_assoc]
        congr 2
        rw [Nat.mul_comm (128 ^ i) 128, ← Nat.mul_assoc, Nat.mul_comm x 128]
      · rw [hu, List.cons_append, List.length_cons, List.drop_succ_cons, ← hl]
theorem readU_canon (l : List UInt8) (h : (readU l).2.2 = 0) : l = uintL (readU l).1 ++ l.drop (readU l).2.1 := by
  obtain ⟨x, hx, hl, _⟩ := rdU_canon l 0 0 (by omega) h
  have e : readU l = (x, (uintL x).length, 0) := by unfold readU; rw [hx]; simp
  rw [e]; exact hl
theorem readU_eq (l : List UInt8) (h : (readU l).2.2 = 0) : (readU l).2.1 = (uintL (readU l).1).length := by
  obtain ⟨x, hx, hl, _⟩ := rdU_canon l 0 0 (by omega) h
  have e : readU l = (x, (uintL x).length, 0) := by unfold readU; rw [hx]; simp
  rw [e]
theorem numO_put (most n : Nat) (r : List UInt8) (h : n ≤ most) (hn : n < 18446744073709551616) : numO most (some (uintL n ++ r)) = (n, some r) := by
  have e := readU_uintL n hn r
  unfold numO
  simp only [e, List.drop_left]
  rw [if_pos ⟨trivial, h⟩]
theorem numO_get (most n : Nat) (l r : List UInt8) (h : numO most (some l) = (n, some r)) : l = uintL n ++ r ∧ n ≤ most ∧ n < 18446744073709551616 := by
  unfold numO at h
  simp only at h
  split at h
  · rename_i hc
    injection h with h1 h2
    injection h2 with h2
    subst h1 h2
    exact ⟨readU_canon l hc.1, hc.2, readU_lt l⟩
  · injection h with h1 h2; cases h2
theorem oneO_put (most : Nat) (c : UInt8) (r : List UInt8) (h : c.toNat ≤ most) : oneO most (some (c :: r)) = (c.toNat, some r) := by
  unfold oneO; simp only; rw [if_pos h]
theorem oneO_get (most n : Nat) (l r : List UInt8) (h : oneO most (some l) = (n, some r)) : l = UInt8.ofNat n :: r ∧ n ≤ most := by
  cases l with
  | nil => unfold oneO at h; injection h with h1 h2; cases h2
  | cons c l =>
    unfold oneO at h
    simp only at h
    split at h
    · rename_i hc
      injection h with h1 h2
      injection h2 with h2
      subst h1 h2
      exact ⟨by rw [ofNat_self], hc⟩
    · injection h with h1 h2; cases h2
theorem foldZ_lt (n : Int) (h0 : -9223372036854775808 ≤ n) (h1 : n ≤ 9223372036854775807) : 0 ≤ foldZ n ∧ foldZ n < 18446744073709551616 := by unfold foldZ; split <;> omega
theorem valO_put (v : VL) (r : List UInt8) (h : rightV v = true) : valO (some (valB v ++ r)) = (v, some r) := by
  obtain ⟨k, n⟩ := v
  unfold rightV at h
  simp only at h
  unfold valO valB
  simp only
  by_cases h3 : k = 3
  · subst h3
    have hb : -1152921504606846976 ≤ n ∧ n < 1152921504606846976 := by simpa using h
    have hf := foldZ_lt n (by omega) (by omega)
    rw [if_pos rfl]
    have h1 : oneO 4 (some (UInt8.ofNat (3 : Int).toNat :: uintL (foldZ n).toNat ++ r)) = (3, some (uintL (foldZ n).toNat ++ r)) := oneO_put 4 3 _ (by decide)
    rw [h1]
    simp only [if_true]
    rw [numO_put _ _ _ (by omega) (by omega)]
    simp only
    rw [Int.toNat_of_nonneg hf.1, unfoldZ_fold]
  · rw [if_neg h3]
    by_cases h4 : k = 4
    · subst h4
      have hb : 1 ≤ n ∧ n ≤ 4096 := by simpa [oopB] using h
      rw [if_pos rfl]
      have h1 : oneO 4 (some (UInt8.ofNat (4 : Int).toNat :: uintL n.toNat ++ r)) = (4, some (uintL n.toNat ++ r)) := oneO_put 4 4 _ (by decide)
      rw [h1]
      simp only
      rw [if_neg (by decide), if_pos (by decide), numO_put _ _ _ (by omega) (by omega)]
      simp only
      rw [Int.toNat_of_nonneg (by omega)]
    · rw [if_neg h4]
      have hk : k = 0 ∨ k = 1 ∨ k = 2 := by
        by_cases hk : k = 0 ∨ k = 1 ∨ k = 2
        · exact hk
        · rw [if_neg hk, if_neg h3, if_neg h4] at h; cases h
      rw [if_pos hk] at h
      have hn : n = 0 := by simpa using h
      subst hn
      rcases hk with rfl | rfl | rfl
      all_goals
        rw [List.singleton_append, oneO_put 4 _ _ (by decide)]
        rfl
theorem valO_get (l r : List UInt8) (v : VL) (h : valO (some l) = (v, some r)) : l = valB v ++ r := by
  unfold valO at h
  rcases hq : oneO 4 (some l) with ⟨c, s⟩
  rw [hq] at h
  simp only at h
  have key : ∀ l', s = some l' → l = UInt8.ofNat c :: l' ∧ c ≤ 4 := fun l' e => oneO_get 4 c l l' (by rw [hq, e])
  split at h
  · rename_i h3
    subst h3
    injection h with hv hs
    cases s with
    | none => unfold numO at hs; cases hs
    | some l' =>
      obtain ⟨e1, _⟩ := key l' rfl
      rcases hq2 : numO 18446744073709551615 (some l') with ⟨m, s'⟩
      rw [hq2] at hv hs
      simp only at hv hs
      subst hs
      obtain ⟨e2, _, _⟩ := numO_get _ _ _ _ hq2
      subst hv
      rw [e1, e2]
      unfold valB
      simp only [if_true]
      rw [foldZ_unfold _ (by omega), Int.toNat_natCast]
      rfl
  · rename_i h3
    split at h
    · rename_i h4
      subst h4
      injection h with hv hs
      cases s with
      | none => unfold numO at hs; cases hs
      | some l' =>
        obtain ⟨e1, _⟩ := key l' rfl
        rcases hq2 : numO 4096 (some l') with ⟨m, s'⟩
        rw [hq2] at hv hs
        simp only at hv hs
        subst hs
        obtain ⟨e2, _, _⟩ := numO_get _ _ _ _ hq2
        subst hv
        rw [e1, e2]
        unfold valB
        simp only
        rw [if_neg (by decide), if_pos trivial, Int.toNat_natCast]
        rfl
    · rename_i h4
      injection h with hv hs
      subst hv hs
      obtain ⟨e1, _⟩ := key r rfl
      rw [e1]
      unfold valB
      simp only
      rw [if_neg (by omega), if_neg (by omega), Int.toNat_natCast]
      rfl
theorem valsO_put : ∀ (l : List VL) (r : List UInt8), l.all rightV = true → valsO l.length (some (valsB l ++ r)) = (l, some r)
  | [], r, _ => rfl
  | v :: l, r, h => by
    rw [List.all_cons, Bool.and_eq_true] at h
    have h1 := valO_put v (valsB l ++ r) h.1
    rw [← List.append_assoc] at h1
    rw [List.length_cons, valsB_cons, valsO, h1]
    simp only
    rw [valsO_put l r h.2]
theorem valsO_get : ∀ (n : Nat) (l r : List UInt8) (vs : List VL), valsO n (some l) = (vs, some r) → vs.length = n ∧ l = valsB vs ++ r
  | 0, l, r, vs, h => by
    unfold valsO at h
    injection h with h1 h2
    injection h2 with h2
    subst h1 h2
    exact ⟨rfl, rfl⟩
  | n + 1, l, r, vs, h => by
    unfold valsO at h
    rcases hq : valO (some l) with ⟨v, s⟩
    rw [hq] at h
    cases s with
    | none => simp only at h; injection h with h1 h2; cases h2
    | some l' =>
      simp only at h
      injection h with h1 h2
      have e1 := valO_get l l' v hq
      obtain ⟨h3, h4⟩ := valsO_get n l' r (valsO n (some l')).1 (by rw [← h2])
      subst h1
      exact ⟨by rw [List.length_cons, h3], by rw [valsB_cons, List.append_assoc, ← h4, e1]⟩
theorem valsO_none (n : Nat) : (valsO n none).2 = none := by
  cases n with
  | zero => rfl
  | succ n => rfl
theorem textO_put (t r : List UInt8) (h : t.length ≤ 60000) : textO (some (uintL t.length ++ t ++ r)) = (t, some r) := by
  have e := readT_text t r h
  unfold textO
  simp only [e]
  rw [if_pos trivial]
  have hl : (uintL t.length ++ t).length = (uintL t.length).length + t.length := List.length_append
  rw [← hl, List.drop_left]
theorem textO_get (l t r : List UInt8) (h : textO (some l) = (t, some r)) : l = uintL t.length ++ t ++ r := by
  unfold textO at h
  simp only at h
  split at h
  · rename_i hc
    injection h with h1 h2
    injection h2 with h2
    by_cases hu : (readU l).2.2 = 0
    · rw [readT_ok l hu] at hc h1 h2
      obtain ⟨p1, p2, p3⟩ := partM_fine l _ _ hc
      have hcan := readU_canon l hu
      have hk := readU_eq l hu
      rw [p3] at h1 h2
      simp only at h1 h2
      subst h1 h2
      have hlen : ((l.drop (readU l).2.1).take (readU l).1).length = (readU l).1 := by rw [List.length_take, List.length_drop]; omega
      rw [hlen, List.append_assoc, ← List.drop_drop, List.take_append_drop]
      exact hcan
    · rw [readT_bad l hu] at hc
      exact absurd hc hu
  · injection h with h1 h2; cases h2
theorem rightO_parts {o : ObjM} (h : rightO o = true) : 1 ≤ o.cls ∧ o.cls ≤ 4096 ∧ o.slots.length ≤ 256 ∧ o.bytes.length ≤ 1024 ∧ o.slots.all rightV = true := by
  unfold rightO oopB at h
  simp only [Bool.and_eq_true, decide_eq_true_eq] at h
  exact ⟨h.1.1.1.1, h.1.1.1.2, h.1.1.2, h.1.2, h.2⟩
theorem objO_put (o : ObjM) (r : List UInt8) (h : rightO o = true) : objO (some (objB o ++ r)) = (o, some r) := by
  obtain ⟨h1, h2, h3, h4, h5⟩ := rightO_parts h
  have e : objB o ++ r = uintL o.cls.toNat ++ (uintL o.slots.length ++ (valsB o.slots ++ (uintL o.bytes.length ++ o.bytes ++ r))) := by simp [objB]
  unfold objO
  rw [e, numO_put _ _ _ (by omega) (by omega)]
  simp only
  rw [numO_put _ _ _ h3 (by omega)]
  simp only
  rw [valsO_put _ _ h5]
  simp only
  rw [textO_put _ _ (by omega)]
  simp only
  rw [Int.toNat_of_nonneg (by omega), if_pos h]
theorem objO_get (l r : List UInt8) (o : ObjM) (h : objO (some l) = (o, some r)) : rightO o = true ∧ l = objB o ++ r := by
  unfold objO at h
  rcases q1 : numO 4096 (some l) with ⟨a, s1⟩
  rw [q1] at h
  simp only at h
  rcases q2 : numO 256 s1 with ⟨b, s2⟩
  rw [q2] at h
  simp only at h
  rcases q3 : valsO b s2 with ⟨c, s3⟩
  rw [q3] at h
  simp only at h
  rcases q4 : textO s3 with ⟨d, s4⟩
  rw [q4] at h
  cases s4 with
  | none => simp only at h; injection h with h1 h2; cases h2
  | some l4 =>
    simp only at h
    split at h
    · rename_i hr
      injection h with h1 h2
      injection h2 with h2
      subst h1 h2
      cases s3 with
      | none => unfold textO at q4; injection q4 with _ q4; cases q4
      | some l3 =>
        cases s2 with
        | none => have := valsO_none b; rw [q3] at this; cases this
        | some l2 =>
          cases s1 with
          | none => unfold numO at q2; injection q2 with _ q2; cases q2
          | some l1 =>
            obtain ⟨e1, _, _⟩ := numO_get _ _ _ _ q1
            obtain ⟨e2, _, _⟩ := numO_get _ _ _ _ q2
            obtain ⟨e3, e4⟩ := valsO_get _ _ _ _ q3
            have e5 := textO_get _ _ _ q4
            refine ⟨hr, ?_⟩
            rw [e1, e2, e4, e5]
            simp [objB, e3]
    · injection h with h1 h2; cases h2
theorem getM_put (o : ObjM) (h : rightO o = true) : getM (objB o) = some o := by
  have h1 := objO_put o [] h
  rw [List.append_nil] at h1
  unfold getM
  rw [h1]
theorem getM_get (l : List UInt8) (o : ObjM) (h : getM l = some o) : rightO o = true ∧ objB o = l := by
  unfold getM at h
  rcases q : objO (some l) with ⟨x, s⟩
  rw [q] at h
  match s, q, h with
  | some [], q, h =>
    simp only at h
    injection h with h
    subst h
    obtain ⟨h1, h2⟩ := objO_get l [] x q
    exact ⟨h1, by rw [h2, List.append_nil]⟩
theorem objB_inj (a b : ObjM) (ha : rightO a = true) (hb : rightO b = true) (h : objB a = objB b) : a = b := by
  have h1 := getM_put a ha
  rw [h, getM_put b hb] at h1
  injection h1 with h1
  exact h1.symm
end Go.Proofs.Ytoajigghkjnffaa
namespace Go.Proofs.Ytoajigghkjnffaa
set_option linter.unusedVariables false
set_option linter.unusedSimpArgs false
open Go.RowKit

structure ChM where
  oop : Int
  gone : Bool
  obj : ObjM
deriving DecidableEq
structure RecM where
  commit : Int
  chs : List ChM
deriving DecidableEq
def noObj : ObjM := ⟨0, [], []⟩
def rightC (c : ChM) : Bool := if c.gone then decide (c.obj = noObj) else rightO c.obj
def chsRight : Int → List ChM → Bool
  | _, [] => true
  | last, c :: r => decide (last < c.oop) && (oopB c.oop && (rightC c && chsRight c.oop r))
def rightR (r : RecM) : Bool := decide (1 ≤ r.commit) && (decide (r.commit ≤ 1099511627776) && (decide (r.chs.length ≤ 4096) && chsRight 0 r.chs))
def chB (c : ChM) : List UInt8 := uintL c.oop.toNat ++ (if c.gone then [1] else 0 :: objB c.obj)
def chsB (l : List ChM) : List UInt8 := l.flatMap chB
theorem chsB_cons (c : ChM) (l : List ChM) : chsB (c :: l) = chB c ++ chsB l := rfl
theorem chsB_append (a b : List ChM) : chsB (a ++ b) = chsB a ++ chsB b := by simp [chsB]
def recB (r : RecM) : List UInt8 := uintL r.commit.toNat ++ uintL r.chs.length ++ chsB r.chs
def chO (s : St) : ChM × St :=
  if (oneO 1 (numO 4096 s).2).1 = 1 then (⟨(numO 4096 s).1, true, noObj⟩, (oneO 1 (numO 4096 s).2).2)
  else (⟨(numO 4096 s).1, false, (objO (oneO 1 (numO 4096 s).2).2).1⟩, (objO (oneO 1 (numO 4096 s).2).2).2)
def chsO : Nat → St → List ChM × St
  | 0, s => ([], s)
  | n + 1, s => match (chO s).2 with
    | none => ([], none)
    | some l => ((chO s).1 :: (chsO n (some l)).1, (chsO n (some l)).2)
theorem chsO_stop {n : Nat} {l : List UInt8} (h : (chO (some l)).2 = none) : chsO (n + 1) (some l) = ([], none) := by rw [chsO, h]
theorem chsO_go {n : Nat} {l r : List UInt8} (h : (chO (some l)).2 = some r) : chsO (n + 1) (some l) = ((chO (some l)).1 :: (chsO n (some r)).1, (chsO n (some r)).2) := by rw [chsO, h]
theorem chO_none : (chO none).2 = none := rfl
theorem chsO_none (n : Nat) : (chsO n none).2 = none := by
  cases n with
  | zero => rfl
  | succ n => rfl
/-- A record that bytes are; none: they are none. -/
def recO (s : St) : RecM × St :=
  (⟨(numO 1099511627776 s).1, (chsO (numO 4096 (numO 1099511627776 s).2).1 (numO 4096 (numO 1099511627776 s).2).2).1⟩, (chsO (numO 4096 (numO 1099511627776 s).2).1 (numO 4096 (numO 1099511627776 s).2).2).2)
def getR (l : List UInt8) : Option RecM := match (recO (some l)).2 with
  | some [] => if rightR (recO (some l)).1 then some (recO (some l)).1 else none
  | _ => none
theorem chO_put (c : ChM) (r : List UInt8) (h1 : oopB c.oop = true) (h2 : rightC c = true) : chO (some (chB c ++ r)) = (c, some r) := by
  obtain ⟨oop, gone, obj⟩ := c
  simp only [oopB, Bool.and_eq_true, decide_eq_true_eq] at h1
  unfold rightC at h2
  simp only at h2
  have e1 : numO 4096 (some (chB ⟨oop, gone, obj⟩ ++ r)) = (oop.toNat, some ((if gone then [1] else 0 :: objB obj) ++ r)) := by
    unfold chB
    simp only
    rw [List.append_assoc]
    exact numO_put _ _ _ (by omega) (by omega)
  unfold chO
  rw [e1]
  simp only
  cases gone with
  | true =>
    simp only [if_true] at h2 ⊢
    have h3 : obj = noObj := by simpa using h2
    subst h3
    rw [List.singleton_append, oneO_put 1 1 r (by decide)]
    simp only
    rw [if_pos (by decide), Int.toNat_of_nonneg (by omega)]
  | false =>
    simp only [Bool.false_eq_true, if_false] at h2 ⊢
    rw [List.cons_append, oneO_put 1 0 _ (by decide)]
    simp only
    rw [if_neg (by decide), objO_put obj r h2, Int.toNat_of_nonneg (by omega)]
theorem chO_get (l r : List UInt8) (c : ChM) (h : chO (some l) = (c, some r)) : l = chB c ++ r := by
  unfold chO at h
  rcases q1 : numO 4096 (some l) with ⟨a, s1⟩
  rw [q1] at h
  simp only at h
  rcases q2 : oneO 1 s1 with ⟨b, s2⟩
  rw [q2] at h
  simp only at h
  have k1 : ∀ l1, s1 = some l1 → l = uintL a ++ l1 := fun l1 e => (numO_get _ _ _ _ (by rw [q1, e])).1
  have k2 : ∀ l1 l2, s1 = some l1 → s2 = some l2 → l1 = UInt8.ofNat b :: l2 ∧ b ≤ 1 := fun l1 l2 e1 e2 => oneO_get 1 b l1 l2 (by rw [← e1, q2, e2])
  split at h
  · rename_i hb
    injection h with h1 h2
    subst h1 h2
    cases s1 with
    | none => unfold oneO at q2; injection q2 with _ q2; cases q2
    | some l1 =>
      rw [k1 l1 rfl, (k2 l1 r rfl rfl).1, hb]
      simp [chB]
  · rename_i hb
    injection h with h1 h2
    cases s2 with
    | none => unfold objO at h2; cases h2
    | some l2 =>
      cases s1 with
      | none => unfold oneO at q2; injection q2 with _ q2; cases q2
      | some l1 =>
        obtain ⟨e2, hb1⟩ := k2 l1 l2 rfl rfl
        have hb0 : b = 0 := by omega
        subst hb0
        have e3 := (objO_get l2 r (objO (some l2)).1 (by rw [← h2])).2
        subst h1
        rw [k1 l1 rfl, e2]
        unfold chB
        simp only [Int.toNat_natCast, Bool.false_eq_true, if_false]
        rw [List.append_assoc, List.cons_append, ← e3]
        rfl
theorem chsO_put : ∀ (l : List ChM) (last : Int) (r : List UInt8), chsRight last l = true → chsO l.length (some (chsB l ++ r)) = (l, some r)
  | [], _, r, _ => rfl
  | c :: l, last, r, h => by
    simp only [chsRight, Bool.and_eq_true] at h
    have h1 := chO_put c (chsB l ++ r) h.2.1 h.2.2.1
    rw [← List.append_assoc] at h1
    rw [List.length_cons, chsB_cons, chsO, h1]
    simp only
    rw [chsO_put l c.oop r h.2.2.2]
theorem chsO_get : ∀ (n : Nat) (l r : List UInt8) (cs : List ChM), chsO n (some l) = (cs, some r) → cs.length = n ∧ l = chsB cs ++ r
  | 0, l, r, cs, h => by
    unfold chsO at h
    injection h with h1 h2
    injection h2 with h2
    subst h1 h2
    exact ⟨rfl, rfl⟩
  | n + 1, l, r, cs, h => by
    unfold chsO at h
    rcases hq : chO (some l) with ⟨v, s⟩
    rw [hq] at h
    cases s with
    | none => simp only at h; injection h with h1 h2; cases h2
    | some l' =>
      simp only at h
      injection h with h1 h2
      have e1 := chO_get l l' v hq
      obtain ⟨h3, h4⟩ := chsO_get n l' r (chsO n (some l')).1 (by rw [← h2])
      subst h1
      exact ⟨by rw [List.length_cons, h3], by rw [chsB_cons, List.append_assoc, ← h4, e1]⟩
theorem rightR_parts {r : RecM} (h : rightR r = true) : 1 ≤ r.commit ∧ r.commit ≤ 1099511627776 ∧ r.chs.length ≤ 4096 ∧ chsRight 0 r.chs = true := by
  unfold rightR at h
  simp only [Bool.and_eq_true, decide_eq_true_eq] at h
  exact ⟨h.1, h.2.1, h.2.2.1, h.2.2.2⟩
theorem getR_put (r : RecM) (h : rightR r = true) : getR (recB r) = some r := by
  obtain ⟨h1, h2, h3, h4⟩ := rightR_parts h
  have e1 : numO 1099511627776 (some (recB r)) = (r.commit.toNat, some (uintL r.chs.length ++ chsB r.chs)) := by
    unfold recB; rw [List.append_assoc]; exact numO_put _ _ _ (by omega) (by omega)
  have e2 : numO 4096 (some (uintL r.chs.length ++ chsB r.chs)) = (r.chs.length, some (chsB r.chs)) := numO_put _ _ _ h3 (by omega)
  have e3 := chsO_put r.chs 0 [] h4
  rw [List.append_nil] at e3
  have e : recO (some (recB r)) = (r, some []) := by
    unfold recO
    rw [e1]
    simp only
    rw [e2]
    simp only
    rw [e3]
    simp only [Int.toNat_of_nonneg (show 0 ≤ r.commit by omega)]
  unfold getR
  rw [e]
  simp only
  rw [if_pos h]
theorem getR_get (l : List UInt8) (r : RecM) (h : getR l = some r) : rightR r = true ∧ recB r = l := by
  unfold getR at h
  rcases q : recO (some l) with ⟨x, s⟩
  rw [q] at h
  match s, q, h with
  | some [], q, h =>
    simp only at h
    split at h
    · rename_i hr
      injection h with h
      subst h
      refine ⟨hr, ?_⟩
      unfold recO at q
      rcases q1 : numO 1099511627776 (some l) with ⟨a, s1⟩
      rw [q1] at q
      simp only at q
      rcases q2 : numO 4096 s1 with ⟨b, s2⟩
      rw [q2] at q
      simp only at q
      injection q with e1 e2
      cases s2 with
      | none => rw [chsO_none] at e2; cases e2
      | some l2 =>
        cases s1 with
        | none => unfold numO at q2; injection q2 with _ q2; cases q2
        | some l1 =>
          have k1 := (numO_get _ _ _ _ q1).1
          have k2 := (numO_get _ _ _ _ q2).1
          obtain ⟨k3, k4⟩ := chsO_get b l2 [] (chsO b (some l2)).1 (by rw [← e2])
          rw [List.append_nil] at k4
          subst e1
          unfold recB
          simp only [Int.toNat_natCast]
          rw [k3, ← k4, List.append_assoc, ← k2, ← k1]
    · cases h
/-- A record as bytes, or none and an error. -/
def putR (r : RecM) : List UInt8 × Int := if rightR r = true then (if 60000 < (recB r).length then ([], 3) else (recB r, 0)) else ([], 1)
theorem putR_no {r : RecM} (h : rightR r = false) : putR r = ([], 1) := by unfold putR; rw [if_neg (by rw [h]; decide)]
theorem putR_big {r : RecM} (h : rightR r = true) (h2 : 60000 < (recB r).length) : putR r = ([], 3) := by unfold putR; rw [if_pos h, if_pos h2]
theorem putR_ok {r : RecM} (h : rightR r = true) (h2 : ¬ 60000 < (recB r).length) : putR r = (recB r, 0) := by unfold putR; rw [if_pos h, if_neg h2]
theorem chsRight_oops : ∀ (l : List ChM) (last : Int), chsRight last l = true → ∀ c ∈ l, oopB c.oop = true ∧ rightC c = true
  | [], _, _, c, hc => by cases hc
  | d :: l, last, h, c, hc => by
    simp only [chsRight, Bool.and_eq_true] at h
    rcases List.mem_cons.1 hc with rfl | hc
    · exact ⟨h.2.1, h.2.2.1⟩
    · exact chsRight_oops l d.oop h.2.2.2 c hc
end Go.Proofs.Ytoajigghkjnffaa
namespace Go.Proofs.Ytoajigghkjnffaa
set_option linter.unusedVariables false
set_option linter.unusedSimpArgs false
open Go.RowKit

/-- A change's five cells. -/
def ChC (w : World) (S : Nat → Prop) (cs : List Value) (c : ChM) : Prop :=
  ∃ A n D m, cs = [.int .i64 c.oop, .bool c.gone, .int .i64 c.obj.cls, .slice A c.obj.slots.length n, .slice D c.obj.bytes.length m] ∧ RdV w S A c.obj.slots ∧ RdB w S D c.obj.bytes
theorem ChC.len {w : World} {S : Nat → Prop} {cs : List Value} {c : ChM} (h : ChC w S cs c) : cs.length = 5 := by
  obtain ⟨_, _, _, _, rfl, _, _⟩ := h; rfl
theorem ChC.one {w : World} {S : Nat → Prop} {cs : List Value} {c : ChM} (h : ChC w S cs c) : ∀ u ∈ cs, u.oneCell' = true := by
  obtain ⟨_, _, _, _, rfl, _, _⟩ := h
  intro u hu; simp at hu; rcases hu with rfl | rfl | rfl | rfl | rfl <;> rfl
theorem ChC.keep {w w' : World} {S T : Nat → Prop} {cs : List Value} {c : ChM} (h : ChC w S cs c) (hf : Fr T w w') (hd : ∀ b, S b → ¬ T b) : ChC w' S cs c := by
  obtain ⟨A, n, D, m, e, h1, h2⟩ := h; exact ⟨A, n, D, m, e, Rd.fr h1 hf hd, Rd.fr h2 hf hd⟩
theorem ChC.mono {w : World} {S T : Nat → Prop} {cs : List Value} {c : ChM} (h : ChC w S cs c) (hS : ∀ b, b < w.heap.size → S b → T b) : ChC w T cs c := by
  obtain ⟨A, n, D, m, e, h1, h2⟩ := h; exact ⟨A, n, D, m, e, Rd.mono h1 hS (by decide), Rd.mono h2 hS (by decide)⟩
theorem ChC.lt {w : World} {S : Nat → Prop} {cs : List Value} {c : ChM} (h : ChC w S cs c) : ChC w (fun b => S b ∧ b < w.heap.size) cs c := by
  obtain ⟨A, n, D, m, e, h1, h2⟩ := h; exact ⟨A, n, D, m, e, Rd.lt h1 (by decide), Rd.lt h2 (by decide)⟩
theorem ChC.obj {w : World} {S : Nat → Prop} {cs : List Value} {c : ChM} (h : ChC w S cs c) : ∃ oc, cs = .int .i64 c.oop :: .bool c.gone :: oc ∧ ObjC w S oc c.obj := by
  obtain ⟨A, n, D, m, e, h1, h2⟩ := h; exact ⟨_, e, A, n, D, m, rfl, h1, h2⟩
/-- Cells, five by five, that read as changes. -/
def ChsC (w : World) (S : Nat → Prop) : List Value → List ChM → Prop
  | xs, [] => xs = []
  | xs, t :: ts => ∃ cs rest, xs = cs ++ rest ∧ ChC w S cs t ∧ ChsC w S rest ts
theorem ChsC.keep {w w' : World} {S T : Nat → Prop} (hf : Fr T w w') (hd : ∀ b, S b → ¬ T b) : ∀ {ts : List ChM} {xs : List Value}, ChsC w S xs ts → ChsC w' S xs ts
  | [], _, h => h
  | t :: ts, _, ⟨cs, rest, e, hc, hr⟩ => ⟨cs, rest, e, hc.keep hf hd, ChsC.keep hf hd hr⟩
theorem ChsC.mono {w : World} {S T : Nat → Prop} (hS : ∀ b, b < w.heap.size → S b → T b) : ∀ {ts : List ChM} {xs : List Value}, ChsC w S xs ts → ChsC w T xs ts
  | [], _, h => h
  | t :: ts, _, ⟨cs, rest, e, hc, hr⟩ => ⟨cs, rest, e, hc.mono hS, ChsC.mono hS hr⟩
theorem ChsC.lt {w : World} {S : Nat → Prop} : ∀ {ts : List ChM} {xs : List Value}, ChsC w S xs ts → ChsC w (fun b => S b ∧ b < w.heap.size) xs ts
  | [], _, h => h
  | t :: ts, _, ⟨cs, rest, e, hc, hr⟩ => ⟨cs, rest, e, hc.lt, ChsC.lt hr⟩
theorem ChsC.one {w : World} {S : Nat → Prop} : ∀ {ts : List ChM} {xs : List Value}, ChsC w S xs ts → ∀ u ∈ xs, u.oneCell' = true
  | [], _, h => by intro u hu; rw [h] at hu; cases hu
  | t :: ts, _, ⟨cs, rest, e, hc, hr⟩ => by
    intro u hu
    rw [e] at hu
    rcases List.mem_append.1 hu with hu | hu
    · exact hc.one u hu
    · exact ChsC.one hr u hu
theorem ChsC.snoc {w : World} {S : Nat → Prop} {cs : List Value} {c : ChM} (hc : ChC w S cs c) : ∀ {ts : List ChM} {xs : List Value}, ChsC w S xs ts → ChsC w S (xs ++ cs) (ts ++ [c])
  | [], _, h => by rw [h]; exact ⟨cs, [], by simp, hc, rfl⟩
  | t :: ts, _, ⟨c0, rest, e, h0, hr⟩ => ⟨c0, rest ++ cs, by rw [e, List.append_assoc], h0, ChsC.snoc hc hr⟩
theorem ChsC.at_ {w : World} {S : Nat → Prop} : ∀ {ts : List ChM} {xs : List Value} {k : Nat} (_ : ChsC w S xs ts) (hk : k < ts.length), ∃ cs, ChC w S cs ts[k] ∧ ∀ j u, cs[j]? = some u → xs[k * 5 + j]? = some u
  | [], _, _, _, hk => absurd hk (by simp)
  | t :: ts, xs, 0, ⟨cs, rest, e, hc, hr⟩, _ => ⟨cs, hc, fun j u hu => by
      subst e
      rw [Nat.zero_mul, Nat.zero_add, List.getElem?_append_left (List.getElem?_eq_some_iff.1 hu).1]; exact hu⟩
  | t :: ts, xs, k + 1, ⟨cs, rest, e, hc, hr⟩, hk => by
      obtain ⟨cs', hc', hj⟩ := ChsC.at_ (k := k) hr (by simpa using hk)
      refine ⟨cs', by simpa using hc', fun j u hu => ?_⟩
      subst e
      rw [List.getElem?_append_right (by rw [hc.len]; omega), hc.len, show (k + 1) * 5 + j - 5 = k * 5 + j by omega]
      exact hj j u hu
/-- A slice of changes. -/
def RdCh (w : World) (S : Nat → Prop) (A : Option Addr) (ts : List ChM) : Prop := ∃ xs, Rd w S 5 A ts.length xs ∧ ChsC w S xs ts
theorem RdCh.fr {w w' : World} {S T : Nat → Prop} {A : Option Addr} {ts : List ChM} (h : RdCh w S A ts) (hf : Fr T w w') (hd : ∀ b, S b → ¬ T b) : RdCh w' S A ts := by
  obtain ⟨xs, h1, h2⟩ := h; exact ⟨xs, h1.fr hf hd, h2.keep hf hd⟩
theorem RdCh.fr0 {w w' : World} {S : Nat → Prop} {A : Option Addr} {ts : List ChM} (h : RdCh w S A ts) (hf : Fr No w w') : RdCh w' S A ts := h.fr hf (fun _ _ hn => hn)
theorem RdCh.mono {w : World} {S T : Nat → Prop} {A : Option Addr} {ts : List ChM} (h : RdCh w S A ts) (hS : ∀ b, b < w.heap.size → S b → T b) : RdCh w T A ts := by
  obtain ⟨xs, h1, h2⟩ := h; exact ⟨xs, h1.mono hS (by decide), h2.mono hS⟩
theorem RdCh.lt {w : World} {S : Nat → Prop} {A : Option Addr} {ts : List ChM} (h : RdCh w S A ts) : RdCh w (fun b => S b ∧ b < w.heap.size) A ts := by
  obtain ⟨xs, h1, h2⟩ := h; exact ⟨xs, h1.lt (by decide), h2.lt⟩
theorem RdCh.le {w : World} {S : Nat → Prop} {A : Option Addr} {ts : List ChM} (h : RdCh w S A ts) : ts.length ≤ 211106232532992 := by
  obtain ⟨xs, h1, _⟩ := h; exact h1.le
theorem RdCh.nil_ {w : World} {S : Nat → Prop} {A : Option Addr} : RdCh w S A [] := ⟨[], Rd.nil_, rfl⟩
/-- The k-th change's five cells. -/
theorem RdCh.at_ {w : World} {S : Nat → Prop} {A : Option Addr} {ts : List ChM} (h : RdCh w S A ts) {k : Nat} (hk : k < ts.length) :
    ∃ g o Av n D m, A = some ⟨g, o, none⟩ ∧ S g ∧ (∀ j u, [Value.int .i64 ts[k].oop, .bool ts[k].gone, .int .i64 ts[k].obj.cls, .slice Av ts[k].obj.slots.length n, .slice D ts[k].obj.bytes.length m][j]? = some u → w.cell? ⟨g, o + k * 5 + j, none⟩ = some u) ∧ RdV w S Av ts[k].obj.slots ∧ RdB w S D ts[k].obj.bytes := by
  obtain ⟨xs, h1, h2⟩ := h
  obtain ⟨g, o, hA, hS, hc⟩ := h1.plain (by omega) (by decide)
  obtain ⟨cs, ⟨Av, n, D, m, rfl, hr, hw⟩, hj⟩ := h2.at_ hk
  exact ⟨g, o, Av, n, D, m, hA, hS, fun j u hu => by have := hc _ u (hj j u hu); rwa [← Nat.add_assoc] at this, hr, hw⟩
theorem addr5 (g a : Nat) (cs : List Value) {w : World} (h : ∀ j u, cs[j]? = some u → w.cell? ⟨g, a + j, none⟩ = some u) : ∀ j u, cs[j]? = some u → w.cell? ((⟨g, a, none⟩ : Addr).add j) = some u := by
  intro j u hu
  have e : (⟨g, a, none⟩ : Addr).add j = ⟨g, a + j, none⟩ := by unfold Addr.add; split <;> simp_all
  rw [e]; exact h j u hu
/-- A record's two cells. -/
def RecC (w : World) (S : Nat → Prop) (cs : List Value) (r : RecM) : Prop := ∃ A c, cs = [.int .i64 r.commit, .slice A r.chs.length c] ∧ RdCh w S A r.chs
theorem RecC.fr {w w' : World} {S T : Nat → Prop} {cs : List Value} {r : RecM} (h : RecC w S cs r) (hf : Fr T w w') (hd : ∀ b, S b → ¬ T b) : RecC w' S cs r := by
  obtain ⟨A, c, e, h1⟩ := h; exact ⟨A, c, e, h1.fr hf hd⟩
theorem RecC.fr0 {w w' : World} {S : Nat → Prop} {cs : List Value} {r : RecM} (h : RecC w S cs r) (hf : Fr No w w') : RecC w' S cs r := h.fr hf (fun _ _ hn => hn)
theorem RecC.mono {w : World} {S T : Nat → Prop} {cs : List Value} {r : RecM} (h : RecC w S cs r) (hS : ∀ b, b < w.heap.size → S b → T b) : RecC w T cs r := by
  obtain ⟨A, c, e, h1⟩ := h; exact ⟨A, c, e, h1.mono hS⟩
theorem RecC.lt {w : World} {S : Nat → Prop} {cs : List Value} {r : RecM} (h : RecC w S cs r) : RecC w (fun b => S b ∧ b < w.heap.size) cs r := by
  obtain ⟨A, c, e, h1⟩ := h; exact ⟨A, c, e, h1.lt⟩
/-- Changes that are gathered in a row of the call's own; what they hold is new too, and lies apart from the row. -/
def ChRow (w : World) (T : TypeId) (base : Nat) (v : Value) (l : List ChM) : Prop :=
  ∃ xs, w.ownsRow base T 5 v l.length xs ∧ ChsC w (fun b => base ≤ b ∧ ¬ v.ownBlock = some b) xs l
theorem ChRow.start (w : World) (T : TypeId) (base : Nat) : ChRow w T base (.slice none 0 0) [] := ⟨[], World.ownsRow_nil _ _ _ _, rfl⟩
theorem ChRow.fr {S : Nat → Prop} {w w' : World} {T : TypeId} {base : Nat} {v : Value} {l : List ChM} (h : ChRow w T base v l) (hf : Fr S w w') (hS : ∀ b, base ≤ b → ¬ S b) : ChRow w' T base v l := by
  obtain ⟨xs, h1, h2⟩ := h
  exact ⟨xs, own_fr h1 hf (fun b hb => hS b (h1.lt b hb).1), h2.keep hf (fun b hb => hS b hb.1)⟩
theorem ChRow.fr0 {w w' : World} {T : TypeId} {base : Nat} {v : Value} {l : List ChM} (h : ChRow w T base v l) (hf : Fr No w w') : ChRow w' T base v l := h.fr hf (fun _ _ hn => hn)
theorem ChRow.app {w w' : World} {T : TypeId} {base : Nat} {v v' : Value} {l : List ChM} {xs cs : List Value} {c : ChM} (hc : ChsC w (fun b => base ≤ b ∧ ¬ v.ownBlock = some b) xs l) (hx : ChC w (fun b => base ≤ b ∧ ¬ v.ownBlock = some b) cs c)
    (hown : w'.ownsRow base T 5 v' (l.length + 1) (xs ++ cs)) (hg : w.grownBy w' v.ownBlock) (hat : Hid (v'.ownBlock = v.ownBlock ∨ v'.ownBlock = some w.heap.size)) : ChRow w' T base v' (l ++ [c]) := by
  have h1 := (ChsC.snoc hx hc).lt
  have hf : Fr (fun b => v.ownBlock = some b) w w' := (Fr.refl _ w).grown hg (fun q hq => .inr hq)
  have h2 := h1.keep hf (fun b hb hT => hb.1.2 hT)
  refine ⟨xs ++ cs, by rw [List.length_append]; exact hown, h2.mono (fun b _ hb => ⟨hb.1.1, fun e => ?_⟩)⟩
  rcases hat.out with h3 | h3
  · exact hb.1.2 (h3 ▸ e)
  · rw [h3] at e; injection e with e; have := hb.2; omega
theorem ChRow.rd {w : World} {T : TypeId} {base c : Nat} {A : Option Addr} {l : List ChM} (h : ChRow w T base (.slice A l.length c) l) (hl : l.length ≤ 211106232532992) : RdCh w (fun b => base ≤ b) A l := by
  obtain ⟨xs, h1, h2⟩ := h
  obtain ⟨_, _, e, _, _, hA⟩ := own_form h1
  injection e with e1 e2 e3
  subst e1 e3
  exact ⟨xs, (own_rd h1 hl).mono (fun b _ hb => (h1.lt b ((hA b).2 hb)).1) (by decide), h2.mono (fun b _ hb => hb.1)⟩
end Go.Proofs.Ytoajigghkjnffaa
namespace Go.Proofs.Ytoajigghkjnffaa
set_option linter.unusedVariables false
set_option linter.unusedSimpArgs false
open Go.RowKit

theorem ret_bool {a b : Bool} (h : a = b) : Ending.returned (.bool a) = .returned (.bool b) := by rw [h]
theorem oop_calls (n : Int) (w : World) : Calls Try.prog 55 #[.int .i64 n] w fun e w' => e = .returned (.bool (oopB n)) ∧ w = w' := by
  unfold oopB
  by_cases h1 : 1 ≤ n
  · have e1 : decide (1 ≤ n) = true := by simpa using h1
    by_cases h2 : n ≤ 4096
    · have e2 : decide (n ≤ 4096) = true := by simpa using h2
      rw [e1, e2]
      clear h1 h2
      go_enter Try.func55, Try.ntmps55
      go_wp2
      go_ret
      exact ⟨rfl, rfl⟩
    · have e2 : decide (n ≤ 4096) = false := by simpa using h2
      rw [e1, e2]
      clear h1 h2
      go_enter Try.func55, Try.ntmps55
      go_wp2
      go_ret
      exact ⟨rfl, rfl⟩
  · have e1 : decide (1 ≤ n) = false := by simpa using h1
    rw [e1, Bool.false_and]
    clear h1
    go_enter Try.func55, Try.ntmps55
    go_wp2
    go_ret
    exact ⟨rfl, rfl⟩
theorem rightV_small (k n : Int) (h : k = 0 ∨ k = 1 ∨ k = 2) : rightV ⟨k, n⟩ = (n == 0) := by unfold rightV; simp only; rw [if_pos h]
theorem rightV_int (n : Int) : rightV ⟨3, n⟩ = (decide (-1152921504606846976 ≤ n) && decide (n < 1152921504606846976)) := by unfold rightV; simp only; rw [if_neg (by decide), if_pos trivial]
theorem rightV_ref (n : Int) : rightV ⟨4, n⟩ = oopB n := by unfold rightV; simp only; rw [if_neg (by decide), if_neg (by decide), if_pos trivial]
theorem rightV_no (k n : Int) (h : ¬ k = 0) (h1 : ¬ k = 1) (h2 : ¬ k = 2) (h3 : ¬ k = 3) (h4 : ¬ k = 4) : rightV ⟨k, n⟩ = false := by unfold rightV; simp only; rw [if_neg (by omega), if_neg h3, if_neg h4]

set_option maxHeartbeats 1000000 in
set_option maxRecDepth 100000 in
theorem right_calls (v : VL) (w : World) :
    Calls Try.prog 34 #[.agg #[.int .i64 v.k, .int .i64 v.n]] w fun e w' => e = .returned (.bool (rightV v)) ∧ Fr No w w' := by
  obtain ⟨k, n⟩ := v
  simp only
  have hf : Fr No w (w.alloc (.cells #[.int .i64 k, .int .i64 n] 23)) := (Fr.refl No w).alloc _
  by_cases h0 : k = 0
  · subst h0
    have H := Lib.hid (rightV_small 0 n (.inl rfl))
    go_enter Try.func34, Try.ntmps34
    go_wp2
    go_ret
    exact ⟨ret_bool H.out.symm, hf⟩
  by_cases h1 : k = 1
  · subst h1
    have H := Lib.hid (rightV_small 1 n (.inr (.inl rfl)))
    go_enter Try.func34, Try.ntmps34
    go_wp2
    go_ret
    exact ⟨ret_bool H.out.symm, hf⟩
  by_cases h2 : k = 2
  · subst h2
    have H := Lib.hid (rightV_small 2 n (.inr (.inr rfl)))
    go_enter Try.func34, Try.ntmps34
    go_wp2
    go_ret
    exact ⟨ret_bool H.out.symm, hf⟩
  by_cases h3 : k = 3
  · subst h3
    have H := Lib.hid (rightV_int n)
    by_cases ha : -1152921504606846976 ≤ n
    · have e1 : decide (-1152921504606846976 ≤ n) = true := by simpa using ha
      rcases Decidable.em (n < 1152921504606846976) with hb | hb
      · have e3 : decide (n < 1152921504606846976) = true := by simpa using hb
        rw [e1, e3] at H
        clear ha hb
        go_enter Try.func34, Try.ntmps34
        go_wp2
        go_ret
        exact ⟨ret_bool H.out.symm, hf⟩
      · have e3 : decide (n < 1152921504606846976) = false := by simpa using hb
        rw [e1, e3] at H
        clear ha hb
        go_enter Try.func34, Try.ntmps34
        go_wp2
        go_ret
        exact ⟨ret_bool H.out.symm, hf⟩
    · have e1 : decide (-1152921504606846976 ≤ n) = false := by simpa using ha
      rw [e1, Bool.false_and] at H
      clear ha
      go_enter Try.func34, Try.ntmps34
      go_wp2
      go_ret
      exact ⟨ret_bool H.out.symm, hf⟩
  by_cases h4 : k = 4
  · subst h4
    have H := Lib.hid (rightV_ref n)
    go_enter Try.func34, Try.ntmps34
    go_wp2_with fail
    refine (oop_calls n _).mono ?_
    rintro e w2 ⟨rfl, rfl⟩
    go_wp2
    go_ret
    exact ⟨ret_bool H.out.symm, hf⟩
  have H := Lib.hid (rightV_no k n h0 h1 h2 h3 h4)
  have e0 : (k == 0) = false := by simpa using h0
  have e1 : (k == 1) = false := by simpa using h1
  have e2 : (k == 2) = false := by simpa using h2
  have e3 : (k == 3) = false := by simpa using h3
  have e4 : (k == 4) = false := by simpa using h4
  clear h0 h1 h2 h3 h4
  go_enter Try.func34, Try.ntmps34
  go_wp2
  go_ret
  exact ⟨ret_bool H.out.symm, hf⟩

set_option maxHeartbeats 1000000 in
set_option maxRecDepth 100000 in
theorem refright_calls (v : VL) (w : World) :
    Calls Try.prog 12 #[.agg #[.int .i64 v.k, .int .i64 v.n]] w fun e w' => e = .returned (.bool (rightV v)) ∧ Fr No w w' := by
  obtain ⟨k, n⟩ := v
  simp only
  have hf : Fr No w (w.alloc (.cells #[.int .i64 k, .int .i64 n] 23)) := (Fr.refl No w).alloc _
  by_cases h0 : k = 0
  · subst h0
    have H := Lib.hid (rightV_small 0 n (.inl rfl))
    go_enter Try.func12, Try.ntmps12
    go_wp2
    go_ret
    exact ⟨ret_bool H.out.symm, hf⟩
  by_cases h1 : k = 1
  · subst h1
    have H := Lib.hid (rightV_small 1 n (.inr (.inl rfl)))
    go_enter Try.func12, Try.ntmps12
    go_wp2
    go_ret
    exact ⟨ret_bool H.out.symm, hf⟩
  by_cases h2 : k = 2
  · subst h2
    have H := Lib.hid (rightV_small 2 n (.inr (.inr rfl)))
    go_enter Try.func12, Try.ntmps12
    go_wp2
    go_ret
    exact ⟨ret_bool H.out.symm, hf⟩
  by_cases h3 : k = 3
  · subst h3
    have H := Lib.hid (rightV_int n)
    by_cases ha : -1152921504606846976 ≤ n
    · have e1 : decide (-1152921504606846976 ≤ n) = true := by simpa using ha
      rcases Decidable.em (n < 1152921504606846976) with hb | hb
      · have e3 : decide (n < 1152921504606846976) = true := by simpa using hb
        have e5 : decide (n ≤ 1152921504606846975) = true := by simp; omega
        rw [e1, e3] at H
        clear ha hb
        go_enter Try.func12, Try.ntmps12
        go_wp2
        go_ret
        exact ⟨ret_bool H.out.symm, hf⟩
      · have e3 : decide (n < 1152921504606846976) = false := by simpa using hb
        have e5 : decide (n ≤ 1152921504606846975) = false := by simp; omega
        rw [e1, e3] at H
        clear ha hb
        go_enter Try.func12, Try.ntmps12
        go_wp2
        go_ret
        exact ⟨ret_bool H.out.symm, hf⟩
    · have e1 : decide (-1152921504606846976 ≤ n) = false := by simpa using ha
      rw [e1, Bool.false_and] at H
      clear ha
      go_enter Try.func12, Try.ntmps12
      go_wp2
      go_ret
      exact ⟨ret_bool H.out.symm, hf⟩
  by_cases h4 : k = 4
  · subst h4
    have H := Lib.hid (rightV_ref n)
    unfold oopB at H
    by_cases ha : 1 ≤ n
    · have e1 : decide (1 ≤ n) = true := by simpa using ha
      rcases Decidable.em (n ≤ 4096) with hb | hb
      · have e3 : decide (n ≤ 4096) = true := by simpa using hb
        rw [e1, e3] at H
        clear ha hb
        go_enter Try.func12, Try.ntmps12
        go_wp2
        go_ret
        exact ⟨ret_bool H.out.symm, hf⟩
      · have e3 : decide (n ≤ 4096) = false := by simpa using hb
        rw [e1, e3] at H
        clear ha hb
        go_enter Try.func12, Try.ntmps12
        go_wp2
        go_ret
        exact ⟨ret_bool H.out.symm, hf⟩
    · have e1 : decide (1 ≤ n) = false := by simpa using ha
      rw [e1, Bool.false_and] at H
      clear ha
      go_enter Try.func12, Try.ntmps12
      go_wp2
      go_ret
      exact ⟨ret_bool H.out.symm, hf⟩
  have H := Lib.hid (rightV_no k n h0 h1 h2 h3 h4)
  have e0 : (k == 0) = false := by simpa using h0
  have e1 : (k == 1) = false := by simpa using h1
  have e2 : (k == 2) = false := by simpa using h2
  have e3 : (k == 3) = false := by simpa using h3
  have e4 : (k == 4) = false := by simpa using h4
  clear h0 h1 h2 h3 h4
  go_enter Try.func12, Try.ntmps12
  go_wp2
  go_ret
  exact ⟨ret_bool H.out.symm, hf⟩
end Go.Proofs.Ytoajigghkjnffaa
