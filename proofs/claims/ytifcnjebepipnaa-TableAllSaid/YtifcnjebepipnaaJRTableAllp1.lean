/- Objects and values as plain data, and how they lie in memory; value.Copy; the reference's Same at objects alike. No condition but size. How values, objects and bytes come in. No condition. value.Copy; the reference's Same at objects alike. No condition but size. Which values and which objects can be kept: value's, and the reference's. No condition. Which objects can be kept: value's RightObj, and the reference's. No condition. Whether two objects are alike: value's Same, and the reference's; Put. No condition. The reference's Copy of an object. No condition but size. Numbers as bytes, plainly; no program in it. No condition. Numbers read from bytes, plainly; no program in it. No condition. Texts behind how many bytes they are, plainly; no program in it. No condition. -/
import Derived.Test.YtifcnjebepipnaaProg
import Derived.Test.YtifcnjebepipnaaJRTableAllp0
import Derived.Lib.SliceRun
import Derived.Deep.CutBlock
import Derived.Deep.DeepCutAuto
import Derived.Deep.DeepAppendWide
import Derived.Laws.BitsAllLaws
namespace Go.Proofs.Ytifcnjebepipnaa
set_option linter.unusedVariables false
set_option linter.unusedSimpArgs false
open Go.RowKit

def vcells (v : VL) : List Value := [.int .i64 v.k, .int .i64 v.n]
def vals (l : List VL) : List Value := l.flatMap vcells
theorem vals_append (a b : List VL) : vals (a ++ b) = vals a ++ vals b := by simp [vals]
theorem vals_cons (v : VL) (l : List VL) : vals (v :: l) = vcells v ++ vals l := rfl
theorem vals_len (l : List VL) : (vals l).length = l.length * 2 := by
  induction l with
  | nil => rfl
  | cons v l ih => rw [vals_cons, List.length_append, ih, List.length_cons]; simp [vcells]; omega
theorem vals_one (l : List VL) : ∀ u ∈ vals l, u.oneCell' = true := by
  intro u hu
  obtain ⟨v, _, hv⟩ := List.mem_flatMap.1 hu
  simp [vcells] at hv
  rcases hv with rfl | rfl <;> rfl
theorem vals_at {l : List VL} {k : Nat} (hk : k < l.length) (j : Nat) (u : Value) (hu : (vcells l[k])[j]? = some u) : (vals l)[k * 2 + j]? = some u := by
  have hj : j < 2 := by have := (List.getElem?_eq_some_iff.1 hu).1; simpa [vcells] using this
  have e : l = l.take k ++ (l[k] :: l.drop (k + 1)) := by rw [← List.drop_eq_getElem_cons hk, List.take_append_drop]
  have e2 : vals l = vals (l.take k) ++ (vcells l[k] ++ vals (l.drop (k + 1))) := by
    conv => lhs; rw [e]
    rw [vals_append]; rfl
  have hl : (vals (l.take k)).length = k * 2 := by rw [vals_len, List.length_take, Nat.min_eq_left (by omega)]
  rw [e2, List.getElem?_append_right (by omega), hl, show k * 2 + j - k * 2 = j by omega, List.getElem?_append_left (by simpa [vcells] using hj)]
  exact hu
/-- A slice of values that reads as l. -/
def RdV (w : World) (S : Nat → Prop) (A : Option Addr) (l : List VL) : Prop := Rd w S 2 A l.length (vals l)
theorem RdV.le {w : World} {S : Nat → Prop} {A : Option Addr} {l : List VL} (h : RdV w S A l) : l.length ≤ 211106232532992 := h.2.1
theorem Rd.plain {w : World} {S : Nat → Prop} {size n : Nat} {A : Option Addr} {xs : List Value} (h : Rd w S size A n xs) (hn : 0 < n) (hs : 0 < size) : ∃ g o, A = some ⟨g, o, none⟩ ∧ S g ∧ ∀ j u, xs[j]? = some u → w.cell? ⟨g, o + j, none⟩ = some u := by
  obtain ⟨ad, rfl, hS, hc⟩ := h.2.2 hn
  have hl : 0 < xs.length := by rw [h.1]; exact Nat.mul_pos hn hs
  have hsp : ad.spot = none := by
    have h3 := hc 0 _ (List.getElem?_eq_getElem hl)
    have := World.cell?_spot h3
    simpa [Addr.add] using this
  obtain ⟨g, o, sp⟩ := ad
  simp only at hsp
  subst hsp
  refine ⟨g, o, rfl, hS, fun j u hu => ?_⟩
  have := hc j u hu
  have key : (⟨g, o, none⟩ : Addr).add j = ⟨g, o + j, none⟩ := by unfold Addr.add; split <;> simp_all
  rwa [key] at this
/-- The k-th value's two cells. -/
theorem RdV.at_ {w : World} {S : Nat → Prop} {A : Option Addr} {l : List VL} (h : RdV w S A l) {k : Nat} (hk : k < l.length) :
    ∃ g o, A = some ⟨g, o, none⟩ ∧ S g ∧ w.cell? ⟨g, o + k * 2, none⟩ = some (.int .i64 l[k].k) ∧ w.cell? ⟨g, o + k * 2 + 1, none⟩ = some (.int .i64 l[k].n) ∧ (∀ j u, (vcells l[k])[j]? = some u → w.cell? ((⟨g, o + k * 2, none⟩ : Addr).add j) = some u) := by
  obtain ⟨g, o, rfl, hS, hc⟩ := h.plain (by omega) (by decide)
  have key : ∀ j u, (vcells l[k])[j]? = some u → w.cell? ⟨g, o + k * 2 + j, none⟩ = some u := fun j u hu => by
    have := hc _ u (vals_at hk j u hu); rwa [← Nat.add_assoc] at this
  refine ⟨g, o, rfl, hS, key 0 _ rfl, key 1 _ rfl, fun j u hu => ?_⟩
  have e : (⟨g, o + k * 2, none⟩ : Addr).add j = ⟨g, o + k * 2 + j, none⟩ := by unfold Addr.add; split <;> simp_all
  rw [e]; exact key j u hu
def ObjC (w : World) (S : Nat → Prop) (cs : List Value) (o : ObjM) : Prop :=
  ∃ A c B c2, cs = [.int .i64 o.cls, .slice A o.slots.length c, .slice B o.bytes.length c2] ∧ RdV w S A o.slots ∧ RdB w S B o.bytes
theorem ObjC.keep {w w' : World} {S T : Nat → Prop} {cs : List Value} {o : ObjM} (h : ObjC w S cs o) (hf : Fr T w w') (hd : ∀ b, S b → ¬ T b) : ObjC w' S cs o := by
  obtain ⟨A, c, B, c2, e, h1, h2⟩ := h; exact ⟨A, c, B, c2, e, Rd.fr h1 hf hd, Rd.fr h2 hf hd⟩
theorem ObjC.fr0 {w w' : World} {S : Nat → Prop} {cs : List Value} {o : ObjM} (h : ObjC w S cs o) (hf : Fr No w w') : ObjC w' S cs o := h.keep hf (fun _ _ hn => hn)
theorem ObjC.mono {w : World} {S T : Nat → Prop} {cs : List Value} {o : ObjM} (h : ObjC w S cs o) (hS : ∀ b, b < w.heap.size → S b → T b) : ObjC w T cs o := by
  obtain ⟨A, c, B, c2, e, h1, h2⟩ := h; exact ⟨A, c, B, c2, e, Rd.mono h1 hS (by decide), Rd.mono h2 hS (by decide)⟩
theorem ObjC.lt {w : World} {S : Nat → Prop} {cs : List Value} {o : ObjM} (h : ObjC w S cs o) : ObjC w (fun b => S b ∧ b < w.heap.size) cs o := by
  obtain ⟨A, c, B, c2, e, h1, h2⟩ := h; exact ⟨A, c, B, c2, e, Rd.lt h1 (by decide), Rd.lt h2 (by decide)⟩
theorem plain_of {T : TypeId} {d : TypeDesc} (h : Try.prog.underlying T = some d) (hd : (match d with | .struct _ | .array _ _ => true | _ => false) = false) : ∀ w, (isAgg T).run Try.prog w = .ok false w := by
  intro w
  unfold isAgg
  rw [Sem.run_bind, run_underlying h w]
  cases d <;> simp_all
theorem plain_int : ∀ w, (isAgg 3).run Try.prog w = .ok false w := plain_of Try.underlying3 rfl
theorem plain_i64 : ∀ w, (isAgg 2).run Try.prog w = .ok false w := plain_of Try.underlying2 rfl
theorem plain_bool : ∀ w, (isAgg 4).run Try.prog w = .ok false w := plain_of Try.underlying4 rfl
theorem plain_lval : ∀ w, (isAgg 35).run Try.prog w = .ok false w := plain_of Try.underlying35 rfl
theorem plain_lu8 : ∀ w, (isAgg 36).run Try.prog w = .ok false w := plain_of Try.underlying36 rfl
theorem so_val : SliceOf Try.prog 35 75 (.agg #[.int .i64 0, .int .i64 0]) 2 16 := ⟨Try.underlying35, by kernel_rfl, rfl, by decide, by decide, by decide⟩
theorem ag_val : AggOf Try.prog 75 2 := ⟨⟨_, Try.underlying75, rfl⟩, by kernel_rfl⟩
theorem ag_obj : AggOf Try.prog 38 3 := ⟨⟨_, Try.underlying38, rfl⟩, by kernel_rfl⟩

theorem clone_vals (S : Nat → Prop) (A : Option Addr) (c : Nat) (l : List VL) (w : World) (h : RdV w S A l) (hb : l.length * 16 ≤ 211106232532992) :
    Calls Try.prog 39 #[.slice A l.length c] w fun e w' => ∃ v, e = .returned v ∧ w'.ownsRow w.heap.size 75 2 v l.length (vals l) ∧ Fr No w w' := by
  have hle := h.le
  have E := fun (w : World) (a : Option Addr) (n c n' c' : Nat) => Lib.run_eql_slice_nil (P := Try.prog) w 35 75 a n c n' c' Try.underlying35
  cases A with
  | none =>
    obtain rfl : l = [] := by
      cases l with
      | nil => rfl
      | cons x l => obtain ⟨g, o, hA, _⟩ := h.at_ (k := 0) (by simp); cases hA
    go_enter Try.func39, Try.ntmps39
    go_wp2
    go_ret
    exact ⟨_, rfl, World.ownsRow_nil _ _ _ _, Fr.refl _ _⟩
  | some ad =>
    go_enter Try.func39, Try.ntmps39
    go_wp2_with (refine wpList_app so_val (World.ownsRow_made w #[] 0 (Nat.le_refl _) (Nat.zero_le _) rfl) (Rd.alloc h _) (vals_one _) (by omega) (by simp) rfl rfl rfl rfl ?_; intro v2 w2 hown2 hg2 hat2)
    go_ret
    exact ⟨v2, rfl, by simpa using hown2, ((Fr.refl No w).alloc _).grown hg2 (by simp [Value.ownBlock])⟩
theorem clone_bytes (S : Nat → Prop) (A : Option Addr) (c : Nat) (l : List UInt8) (w : World) (h : RdB w S A l) :
    Calls Try.prog 40 #[.slice A l.length c] w fun e w' => ∃ v, e = .returned v ∧ w'.ownsRow w.heap.size 5 1 v l.length (U8 l) ∧ Fr No w w' := by
  have hle := h.le
  have E := fun (w : World) (a : Option Addr) (n c n' c' : Nat) => Lib.run_eql_slice_nil (P := Try.prog) w 36 5 a n c n' c' Try.underlying36
  cases A with
  | none =>
    obtain rfl : l = [] := by
      cases l with
      | nil => rfl
      | cons x l => obtain ⟨ad, hA, _⟩ := RdB.at_ h (k := 0) (by simp); cases hA
    go_enter Try.func40, Try.ntmps40
    go_wp2
    go_ret
    exact ⟨_, rfl, World.ownsRow_nil _ _ _ _, Fr.refl _ _⟩
  | some ad =>
    go_enter Try.func40, Try.ntmps40
    go_wp2_with (refine wpList_app so_u8 (World.ownsRow_made w #[] 0 (Nat.le_refl _) (Nat.zero_le _) rfl) (Rd.alloc h _) (U8_one _) (by omega) (by simp) rfl rfl rfl rfl ?_; intro v2 w2 hown2 hg2 hat2)
    go_ret
    exact ⟨v2, rfl, by simpa using hown2, ((Fr.refl No w).alloc _).grown hg2 (by simp [Value.ownBlock])⟩
end Go.Proofs.Ytifcnjebepipnaa
namespace Go.Proofs.Ytifcnjebepipnaa
set_option linter.unusedVariables false
set_option linter.unusedSimpArgs false
open Go.ChangeShapes Go.WideShapes Go.ChangeAt Go.RowKit

set_option maxRecDepth 100000 in
theorem opens_int {t : TypeId} {k : IntKind} (ht : Try.prog.underlying t = some (.int k)) : Opens Try.prog t (fun _ cs (x : Int) => cs = [.int k x] ∧ (Lit.int k x).wf = true) (fun _ => 1) := by
  intro H enc w sp held fuel cs x h _
  obtain ⟨n, rfl, rfl, hw⟩ := DataW.trod_int ht h
  exact ⟨n, ⟨rfl, hw⟩, bulk_pos _⟩
set_option maxRecDepth 100000 in
theorem opens_bool {t : TypeId} (ht : Try.prog.underlying t = some .bool) : Opens Try.prog t (fun _ cs (x : Bool) => cs = [.bool x]) (fun _ => 1) := by
  intro H enc w sp held fuel cs x h _
  obtain ⟨b, h1, h2⟩ := DataW.trod_bool ht h
  exact ⟨b, h1, bulk_pos _⟩
theorem wf_i64 {x : Int} (h : (Lit.int .i64 x).wf = true) : -9223372036854775808 ≤ x ∧ x ≤ 9223372036854775807 := by simpa [Lit.wf, IntKind.min, IntKind.max, IntKind.signed, IntKind.bits] using h
theorem wf_u8 {x : Int} (h : (Lit.int .u8 x).wf = true) : 0 ≤ x ∧ x ≤ 255 := by simpa [Lit.wf, IntKind.min, IntKind.max, IntKind.signed, IntKind.bits] using h
def VWf (v : VL) : Prop := (-9223372036854775808 ≤ v.k ∧ v.k ≤ 9223372036854775807) ∧ -9223372036854775808 ≤ v.n ∧ v.n ≤ 9223372036854775807
set_option maxRecDepth 100000 in
theorem opens_byte : Opens Try.prog 5 (fun _ cs (x : UInt8) => cs = [.int .u8 (x.toNat : Int)]) (fun _ => 1) := by
  intro H enc w sp held fuel cs x h hw
  obtain ⟨n, ⟨rfl, hn⟩, hb⟩ := opens_int Try.underlying5 H enc w sp held fuel cs x h hw
  have hr := wf_u8 hn
  refine ⟨UInt8.ofNat n.toNat, ?_, hb⟩
  show [Value.int .u8 n] = [Value.int .u8 ((UInt8.ofNat n.toNat).toNat : Int)]
  rw [UInt8.toNat_ofNat']
  congr 2; omega
theorem sum_ones {α : Type} (l : List α) : (l.map (fun _ => 1)).sum = l.length := by induction l with | nil => rfl | cons x l ih => rw [List.map_cons, List.sum_cons, ih, List.length_cons]; omega
set_option maxRecDepth 100000 in
theorem opens_u8s : Opens Try.prog 36 (fun w cs (l : List UInt8) => (∃ A c, cs = [.slice A l.length c] ∧ RdB w (fun b => b < w.heap.size) A l ∧ l.length ≤ c ∧ c ≤ maxLen) ∧ l.length ≤ reachBytes) (fun l => l.length + 1) := by
  intro H enc w sp held fuel cs x h hw
  obtain ⟨ys, ⟨⟨A, c, css, rfl, hrd, hall, hc, hm⟩, h8⟩, hb⟩ := opens_list Try.underlying36 (size := 1) (bytes := 1) (by kernel_rfl) (by kernel_rfl) (by decide) (by decide) opens_byte (fun w cs y hy => by rw [hy]; rfl) H enc w sp held fuel cs x h hw
  have key : ∀ (css : List (List Value)) (ys : List UInt8), All2 (fun cs (x : UInt8) => cs = [Value.int .u8 (x.toNat : Int)]) css ys → css.flatten = U8 ys := by
    intro css
    induction css with
    | nil => intro ys h; cases ys with
      | nil => rfl
      | cons y ys => exact h.elim
    | cons c0 css ih => intro ys h; cases ys with
      | nil => exact h.elim
      | cons y ys => rw [List.flatten_cons, ih ys h.2, h.1]; rfl
  rw [key css ys hall] at hrd
  simp only at hb
  rw [sum_ones] at hb
  exact ⟨ys, ⟨⟨A, c, rfl, hrd, hc, hm⟩, by omega⟩, hb⟩
set_option maxRecDepth 100000 in
theorem opens_val : Opens Try.prog 75 (fun _ cs (v : VL) => cs = vcells v ∧ VWf v) (fun _ => 1) := by
  intro H enc w sp held fuel cs x h hw
  have hu := Try.underlying75
  obtain ⟨xs, n, _, rfl, hl, hxl, hf⟩ := DataW.trod_struct hu h
  have hc2 : Try.prog.cellsOf 75 = 2 := by kernel_rfl
  have hi1 : Try.prog.cellsOf 3 = 1 := by kernel_rfl
  have hi2 : Try.prog.cellsOf 2 = 1 := by kernel_rfl
  rw [hc2] at hl
  have f0 := hf 0 _ rfl
  have f1 := hf 1 _ rfl
  match cs, hl with
  | [c0, c1], _ =>
  match xs, hxl with
  | [x0, x1], _ =>
  simp only [hi1, hi2, List.drop_zero, List.drop_succ_cons, List.take_succ_cons, List.take_zero, List.getElem?_cons_zero, List.getElem?_cons_succ] at f0 f1
  obtain ⟨a0, e0, _, w0⟩ := DataW.trod_int Try.underlying3 f0
  obtain ⟨a1, e1, _, w1⟩ := DataW.trod_int Try.underlying2 f1
  injection e0 with e0 _
  injection e1 with e1 _
  subst e0 e1
  exact ⟨⟨a0, a1⟩, ⟨rfl, wf_i64 w0, wf_i64 w1⟩, bulk_pos _⟩
set_option maxRecDepth 100000 in
theorem opens_vals : Opens Try.prog 35 (fun w cs (l : List VL) => (∃ A c, cs = [.slice A l.length c] ∧ RdV w (fun b => b < w.heap.size) A l ∧ l.length ≤ c ∧ c ≤ maxLen) ∧ (∀ v ∈ l, VWf v) ∧ l.length * 16 ≤ reachBytes) (fun l => l.length + 1) := by
  intro H enc w sp held fuel cs x h hw
  obtain ⟨ys, ⟨⟨A, c, css, rfl, hrd, hall, hc, hm⟩, h8⟩, hb⟩ := opens_list Try.underlying35 (size := 2) (bytes := 16) (by kernel_rfl) (by kernel_rfl) (by decide) (by decide) opens_val (fun w cs y hy => by rw [hy.1]; rfl) H enc w sp held fuel cs x h hw
  have key : ∀ (css : List (List Value)) (ys : List VL), All2 (fun cs (v : VL) => cs = vcells v ∧ VWf v) css ys → css.flatten = vals ys ∧ ∀ v ∈ ys, VWf v := by
    intro css
    induction css with
    | nil => intro ys h; cases ys with
      | nil => exact ⟨rfl, fun v hv => by cases hv⟩
      | cons y ys => exact h.elim
    | cons c0 css ih => intro ys h; cases ys with
      | nil => exact h.elim
      | cons y ys =>
        obtain ⟨h1, h2⟩ := ih ys h.2
        refine ⟨by rw [List.flatten_cons, h1, h.1.1]; rfl, fun v hv => ?_⟩
        rcases List.mem_cons.1 hv with rfl | hv
        · exact h.1.2
        · exact h2 v hv
  obtain ⟨k1, k2⟩ := key css ys hall
  rw [k1] at hrd
  simp only at hb
  rw [sum_ones] at hb
  exact ⟨ys, ⟨⟨A, c, rfl, hrd, hc, hm⟩, k2, h8⟩, hb⟩
/-- What an object's cells read as. -/
def ObjR (w : World) (cs : List Value) (o : ObjM) : Prop :=
  ObjC w (fun b => b < w.heap.size) cs o ∧ (o.slots.length * 16 ≤ 140737488351232 ∧ o.bytes.length ≤ 140737488351232) ∧ (∀ v ∈ o.slots, VWf v) ∧ -9223372036854775808 ≤ o.cls ∧ o.cls ≤ 9223372036854775807
theorem ObjC.len {w : World} {S : Nat → Prop} {cs : List Value} {o : ObjM} (h : ObjC w S cs o) : cs.length = 3 := by
  obtain ⟨A, c, B, c2, rfl, _⟩ := h; rfl
set_option maxRecDepth 100000 in
theorem opens_obj : Opens Try.prog 38 ObjR (fun o => o.slots.length + o.bytes.length + 2) := by
  intro H enc w sp held fuel cs x h hw
  have hu := Try.underlying38
  obtain ⟨xs, n, _, rfl, hl, hxl, hf⟩ := DataW.trod_struct hu h
  have hc3 : Try.prog.cellsOf 38 = 3 := by kernel_rfl
  have hi1 : Try.prog.cellsOf 2 = 1 := by kernel_rfl
  have hi2 : Try.prog.cellsOf 35 = 1 := by kernel_rfl
  have hi3 : Try.prog.cellsOf 36 = 1 := by kernel_rfl
  rw [hc3] at hl
  have f0 := hf 0 _ rfl
  have f1 := hf 1 _ rfl
  have f2 := hf 2 _ rfl
  match cs, hl with
  | [c0, c1, c2], _ =>
  match xs, hxl with
  | [x0, x1, x2], _ =>
  simp only [hi1, hi2, hi3, List.drop_zero, List.drop_succ_cons, List.take_succ_cons, List.take_zero, List.getElem?_cons_zero, List.getElem?_cons_succ] at f0 f1 f2
  have hw' : ∀ m, (m ∈ DataW.weights Try.prog 35 x1.1 ∨ m ∈ DataW.weights Try.prog 36 x2.1) → m ≤ reachBytes := by
    intro m hm
    refine hw m ?_
    simp only [DataW.weights, hu, DataW.weightsEach, List.map_cons, List.map_nil, List.mem_append]
    rcases hm with hm | hm
    · exact .inr (.inl hm)
    · exact .inr (.inr (.inl hm))
  obtain ⟨a0, e0, _, w0⟩ := DataW.trod_int Try.underlying2 f0
  obtain ⟨vs, ⟨⟨Av, cv, e1, hv, _, _⟩, wv, v8⟩, bv⟩ := opens_vals H enc w sp held n [c1] x1 f1 (fun m hm => hw' m (.inl hm))
  obtain ⟨bs, ⟨⟨Ab, cb, e2, hbr, _, _⟩, b8⟩, bb⟩ := opens_u8s H enc w sp held n [c2] x2 f2 (fun m hm => hw' m (.inr hm))
  injection e0 with e0 _
  injection e1 with e1 _
  injection e2 with e2 _
  subst e0 e1 e2
  refine ⟨⟨a0, vs, bs⟩, ⟨⟨Av, cv, Ab, cb, rfl, hv, hbr⟩, ⟨by simpa [reachBytes] using v8, by simpa [reachBytes] using b8⟩, wv, wf_i64 w0⟩, ?_⟩
  have := bulk_pos x0.1
  simp only at bv bb
  simp only [List.map_cons, List.map_nil, Rows.uptoBulk, Rows.uptoBulkAll]
  omega
section
variable {H : Type} {enc : TypeId × Value → H} {W : World} {held : Bool}
theorem weights_of {ts : List TypeId} {ds : List (DataW H)} (hsz : (DataW.weightsEach Try.prog ts ds).all (· ≤ reachBytes) = true) {j : Nat} {t : TypeId} {d : DataW H} (ht : ts[j]? = some t) (hd : ds[j]? = some d) : ∀ n ∈ DataW.weights Try.prog t d, n ≤ reachBytes :=
  fun n hn => by have := List.all_eq_true.1 hsz _ (DataW.weights_mem_each ht hd n hn); simpa using this
theorem open_obj {ts : List TypeId} {ds : List (DataW H)} (hsz : (DataW.weightsEach Try.prog ts ds).all (· ≤ reachBytes) = true) {j : Nat} {v : Value} {d : DataW H} {p : List MemPlace}
    (ht : ts[j]? = some 38) (hd : ds[j]? = some d) (h : DataW.Trod enc Try.prog W 0 (fun _ => true) held 38 v d p) :
    ∃ (cs : List Value) (o : ObjM), v = .agg cs.toArray ∧ ObjR W cs o ∧ o.slots.length + o.bytes.length + 2 ≤ Rows.uptoBulk d := by
  obtain ⟨fuel, hf⟩ := h
  obtain ⟨o, h1, h3⟩ := opens_obj H enc W (fun _ => true) held fuel _ _ hf (weights_of hsz ht hd)
  have hl := h1.1.len
  cases v with
  | agg cs => exact ⟨cs.toList, o, rfl, h1, h3⟩
  | _ => simp [Value.cells] at hl
theorem open_val {ts : List TypeId} {ds : List (DataW H)} (hsz : (DataW.weightsEach Try.prog ts ds).all (· ≤ reachBytes) = true) {j : Nat} {v : Value} {d : DataW H} {p : List MemPlace}
    (ht : ts[j]? = some 75) (hd : ds[j]? = some d) (h : DataW.Trod enc Try.prog W 0 (fun _ => true) held 75 v d p) :
    ∃ x : VL, v = .agg #[.int .i64 x.k, .int .i64 x.n] ∧ VWf x := by
  obtain ⟨fuel, hf⟩ := h
  obtain ⟨x, ⟨h1, h2⟩, h3⟩ := opens_val H enc W (fun _ => true) held fuel _ _ hf (weights_of hsz ht hd)
  have hl : v.cells.toList.length = 2 := by rw [h1]; rfl
  cases v with
  | agg cs =>
    refine ⟨x, ?_, h2⟩
    have e : cs.toList = vcells x := h1
    rw [← Array.toArray_toList (xs := cs), e]; rfl
  | _ => simp [Value.cells] at hl
theorem open_u8s {ts : List TypeId} {ds : List (DataW H)} (hsz : (DataW.weightsEach Try.prog ts ds).all (· ≤ reachBytes) = true) {j : Nat} {v : Value} {d : DataW H} {p : List MemPlace}
    (ht : ts[j]? = some 36) (hd : ds[j]? = some d) (h : DataW.Trod enc Try.prog W 0 (fun _ => true) held 36 v d p) (hv : ∃ A n c, v = .slice A n c) :
    ∃ (A : Option Addr) (c : Nat) (l : List UInt8), v = .slice A l.length c ∧ RdB W (fun b => b < W.heap.size) A l ∧ l.length ≤ 140737488351232 ∧ l.length ≤ c ∧ c ≤ maxLen ∧ l.length < Rows.uptoBulk d := by
  obtain ⟨A, n, c, rfl⟩ := hv
  obtain ⟨fuel, hf⟩ := h
  obtain ⟨l, ⟨⟨A', c', e, h1, h2, h3⟩, h5⟩, h6⟩ := opens_u8s H enc W (fun _ => true) held fuel _ _ hf (weights_of hsz ht hd)
  simp [Value.cells] at e
  obtain ⟨rfl, rfl, rfl⟩ := e
  exact ⟨_, _, l, rfl, h1, by simpa [reachBytes] using h5, h2, h3, h6⟩
end
end Go.Proofs.Ytifcnjebepipnaa
namespace Go.Proofs.Ytifcnjebepipnaa
set_option linter.unusedVariables false
set_option linter.unusedSimpArgs false
open Go.RowKit

/-- An object's cells with rows of its own, from B on. -/
def ObjOwn (w : World) (B : Nat) (cs : List Value) (o : ObjM) : Prop :=
  ∃ A c D c2 M, cs = [.int .i64 o.cls, .slice A o.slots.length c, .slice D o.bytes.length c2] ∧ w.ownsRow B 75 2 (.slice A o.slots.length c) o.slots.length (vals o.slots) ∧ (∀ b, (Value.slice A o.slots.length c).ownBlock = some b → b < M) ∧ w.ownsRow M 5 1 (.slice D o.bytes.length c2) o.bytes.length (U8 o.bytes) ∧ B ≤ M
theorem ObjOwn.rd {w : World} {B : Nat} {cs : List Value} {o : ObjM} (h : ObjOwn w B cs o) (h1 : o.slots.length ≤ 211106232532992) (h2 : o.bytes.length ≤ 211106232532992) : ObjC w (fun b => B ≤ b) cs o := by
  obtain ⟨A, c, D, c2, M, rfl, hs, hM, hb, hBM⟩ := h
  obtain ⟨A', c', e, _, _, hA⟩ := own_form hs
  injection e with e1 e2 e3
  subst e1 e3
  obtain ⟨D', d', e, _, _, hD⟩ := own_form hb
  injection e with e1 e2 e3
  subst e1 e3
  exact ⟨A, c, D, c2, rfl, (own_rd hs h1).mono (fun b _ hb' => (hs.lt b ((hA b).2 hb')).1) (by decide), (own_rd hb h2).mono (fun b _ hb' => by have := (hb.lt b ((hD b).2 hb')).1; omega) (by decide)⟩
set_option maxHeartbeats 2000000 in
set_option maxRecDepth 100000 in
theorem ocopy_calls (S : Nat → Prop) (cs : List Value) (o : ObjM) (w : World) (h : ObjC w S cs o) (h1 : o.slots.length * 16 ≤ 211106232532992) :
    Calls Try.prog 25 #[.agg cs.toArray] w fun e w' => ∃ cs' : List Value, e = .returned (.agg cs'.toArray) ∧ ObjOwn w' w.heap.size cs' o ∧ Fr No w w' := by
  obtain ⟨A, c, D, c2, rfl, hs, hb⟩ := h
  have g1 := plain_i64
  have g2 := plain_lval
  have g3 := plain_lu8
  have hle1 := hs.le
  have hle2 := RdB.le hb
  go_enter Try.func25, Try.ntmps25
  go_wp2_with fail
  have hbx : Blk ((w.alloc (.cells #[.int .i64 o.cls, .slice A o.slots.length c, .slice D o.bytes.length c2] 38)).alloc (.cells #[.int .i64 0, .slice none 0 0, .slice none 0 0] 38)) w.heap.size 38 #[.int .i64 o.cls, .slice A o.slots.length c, .slice D o.bytes.length c2] := (Blk.new w _ _).alloc _
  have hbr : Blk ((w.alloc (.cells #[.int .i64 o.cls, .slice A o.slots.length c, .slice D o.bytes.length c2] 38)).alloc (.cells #[.int .i64 0, .slice none 0 0, .slice none 0 0] 38)) (w.heap.size + 1) 38 #[.int .i64 0, .slice none 0 0, .slice none 0 0] := Blk.newAt (by simp)
  have hf1 : Fr No w ((w.alloc (.cells #[.int .i64 o.cls, .slice A o.slots.length c, .slice D o.bytes.length c2] 38)).alloc (.cells #[.int .i64 0, .slice none 0 0, .slice none 0 0] 38)) := ((Fr.refl No w).alloc _).alloc _
  generalize hw1 : ((w.alloc (.cells #[.int .i64 o.cls, .slice A o.slots.length c, .slice D o.bytes.length c2] 38)).alloc (.cells #[.int .i64 0, .slice none 0 0, .slice none 0 0] 38)) = w1 at *
  clear hw1
  have q0 := hbx.cell 0
  have q1 := hbx.cell 1
  have q2 := hbx.cell 2
  simp only [List.getElem?_toArray, List.getElem?_cons_zero, List.getElem?_cons_succ] at q0 q1 q2
  have hs1 := hf1.size
  have hl1 := hbr.lt
  have hnx : ¬ (w.heap.size = w.heap.size + 1) := by omega
  (refine T_begin (fun b => b = w.heap.size + 1) [0, 1, 2, 3, 5, 6, 4, 7, 8, 9] [4, 7, 9] (by kernel_rfl) (by kernel_rfl) ?_; simp only [pickOps, List.filterMap_cons, List.filterMap_nil, List.getElem?_cons_zero, List.getElem?_cons_succ, Act.put])
  repeat (first | (refine T_skip (by rfl) (by rfl) (fun _ _ _ h => h) ?_; try simp only [Act.put, List.setIfInBounds_toArray, List.set_cons_zero, List.set_cons_succ]) | (refine T_pass (by rfl) (by rfl) ?_; try simp only [Act.put, List.setIfInBounds_toArray, List.set_cons_zero, List.set_cons_succ]) | (refine T_load (by assumption) (by rfl) (by rfl) (fun _ _ _ _ h => h) rfl rfl (by assumption) (by first | exact (fun hn => hn) | assumption) ?_; try simp only [Act.put, List.setIfInBounds_toArray, List.set_cons_zero, List.set_cons_succ]) | (refine T_nil (by rfl) (by rfl) (fun _ _ _ _ h => h) rfl rfl ?_; try simp only [Act.put, List.setIfInBounds_toArray, List.set_cons_zero, List.set_cons_succ]) | (refine T_quietN (by rfl) (by rfl) (by rfl) (by rfl) (fun _ _ _ _ h => h) (fun K hK => ?_); go_big_quiet_op; refine hK _ ?_; clear hK K) | (refine T_two (by rfl) (by rfl) (by rfl) (by rfl) (fun _ _ _ _ h => h) (fun K hK => ?_); go_big_quiet_op; refine ⟨_, fun _ _ => rfl, ?_⟩; refine hK _ ?_; clear hK K; try simp only [Act.put, List.setIfInBounds_toArray, List.set_cons_zero, List.set_cons_succ]) | fail)
  (refine T_call (by rfl) (by rfl) (fun K hK => ?_); go_wp2_with fail)
  refine (clone_vals S A c o.slots _ (Rd.fr0 hs hf1.drew) h1).mono ?_
  rintro e w2 ⟨v2, rfl, hown2, hf2⟩
  obtain ⟨A2, c2', rfl, hc2, _, hA2⟩ := own_form hown2
  replace hown2 : w2.ownsRow w1.heap.size 75 2 (.slice A2 o.slots.length c2') o.slots.length (vals o.slots) := hown2
  have hf2' : Fr No w1 w2 := (Fr.refl No w1).drew.tr hf2
  (refine hK.out _ _ ((hf2.mono (fun _ _ hn => hn.elim))) ?_; clear hK K; try simp only [Act.put, List.setIfInBounds_toArray, List.set_cons_zero, List.set_cons_succ])
  repeat (first | (refine T_skip (by rfl) (by rfl) (fun _ _ _ h => h) ?_; try simp only [Act.put, List.setIfInBounds_toArray, List.set_cons_zero, List.set_cons_succ]) | (refine T_pass (by rfl) (by rfl) ?_; try simp only [Act.put, List.setIfInBounds_toArray, List.set_cons_zero, List.set_cons_succ]) | (refine T_load (by assumption) (by rfl) (by rfl) (fun _ _ _ _ h => h) rfl rfl (by assumption) (by first | exact (fun hn => hn) | assumption) ?_; try simp only [Act.put, List.setIfInBounds_toArray, List.set_cons_zero, List.set_cons_succ]) | (refine T_nil (by rfl) (by rfl) (fun _ _ _ _ h => h) rfl rfl ?_; try simp only [Act.put, List.setIfInBounds_toArray, List.set_cons_zero, List.set_cons_succ]) | (refine T_quietN (by rfl) (by rfl) (by rfl) (by rfl) (fun _ _ _ _ h => h) (fun K hK => ?_); go_big_quiet_op; refine hK _ ?_; clear hK K) | (refine T_two (by rfl) (by rfl) (by rfl) (by rfl) (fun _ _ _ _ h => h) (fun K hK => ?_); go_big_quiet_op; refine ⟨_, fun _ _ => rfl, ?_⟩; refine hK _ ?_; clear hK K; try simp only [Act.put, List.setIfInBounds_toArray, List.set_cons_zero, List.set_cons_succ]) | fail)
  (refine T_call (by rfl) (by rfl) (fun K hK => ?_); go_wp2_with fail)
  refine (clone_bytes S D c2 o.bytes _ (Rd.fr0 hb (hf1.tr hf2'))).mono ?_
  rintro e w3 ⟨v3, rfl, hown3, hf3⟩
  obtain ⟨A3, c3, rfl, hc3, _, hA3⟩ := own_form hown3
  (refine hK.out _ _ ((hf3.mono (fun _ _ hn => hn.elim))) ?_; clear hK K; try simp only [Act.put, List.setIfInBounds_toArray, List.set_cons_zero, List.set_cons_succ])
  repeat (first | (refine T_skip (by rfl) (by rfl) (fun _ _ _ h => h) ?_; try simp only [Act.put, List.setIfInBounds_toArray, List.set_cons_zero, List.set_cons_succ]) | (refine T_pass (by rfl) (by rfl) ?_; try simp only [Act.put, List.setIfInBounds_toArray, List.set_cons_zero, List.set_cons_succ]) | (refine T_load (by assumption) (by rfl) (by rfl) (fun _ _ _ _ h => h) rfl rfl (by assumption) (by first | exact (fun hn => hn) | assumption) ?_; try simp only [Act.put, List.setIfInBounds_toArray, List.set_cons_zero, List.set_cons_succ]) | (refine T_nil (by rfl) (by rfl) (fun _ _ _ _ h => h) rfl rfl ?_; try simp only [Act.put, List.setIfInBounds_toArray, List.set_cons_zero, List.set_cons_succ]) | (refine T_quietN (by rfl) (by rfl) (by rfl) (by rfl) (fun _ _ _ _ h => h) (fun K hK => ?_); go_big_quiet_op; refine hK _ ?_; clear hK K) | (refine T_two (by rfl) (by rfl) (by rfl) (by rfl) (fun _ _ _ _ h => h) (fun K hK => ?_); go_big_quiet_op; refine ⟨_, fun _ _ => rfl, ?_⟩; refine hK _ ?_; clear hK K; try simp only [Act.put, List.setIfInBounds_toArray, List.set_cons_zero, List.set_cons_succ]) | fail)
  have hbr3 := (hbr.fr0 hf2').fr0 hf3
  refine T_call (by rfl) (by rfl) (fun K hK => ?_)
  refine wp_stA ag_obj.info _ _ rfl (w.heap.size + 1) 0 _ _ [.int .i64 o.cls, .slice A2 o.slots.length c2', .slice A3 o.bytes.length c3] _ rfl rfl rfl rfl (by intro u hu; simp at hu; rcases hu with rfl | rfl | rfl <;> rfl) hbr3 (by decide) ?_
  intro w4 hb4 hg4 hz4
  rw [splice_all _ _ (by rfl)] at hb4
  refine hK.out _ _ ((Fr.refl _ _).grown hg4 (fun q hq => by injection hq with hq; exact .inr hq.symm)) ?_
  clear hK K
  try simp only [Act.put, List.setIfInBounds_toArray, List.set_cons_zero, List.set_cons_succ]
  refine T_done ?_
  go_wp2_with fail
  have hs2 := hf2'.size
  have hf34 : Fr (fun b => b = w.heap.size + 1) w3 w4 := (Fr.refl (fun b => b = w.heap.size + 1) w3).grown hg4 (fun q hq => by injection hq with hq; exact .inr hq.symm)
  refine bodyPost_ret (results_blk ag_obj rfl _ _ _ _ _ rfl hb4 rfl) rfl ⟨_, rfl, ⟨A2, c2', A3, c3, w2.heap.size, rfl, ?_, fun b hb => (hown2.lt b hb).2, ?_, by omega⟩, ((hf1.tr hf2').tr hf3).trans hf34 (fun b hb hT => by omega)⟩
  · exact own_down (own_fr (own_fr0 hown2 hf3) hf34 (fun b hb hT => by have := (hown2.lt b hb).1; omega)) (by omega)
  · exact own_fr hown3 hf34 (fun b hb hT => by have := (hown3.lt b hb).1; omega)
end Go.Proofs.Ytifcnjebepipnaa
namespace Go.Proofs.Ytifcnjebepipnaa
set_option linter.unusedVariables false
set_option linter.unusedSimpArgs false
open Go.RowKit

theorem ret_bool {a b : Bool} (h : a = b) : Ending.returned (.bool a) = .returned (.bool b) := by rw [h]
theorem oop_calls (n : Int) (w : World) : Calls Try.prog 37 #[.int .i64 n] w fun e w' => e = .returned (.bool (oopB n)) ∧ w = w' := by
  unfold oopB
  by_cases h1 : 1 ≤ n
  · have e1 : decide (1 ≤ n) = true := by simpa using h1
    by_cases h2 : n ≤ 4096
    · have e2 : decide (n ≤ 4096) = true := by simpa using h2
      rw [e1, e2]
      clear h1 h2
      go_enter Try.func37, Try.ntmps37
      go_wp2
      go_ret
      exact ⟨rfl, rfl⟩
    · have e2 : decide (n ≤ 4096) = false := by simpa using h2
      rw [e1, e2]
      clear h1 h2
      go_enter Try.func37, Try.ntmps37
      go_wp2
      go_ret
      exact ⟨rfl, rfl⟩
  · have e1 : decide (1 ≤ n) = false := by simpa using h1
    rw [e1, Bool.false_and]
    clear h1
    go_enter Try.func37, Try.ntmps37
    go_wp2
    go_ret
    exact ⟨rfl, rfl⟩
theorem rightV_small (k n : Int) (h : k = 0 ∨ k = 1 ∨ k = 2) : rightV ⟨k, n⟩ = (n == 0) := by unfold rightV; simp only; rw [if_pos h]
theorem rightV_int (n : Int) : rightV ⟨3, n⟩ = (decide (-1152921504606846976 ≤ n) && decide (n < 1152921504606846976)) := by unfold rightV; simp only; rw [if_neg (by decide), if_pos trivial]
theorem rightV_ref (n : Int) : rightV ⟨4, n⟩ = oopB n := by unfold rightV; simp only; rw [if_neg (by decide), if_neg (by decide), if_pos trivial]
theorem rightV_no (k n : Int) (h : ¬ k = 0) (h1 : ¬ k = 1) (h2 : ¬ k = 2) (h3 : ¬ k = 3) (h4 : ¬ k = 4) : rightV ⟨k, n⟩ = false := by unfold rightV; simp only; rw [if_neg (by omega), if_neg h3, if_neg h4]

set_option maxHeartbeats 1000000 in
set_option maxRecDepth 100000 in
theorem right_calls (v : VL) (w : World) :
    Calls Try.prog 64 #[.agg #[.int .i64 v.k, .int .i64 v.n]] w fun e w' => e = .returned (.bool (rightV v)) ∧ Fr No w w' := by
  obtain ⟨k, n⟩ := v
  simp only
  have hf : Fr No w (w.alloc (.cells #[.int .i64 k, .int .i64 n] 75)) := (Fr.refl No w).alloc _
  by_cases h0 : k = 0
  · subst h0
    have H := Lib.hid (rightV_small 0 n (.inl rfl))
    go_enter Try.func64, Try.ntmps64
    go_wp2
    go_ret
    exact ⟨ret_bool H.out.symm, hf⟩
  by_cases h1 : k = 1
  · subst h1
    have H := Lib.hid (rightV_small 1 n (.inr (.inl rfl)))
    go_enter Try.func64, Try.ntmps64
    go_wp2
    go_ret
    exact ⟨ret_bool H.out.symm, hf⟩
  by_cases h2 : k = 2
  · subst h2
    have H := Lib.hid (rightV_small 2 n (.inr (.inr rfl)))
    go_enter Try.func64, Try.ntmps64
    go_wp2
    go_ret
    exact ⟨ret_bool H.out.symm, hf⟩
  by_cases h3 : k = 3
  · subst h3
    have H := Lib.hid (rightV_int n)
    by_cases ha : -1152921504606846976 ≤ n
    · have e1 : decide (-1152921504606846976 ≤ n) = true := by simpa using ha
      rcases Decidable.em (n < 1152921504606846976) with hb | hb
      · have e3 : decide (n < 1152921504606846976) = true := by simpa using hb
        rw [e1, e3] at H
        clear ha hb
        go_enter Try.func64, Try.ntmps64
        go_wp2
        go_ret
        exact ⟨ret_bool H.out.symm, hf⟩
      · have e3 : decide (n < 1152921504606846976) = false := by simpa using hb
        rw [e1, e3] at H
        clear ha hb
        go_enter Try.func64, Try.ntmps64
        go_wp2
        go_ret
        exact ⟨ret_bool H.out.symm, hf⟩
    · have e1 : decide (-1152921504606846976 ≤ n) = false := by simpa using ha
      rw [e1, Bool.false_and] at H
      clear ha
      go_enter Try.func64, Try.ntmps64
      go_wp2
      go_ret
      exact ⟨ret_bool H.out.symm, hf⟩
  by_cases h4 : k = 4
  · subst h4
    have H := Lib.hid (rightV_ref n)
    go_enter Try.func64, Try.ntmps64
    go_wp2_with fail
    refine (oop_calls n _).mono ?_
    rintro e w2 ⟨rfl, rfl⟩
    go_wp2
    go_ret
    exact ⟨ret_bool H.out.symm, hf⟩
  have H := Lib.hid (rightV_no k n h0 h1 h2 h3 h4)
  have e0 : (k == 0) = false := by simpa using h0
  have e1 : (k == 1) = false := by simpa using h1
  have e2 : (k == 2) = false := by simpa using h2
  have e3 : (k == 3) = false := by simpa using h3
  have e4 : (k == 4) = false := by simpa using h4
  clear h0 h1 h2 h3 h4
  go_enter Try.func64, Try.ntmps64
  go_wp2
  go_ret
  exact ⟨ret_bool H.out.symm, hf⟩

end Go.Proofs.Ytifcnjebepipnaa
namespace Go.Proofs.Ytifcnjebepipnaa
set_option linter.unusedVariables false
set_option linter.unusedSimpArgs false
open Go.RowKit

theorem odd_calls (v : VL) (w : World) :
    Calls Try.prog 63 #[.agg #[.int .i64 v.k, .int .i64 v.n]] w fun e w' => e = .returned (.bool (!rightV v)) ∧ Fr No w w' := by
  have hf : Fr No w (w.alloc (.cells #[.int .i64 v.k, .int .i64 v.n] 75)) := (Fr.refl No w).alloc _
  go_enter Try.func63, Try.ntmps63
  go_wp2_with fail
  refine (right_calls v _).mono ?_
  rintro e w2 ⟨rfl, hf2⟩
  go_wp2
  go_ret
  exact ⟨rfl, hf.tr hf2⟩
abbrev closO : Value := .func (.func 63) #[] #[]
/-- Where the first odd value stands; -1 if there is none. -/
def oddZ (l : List VL) : Int := if l.findIdx (fun v => !rightV v) < l.length then ((l.findIdx (fun v => !rightV v) : Nat) : Int) else -1
theorem oddZ_all (l : List VL) : decide (0 ≤ oddZ l) = !(l.all rightV) := by
  unfold oddZ
  split
  · rename_i h
    have h1 := List.findIdx_getElem (w := h)
    have h2 : l.all rightV = false := by
      rw [List.all_eq_false]
      exact ⟨_, List.getElem_mem h, by simpa using h1⟩
    rw [h2]; simp
  · rename_i h
    have h2 : l.all rightV = true := by
      rw [List.all_eq_true]
      intro v hv
      have h3 : ∀ x ∈ l, (fun v => !rightV v) x = false := List.findIdx_eq_length.1 (by have := List.findIdx_le_length (xs := l) (p := fun v => !rightV v); omega)
      simpa using h3 v hv
    rw [h2]; rfl
set_option maxHeartbeats 1000000 in
set_option maxRecDepth 100000 in
theorem indexodd_calls (S : Nat → Prop) (A : Option Addr) (c : Nat) (l : List VL) (w : World) (h : RdV w S A l) :
    Calls Try.prog 72 #[.slice A l.length c, closO] w fun e w' => e = .returned (.int .i64 (oddZ l)) ∧ Fr No w w' := by
  have hle := h.le
  go_enter Try.func72, Try.ntmps72
  go_wp2_with fail
  go_loopw [8] (fun i wr => ∃ k : Nat, k ≤ l.length ∧ i = .int .i64 (k : Int) ∧ Hid (∀ i, ∀ hi : i < l.length, i < k → rightV l[i] = true) ∧ Fr No w wr) (fun i _ => l.length - (intOf i).toNat)
  case atStart => exact ⟨0, by omega, rfl, Lib.hid (fun i _ h => by omega), Fr.refl _ _⟩
  case round =>
    obtain ⟨k, hk, rfl, HN, hf⟩ := hrel
    by_cases hlt : k < l.length
    · have ek : decide ((k : Int) < l.length) = true := by simpa using (by omega : (k : Int) < l.length)
      obtain ⟨ga, of, rfl, _, _, _, hv'⟩ := RdV.at_ (Rd.fr0 h hf) hlt
      have HE := Lib.hid (show rightV l[k] = false → oddZ l = (k : Int) by
        intro ht
        have hfi : l.findIdx (fun v => !rightV v) = k := by
          refine (List.findIdx_eq hlt).2 ⟨by rw [ht]; rfl, fun j hj => ?_⟩
          rw [HN.out j (by omega) hj]; rfl
        unfold oddZ
        rw [hfi, if_pos hlt])
      have HF := Lib.hid (show rightV l[k] = true → ∀ i, ∀ hi : i < l.length, i < k + 1 → rightV l[i] = true by
        intro ht i hi hik
        rcases Nat.lt_or_ge i k with h5 | h5
        · exact HN.out i hi h5
        · obtain rfl : i = k := by omega
          exact ht)
      generalize l[k] = x at *
      unfold vcells at hv'
      go_wp2_with (first
        | (refine wpList_ldA ag_val rfl _ rfl ⟨ga, of + k * 2, none⟩ [.int .i64 x.k, .int .i64 x.n] rfl rfl hv' ?_)
        | fail)
      refine (odd_calls x _).mono ?_
      rintro e w2 ⟨rfl, hf2⟩
      cases hg : rightV x with
      | false =>
        have HE' := Lib.hid (HE.out hg)
        clear hg
        simp only [Bool.not_false]
        go_wp2
        go_ret
        exact ⟨by rw [HE'.out]; rfl, hf.tr hf2⟩
      | true =>
        have HF' := Lib.hid (HF.out hg)
        clear hg
        simp only [Bool.not_true]
        go_wp2
        go_roundw
        case rel => exact ⟨k + 1, by omega, by go_num, HF', hf.tr hf2⟩
        case measure => simp [intOf]; omega
    · obtain rfl : k = l.length := by omega
      have ek : decide ((l.length : Int) < l.length) = false := by simp
      have HE := Lib.hid (show oddZ l = -1 by
        unfold oddZ
        rw [if_neg]
        intro hlt
        have := List.findIdx_getElem (w := hlt)
        rw [HN.out _ hlt hlt] at this
        cases this)
      go_wp2
      go_ret
      exact ⟨by rw [HE.out]; rfl, hf⟩
theorem containsodd_calls (S : Nat → Prop) (A : Option Addr) (c : Nat) (l : List VL) (w : World) (h : RdV w S A l) :
    Calls Try.prog 65 #[.slice A l.length c, closO] w fun e w' => e = .returned (.bool (!(l.all rightV))) ∧ Fr No w w' := by
  have H := Lib.hid (oddZ_all l)
  go_enter Try.func65, Try.ntmps65
  go_wp2_with fail
  refine (indexodd_calls S A c l _ h).mono ?_
  rintro e w2 ⟨rfl, hf2⟩
  go_wp2
  go_ret
  exact ⟨ret_bool H.out, hf2⟩
set_option maxHeartbeats 2000000 in
set_option maxRecDepth 100000 in
theorem righto_calls (S : Nat → Prop) (cs : List Value) (o : ObjM) (w : World) (h : ObjC w S cs o) :
    Calls Try.prog 49 #[.agg cs.toArray] w fun e w' => e = .returned (.bool (rightO o)) ∧ Fr No w w' := by
  obtain ⟨A, c, D, c2, rfl, hs, hb⟩ := h
  have g1 := plain_i64
  have g2 := plain_lval
  have g3 := plain_lu8
  have hf : Fr No w (w.alloc (.cells #[.int .i64 o.cls, .slice A o.slots.length c, .slice D o.bytes.length c2] 38)) := (Fr.refl No w).alloc _
  have hle1 := hs.le
  have hle2 := RdB.le hb
  have H : Hid (rightO o = (oopB o.cls && decide (o.slots.length ≤ 256) && decide (o.bytes.length ≤ 1024) && o.slots.all rightV)) := Lib.hid rfl
  cases h0 : oopB o.cls with
  | false =>
    rw [h0] at H
    simp only [Bool.false_and] at H
    have hoop := oop_calls o.cls
    rw [h0] at hoop
    clear h0
    go_enter Try.func49, Try.ntmps49
    go_wp2_with fail
    refine (hoop _).mono ?_
    rintro e _ ⟨rfl, rfl⟩
    go_wp2
    go_ret
    exact ⟨ret_bool H.out.symm, hf⟩
  | true =>
    rw [h0] at H
    simp only [Bool.true_and] at H
    have hoop := oop_calls o.cls
    rw [h0] at hoop
    clear h0
    by_cases h1 : o.slots.length ≤ 256
    · have e1 : decide ((o.slots.length : Int) ≤ 256) = true := by simp; omega
      have e1' : decide (o.slots.length ≤ 256) = true := by simpa using h1
      rw [e1', Bool.true_and] at H
      clear e1'
      by_cases h2 : o.bytes.length ≤ 1024
      · have e2 : decide ((o.bytes.length : Int) ≤ 1024) = true := by simp; omega
        have e2' : decide (o.bytes.length ≤ 1024) = true := by simpa using h2
        rw [e2', Bool.true_and] at H
        clear e2'
        go_enter Try.func49, Try.ntmps49
        go_wp2_with fail
        refine (hoop _).mono ?_
        rintro e _ ⟨rfl, rfl⟩
        go_wp2_with fail
        refine (containsodd_calls S A c o.slots _ (Rd.fr0 hs hf)).mono ?_
        rintro e w2 ⟨rfl, hf2⟩
        go_wp2
        go_ret
        exact ⟨ret_bool (by rw [H.out]), hf.tr hf2⟩
      · have e2 : decide ((o.bytes.length : Int) ≤ 1024) = false := by simp; omega
        have e2' : decide (o.bytes.length ≤ 1024) = false := by simpa using h2
        rw [e2', Bool.false_and] at H
        clear e2' h2
        go_enter Try.func49, Try.ntmps49
        go_wp2_with fail
        refine (hoop _).mono ?_
        rintro e _ ⟨rfl, rfl⟩
        go_wp2
        go_ret
        exact ⟨ret_bool H.out.symm, hf⟩
    · have e1 : decide ((o.slots.length : Int) ≤ 256) = false := by simp; omega
      have e1' : decide (o.slots.length ≤ 256) = false := by simpa using h1
      rw [e1'] at H
      simp only [Bool.false_and] at H
      clear e1' h1
      go_enter Try.func49, Try.ntmps49
      go_wp2_with fail
      refine (hoop _).mono ?_
      rintro e _ ⟨rfl, rfl⟩
      go_wp2
      go_ret
      exact ⟨ret_bool H.out.symm, hf⟩
end Go.Proofs.Ytifcnjebepipnaa
namespace Go.Proofs.Ytifcnjebepipnaa
set_option linter.unusedVariables false
set_option linter.unusedSimpArgs false
open Go.RowKit

theorem bytes_eq (a b : List UInt8) : (a == b) = decide (a = b) := by
  by_cases h : a = b
  · rw [decide_eq_true h, beq_iff_eq]; exact h
  · rw [decide_eq_false h, beq_eq_false_iff_ne]; exact h
theorem bequal_calls (S T : Nat → Prop) (A D : Option Addr) (c d : Nat) (a b : List UInt8) (w : World) (h : RdB w S A a) (h2 : RdB w T D b) :
    Calls Try.prog 62 #[.slice A a.length c, .slice D b.length d] w fun e w' => e = .returned (.bool (decide (a = b))) ∧ w = w' := by
  have H := Lib.hid (bytes_eq a b)
  go_enter Try.func62, Try.ntmps62
  go_wp2_with (first
    | (refine wpList_str Try.underlying36 Try.underlying5 Try.underlying9 rfl (.tmp 5) rfl rfl rfl h ?_)
    | (refine wpList_str Try.underlying36 Try.underlying5 Try.underlying9 rfl (.tmp 7) rfl rfl rfl h2 ?_)
    | fail)
  go_ret
  exact ⟨ret_bool H.out, rfl⟩
def NoDiff (a b : List VL) (k : Nat) : Prop := ∀ i, i < k → a[i]? = b[i]?
theorem NoDiff.all {a b : List VL} (h : NoDiff a b a.length) (hl : a.length = b.length) : a = b := by
  apply List.ext_getElem? 
  intro i
  rcases Nat.lt_or_ge i a.length with h1 | h1
  · exact h i h1
  · rw [List.getElem?_eq_none h1, List.getElem?_eq_none (by omega)]
theorem NoDiff.succ {a b : List VL} {k : Nat} (h : NoDiff a b k) (h1 : k < a.length) (h2 : k < b.length) (e : a[k] = b[k]) : NoDiff a b (k + 1) := fun i hi => by
  rcases Nat.lt_or_ge i k with h3 | h3
  · exact h i h3
  · obtain rfl : i = k := by omega
    rw [List.getElem?_eq_getElem h1, List.getElem?_eq_getElem h2, e]
theorem diff_at {a b : List VL} {k : Nat} (h1 : k < a.length) (h2 : k < b.length) (e : ¬ a[k] = b[k]) : ¬ a = b := by rintro rfl; exact e rfl
set_option maxHeartbeats 2000000 in
set_option maxRecDepth 100000 in
theorem vequal_calls (S T : Nat → Prop) (A D : Option Addr) (c d : Nat) (a b : List VL) (w : World) (h : RdV w S A a) (h2 : RdV w T D b) :
    Calls Try.prog 61 #[.slice A a.length c, .slice D b.length d] w fun e w' => e = .returned (.bool (decide (a = b))) ∧ Fr No w w' := by
  have hle1 := h.le
  have hle2 := h2.le
  by_cases hl : a.length = b.length
  rotate_left
  · have e1 : (a.length != b.length) = true := by simpa using hl
    have e2 : ((a.length : Int) != b.length) = true := by simp; omega
    have H := Lib.hid (show decide (a = b) = false from decide_eq_false (fun e => hl (by rw [e])))
    clear hl
    go_enter Try.func61, Try.ntmps61
    go_wp2
    go_ret
    exact ⟨ret_bool H.out.symm, Fr.refl _ _⟩
  have e1 : (a.length != b.length) = false := by simpa using hl
  have e2 : ((a.length : Int) != b.length) = false := by simp; omega
  have HL := Lib.hid hl
  clear hl
  go_enter Try.func61, Try.ntmps61
  go_wp2_with fail
  go_loopw [13] (fun i wr => ∃ k : Nat, k ≤ a.length ∧ i = .int .i64 (k : Int) ∧ Hid (NoDiff a b k) ∧ Fr No w wr) (fun i _ => a.length - (intOf i).toNat)
  case atStart => exact ⟨0, by omega, rfl, Lib.hid (fun i hi => by omega), Fr.refl _ _⟩
  case round =>
    obtain ⟨k, hk, rfl, HN, hf⟩ := hrel
    by_cases hlt : k < a.length
    · have ek : decide ((k : Int) < a.length) = true := by simpa using (by omega : (k : Int) < a.length)
      have hltb : k < b.length := by have := HL.out; omega
      obtain ⟨g, of, rfl, _, _, _, hv⟩ := RdV.at_ (Rd.fr0 h hf) hlt
      obtain ⟨g', of', rfl, _, _, _, hv'⟩ := RdV.at_ (Rd.fr0 h2 hf) hltb
      have HS := Lib.hid (fun e => HN.out.succ hlt hltb e)
      have HD := Lib.hid (fun e => decide_eq_false (diff_at hlt hltb e))
      generalize a[k] = x at *
      generalize b[k] = y at *
      go_wp2_with fail
      (refine T_begin No [0, 1, 2, 3, 4, 5, 6, 7, 8] [] (by kernel_rfl) (by kernel_rfl) ?_; simp only [pickOps, List.filterMap_cons, List.filterMap_nil, List.getElem?_cons_zero, List.getElem?_cons_succ, Act.put])
      repeat (first | (refine T_skip (by rfl) (by rfl) (fun _ _ _ h => h) ?_; try simp only [Act.put, List.setIfInBounds_toArray, List.set_cons_zero, List.set_cons_succ]) | (refine T_pass (by rfl) (by rfl) ?_; try simp only [Act.put, List.setIfInBounds_toArray, List.set_cons_zero, List.set_cons_succ]) | (refine T_load (by assumption) (by rfl) (by rfl) (fun _ _ _ _ h => h) rfl rfl (by assumption) (by first | exact (fun hn => hn) | assumption) ?_; try simp only [Act.put, List.setIfInBounds_toArray, List.set_cons_zero, List.set_cons_succ]) | (refine T_nil (by rfl) (by rfl) (fun _ _ _ _ h => h) rfl rfl ?_; try simp only [Act.put, List.setIfInBounds_toArray, List.set_cons_zero, List.set_cons_succ]) | (refine T_quietN (by rfl) (by rfl) (by rfl) (by rfl) (fun _ _ _ _ h => h) (fun K hK => ?_); go_big_quiet_op; refine hK _ ?_; clear hK K) | (refine T_two (by rfl) (by rfl) (by rfl) (by rfl) (fun _ _ _ _ h => h) (fun K hK => ?_); go_big_quiet_op; refine ⟨_, fun _ _ => rfl, ?_⟩; refine hK _ ?_; clear hK K; try simp only [Act.put, List.setIfInBounds_toArray, List.set_cons_zero, List.set_cons_succ]) | fail)
      refine T_loadA (cs := vcells x) ag_val (by rfl) (by rfl) (fun _ _ _ _ h => h) rfl rfl rfl hv (fun hn => hn) ?_
      try simp only [Act.put, List.setIfInBounds_toArray, List.set_cons_zero, List.set_cons_succ]
      repeat (first | (refine T_skip (by rfl) (by rfl) (fun _ _ _ h => h) ?_; try simp only [Act.put, List.setIfInBounds_toArray, List.set_cons_zero, List.set_cons_succ]) | (refine T_pass (by rfl) (by rfl) ?_; try simp only [Act.put, List.setIfInBounds_toArray, List.set_cons_zero, List.set_cons_succ]) | (refine T_load (by assumption) (by rfl) (by rfl) (fun _ _ _ _ h => h) rfl rfl (by assumption) (by first | exact (fun hn => hn) | assumption) ?_; try simp only [Act.put, List.setIfInBounds_toArray, List.set_cons_zero, List.set_cons_succ]) | (refine T_nil (by rfl) (by rfl) (fun _ _ _ _ h => h) rfl rfl ?_; try simp only [Act.put, List.setIfInBounds_toArray, List.set_cons_zero, List.set_cons_succ]) | (refine T_quietN (by rfl) (by rfl) (by rfl) (by rfl) (fun _ _ _ _ h => h) (fun K hK => ?_); go_big_quiet_op; refine hK _ ?_; clear hK K) | (refine T_two (by rfl) (by rfl) (by rfl) (by rfl) (fun _ _ _ _ h => h) (fun K hK => ?_); go_big_quiet_op; refine ⟨_, fun _ _ => rfl, ?_⟩; refine hK _ ?_; clear hK K; try simp only [Act.put, List.setIfInBounds_toArray, List.set_cons_zero, List.set_cons_succ]) | fail)
      refine T_loadA (cs := vcells y) ag_val (by rfl) (by rfl) (fun _ _ _ _ h => h) rfl rfl rfl hv' (fun hn => hn) ?_
      try simp only [Act.put, List.setIfInBounds_toArray, List.set_cons_zero, List.set_cons_succ]
      unfold vcells
      obtain ⟨xk, xn⟩ := x
      obtain ⟨yk, yn⟩ := y
      simp only
      by_cases h1 : xk = yk
      · subst h1
        by_cases h3 : xn = yn
        · subst h3
          have HS' := Lib.hid (HS.out rfl)
          clear HS HD
          repeat (first | (refine T_skip (by rfl) (by rfl) (fun _ _ _ h => h) ?_; try simp only [Act.put, List.setIfInBounds_toArray, List.set_cons_zero, List.set_cons_succ]) | (refine T_pass (by rfl) (by rfl) ?_; try simp only [Act.put, List.setIfInBounds_toArray, List.set_cons_zero, List.set_cons_succ]) | (refine T_load (by assumption) (by rfl) (by rfl) (fun _ _ _ _ h => h) rfl rfl (by assumption) (by first | exact (fun hn => hn) | assumption) ?_; try simp only [Act.put, List.setIfInBounds_toArray, List.set_cons_zero, List.set_cons_succ]) | (refine T_nil (by rfl) (by rfl) (fun _ _ _ _ h => h) rfl rfl ?_; try simp only [Act.put, List.setIfInBounds_toArray, List.set_cons_zero, List.set_cons_succ]) | (refine T_quietN (by rfl) (by rfl) (by rfl) (by rfl) (fun _ _ _ _ h => h) (fun K hK => ?_); go_big_quiet_op; refine hK _ ?_; clear hK K) | (refine T_two (by rfl) (by rfl) (by rfl) (by rfl) (fun _ _ _ _ h => h) (fun K hK => ?_); go_big_quiet_op; refine ⟨_, fun _ _ => rfl, ?_⟩; refine hK _ ?_; clear hK K; try simp only [Act.put, List.setIfInBounds_toArray, List.set_cons_zero, List.set_cons_succ]) | fail)
          refine T_done ?_
          go_wp2
          go_roundw
          case rel => exact ⟨k + 1, by omega, by go_num, HS', hf.drew⟩
          case measure => simp [intOf]; omega
        · have e9 : (xn == yn) = false := by simpa using h3
          have HD' := Lib.hid (HD.out (fun e => h3 (by injection e)))
          clear HS HD h3
          repeat (first | (refine T_skip (by rfl) (by rfl) (fun _ _ _ h => h) ?_; try simp only [Act.put, List.setIfInBounds_toArray, List.set_cons_zero, List.set_cons_succ]) | (refine T_pass (by rfl) (by rfl) ?_; try simp only [Act.put, List.setIfInBounds_toArray, List.set_cons_zero, List.set_cons_succ]) | (refine T_load (by assumption) (by rfl) (by rfl) (fun _ _ _ _ h => h) rfl rfl (by assumption) (by first | exact (fun hn => hn) | assumption) ?_; try simp only [Act.put, List.setIfInBounds_toArray, List.set_cons_zero, List.set_cons_succ]) | (refine T_nil (by rfl) (by rfl) (fun _ _ _ _ h => h) rfl rfl ?_; try simp only [Act.put, List.setIfInBounds_toArray, List.set_cons_zero, List.set_cons_succ]) | (refine T_quietN (by rfl) (by rfl) (by rfl) (by rfl) (fun _ _ _ _ h => h) (fun K hK => ?_); go_big_quiet_op; refine hK _ ?_; clear hK K) | (refine T_two (by rfl) (by rfl) (by rfl) (by rfl) (fun _ _ _ _ h => h) (fun K hK => ?_); go_big_quiet_op; refine ⟨_, fun _ _ => rfl, ?_⟩; refine hK _ ?_; clear hK K; try simp only [Act.put, List.setIfInBounds_toArray, List.set_cons_zero, List.set_cons_succ]) | fail)
          refine T_done ?_
          go_wp2
          go_ret
          exact ⟨ret_bool HD'.out.symm, hf.drew⟩
      · have e9 : (xk == yk) = false := by simpa using h1
        have HD' := Lib.hid (HD.out (fun e => h1 (by injection e)))
        clear HS HD h1
        repeat (first | (refine T_skip (by rfl) (by rfl) (fun _ _ _ h => h) ?_; try simp only [Act.put, List.setIfInBounds_toArray, List.set_cons_zero, List.set_cons_succ]) | (refine T_pass (by rfl) (by rfl) ?_; try simp only [Act.put, List.setIfInBounds_toArray, List.set_cons_zero, List.set_cons_succ]) | (refine T_load (by assumption) (by rfl) (by rfl) (fun _ _ _ _ h => h) rfl rfl (by assumption) (by first | exact (fun hn => hn) | assumption) ?_; try simp only [Act.put, List.setIfInBounds_toArray, List.set_cons_zero, List.set_cons_succ]) | (refine T_nil (by rfl) (by rfl) (fun _ _ _ _ h => h) rfl rfl ?_; try simp only [Act.put, List.setIfInBounds_toArray, List.set_cons_zero, List.set_cons_succ]) | (refine T_quietN (by rfl) (by rfl) (by rfl) (by rfl) (fun _ _ _ _ h => h) (fun K hK => ?_); go_big_quiet_op; refine hK _ ?_; clear hK K) | (refine T_two (by rfl) (by rfl) (by rfl) (by rfl) (fun _ _ _ _ h => h) (fun K hK => ?_); go_big_quiet_op; refine ⟨_, fun _ _ => rfl, ?_⟩; refine hK _ ?_; clear hK K; try simp only [Act.put, List.setIfInBounds_toArray, List.set_cons_zero, List.set_cons_succ]) | fail)
        refine T_done ?_
        go_wp2
        go_ret
        exact ⟨ret_bool HD'.out.symm, hf.drew⟩
    · obtain rfl : k = a.length := by omega
      have ek : decide ((a.length : Int) < a.length) = false := by simp
      have HE := Lib.hid (show decide (a = b) = true from decide_eq_true (HN.out.all HL.out))
      go_wp2
      go_ret
      exact ⟨ret_bool HE.out.symm, hf⟩
/-- Alike. -/
def sameO (o p : ObjM) : Bool := decide (o = p)
theorem sameO_self (o : ObjM) : sameO o o = true := decide_eq_true rfl
theorem obj_eq (c d : Int) (a b : List VL) (x y : List UInt8) : sameO ⟨c, a, x⟩ ⟨d, b, y⟩ = ((c == d) && (decide (a = b) && decide (x = y))) := by
  unfold sameO
  by_cases h1 : c = d <;> by_cases h2 : a = b <;> by_cases h3 : x = y <;> simp [h1, h2, h3]
set_option maxHeartbeats 2000000 in
set_option maxRecDepth 100000 in
theorem vsame_calls (S T : Nat → Prop) (cs cs2 : List Value) (o p : ObjM) (w : World) (h : ObjC w S cs o) (h2 : ObjC w T cs2 p) :
    Calls Try.prog 48 #[.agg cs.toArray, .agg cs2.toArray] w fun e w' => e = .returned (.bool (sameO o p)) ∧ Fr No w w' := by
  obtain ⟨oc, os, ob⟩ := o
  obtain ⟨pc, ps, pb⟩ := p
  obtain ⟨A, c, D, d, rfl, hs, hb⟩ := h
  obtain ⟨A2, c2, D2, d2, rfl, hs2, hb2⟩ := h2
  simp only at hs hb hs2 hb2
  have g1 := plain_i64
  have g2 := plain_lval
  have g3 := plain_lu8
  have hf1 : Fr No w ((w.alloc (.cells #[.int .i64 oc, .slice A os.length c, .slice D ob.length d] 38)).alloc (.cells #[.int .i64 pc, .slice A2 ps.length c2, .slice D2 pb.length d2] 38)) := ((Fr.refl No w).alloc _).alloc _
  have hbx : Blk ((w.alloc (.cells #[.int .i64 oc, .slice A os.length c, .slice D ob.length d] 38)).alloc (.cells #[.int .i64 pc, .slice A2 ps.length c2, .slice D2 pb.length d2] 38)) w.heap.size 38 #[.int .i64 oc, .slice A os.length c, .slice D ob.length d] := (Blk.new w _ _).alloc _
  have hby : Blk ((w.alloc (.cells #[.int .i64 oc, .slice A os.length c, .slice D ob.length d] 38)).alloc (.cells #[.int .i64 pc, .slice A2 ps.length c2, .slice D2 pb.length d2] 38)) (w.heap.size + 1) 38 #[.int .i64 pc, .slice A2 ps.length c2, .slice D2 pb.length d2] := Blk.newAt (by simp)
  have H := Lib.hid (obj_eq oc pc os ps ob pb)
  by_cases h1 : oc = pc
  rotate_left
  · have e1 : (oc == pc) = false := by simpa using h1
    rw [e1, Bool.false_and] at H
    clear h1
    go_enter Try.func48, Try.ntmps48
    go_wp2
    go_ret
    exact ⟨ret_bool H.out.symm, hf1⟩
  have e1 : (oc == pc) = true := by simpa using h1
  rw [e1, Bool.true_and] at H
  clear h1
  go_enter Try.func48, Try.ntmps48
  go_wp2_with fail
  refine (vequal_calls S T A A2 c c2 os ps _ (Rd.fr0 hs hf1) (Rd.fr0 hs2 hf1)).mono ?_
  rintro e w3 ⟨rfl, hf3⟩
  cases hd : decide (os = ps) with
  | false =>
    rw [hd, Bool.false_and] at H
    clear hd
    go_wp2
    go_ret
    exact ⟨ret_bool H.out.symm, hf1.tr hf3⟩
  | true =>
    rw [hd, Bool.true_and] at H
    clear hd
    have hbx3 := hbx.fr0 hf3
    have hby3 := hby.fr0 hf3
    (have p0 := hbx3.cell 0; have p1 := hbx3.cell 1; have p2 := hbx3.cell 2; have pf0 := hbx3.frozen 0; have pf1 := hbx3.frozen 1; have pf2 := hbx3.frozen 2; simp only [List.getElem?_toArray, List.getElem?_cons_zero, List.getElem?_cons_succ] at p0 p1 p2)
    (have q0 := hby3.cell 0; have q1 := hby3.cell 1; have q2 := hby3.cell 2; have qf0 := hby3.frozen 0; have qf1 := hby3.frozen 1; have qf2 := hby3.frozen 2; simp only [List.getElem?_toArray, List.getElem?_cons_zero, List.getElem?_cons_succ] at q0 q1 q2)
    go_wp2_with fail
    refine (bequal_calls S T D D2 d d2 ob pb _ (Rd.fr0 hb (hf1.tr hf3)) (Rd.fr0 hb2 (hf1.tr hf3))).mono ?_
    rintro e _ ⟨rfl, rfl⟩
    go_wp2
    go_ret
    exact ⟨ret_bool H.out.symm, hf1.tr hf3⟩
set_option maxHeartbeats 2000000 in
set_option maxRecDepth 100000 in
theorem refsame_calls (S T : Nat → Prop) (cs cs2 : List Value) (o p : ObjM) (w : World) (h : ObjC w S cs o) (h2 : ObjC w T cs2 p) :
    Calls Try.prog 14 #[.agg cs.toArray, .agg cs2.toArray] w fun e w' => e = .returned (.bool (sameO o p)) ∧ Fr No w w' := by
  obtain ⟨oc, os, ob⟩ := o
  obtain ⟨pc, ps, pb⟩ := p
  obtain ⟨A, c, D, d, rfl, hs, hb⟩ := h
  obtain ⟨A2, c2, D2, d2, rfl, hs2, hb2⟩ := h2
  simp only at hs hb hs2 hb2
  have g1 := plain_i64
  have g2 := plain_lval
  have g3 := plain_lu8
  have hle1 := hs.le
  have hle2 := hs2.le
  have hf1 : Fr No w ((w.alloc (.cells #[.int .i64 oc, .slice A os.length c, .slice D ob.length d] 38)).alloc (.cells #[.int .i64 pc, .slice A2 ps.length c2, .slice D2 pb.length d2] 38)) := ((Fr.refl No w).alloc _).alloc _
  have hbx : Blk ((w.alloc (.cells #[.int .i64 oc, .slice A os.length c, .slice D ob.length d] 38)).alloc (.cells #[.int .i64 pc, .slice A2 ps.length c2, .slice D2 pb.length d2] 38)) w.heap.size 38 #[.int .i64 oc, .slice A os.length c, .slice D ob.length d] := (Blk.new w _ _).alloc _
  have hby : Blk ((w.alloc (.cells #[.int .i64 oc, .slice A os.length c, .slice D ob.length d] 38)).alloc (.cells #[.int .i64 pc, .slice A2 ps.length c2, .slice D2 pb.length d2] 38)) (w.heap.size + 1) 38 #[.int .i64 pc, .slice A2 ps.length c2, .slice D2 pb.length d2] := Blk.newAt (by simp)
  have H := Lib.hid (obj_eq oc pc os ps ob pb)
  by_cases h1 : oc = pc
  rotate_left
  · have e1 : (oc == pc) = false := by simpa using h1
    have e1' : (oc != pc) = true := by simpa using h1
    rw [e1, Bool.false_and] at H
    clear h1
    go_enter Try.func14, Try.ntmps14
    go_wp2
    go_ret
    exact ⟨ret_bool H.out.symm, hf1⟩
  have e1 : (oc == pc) = true := by simpa using h1
  have e1' : (oc != pc) = false := by simpa using h1
  rw [e1, Bool.true_and] at H
  clear h1
  by_cases hl : os.length = ps.length
  rotate_left
  · have e2 : (os.length != ps.length) = true := by simpa using hl
    have e2' : ((os.length : Int) != ps.length) = true := by simp; omega
    rw [show decide (os = ps) = false from decide_eq_false (fun e => hl (by rw [e])), Bool.false_and] at H
    clear hl
    go_enter Try.func14, Try.ntmps14
    go_wp2
    go_ret
    exact ⟨ret_bool H.out.symm, hf1⟩
  have e2 : (os.length != ps.length) = false := by simpa using hl
  have e2' : ((os.length : Int) != ps.length) = false := by simp; omega
  have HL := Lib.hid hl
  clear hl
  by_cases hx : ob = pb
  rotate_left
  · have e3 : (ob != pb) = true := by simpa using hx
    have e3' : (ob == pb) = false := by simpa using hx
    rw [decide_eq_false hx, Bool.and_false] at H
    have HX := Lib.hid hx
    clear hx
    go_enter Try.func14, Try.ntmps14
    go_wp2_with (first
      | (refine wpList_str Try.underlying36 Try.underlying5 Try.underlying9 rfl (.tmp 22) rfl rfl rfl (Rd.fr0 hb hf1) ?_)
      | (refine wpList_str Try.underlying36 Try.underlying5 Try.underlying9 rfl (.tmp 25) rfl rfl rfl (Rd.fr0 hb2 hf1) ?_)
      | fail)
    go_ret
    exact ⟨ret_bool H.out.symm, hf1⟩
  subst hx
  rw [decide_eq_true (rfl : ob = ob), Bool.and_true] at H
  go_enter Try.func14, Try.ntmps14
  go_wp2_with (first
    | (refine wpList_str Try.underlying36 Try.underlying5 Try.underlying9 rfl (.tmp 22) rfl rfl rfl (Rd.fr0 hb hf1) ?_)
    | (refine wpList_str Try.underlying36 Try.underlying5 Try.underlying9 rfl (.tmp 25) rfl rfl rfl (Rd.fr0 hb2 hf1) ?_)
    | fail)
  generalize hw1 : ((w.alloc (.cells #[.int .i64 oc, .slice A os.length c, .slice D ob.length d] 38)).alloc (.cells #[.int .i64 pc, .slice A2 ps.length c2, .slice D2 ob.length d2] 38)) = w1 at *
  clear hw1
  have hs1 := Rd.fr0 hs hf1
  have hs21 := Rd.fr0 hs2 hf1
  have hl1 := hby.lt
  go_loopw [5] (fun i wr => ∃ k : Nat, k ≤ os.length ∧ i = .int .i64 (k : Int) ∧ Hid (NoDiff os ps k) ∧ Fr No w1 wr) (fun i _ => os.length - (intOf i).toNat)
  case atStart => exact ⟨0, by omega, rfl, Lib.hid (fun i hi => by omega), Fr.refl _ _⟩
  case round =>
    obtain ⟨k, hk, rfl, HN, hf⟩ := hrel
    have q1 := (hbx.fr0 hf).cell 1
    have y1 := (hby.fr0 hf).cell 1
    simp only [List.getElem?_toArray, List.getElem?_cons_zero, List.getElem?_cons_succ] at q1 y1
    by_cases hlt : k < os.length
    · have ek : decide ((k : Int) < os.length) = true := by simpa using (by omega : (k : Int) < os.length)
      have hltb : k < ps.length := by have := HL.out; omega
      obtain ⟨g, of, rfl, _, _, _, hv⟩ := RdV.at_ (Rd.fr0 hs1 hf) hlt
      obtain ⟨g', of', rfl, _, _, _, hv'⟩ := RdV.at_ (Rd.fr0 hs21 hf) hltb
      have HS := Lib.hid (fun e => HN.out.succ hlt hltb e)
      have HD := Lib.hid (fun e => decide_eq_false (diff_at hlt hltb e))
      generalize os[k] = x at *
      generalize ps[k] = y at *
      go_wp2_with fail
      (refine T_begin No [0, 1, 2, 3, 4, 5, 6, 7, 8, 9, 10] [] (by kernel_rfl) (by kernel_rfl) ?_; simp only [pickOps, List.filterMap_cons, List.filterMap_nil, List.getElem?_cons_zero, List.getElem?_cons_succ, Act.put])
      repeat (first | (refine T_skip (by rfl) (by rfl) (fun _ _ _ h => h) ?_; try simp only [Act.put, List.setIfInBounds_toArray, List.set_cons_zero, List.set_cons_succ]) | (refine T_pass (by rfl) (by rfl) ?_; try simp only [Act.put, List.setIfInBounds_toArray, List.set_cons_zero, List.set_cons_succ]) | (refine T_load (by assumption) (by rfl) (by rfl) (fun _ _ _ _ h => h) rfl rfl (by assumption) (by first | exact (fun hn => hn) | assumption) ?_; try simp only [Act.put, List.setIfInBounds_toArray, List.set_cons_zero, List.set_cons_succ]) | (refine T_nil (by rfl) (by rfl) (fun _ _ _ _ h => h) rfl rfl ?_; try simp only [Act.put, List.setIfInBounds_toArray, List.set_cons_zero, List.set_cons_succ]) | (refine T_quietN (by rfl) (by rfl) (by rfl) (by rfl) (fun _ _ _ _ h => h) (fun K hK => ?_); go_big_quiet_op; refine hK _ ?_; clear hK K) | (refine T_two (by rfl) (by rfl) (by rfl) (by rfl) (fun _ _ _ _ h => h) (fun K hK => ?_); go_big_quiet_op; refine ⟨_, fun _ _ => rfl, ?_⟩; refine hK _ ?_; clear hK K; try simp only [Act.put, List.setIfInBounds_toArray, List.set_cons_zero, List.set_cons_succ]) | fail)
      refine T_loadA (cs := vcells x) ag_val (by rfl) (by rfl) (fun _ _ _ _ h => h) rfl rfl rfl hv (fun hn => hn) ?_
      try simp only [Act.put, List.setIfInBounds_toArray, List.set_cons_zero, List.set_cons_succ]
      repeat (first | (refine T_skip (by rfl) (by rfl) (fun _ _ _ h => h) ?_; try simp only [Act.put, List.setIfInBounds_toArray, List.set_cons_zero, List.set_cons_succ]) | (refine T_pass (by rfl) (by rfl) ?_; try simp only [Act.put, List.setIfInBounds_toArray, List.set_cons_zero, List.set_cons_succ]) | (refine T_load (by assumption) (by rfl) (by rfl) (fun _ _ _ _ h => h) rfl rfl (by assumption) (by first | exact (fun hn => hn) | assumption) ?_; try simp only [Act.put, List.setIfInBounds_toArray, List.set_cons_zero, List.set_cons_succ]) | (refine T_nil (by rfl) (by rfl) (fun _ _ _ _ h => h) rfl rfl ?_; try simp only [Act.put, List.setIfInBounds_toArray, List.set_cons_zero, List.set_cons_succ]) | (refine T_quietN (by rfl) (by rfl) (by rfl) (by rfl) (fun _ _ _ _ h => h) (fun K hK => ?_); go_big_quiet_op; refine hK _ ?_; clear hK K) | (refine T_two (by rfl) (by rfl) (by rfl) (by rfl) (fun _ _ _ _ h => h) (fun K hK => ?_); go_big_quiet_op; refine ⟨_, fun _ _ => rfl, ?_⟩; refine hK _ ?_; clear hK K; try simp only [Act.put, List.setIfInBounds_toArray, List.set_cons_zero, List.set_cons_succ]) | fail)
      refine T_loadA (cs := vcells y) ag_val (by rfl) (by rfl) (fun _ _ _ _ h => h) rfl rfl rfl hv' (fun hn => hn) ?_
      try simp only [Act.put, List.setIfInBounds_toArray, List.set_cons_zero, List.set_cons_succ]
      unfold vcells
      obtain ⟨xk, xn⟩ := x
      obtain ⟨yk, yn⟩ := y
      simp only
      by_cases h1 : xk = yk
      · subst h1
        by_cases h3 : xn = yn
        · subst h3
          have HS' := Lib.hid (HS.out rfl)
          clear HS HD
          repeat (first | (refine T_skip (by rfl) (by rfl) (fun _ _ _ h => h) ?_; try simp only [Act.put, List.setIfInBounds_toArray, List.set_cons_zero, List.set_cons_succ]) | (refine T_pass (by rfl) (by rfl) ?_; try simp only [Act.put, List.setIfInBounds_toArray, List.set_cons_zero, List.set_cons_succ]) | (refine T_load (by assumption) (by rfl) (by rfl) (fun _ _ _ _ h => h) rfl rfl (by assumption) (by first | exact (fun hn => hn) | assumption) ?_; try simp only [Act.put, List.setIfInBounds_toArray, List.set_cons_zero, List.set_cons_succ]) | (refine T_nil (by rfl) (by rfl) (fun _ _ _ _ h => h) rfl rfl ?_; try simp only [Act.put, List.setIfInBounds_toArray, List.set_cons_zero, List.set_cons_succ]) | (refine T_quietN (by rfl) (by rfl) (by rfl) (by rfl) (fun _ _ _ _ h => h) (fun K hK => ?_); go_big_quiet_op; refine hK _ ?_; clear hK K) | (refine T_two (by rfl) (by rfl) (by rfl) (by rfl) (fun _ _ _ _ h => h) (fun K hK => ?_); go_big_quiet_op; refine ⟨_, fun _ _ => rfl, ?_⟩; refine hK _ ?_; clear hK K; try simp only [Act.put, List.setIfInBounds_toArray, List.set_cons_zero, List.set_cons_succ]) | fail)
          refine T_done ?_
          go_wp2
          go_roundw
          case rel => exact ⟨k + 1, by omega, by go_num, HS', hf.drew⟩
          case measure => simp [intOf]; omega
        · have e9 : (xn == yn) = false := by simpa using h3
          have HD' := Lib.hid (HD.out (fun e => h3 (by injection e)))
          clear HS HD h3
          repeat (first | (refine T_skip (by rfl) (by rfl) (fun _ _ _ h => h) ?_; try simp only [Act.put, List.setIfInBounds_toArray, List.set_cons_zero, List.set_cons_succ]) | (refine T_pass (by rfl) (by rfl) ?_; try simp only [Act.put, List.setIfInBounds_toArray, List.set_cons_zero, List.set_cons_succ]) | (refine T_load (by assumption) (by rfl) (by rfl) (fun _ _ _ _ h => h) rfl rfl (by assumption) (by first | exact (fun hn => hn) | assumption) ?_; try simp only [Act.put, List.setIfInBounds_toArray, List.set_cons_zero, List.set_cons_succ]) | (refine T_nil (by rfl) (by rfl) (fun _ _ _ _ h => h) rfl rfl ?_; try simp only [Act.put, List.setIfInBounds_toArray, List.set_cons_zero, List.set_cons_succ]) | (refine T_quietN (by rfl) (by rfl) (by rfl) (by rfl) (fun _ _ _ _ h => h) (fun K hK => ?_); go_big_quiet_op; refine hK _ ?_; clear hK K) | (refine T_two (by rfl) (by rfl) (by rfl) (by rfl) (fun _ _ _ _ h => h) (fun K hK => ?_); go_big_quiet_op; refine ⟨_, fun _ _ => rfl, ?_⟩; refine hK _ ?_; clear hK K; try simp only [Act.put, List.setIfInBounds_toArray, List.set_cons_zero, List.set_cons_succ]) | fail)
          refine T_done ?_
          go_wp2
          go_ret
          exact ⟨ret_bool (by rw [H.out, HD'.out]), hf1.tr hf.drew⟩
      · have e9 : (xk == yk) = false := by simpa using h1
        have HD' := Lib.hid (HD.out (fun e => h1 (by injection e)))
        clear HS HD h1
        repeat (first | (refine T_skip (by rfl) (by rfl) (fun _ _ _ h => h) ?_; try simp only [Act.put, List.setIfInBounds_toArray, List.set_cons_zero, List.set_cons_succ]) | (refine T_pass (by rfl) (by rfl) ?_; try simp only [Act.put, List.setIfInBounds_toArray, List.set_cons_zero, List.set_cons_succ]) | (refine T_load (by assumption) (by rfl) (by rfl) (fun _ _ _ _ h => h) rfl rfl (by assumption) (by first | exact (fun hn => hn) | assumption) ?_; try simp only [Act.put, List.setIfInBounds_toArray, List.set_cons_zero, List.set_cons_succ]) | (refine T_nil (by rfl) (by rfl) (fun _ _ _ _ h => h) rfl rfl ?_; try simp only [Act.put, List.setIfInBounds_toArray, List.set_cons_zero, List.set_cons_succ]) | (refine T_quietN (by rfl) (by rfl) (by rfl) (by rfl) (fun _ _ _ _ h => h) (fun K hK => ?_); go_big_quiet_op; refine hK _ ?_; clear hK K) | (refine T_two (by rfl) (by rfl) (by rfl) (by rfl) (fun _ _ _ _ h => h) (fun K hK => ?_); go_big_quiet_op; refine ⟨_, fun _ _ => rfl, ?_⟩; refine hK _ ?_; clear hK K; try simp only [Act.put, List.setIfInBounds_toArray, List.set_cons_zero, List.set_cons_succ]) | fail)
        refine T_done ?_
        go_wp2
        go_ret
        exact ⟨ret_bool (by rw [H.out, HD'.out]), hf1.tr hf.drew⟩
    · obtain rfl : k = os.length := by omega
      have ek : decide ((os.length : Int) < os.length) = false := by simp
      have HE := Lib.hid (show decide (os = ps) = true from decide_eq_true (HN.out.all HL.out))
      go_wp2
      go_ret
      exact ⟨ret_bool (by rw [H.out, HE.out]), hf1.tr hf⟩
end Go.Proofs.Ytifcnjebepipnaa
namespace Go.Proofs.Ytifcnjebepipnaa
set_option linter.unusedVariables false
set_option linter.unusedSimpArgs false
open Go.RowKit

theorem Fr.set1 {w w1 : World} {g : Nat} (h : Fr (fun b => b = g) w w1) (i : Nat) (u : Value) : Fr (fun b => b = g) w (w1.setCell ⟨g, i, none⟩ u) := h.set (.inr rfl) u
set_option maxHeartbeats 2000000 in
set_option maxRecDepth 100000 in
theorem refcopy_calls (S : Nat → Prop) (cs : List Value) (o : ObjM) (w : World) (h : ObjC w S cs o) (h1 : o.slots.length * 16 ≤ 211106232532992) :
    Calls Try.prog 26 #[.agg cs.toArray] w fun e w' => ∃ cs' : List Value, e = .returned (.agg cs'.toArray) ∧ ObjOwn w' w.heap.size cs' o ∧ Fr No w w' := by
  obtain ⟨oc, os, ob⟩ := o
  obtain ⟨A, c, D, c2, rfl, hs, hb⟩ := h
  simp only at hs hb h1
  have g1 := plain_i64
  have g2 := plain_lval
  have g3 := plain_lu8
  have hle1 := hs.le
  have hle2 := RdB.le hb
  have hf1 : Fr No w (((w.alloc (.cells #[.int .i64 oc, .slice A os.length c, .slice D ob.length c2] 38)).alloc (.cells #[.int .i64 0, .slice none 0 0, .slice none 0 0] 38)).alloc (.cells #[.int .i64 oc, .slice none 0 0, .slice none 0 0] 38)) := (((Fr.refl No w).alloc _).alloc _).alloc _
  have hbx : Blk (((w.alloc (.cells #[.int .i64 oc, .slice A os.length c, .slice D ob.length c2] 38)).alloc (.cells #[.int .i64 0, .slice none 0 0, .slice none 0 0] 38)).alloc (.cells #[.int .i64 oc, .slice none 0 0, .slice none 0 0] 38)) w.heap.size 38 #[.int .i64 oc, .slice A os.length c, .slice D ob.length c2] := ((Blk.new w _ _).alloc _).alloc _
  have hbr : Blk (((w.alloc (.cells #[.int .i64 oc, .slice A os.length c, .slice D ob.length c2] 38)).alloc (.cells #[.int .i64 0, .slice none 0 0, .slice none 0 0] 38)).alloc (.cells #[.int .i64 oc, .slice none 0 0, .slice none 0 0] 38)) (w.heap.size + 1) 38 #[.int .i64 0, .slice none 0 0, .slice none 0 0] := (Blk.newAt (by simp)).alloc _
  have hby : Blk (((w.alloc (.cells #[.int .i64 oc, .slice A os.length c, .slice D ob.length c2] 38)).alloc (.cells #[.int .i64 0, .slice none 0 0, .slice none 0 0] 38)).alloc (.cells #[.int .i64 oc, .slice none 0 0, .slice none 0 0] 38)) (w.heap.size + 1 + 1) 38 #[.int .i64 oc, .slice none 0 0, .slice none 0 0] := Blk.newAt (by simp)
  have hz1 : (((w.alloc (.cells #[.int .i64 oc, .slice A os.length c, .slice D ob.length c2] 38)).alloc (.cells #[.int .i64 0, .slice none 0 0, .slice none 0 0] 38)).alloc (.cells #[.int .i64 oc, .slice none 0 0, .slice none 0 0] 38)).heap.size = w.heap.size + 3 := by simp
  go_enter Try.func26, Try.ntmps26
  go_upto_region 2 with fail
  generalize hw1 : (((w.alloc (.cells #[.int .i64 oc, .slice A os.length c, .slice D ob.length c2] 38)).alloc (.cells #[.int .i64 0, .slice none 0 0, .slice none 0 0] 38)).alloc (.cells #[.int .i64 oc, .slice none 0 0, .slice none 0 0] 38)) = w1 at *
  clear hw1
  have HZ1 := Lib.hid hz1
  clear hz1
  (have p0 := hbx.cell 0; have p1 := hbx.cell 1; have p2 := hbx.cell 2; have pf0 := hbx.frozen 0; have pf1 := hbx.frozen 1; have pf2 := hbx.frozen 2; simp only [List.getElem?_toArray, List.getElem?_cons_zero, List.getElem?_cons_succ] at p0 p1 p2)
  (have q0 := hby.cell 0; have q1 := hby.cell 1; have q2 := hby.cell 2; have qf0 := hby.frozen 0; have qf1 := hby.frozen 1; have qf2 := hby.frozen 2; simp only [List.getElem?_toArray, List.getElem?_cons_zero, List.getElem?_cons_succ] at q0 q1 q2)
  have hbase1 : w.heap.size + 3 ≤ w1.heap.size := by have := HZ1.out; omega
  go_upto_region 3 with (first
    | (refine wpList_app so_val (World.ownsRow_nil _ (w.heap.size + 3) _ _) (Rd.fr0 hs hf1) (vals_one _) (by omega) hbase1 rfl rfl rfl rfl ?_; intro v5 w5 hown5 hg5 hat5; obtain ⟨A5, c5, rfl, hc5, hc5m, hA5⟩ := own_form hown5; have hby5 := hby.grown hg5 (fun hh => by cases hh); (have z0 := hby5.cell 0; have z1 := hby5.cell 1; have z2 := hby5.cell 2; have zf0 := hby5.frozen 0; have zf1 := hby5.frozen 1; have zf2 := hby5.frozen 2; simp only [List.getElem?_toArray, List.getElem?_cons_zero, List.getElem?_cons_succ] at z0 z1 z2))
    | fail)
  have hf5 : Fr No w1 w5 := (Fr.refl No w1).grown hg5 (fun q hq => by cases hq)
  simp only [Nat.zero_add, List.nil_append] at hown5 hby5 hc5
  have hf56 : Fr (fun b => b = w.heap.size + 1 + 1) w5 (w5.setCell ⟨w.heap.size + 1 + 1, 1, none⟩ (.slice A5 os.length c5)) := (Fr.refl _ w5).set1 1 _
  have hby6 : Blk (w5.setCell ⟨w.heap.size + 1 + 1, 1, none⟩ (.slice A5 os.length c5)) (w.heap.size + 1 + 1) 38 #[.int .i64 oc, .slice A5 os.length c5, .slice none 0 0] := hby5.put 1 _
  have hbx6 := (hbx.fr0 hf5).fr hf56 (by omega)
  have hbr6 := (hbr.fr0 hf5).fr hf56 (by omega)
  have hown6 := own_fr hown5 hf56 (fun b hb hT => by have := (hown5.lt b hb).1; omega)
  have hb6 := Rd.fr (Rd.fr0 (Rd.lt hb (by decide)) (hf1.tr hf5)) hf56 (fun b hb hT => by have := hb.2; omega)
  have hF6 : Fr No w (w5.setCell ⟨w.heap.size + 1 + 1, 1, none⟩ (.slice A5 os.length c5)) := (hf1.tr hf5).trans hf56 (fun b hb hT => by omega)
  generalize hw6 : w5.setCell ⟨w.heap.size + 1 + 1, 1, none⟩ (.slice A5 os.length c5) = w6 at *
  have hl6 := hby6.lt
  clear hw6 p0 p1 p2 pf0 pf1 pf2 q0 q1 q2 qf0 qf1 qf2 z0 z1 z2 zf0 zf1 zf2 hg5
  (have p0 := hbx6.cell 0; have p1 := hbx6.cell 1; have p2 := hbx6.cell 2; have pf0 := hbx6.frozen 0; have pf1 := hbx6.frozen 1; have pf2 := hbx6.frozen 2; simp only [List.getElem?_toArray, List.getElem?_cons_zero, List.getElem?_cons_succ] at p0 p1 p2)
  (have q0 := hby6.cell 0; have q1 := hby6.cell 1; have q2 := hby6.cell 2; have qf0 := hby6.frozen 0; have qf1 := hby6.frozen 1; have qf2 := hby6.frozen 2; simp only [List.getElem?_toArray, List.getElem?_cons_zero, List.getElem?_cons_succ] at q0 q1 q2)
  have hgo : ∀ b, (Value.slice A5 os.length c5).ownBlock = some b → w.heap.size + 3 ≤ b ∧ b < w6.heap.size := fun b hb => hown6.lt b hb
  have HGO := Lib.hid hgo
  clear hgo
  go_upto_region 4 with (first
    | (refine wpList_app so_u8 (World.ownsRow_nil _ w6.heap.size _ _) hb6 (U8_one _) (by omega) (Nat.le_refl _) rfl rfl rfl rfl ?_; intro v7 w7 hown7 hg7 hat7; obtain ⟨A7, c7, rfl, hc7, hc7m, hA7⟩ := own_form hown7; have hby7 := hby6.grown hg7 (fun hh => by cases hh); (have z0 := hby7.cell 0; have z1 := hby7.cell 1; have z2 := hby7.cell 2; have zf0 := hby7.frozen 0; have zf1 := hby7.frozen 1; have zf2 := hby7.frozen 2; simp only [List.getElem?_toArray, List.getElem?_cons_zero, List.getElem?_cons_succ] at z0 z1 z2))
    | fail)
  have hf7 : Fr No w6 w7 := (Fr.refl No w6).grown hg7 (fun q hq => by cases hq)
  simp only [Nat.zero_add, List.nil_append] at hown7 hby7 hc7
  have hf78 : Fr (fun b => b = w.heap.size + 1 + 1) w7 (w7.setCell ⟨w.heap.size + 1 + 1, 2, none⟩ (.slice A7 ob.length c7)) := (Fr.refl _ w7).set1 2 _
  have hby8 : Blk (w7.setCell ⟨w.heap.size + 1 + 1, 2, none⟩ (.slice A7 ob.length c7)) (w.heap.size + 1 + 1) 38 #[.int .i64 oc, .slice A5 os.length c5, .slice A7 ob.length c7] := hby7.put 2 _
  have hbr8 := (hbr6.fr0 hf7).fr hf78 (by omega)
  have hown8 := own_fr (own_fr0 hown6 hf7) hf78 (fun b hb hT => by have := HGO.out b hb; omega)
  have hown78 := own_fr hown7 hf78 (fun b hb hT => by have := (hown7.lt b hb).1; omega)
  have hF8 : Fr No w (w7.setCell ⟨w.heap.size + 1 + 1, 2, none⟩ (.slice A7 ob.length c7)) := (hF6.tr hf7).trans hf78 (fun b hb hT => by omega)
  generalize hw8 : w7.setCell ⟨w.heap.size + 1 + 1, 2, none⟩ (.slice A7 ob.length c7) = w8 at *
  clear hw8 p0 p1 p2 pf0 pf1 pf2 q0 q1 q2 qf0 qf1 qf2 z0 z1 z2 zf0 zf1 zf2 hg7
  have hall8 := hby8.all
  go_wp2_with (first
    | (refine wpList_ldA ag_obj rfl _ rfl ⟨w.heap.size + 1 + 1, 0, none⟩ [.int .i64 oc, .slice A5 os.length c5, .slice A7 ob.length c7] rfl rfl hall8 ?_)
    | (refine wpList_stA ag_obj.info rfl _ _ rfl (w.heap.size + 1) 0 _ _ [.int .i64 oc, .slice A5 os.length c5, .slice A7 ob.length c7] _ rfl rfl rfl rfl (by intro u hu; simp at hu; rcases hu with rfl | rfl | rfl <;> rfl) hbr8 (by decide) ?_; intro w9 hb9 hg9 hz9)
    | fail)
  rw [splice_all _ _ (by rfl)] at hb9
  have hf9 : Fr (fun b => b = w.heap.size + 1) w8 w9 := (Fr.refl _ w8).grown hg9 (fun q hq => by injection hq with hq; exact .inr hq.symm)
  refine bodyPost_ret (results_blk ag_obj rfl _ _ _ _ _ rfl hb9 rfl) rfl ⟨_, rfl, ⟨A5, c5, A7, c7, w6.heap.size, rfl, own_down (own_fr hown8 hf9 (fun b hb hT => by have := HGO.out b hb; omega)) (by omega), fun b hb => (HGO.out b hb).2, own_fr hown78 hf9 (fun b hb hT => by have := (hown78.lt b hb).1; omega), by omega⟩, hF8.trans hf9 (fun b hb hT => by omega)⟩
end Go.Proofs.Ytifcnjebepipnaa
namespace Go.Proofs.Ytifcnjebepipnaa
set_option linter.unusedVariables false
set_option linter.unusedSimpArgs false
open Go.RowKit

/-- A number as few bytes as can be. -/
def uintL (n : Nat) : List UInt8 := if n < 128 then [UInt8.ofNat n] else UInt8.ofNat (128 + n % 128) :: uintL (n / 128)
  termination_by n
  decreasing_by omega

theorem uintL_small (n : Nat) (h : n < 128) : uintL n = [UInt8.ofNat n] := by rw [uintL, if_pos h]
theorem uintL_big (n : Nat) (h : ¬ n < 128) : uintL n = UInt8.ofNat (128 + n % 128) :: uintL (n / 128) := by rw [uintL, if_neg h]
theorem uintL_len : ∀ (k n : Nat), n < 128 ^ (k + 1) → 1 ≤ (uintL n).length ∧ (uintL n).length ≤ k + 1
  | 0, n, h => by rw [uintL_small n (by simpa using h)]; simp
  | k + 1, n, h => by
    by_cases hs : n < 128
    · rw [uintL_small n hs]; simp
    · rw [uintL_big n hs, List.length_cons]
      have := uintL_len k (n / 128) (by rw [Nat.pow_succ] at h; omega)
      omega
theorem uintL_ten (n : Nat) (h : n < 18446744073709551616) : 1 ≤ (uintL n).length ∧ (uintL n).length ≤ 10 := uintL_len 9 n (by omega)
theorem uintL_mono : ∀ (k n m : Nat), n ≤ m → m < 128 ^ (k + 1) → (uintL n).length ≤ (uintL m).length
  | 0, n, m, h, hm => by rw [uintL_small n (by omega), uintL_small m (by omega)]; simp
  | k + 1, n, m, h, hm => by
    by_cases hs : n < 128
    · rw [uintL_small n hs]
      have := uintL_len (k + 1) m hm
      simpa using this.1
    · rw [uintL_big n hs, uintL_big m (by omega), List.length_cons, List.length_cons]
      have := uintL_mono k (n / 128) (m / 128) (by omega) (by rw [Nat.pow_succ] at hm; omega)
      omega
theorem or128 (x : Nat) (h : x < 256) : 128 ||| x = 128 + x % 128 := by
  by_cases hx : x < 128
  · rw [nat_join 7 128 x (by decide) (by omega)]; omega
  · have h1 : x = 128 ||| (x - 128) := by rw [nat_join 7 128 (x - 128) (by decide) (by omega)]; omega
    rw [h1, ← Nat.or_assoc, Nat.or_self, nat_join 7 128 (x - 128) (by decide) (by omega)]; omega
theorem more_byte (m : Nat) : bits .or .u8 128 ((m : Int) % 256) = ((UInt8.ofNat (128 + m % 128)).toNat : Int) := by
  have h1 : ((m : Int) % 256) = ((m % 256 : Nat) : Int) := by omega
  have h2 : (128 : Int) = ((128 : Nat) : Int) := rfl
  rw [h1, h2, u8_or_nat 128 (m % 256) (by omega) (by omega), or128 _ (by omega), UInt8.toNat_ofNat']
  omega
def foldZ (n : Int) : Int := if 0 ≤ n then 2 * n else -2 * n - 1
def unfoldZ (m : Int) : Int := if m % 2 = 0 then m / 2 else -(m / 2) - 1
theorem foldZ_unfold (m : Int) (h : 0 ≤ m) : foldZ (unfoldZ m) = m := by unfold foldZ unfoldZ; split <;> split <;> omega
theorem unfoldZ_fold (n : Int) : unfoldZ (foldZ n) = n := by unfold foldZ unfoldZ; split <;> split <;> omega

theorem xor_ones (x : Nat) (h : x < 18446744073709551616) : x ^^^ 18446744073709551615 = 18446744073709551615 - x := by
  have h1 := BitVec.toNat_not (x := BitVec.ofNat 64 x)
  rw [← BitVec.xor_allOnes, BitVec.toNat_xor, BitVec.toNat_ofNat, BitVec.toNat_allOnes] at h1
  simpa [Nat.mod_eq_of_lt h] using h1
theorem fold_bits (n : Int) (h0 : -9223372036854775808 ≤ n) (h1 : n ≤ 9223372036854775807) :
    bits .xor .u64 (IntKind.u64.wrap (IntKind.u64.wrap n * 2)) (IntKind.u64.wrap (n / 9223372036854775808)) = foldZ n := by
  have hw : ∀ x : Int, IntKind.u64.wrap x = x % 18446744073709551616 := fun x => by simp [IntKind.wrap, IntKind.bits, IntKind.signed]
  simp only [hw]
  by_cases h : 0 ≤ n
  · have e1 : n / 9223372036854775808 = 0 := by omega
    have e2 : n % 18446744073709551616 * 2 % 18446744073709551616 = ((2 * n).toNat : Int) := by omega
    rw [e1, e2]
    show bits .xor .u64 ((2 * n).toNat : Int) ((0 : Nat) : Int) = _
    rw [u64_xor_nat _ _ (by omega) (by omega), Nat.xor_zero, foldZ, if_pos h]
    omega
  · have e1 : n / 9223372036854775808 % 18446744073709551616 = ((18446744073709551615 : Nat) : Int) := by omega
    have e2 : n % 18446744073709551616 * 2 % 18446744073709551616 = ((18446744073709551616 - 2 * (-n).toNat : Nat) : Int) := by omega
    rw [e1, e2, u64_xor_nat _ _ (by omega) (by omega), foldZ, if_neg h]
    have e3 : ((18446744073709551616 - 2 * (-n).toNat) ^^^ 18446744073709551615 : Nat) = 18446744073709551615 - (18446744073709551616 - 2 * (-n).toNat) := by
      exact xor_ones _ (by omega)
    rw [e3]
    omega
theorem and1_u64 (m : Int) (h0 : 0 ≤ m) (h1 : m ≤ 18446744073709551615) : bits .and .u64 m 1 = m % 2 := by
  obtain ⟨k, rfl⟩ := Int.eq_ofNat_of_zero_le h0
  have h2 : (1 : Int) = ((1 : Nat) : Int) := rfl
  rw [h2, u64_and_nat k 1 (by omega) (by omega), nat_mask1]
  omega
theorem xor_i64_zero (x : Int) (h0 : 0 ≤ x) (h1 : x ≤ 9223372036854775807) : bits .xor .i64 x 0 = x := by
  show IntKind.i64.wrap ((BitVec.ofInt 64 x ^^^ BitVec.ofInt 64 0).toNat : Int) = x
  have e : BitVec.ofInt 64 (0 : Int) = 0#64 := by decide
  rw [e, BitVec.xor_zero, IntKind.wrap_i64, BitVec.toNat_ofInt]
  omega
theorem xor_i64_ones (x : Int) (h0 : 0 ≤ x) (h1 : x ≤ 9223372036854775807) : bits .xor .i64 x (-1) = -x - 1 := by
  show IntKind.i64.wrap ((BitVec.ofInt 64 x ^^^ BitVec.ofInt 64 (-1)).toNat : Int) = _
  have e : BitVec.ofInt 64 (-1 : Int) = BitVec.allOnes 64 := by decide
  rw [e, BitVec.xor_allOnes, BitVec.toNat_not, IntKind.wrap_i64, BitVec.toNat_ofInt]
  omega
theorem unfold_bits (m : Int) (h0 : 0 ≤ m) (h1 : m ≤ 18446744073709551615) :
    bits .xor .i64 (m / 2) (wrap64 (-wrap64 (bits .and .u64 m 1))) = unfoldZ m := by
  rw [and1_u64 m h0 h1]
  have e1 : wrap64 (m % 2) = m % 2 := by unfold wrap64; omega
  have e2 : wrap64 (-(m % 2)) = -(m % 2) := by unfold wrap64; omega
  rw [e1, e2, unfoldZ]
  by_cases h : m % 2 = 0
  · rw [if_pos h, h]; exact xor_i64_zero _ (by omega) (by omega)
  · have h3 : m % 2 = 1 := by omega
    rw [if_neg h, h3]; exact xor_i64_ones _ (by omega) (by omega)
end Go.Proofs.Ytifcnjebepipnaa
namespace Go.Proofs.Ytifcnjebepipnaa
set_option linter.unusedVariables false
set_option linter.unusedSimpArgs false
open Go.RowKit

/-- A number read from bytes: the number, how many bytes, an error's number. -/
def rdU : Nat → Nat → List UInt8 → Nat × Nat × Int
  | _, _, [] => (0, 0, 10)
  | i, n, c :: rest =>
    if i = 9 ∧ 1 < c.toNat then (0, 0, 11)
    else if c.toNat < 128 then if c.toNat = 0 ∧ 0 < i then (0, 0, 11) else (n + (c.toNat % 128) * 128 ^ i, i + 1, 0)
    else rdU (i + 1) (n + (c.toNat % 128) * 128 ^ i) rest
def readU (l : List UInt8) : Nat × Nat × Int := rdU 0 0 l

theorem drop_cons (l : List UInt8) (k : Nat) (hk : k < l.length) : l.drop k = l[k] :: l.drop (k + 1) := by
  rw [List.drop_eq_getElem_cons hk]

theorem rdU_nil (i n : Nat) : rdU i n [] = (0, 0, 10) := rfl
theorem rdU_far (i n : Nat) (c : UInt8) (r : List UInt8) (hi : i = 9) (h : 1 < c.toNat) : rdU i n (c :: r) = (0, 0, 11) := by
  rw [rdU, if_pos ⟨hi, h⟩]
theorem rdU_zero (i n : Nat) (c : UInt8) (r : List UInt8) (h : c.toNat = 0) (hi : 0 < i) : rdU i n (c :: r) = (0, 0, 11) := by
  rw [rdU, if_neg (by omega), if_pos (by omega), if_pos ⟨h, hi⟩]
theorem rdU_end (i n : Nat) (c : UInt8) (r : List UInt8) (h : c.toNat < 128) (h0 : ¬ (c.toNat = 0 ∧ 0 < i)) (h9 : ¬ (i = 9 ∧ 1 < c.toNat)) : rdU i n (c :: r) = (n + (c.toNat % 128) * 128 ^ i, i + 1, 0) := by
  rw [rdU, if_neg h9, if_pos h, if_neg h0]
theorem rdU_more (i n : Nat) (c : UInt8) (r : List UInt8) (h : ¬ c.toNat < 128) (h9 : ¬ i = 9) : rdU i n (c :: r) = rdU (i + 1) (n + (c.toNat % 128) * 128 ^ i) r := by
  rw [rdU, if_neg (by omega), if_neg h]

theorem pow128 (k : Nat) : 128 ^ k = 2 ^ (7 * k) := by rw [show 128 = 2 ^ 7 from rfl, ← Nat.pow_mul]
theorem acc_lt (k n c : Nat) (hk : k ≤ 9) (hn : n < 128 ^ k) (h9 : k = 9 → c ≤ 1) : n + (c % 128) * 128 ^ k < 18446744073709551616 ∧ (c % 128) * 128 ^ k < 18446744073709551616 := by
  rcases Nat.lt_or_ge k 9 with h | h
  · have h1 : (c % 128) * 128 ^ k ≤ 127 * 128 ^ k := Nat.mul_le_mul_right _ (by omega)
    have h2 : 128 ^ k ≤ 128 ^ 8 := Nat.pow_le_pow_right (by decide) (by omega)
    omega
  · obtain rfl : k = 9 := by omega
    have h1 : (c % 128) * 128 ^ 9 ≤ 1 * 128 ^ 9 := Nat.mul_le_mul_right _ (by have := h9 rfl; omega)
    omega
theorem acc_next (k n c : Nat) (hn : n < 128 ^ k) : n + (c % 128) * 128 ^ k < 128 ^ (k + 1) := by
  have h1 : (c % 128) * 128 ^ k ≤ 127 * 128 ^ k := Nat.mul_le_mul_right _ (by omega)
  rw [Nat.pow_succ]; omega

/-- What the number's bits are behind a byte more, in the walk's own spelling. -/
theorem acc_bits (k n c : Nat) (hk : k ≤ 9) (hn : n < 128 ^ k) (h9 : k = 9 → c ≤ 1) :
    bits .or .u64 (n : Int) (IntKind.u64.wrap (((c % 128 : Nat) : Int) * 2 ^ (7 * k))) = ((n + (c % 128) * 128 ^ k : Nat) : Int) := by
  obtain ⟨h1, h2⟩ := acc_lt k n c hk hn h9
  have e : ((c % 128 : Nat) : Int) * 2 ^ (7 * k) = ((c % 128 * 128 ^ k : Nat) : Int) := by rw [pow128]; push_cast; rfl
  have hw : IntKind.u64.wrap ((c % 128 * 128 ^ k : Nat) : Int) = ((c % 128 * 128 ^ k : Nat) : Int) := by
    have : ∀ x : Int, IntKind.u64.wrap x = x % 18446744073709551616 := fun x => by simp [IntKind.wrap, IntKind.bits, IntKind.signed]
    rw [this]; omega
  rw [e, hw, u64_or_nat _ _ (by omega) (by omega), Nat.or_comm, nat_join (7 * k) _ n (by rw [pow128]; exact Nat.mul_mod_left _ _) (by rw [← pow128]; exact hn)]
  congr 1; omega

/-- There and back. -/
theorem rdU_uintL : ∀ (k n i a : Nat) (r : List UInt8), n < 128 ^ (k + 1) → i + k ≤ 9 → (i + k = 9 → n * 128 ^ i < 18446744073709551616) → (0 < i → 0 < n) → rdU i a (uintL n ++ r) = (a + n * 128 ^ i, i + (uintL n).length, 0)
  | k, n, i, a, r, hn, hi, h9, h0 => by
    by_cases hs : n < 128
    · rw [uintL_small n hs]
      have hc : (UInt8.ofNat n).toNat = n := by rw [UInt8.toNat_ofNat']; omega
      rw [List.singleton_append, rdU_end i a _ r (by omega) (by rw [hc]; intro h; have := h0 h.2; omega) (by
        rw [hc]; rintro ⟨rfl, h1⟩
        have : n * 128 ^ 9 < 18446744073709551616 := h9 (by omega)
        omega), hc, Nat.mod_eq_of_lt hs]
      rfl
    · rw [uintL_big n hs, List.cons_append]
      have hk : k ≠ 0 := by rintro rfl; omega
      obtain ⟨k, rfl⟩ : ∃ m, k = m + 1 := ⟨k - 1, by omega⟩
      have hc : (UInt8.ofNat (128 + n % 128)).toNat = 128 + n % 128 := by rw [UInt8.toNat_ofNat']; omega
      rw [rdU_more i a _ _ (by rw [hc]; omega) (by omega), hc]
      have hq : (128 + n % 128) % 128 = n % 128 := by omega
      rw [hq, rdU_uintL k (n / 128) (i + 1) _ r (by rw [Nat.pow_succ] at hn; omega) (by omega) (fun h => by
        have := h9 (by omega)
        rw [Nat.pow_succ]
        have h2 : n / 128 * (128 ^ i * 128) ≤ n * 128 ^ i := by
          rw [Nat.mul_comm (128 ^ i) 128, ← Nat.mul_assoc]
          exact Nat.mul_le_mul_right _ (Nat.div_mul_le_self n 128)
        omega) (fun _ => by omega)]
      have hd : n = n % 128 + n / 128 * 128 := by omega
      simp only [Prod.mk.injEq, List.length_cons]
      refine ⟨?_, by omega, trivial⟩
      rw [Nat.pow_succ, Nat.add_assoc, Nat.mul_comm (128 ^ i) 128, ← Nat.mul_assoc, ← Nat.add_mul, ← hd]
theorem readU_uintL (n : Nat) (hn : n < 18446744073709551616) (r : List UInt8) : readU (uintL n ++ r) = (n, (uintL n).length, 0) := by
  have h := rdU_uintL 9 n 0 0 r (by omega) (by omega) (fun _ => by omega) (fun h => absurd h (by omega))
  simpa [readU] using h

/-- How many bytes are read. -/
theorem rdU_used : ∀ (l : List UInt8) (i n : Nat), (rdU i n l).2.1 ≤ i + l.length
  | [], i, n => by simp [rdU]
  | c :: r, i, n => by
    have ih := rdU_used r (i + 1) (n + (c.toNat % 128) * 128 ^ i)
    rw [rdU]
    repeat' split
    all_goals simp only [List.length_cons]
    all_goals omega
theorem readU_used (l : List UInt8) : (readU l).2.1 ≤ l.length := by have := rdU_used l 0 0; simpa [readU] using this
theorem rdU_lt : ∀ (l : List UInt8) (i n : Nat), i ≤ 9 → n < 128 ^ i → (rdU i n l).1 < 18446744073709551616
  | [], i, n, _, _ => by simp [rdU]
  | c :: r, i, n, hi, hn => by
    rw [rdU]
    split
    · simp
    · rename_i h9
      obtain ⟨h1, h2⟩ := acc_lt i n c.toNat hi hn (fun h => by omega)
      split
      · split
        · simp
        · exact h1
      · exact rdU_lt r (i + 1) _ (by omega) (acc_next i n c.toNat hn)
theorem readU_lt (l : List UInt8) : (readU l).1 < 18446744073709551616 := rdU_lt l 0 0 (by omega) (by simp)
end Go.Proofs.Ytifcnjebepipnaa
namespace Go.Proofs.Ytifcnjebepipnaa
set_option linter.unusedVariables false
set_option linter.unusedSimpArgs false
open Go.RowKit

/-- n bytes behind k, where they are, and are not more than can be. -/
def partM (l : List UInt8) (k n : Nat) : List UInt8 × Nat × Int :=
  if 60000 < n then ([], 0, 3) else if l.length - k < n then ([], 0, 10) else ((l.drop k).take n, k + n, 0)
theorem partM_big (l : List UInt8) (k n : Nat) (h : 60000 < n) : partM l k n = ([], 0, 3) := by rw [partM, if_pos h]
theorem partM_short (l : List UInt8) (k n : Nat) (h : ¬ 60000 < n) (h2 : l.length - k < n) : partM l k n = ([], 0, 10) := by rw [partM, if_neg h, if_pos h2]
theorem partM_ok (l : List UInt8) (k n : Nat) (h : ¬ 60000 < n) (h2 : ¬ l.length - k < n) : partM l k n = ((l.drop k).take n, k + n, 0) := by rw [partM, if_neg h, if_neg h2]
def textM (l : List UInt8) : List UInt8 × Int := if 60000 < l.length then ([], 3) else (uintL l.length ++ l, 0)
theorem textM_bad (l : List UInt8) (h : 60000 < l.length) : textM l = ([], 3) := by rw [textM, if_pos h]
theorem textM_ok (l : List UInt8) (h : ¬ 60000 < l.length) : textM l = (uintL l.length ++ l, 0) := by rw [textM, if_neg h]
/-- What a text's bytes read as. -/
def readT (l : List UInt8) : List UInt8 × Nat × Int := if (readU l).2.2 = 0 then partM l (readU l).2.1 (readU l).1 else ([], 0, (readU l).2.2)
theorem readT_bad (l : List UInt8) (h : ¬ (readU l).2.2 = 0) : readT l = ([], 0, (readU l).2.2) := by rw [readT, if_neg h]
theorem readT_ok (l : List UInt8) (h : (readU l).2.2 = 0) : readT l = partM l (readU l).2.1 (readU l).1 := by rw [readT, if_pos h]
theorem partM_fine (l : List UInt8) (k n : Nat) (h : (partM l k n).2.2 = 0) : ¬ 60000 < n ∧ ¬ l.length - k < n ∧ partM l k n = ((l.drop k).take n, k + n, 0) := by
  by_cases h1 : 60000 < n
  · rw [partM_big l k n h1] at h; simp at h
  by_cases h2 : l.length - k < n
  · rw [partM_short l k n h1 h2] at h; simp at h
  · exact ⟨h1, h2, partM_ok l k n h1 h2⟩
theorem readT_text (t r : List UInt8) (h : t.length ≤ 60000) : readT (uintL t.length ++ t ++ r) = (t, (uintL t.length).length + t.length, 0) := by
  have hu := readU_uintL t.length (by omega) (t ++ r)
  rw [← List.append_assoc] at hu
  rw [readT_ok _ (by rw [hu]), hu]
  simp only
  have hd : (uintL t.length ++ t ++ r).drop (uintL t.length).length = t ++ r := by rw [List.append_assoc, List.drop_left]
  rw [partM_ok _ _ _ (by omega) (by simp only [List.length_append]; omega), hd, List.take_left]
theorem partM_len (l : List UInt8) (k n : Nat) : (partM l k n).1.length ≤ 60000 := by
  unfold partM
  split
  · simp
  · split
    · simp
    · simp only [List.length_take]; omega
theorem readT_len (l : List UInt8) : (readT l).1.length ≤ 60000 := by
  unfold readT
  split
  · exact partM_len _ _ _
  · simp
theorem textM_len (l : List UInt8) : (textM l).1.length ≤ 60010 := by
  by_cases h : 60000 < l.length
  · rw [textM_bad l h]; simp
  · rw [textM_ok l h]
    have := uintL_ten l.length (by omega)
    simp only [List.length_append]; omega
theorem textM_back (l : List UInt8) (h : (textM l).2 = 0) (r : List UInt8) : readT ((textM l).1 ++ r) = (l, (textM l).1.length, 0) := by
  by_cases h1 : 60000 < l.length
  · rw [textM_bad l h1] at h; simp at h
  · rw [textM_ok l h1, readT_text l r (by omega)]; simp [List.length_append]
theorem textM_err (l : List UInt8) : (textM l).2 = 0 ∨ (textM l).2 = 3 := by
  unfold textM; split <;> simp
end Go.Proofs.Ytifcnjebepipnaa
