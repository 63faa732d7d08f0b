/- Objects and values as plain data, and how they lie in memory; value.Copy; the reference's Same at objects alike. No condition but size. -/
import Derived.Test.YtifcnjebepipnaaProg
import Derived.Test.YtifcnjebepipnaaSoU8
import Derived.Test.YtifcnjebepipnaaPObj
import Derived.Test.YtifcnjebepipnaaReg
import Derived.Test.YtifcnjebepipnaaMem
import Derived.Lib.SliceRun
namespace Go.Proofs.Ytifcnjebepipnaa
set_option linter.unusedVariables false
set_option linter.unusedSimpArgs false
open Go.RowKit

def vcells (v : VL) : List Value := [.int .i64 v.k, .int .i64 v.n]
def vals (l : List VL) : List Value := l.flatMap vcells
theorem vals_append (a b : List VL) : vals (a ++ b) = vals a ++ vals b := by simp [vals]
theorem vals_cons (v : VL) (l : List VL) : vals (v :: l) = vcells v ++ vals l := rfl
theorem vals_len (l : List VL) : (vals l).length = l.length * 2 := by
  induction l with
  | nil => rfl
  | cons v l ih => rw [vals_cons, List.length_append, ih, List.length_cons]; simp [vcells]; omega
theorem vals_one (l : List VL) : ∀ u ∈ vals l, u.oneCell' = true := by
  intro u hu
  obtain ⟨v, _, hv⟩ := List.mem_flatMap.1 hu
  simp [vcells] at hv
  rcases hv with rfl | rfl <;> rfl
theorem vals_at {l : List VL} {k : Nat} (hk : k < l.length) (j : Nat) (u : Value) (hu : (vcells l[k])[j]? = some u) : (vals l)[k * 2 + j]? = some u := by
  have hj : j < 2 := by have := (List.getElem?_eq_some_iff.1 hu).1; simpa [vcells] using this
  have e : l = l.take k ++ (l[k] :: l.drop (k + 1)) := by rw [← List.drop_eq_getElem_cons hk, List.take_append_drop]
  have e2 : vals l = vals (l.take k) ++ (vcells l[k] ++ vals (l.drop (k + 1))) := by
    conv => lhs; rw [e]
    rw [vals_append]; rfl
  have hl : (vals (l.take k)).length = k * 2 := by rw [vals_len, List.length_take, Nat.min_eq_left (by omega)]
  rw [e2, List.getElem?_append_right (by omega), hl, show k * 2 + j - k * 2 = j by omega, List.getElem?_append_left (by simpa [vcells] using hj)]
  exact hu
/-- A slice of values that reads as l. -/
def RdV (w : World) (S : Nat → Prop) (A : Option Addr) (l : List VL) : Prop := Rd w S 2 A l.length (vals l)
theorem RdV.le {w : World} {S : Nat → Prop} {A : Option Addr} {l : List VL} (h : RdV w S A l) : l.length ≤ 211106232532992 := h.2.1
theorem Rd.plain {w : World} {S : Nat → Prop} {size n : Nat} {A : Option Addr} {xs : List Value} (h : Rd w S size A n xs) (hn : 0 < n) (hs : 0 < size) : ∃ g o, A = some ⟨g, o, none⟩ ∧ S g ∧ ∀ j u, xs[j]? = some u → w.cell? ⟨g, o + j, none⟩ = some u := by
  obtain ⟨ad, rfl, hS, hc⟩ := h.2.2 hn
  have hl : 0 < xs.length := by rw [h.1]; exact Nat.mul_pos hn hs
  have hsp : ad.spot = none := by
    have h3 := hc 0 _ (List.getElem?_eq_getElem hl)
    have := World.cell?_spot h3
    simpa [Addr.add] using this
  obtain ⟨g, o, sp⟩ := ad
  simp only at hsp
  subst hsp
  refine ⟨g, o, rfl, hS, fun j u hu => ?_⟩
  have := hc j u hu
  have key : (⟨g, o, none⟩ : Addr).add j = ⟨g, o + j, none⟩ := by unfold Addr.add; split <;> simp_all
  rwa [key] at this
/-- The k-th value's two cells. -/
theorem RdV.at_ {w : World} {S : Nat → Prop} {A : Option Addr} {l : List VL} (h : RdV w S A l) {k : Nat} (hk : k < l.length) :
    ∃ g o, A = some ⟨g, o, none⟩ ∧ S g ∧ w.cell? ⟨g, o + k * 2, none⟩ = some (.int .i64 l[k].k) ∧ w.cell? ⟨g, o + k * 2 + 1, none⟩ = some (.int .i64 l[k].n) ∧ (∀ j u, (vcells l[k])[j]? = some u → w.cell? ((⟨g, o + k * 2, none⟩ : Addr).add j) = some u) := by
  obtain ⟨g, o, rfl, hS, hc⟩ := h.plain (by omega) (by decide)
  have key : ∀ j u, (vcells l[k])[j]? = some u → w.cell? ⟨g, o + k * 2 + j, none⟩ = some u := fun j u hu => by
    have := hc _ u (vals_at hk j u hu); rwa [← Nat.add_assoc] at this
  refine ⟨g, o, rfl, hS, key 0 _ rfl, key 1 _ rfl, fun j u hu => ?_⟩
  have e : (⟨g, o + k * 2, none⟩ : Addr).add j = ⟨g, o + k * 2 + j, none⟩ := by unfold Addr.add; split <;> simp_all
  rw [e]; exact key j u hu
def ObjC (w : World) (S : Nat → Prop) (cs : List Value) (o : ObjM) : Prop :=
  ∃ A c B c2, cs = [.int .i64 o.cls, .slice A o.slots.length c, .slice B o.bytes.length c2] ∧ RdV w S A o.slots ∧ RdB w S B o.bytes
theorem ObjC.keep {w w' : World} {S T : Nat → Prop} {cs : List Value} {o : ObjM} (h : ObjC w S cs o) (hf : Fr T w w') (hd : ∀ b, S b → ¬ T b) : ObjC w' S cs o := by
  obtain ⟨A, c, B, c2, e, h1, h2⟩ := h; exact ⟨A, c, B, c2, e, Rd.fr h1 hf hd, Rd.fr h2 hf hd⟩
theorem ObjC.fr0 {w w' : World} {S : Nat → Prop} {cs : List Value} {o : ObjM} (h : ObjC w S cs o) (hf : Fr No w w') : ObjC w' S cs o := h.keep hf (fun _ _ hn => hn)
theorem ObjC.mono {w : World} {S T : Nat → Prop} {cs : List Value} {o : ObjM} (h : ObjC w S cs o) (hS : ∀ b, b < w.heap.size → S b → T b) : ObjC w T cs o := by
  obtain ⟨A, c, B, c2, e, h1, h2⟩ := h; exact ⟨A, c, B, c2, e, Rd.mono h1 hS (by decide), Rd.mono h2 hS (by decide)⟩
theorem ObjC.lt {w : World} {S : Nat → Prop} {cs : List Value} {o : ObjM} (h : ObjC w S cs o) : ObjC w (fun b => S b ∧ b < w.heap.size) cs o := by
  obtain ⟨A, c, B, c2, e, h1, h2⟩ := h; exact ⟨A, c, B, c2, e, Rd.lt h1 (by decide), Rd.lt h2 (by decide)⟩
theorem plain_of {T : TypeId} {d : TypeDesc} (h : Try.prog.underlying T = some d) (hd : (match d with | .struct _ | .array _ _ => true | _ => false) = false) : ∀ w, (isAgg T).run Try.prog w = .ok false w := by
  intro w
  unfold isAgg
  rw [Sem.run_bind, run_underlying h w]
  cases d <;> simp_all
theorem plain_int : ∀ w, (isAgg 3).run Try.prog w = .ok false w := plain_of Try.underlying3 rfl
theorem plain_i64 : ∀ w, (isAgg 2).run Try.prog w = .ok false w := plain_of Try.underlying2 rfl
theorem plain_bool : ∀ w, (isAgg 4).run Try.prog w = .ok false w := plain_of Try.underlying4 rfl
theorem plain_lval : ∀ w, (isAgg 35).run Try.prog w = .ok false w := plain_of Try.underlying35 rfl
theorem plain_lu8 : ∀ w, (isAgg 36).run Try.prog w = .ok false w := plain_of Try.underlying36 rfl
theorem so_val : SliceOf Try.prog 35 75 (.agg #[.int .i64 0, .int .i64 0]) 2 16 := ⟨Try.underlying35, by kernel_rfl, rfl, by decide, by decide, by decide⟩
theorem ag_val : AggOf Try.prog 75 2 := ⟨⟨_, Try.underlying75, rfl⟩, by kernel_rfl⟩
theorem ag_obj : AggOf Try.prog 38 3 := ⟨⟨_, Try.underlying38, rfl⟩, by kernel_rfl⟩

theorem clone_vals (S : Nat → Prop) (A : Option Addr) (c : Nat) (l : List VL) (w : World) (h : RdV w S A l) (hb : l.length * 16 ≤ 211106232532992) :
    Calls Try.prog 39 #[.slice A l.length c] w fun e w' => ∃ v, e = .returned v ∧ w'.ownsRow w.heap.size 75 2 v l.length (vals l) ∧ Fr No w w' := by
  have hle := h.le
  have E := fun (w : World) (a : Option Addr) (n c n' c' : Nat) => Lib.run_eql_slice_nil (P := Try.prog) w 35 75 a n c n' c' Try.underlying35
  cases A with
  | none =>
    obtain rfl : l = [] := by
      cases l with
      | nil => rfl
      | cons x l => obtain ⟨g, o, hA, _⟩ := h.at_ (k := 0) (by simp); cases hA
    go_enter Try.func39, Try.ntmps39
    go_wp2
    go_ret
    exact ⟨_, rfl, World.ownsRow_nil _ _ _ _, Fr.refl _ _⟩
  | some ad =>
    go_enter Try.func39, Try.ntmps39
    go_wp2_with (refine wpList_app so_val (World.ownsRow_made w #[] 0 (Nat.le_refl _) (Nat.zero_le _) rfl) (Rd.alloc h _) (vals_one _) (by omega) (by simp) rfl rfl rfl rfl ?_; intro v2 w2 hown2 hg2 hat2)
    go_ret
    exact ⟨v2, rfl, by simpa using hown2, ((Fr.refl No w).alloc _).grown hg2 (by simp [Value.ownBlock])⟩
theorem clone_bytes (S : Nat → Prop) (A : Option Addr) (c : Nat) (l : List UInt8) (w : World) (h : RdB w S A l) :
    Calls Try.prog 40 #[.slice A l.length c] w fun e w' => ∃ v, e = .returned v ∧ w'.ownsRow w.heap.size 5 1 v l.length (U8 l) ∧ Fr No w w' := by
  have hle := h.le
  have E := fun (w : World) (a : Option Addr) (n c n' c' : Nat) => Lib.run_eql_slice_nil (P := Try.prog) w 36 5 a n c n' c' Try.underlying36
  cases A with
  | none =>
    obtain rfl : l = [] := by
      cases l with
      | nil => rfl
      | cons x l => obtain ⟨ad, hA, _⟩ := RdB.at_ h (k := 0) (by simp); cases hA
    go_enter Try.func40, Try.ntmps40
    go_wp2
    go_ret
    exact ⟨_, rfl, World.ownsRow_nil _ _ _ _, Fr.refl _ _⟩
  | some ad =>
    go_enter Try.func40, Try.ntmps40
    go_wp2_with (refine wpList_app so_u8 (World.ownsRow_made w #[] 0 (Nat.le_refl _) (Nat.zero_le _) rfl) (Rd.alloc h _) (U8_one _) (by omega) (by simp) rfl rfl rfl rfl ?_; intro v2 w2 hown2 hg2 hat2)
    go_ret
    exact ⟨v2, rfl, by simpa using hown2, ((Fr.refl No w).alloc _).grown hg2 (by simp [Value.ownBlock])⟩
end Go.Proofs.Ytifcnjebepipnaa
