/- lapidarylaw12.spoil writes over an object's own rows. No condition but size. -/
import Derived.Test.YtoajigghkjnffaaOCopy
import Derived.Test.YtoajigghkjnffaaMem
import Derived.Test.YtoajigghkjnffaaSoU8
import Derived.Deep.LoopGhost
import Derived.Deep.CutBlock
import Derived.Deep.DeepCutAuto
namespace Go.Proofs.Ytoajigghkjnffaa
set_option linter.unusedVariables false
set_option linter.unusedSimpArgs false
open Go.RowKit

/-- Spoil writes over the bytes of a row of its own; nothing else is touched. -/
theorem spoil_calls (A : Option Addr) (c n base : Nat) (xs : List Value) (w : World) (h : w.ownsRow base 5 1 (.slice A n c) n xs) (hn : n ≤ 211106232532992) :
    Calls Try.prog 44 #[.slice A n c] w fun e w' => e = .returned (.tuple #[]) ∧ Fr (fun b => A.map (·.block) = some b) w w' := by
  rcases h.2 with ⟨hv, rfl⟩ | ⟨g, cap, cur, hv, hb, hg, h1, h2, h3, h4⟩
  · injection hv with hA hc hc2
    subst hA hc2
    go_enter Try.func44, Try.ntmps44
    go_wp2
    go_loop [2] (fun i => i = .int .i64 0) (fun _ => 0)
    case atStart => rfl
    case round =>
      subst hrel
      go_wp2
      go_end0
      exact ⟨rfl, Fr.refl _ _⟩
  · injection hv with hA hc hc2
    subst hA hc2
    go_enter Try.func44, Try.ntmps44
    go_wp2
    go_loopw [2] (fun i wr => ∃ k : Nat, k ≤ n ∧ i = .int .i64 k ∧ (∃ cs : Array Value, cs.size = c ∧ Blk wr g 5 cs) ∧ Fr (fun b => g = b) w wr) (fun i _ => n - (intOf i).toNat)
    case atStart => exact ⟨0, by omega, rfl, ⟨cur, by omega, hg⟩, Fr.refl _ _⟩
    case round =>
      obtain ⟨k, hk, rfl, ⟨cs, hcs, hbl⟩, hf⟩ := hrel
      by_cases hlt : k < n
      · obtain ⟨v1, hv1⟩ : ∃ v, wr.cell? ⟨g, k, none⟩ = some v := ⟨_, (hbl.cell k).trans (Array.getElem?_eq_getElem (by omega))⟩
        have hf1 := hbl.frozen k
        have hg' := Lib.hid hg
        clear hg
        go_wp2
        go_roundw
        case rel => exact ⟨k + 1, by omega, by go_num, ⟨_, by simpa using hcs, hbl.put _ _⟩, hf.set (.inr rfl) _⟩
        case measure => simp [intOf] <;> omega
      · obtain rfl : k = n := by omega
        go_wp2
        go_end0
        exact ⟨rfl, hf.mono (fun b _ hb => by simpa using hb)⟩
/-- An object whose rows lie in X. -/
def ObjIn (w : World) (X : Nat → Prop) (cs : List Value) (o : ObjM) : Prop :=
  ∃ A c D d B M, cs = [.int .i64 o.cls, .slice A o.slots.length c, .slice D o.bytes.length d] ∧ w.ownsRow B 23 2 (.slice A o.slots.length c) o.slots.length (vals o.slots) ∧ (∀ b, (Value.slice A o.slots.length c).ownBlock = some b → X b ∧ b < M) ∧ w.ownsRow M 5 1 (.slice D o.bytes.length d) o.bytes.length (U8 o.bytes) ∧ (∀ b, (Value.slice D o.bytes.length d).ownBlock = some b → X b)
theorem ObjOwn.in_ {w : World} {B : Nat} {cs : List Value} {o : ObjM} (h : ObjOwn w B cs o) : ObjIn w (fun b => B ≤ b ∧ b < w.heap.size) cs o := by
  obtain ⟨A, c, D, d, M, e, h1, h2, h3, h4⟩ := h
  exact ⟨A, c, D, d, B, M, e, h1, fun b hb => ⟨h1.lt b hb, h2 b hb⟩, h3, fun b hb => ⟨by have := (h3.lt b hb).1; omega, (h3.lt b hb).2⟩⟩
theorem ObjIn.fr {S X : Nat → Prop} {w w' : World} {cs : List Value} {o : ObjM} (h : ObjIn w X cs o) (hf : Fr S w w') (hS : ∀ b, X b → ¬ S b) : ObjIn w' X cs o := by
  obtain ⟨A, c, D, d, B, M, e, h1, h2, h3, h4⟩ := h
  exact ⟨A, c, D, d, B, M, e, own_fr h1 hf (fun b hb => hS b (h2 b hb).1), h2, own_fr h3 hf (fun b hb => hS b (h4 b hb)), h4⟩
theorem ObjIn.fr0 {X : Nat → Prop} {w w' : World} {cs : List Value} {o : ObjM} (h : ObjIn w X cs o) (hf : Fr No w w') : ObjIn w' X cs o := h.fr hf (fun _ _ hn => hn)
set_option maxHeartbeats 2000000 in
set_option maxRecDepth 100000 in
theorem spoilo_calls (X : Nat → Prop) (cs : List Value) (o : ObjM) (w : World) (h : ObjIn w X cs o) (hn1 : o.slots.length ≤ 211106232532992) (hn2 : o.bytes.length ≤ 211106232532992) :
    Calls Try.prog 22 #[.agg cs.toArray] w fun e w' => e = .returned (.tuple #[]) ∧ Fr X w w' := by
  obtain ⟨A, c, D, d, B, M, rfl, hs, hXs, hb, hXb⟩ := h
  have g2 := plain_lval
  have g3 := plain_lu8
  have hf0 : Fr No w (w.alloc (.cells #[.int .i64 o.cls, .slice A o.slots.length c, .slice D o.bytes.length d] 27)) := (Fr.refl No w).alloc _
  have hbx := Blk.new w 27 #[.int .i64 o.cls, .slice A o.slots.length c, .slice D o.bytes.length d]
  have hXw : ∀ b, (Value.slice A o.slots.length c).ownBlock = some b → b < w.heap.size := fun b hb => (hs.lt b hb).2
  obtain ⟨D', d', e9, _, _, hD⟩ := own_form hb
  injection e9 with e91 e92 e93
  subst e91 e93
  clear e92
  go_enter Try.func22, Try.ntmps22
  go_upto_region 1 with fail
  generalize hw0 : w.alloc (.cells #[.int .i64 o.cls, .slice A o.slots.length c, .slice D o.bytes.length d] 27) = w0 at *
  clear hw0
  have hs0 := own_fr0 hs hf0
  have hb0 := own_fr0 hb hf0
  rcases hs0.2 with ⟨hv, _⟩ | ⟨g, cap, cur, hv, _, hg, h1, h2, h3, _⟩
  · injection hv with hA hc hc2
    subst hA hc2
    go_wp2_with fail
    go_loop [2] (fun i => i = .int .i64 0) (fun _ => 0)
    case atStart => rfl
    case round =>
      subst hrel
      (have q0 := hbx.cell 0; have q1 := hbx.cell 1; have q2 := hbx.cell 2; have qf0 := hbx.frozen 0; have qf1 := hbx.frozen 1; have qf2 := hbx.frozen 2; simp only [List.getElem?_toArray, List.getElem?_cons_zero, List.getElem?_cons_succ] at q0 q1 q2)
      have el : decide ((0 : Int) < (o.slots.length : Int)) = false := by rw [hc]; rfl
      have el2 : decide (0 < o.slots.length) = false := by rw [hc]; rfl
      go_wp2_with fail
      refine (spoil_calls D d _ _ _ w0 hb0 hn2).mono ?_
      rintro e w2 ⟨rfl, hf2⟩
      go_wp2
      go_end0
      exact ⟨rfl, (hf0.mono (fun _ _ hn => hn.elim)).trans hf2 (fun b hbw hT => hXb b ((hD b).2 hT))⟩
  · injection hv with hA hc hc2
    subst hA hc2
    have hgw : g < w.heap.size := hXw g rfl
    have hXg : X g := (hXs g rfl).1
    have hgM : g < M := (hXs g rfl).2
    have hgb : Blk w0 g 23 cur := hg
    have HG := Lib.hid hg
    clear hg hs hs0 hXs hXw
    go_wp2_with fail
    go_loopw [2] (fun i wr => ∃ k : Nat, k ≤ o.slots.length ∧ i = .int .i64 k ∧ (∃ cs : Array Value, cs.size = c * 2 ∧ Blk wr g 23 cs) ∧ Fr (fun b => g = b) w0 wr) (fun i _ => o.slots.length - (intOf i).toNat)
    case atStart => exact ⟨0, by omega, rfl, ⟨cur, h3, hgb⟩, Fr.refl _ _⟩
    case round =>
      obtain ⟨k, hk, rfl, ⟨cs, hcs, hbl⟩, hf⟩ := hrel
      have hbx2 := hbx.fr hf (by omega)
      (have q0 := hbx2.cell 0; have q1 := hbx2.cell 1; have q2 := hbx2.cell 2; have qf0 := hbx2.frozen 0; have qf1 := hbx2.frozen 1; have qf2 := hbx2.frozen 2; simp only [List.getElem?_toArray, List.getElem?_cons_zero, List.getElem?_cons_succ] at q0 q1 q2)
      by_cases hlt : k < o.slots.length
      · have ek : decide ((k : Int) < o.slots.length) = true := by simpa using (by omega : (k : Int) < o.slots.length)
        obtain ⟨v1, hv1⟩ : ∃ v, wr.cell? ⟨g, k * 2, none⟩ = some v := ⟨_, (hbl.cell (k * 2)).trans (Array.getElem?_eq_getElem (by omega))⟩
        obtain ⟨v2, hv2⟩ : ∃ v, wr.cell? ⟨g, k * 2 + 1, none⟩ = some v := ⟨_, (hbl.cell (k * 2 + 1)).trans (Array.getElem?_eq_getElem (by omega))⟩
        have hf1 := hbl.frozen (k * 2)
        have hf2 := hbl.frozen (k * 2 + 1)
        go_wp2
        go_roundw
        case rel => exact ⟨k + 1, by omega, by go_num, ⟨_, by simpa using hcs, (hbl.put _ _).put _ _⟩, (hf.set (.inr rfl) _).set (.inr rfl) _⟩
        case measure => simp [intOf] <;> omega
      · obtain rfl : k = o.slots.length := by omega
        have ek : decide ((o.slots.length : Int) < o.slots.length) = false := by simp
        have hb2 := own_fr hb0 hf (fun b hbb hT => by have := (hb0.lt b hbb).1; omega)
        go_wp2_with fail
        refine (spoil_calls D d _ _ _ wr hb2 hn2).mono ?_
        rintro e w2 ⟨rfl, hf2⟩
        go_wp2
        go_end0
        exact ⟨rfl, ((hf0.mono (fun _ _ hn => hn.elim)).trans hf (fun b hbw hT => hT ▸ hXg)).trans hf2 (fun b hbw hT => hXb b ((hD b).2 hT))⟩
end Go.Proofs.Ytoajigghkjnffaa
