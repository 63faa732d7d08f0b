/- table.Apply. No condition but size. -/
import Derived.Test.YtifcnjebepipnaaTabStep
import Derived.Test.YtifcnjebepipnaaTabAt2
import Derived.Test.YtifcnjebepipnaaRightR
import Derived.Deep.CutBlock
import Derived.Deep.DeepCutAuto
import Derived.Deep.DeepAppendWide
namespace Go.Proofs.Ytifcnjebepipnaa
set_option linter.unusedVariables false
set_option linter.unusedSimpArgs false
open Go.RowKit

def ApplyR (w : World) (T O : Nat → Prop) (p : Nat) (t : TabM) (r : RecM) (e : Ending) (w' : World) : Prop :=
  e = .returned (.int .i64 (applyM t r).2) ∧ ∃ T' O' : Nat → Prop, TabAt w' T' O' p (applyM t r).1 ∧ (∀ b, T' b → T b ∨ w.heap.size ≤ b) ∧ (∀ b, O' b → O b ∨ w.heap.size ≤ b) ∧ Fr T w w'
theorem take_snocC (l : List ChM) (k : Nat) (h : k < l.length) : l.take (k + 1) = l.take k ++ [l[k]] := by
  rw [List.take_succ_eq_append_getElem h]
theorem foldT_snoc (com : Int) (t : TabM) (l : List ChM) (c : ChM) : (l ++ [c]).foldl (stepT com) t = stepT com (l.foldl (stepT com) t) c := by
  rw [List.foldl_append]; rfl
theorem TabAt.blk {w : World} {T O : Nat → Prop} {p : Nat} {t : TabM} (h : TabAt w T O p t) : ∃ mb wb, Blk w p 59 #[.int .i64 t.first, .int .i64 t.last, .map (some mb), .map (some wb)] := by
  obtain ⟨mb, wb, f, g, hP⟩ := h
  exact ⟨mb, wb, hP.blk⟩
theorem TabAt.relast {w : World} {T O : Nat → Prop} {p : Nat} {t : TabM} (h : TabAt w T O p t) (last : Int) : TabAt (w.setCell ⟨p, 1, none⟩ (.int .i64 last)) T O p { t with last := last } := by
  obtain ⟨mb, wb, f, g, hP⟩ := h
  have hf : Fr (fun b => b = p) w (w.setCell ⟨p, 1, none⟩ (.int .i64 last)) := (Fr.refl (fun b => b = p) w).set (p := ⟨p, 1, none⟩) (.inr rfl) _
  obtain ⟨i1, i2, i3, i4, i5, i6⟩ := hP.inT
  refine ⟨mb, wb, f, g, { blk := hP.blk.put 1 _, vers := hP.vers.fr hf (fun e => i4 e.symm), when := hP.when.fr hf (fun e => i5 e.symm), row := fun x hx => (hP.row x hx).fr hf (fun b hb => hb.2.1) (fun b hb e => (hP.off _ i1).2 (e ▸ hb)), at_ := hP.at_, apart := hP.apart, inT := hP.inT, off := fun b hb => ⟨Nat.lt_of_lt_of_le (hP.off b hb).1 hf.size, (hP.off b hb).2⟩, offO := fun b hb => Nat.lt_of_lt_of_le (hP.offO b hb) hf.size, small := hP.small }⟩
theorem one5 {a b c d e : Value} (h1 : a.oneCell' = true) (h2 : b.oneCell' = true) (h3 : c.oneCell' = true) (h4 : d.oneCell' = true) (h5 : e.oneCell' = true) : ∀ u ∈ [a, b, c, d, e], u.oneCell' = true := by
  intro u hu
  simp only [List.mem_cons, List.not_mem_nil, or_false] at hu
  rcases hu with rfl | rfl | rfl | rfl | rfl <;> assumption
theorem ObjOwn.lit5 {w : World} {B : Nat} {cs : List Value} {o : ObjM} (h : ObjOwn w B cs o) : ∃ A c D d, cs = [.int .i64 o.cls, .slice A o.slots.length c, .slice D o.bytes.length d] := by
  obtain ⟨A, c, D, d, M, e, _⟩ := h; exact ⟨A, c, D, d, e⟩
set_option maxHeartbeats 4000000 in
set_option maxRecDepth 100000 in
theorem tapply_calls (w : World) (T O S : Nat → Prop) (p : Nat) (t : TabM) (cs : List Value) (r : RecM) (h : TabAt w T O p t) (hr : RecC w S cs r) (hS : ∀ b, S b → ¬ T b) (hn : t.n ≤ 900000) :
    Calls Try.prog 8 #[.pointer (some ⟨p, 0, none⟩), .agg cs.toArray] w fun e w' => ApplyR w T O p t r e w' := by
  obtain ⟨com, chs⟩ := r
  have hr := hr.lt
  obtain ⟨A, c, rfl, hch⟩ := hr
  simp only at hch
  have g1 := plain_i64
  have g2 := plain_lval
  have g3 := plain_lu8
  have g4 := plain_bool
  have g5 := plain_lchp
  have g6 := plain_mver
  have g7 := plain_mi64
  obtain ⟨hTl, hOl, hTp⟩ := h.lt
  have hpl := hTl p hTp
  have hf1 : Fr No w (w.alloc (.cells #[.int .i64 com, .slice A chs.length c] 29)) := (Fr.refl No w).alloc _
  have hbx := Blk.new w 29 #[.int .i64 com, .slice A chs.length c]
  have hz1 : w.heap.size < (w.alloc (.cells #[.int .i64 com, .slice A chs.length c] 29)).heap.size := by simp
  have hrc : RecC (w.alloc (.cells #[.int .i64 com, .slice A chs.length c] 29)) (fun b => S b ∧ b < w.heap.size) [.int .i64 com, .slice A chs.length c] ⟨com, chs⟩ := RecC.fr0 ⟨A, c, rfl, hch⟩ hf1
  have hbxa := hbx.all
  go_enter Try.func8, Try.ntmps8
  go_wp2_with (first
    | (refine wpList_ldA ag_recp rfl _ rfl ⟨w.heap.size, 0, none⟩ [.int .i64 com, .slice A chs.length c] rfl rfl hbxa ?_)
    | fail)
  refine (vrightr_calls _ _ ⟨com, chs⟩ _ hrc).mono ?_
  rintro e w2 ⟨rfl, hf2⟩
  have hF2 := hf1.tr hf2
  have hb2 := hbx.fr0 hf2
  have hT2 := h.fr0 hF2
  have hz2 : w.heap.size < w2.heap.size := Nat.lt_of_lt_of_le hz1 hf2.size
  clear hrc hbxa hf1 hbx hz1 hf2
  (have z0 := hb2.cell 0; have z1 := hb2.cell 1; have zf0 := hb2.frozen 0; have zf1 := hb2.frozen 1; simp only [List.getElem?_toArray, List.getElem?_cons_zero, List.getElem?_cons_succ] at z0 z1)
  cases hrr : rightR ⟨com, chs⟩ with
  | false =>
    have HM := Lib.hid (applyM_bad (t := t) hrr)
    clear hrr
    go_wp2
    go_ret
    exact ⟨by rw [HM.out]; rfl, T, O, by rw [HM.out]; exact hT2, fun b hb => .inl hb, fun b hb => .inl hb, hF2.mono (fun _ _ hn => hn.elim)⟩
  | true =>
    obtain ⟨mb0, wb0, hbk⟩ := hT2.blk
    have q1 := hbk.cell 1
    have q1f := hbk.frozen 1
    simp only [List.getElem?_toArray, List.getElem?_cons_zero, List.getElem?_cons_succ] at q1
    by_cases hold : com ≤ t.last
    · have HM := Lib.hid (applyM_old (t := t) hrr hold)
      have ek : decide (com ≤ t.last) = true := by simpa using hold
      clear hrr hold
      go_wp2_with fail
      (refine T_begin No [0, 1, 2, 3, 4, 5, 6, 7] [] (by kernel_rfl) (by kernel_rfl) ?_; simp only [pickOps, List.filterMap_cons, List.filterMap_nil, List.getElem?_cons_zero, List.getElem?_cons_succ, Act.put])
      repeat (first | (refine T_skip (by rfl) (by rfl) (fun _ _ _ h => h) ?_; try simp only [Act.put, List.setIfInBounds_toArray, List.set_cons_zero, List.set_cons_succ]) | (refine T_pass (by rfl) (by rfl) ?_; try simp only [Act.put, List.setIfInBounds_toArray, List.set_cons_zero, List.set_cons_succ]) | (refine T_load (by assumption) (by rfl) (by rfl) (fun _ _ _ _ h => h) rfl rfl (by assumption) (by first | exact (fun hn => hn) | assumption) ?_; try simp only [Act.put, List.setIfInBounds_toArray, List.set_cons_zero, List.set_cons_succ]) | (refine T_nil (by rfl) (by rfl) (fun _ _ _ _ h => h) rfl rfl ?_; try simp only [Act.put, List.setIfInBounds_toArray, List.set_cons_zero, List.set_cons_succ]) | (refine T_quiet (by rfl) (by rfl) (by rfl) (fun _ _ _ _ h => h) (fun K hK => ?_); go_big_quiet_op; refine hK _ ?_; clear hK K) | (refine T_two (by rfl) (by rfl) (by rfl) (by rfl) (fun _ _ _ _ h => h) (fun K hK => ?_); go_big_quiet_op; refine ⟨_, fun _ _ => rfl, ?_⟩; refine hK _ ?_; clear hK K; try simp only [Act.put, List.setIfInBounds_toArray, List.set_cons_zero, List.set_cons_succ]) | fail)
      refine T_done ?_
      go_wp2
      go_ret
      exact ⟨by rw [HM.out]; rfl, T, O, by rw [HM.out]; exact hT2.fr0 (Fr.refl No w2).drew, fun b hb => .inl hb, fun b hb => .inl hb, hF2.drew.mono (fun _ _ hn => hn.elim)⟩
    · have HM := Lib.hid (applyM_yes (t := t) hrr hold)
      have ek : decide (com ≤ t.last) = false := by simpa using hold
      obtain ⟨_, hcom, hlen, hcr⟩ := rightR_four hrr
      simp only at hcom hlen hcr
      have HC := Lib.hid (chsRight_all hcr)
      clear hrr hold hcr
      go_wp2_with fail
      (refine T_begin No [0, 1, 2, 3, 4, 5, 6, 7] [] (by kernel_rfl) (by kernel_rfl) ?_; simp only [pickOps, List.filterMap_cons, List.filterMap_nil, List.getElem?_cons_zero, List.getElem?_cons_succ, Act.put])
      repeat (first | (refine T_skip (by rfl) (by rfl) (fun _ _ _ h => h) ?_; try simp only [Act.put, List.setIfInBounds_toArray, List.set_cons_zero, List.set_cons_succ]) | (refine T_pass (by rfl) (by rfl) ?_; try simp only [Act.put, List.setIfInBounds_toArray, List.set_cons_zero, List.set_cons_succ]) | (refine T_load (by assumption) (by rfl) (by rfl) (fun _ _ _ _ h => h) rfl rfl (by assumption) (by first | exact (fun hn => hn) | assumption) ?_; try simp only [Act.put, List.setIfInBounds_toArray, List.set_cons_zero, List.set_cons_succ]) | (refine T_nil (by rfl) (by rfl) (fun _ _ _ _ h => h) rfl rfl ?_; try simp only [Act.put, List.setIfInBounds_toArray, List.set_cons_zero, List.set_cons_succ]) | (refine T_quiet (by rfl) (by rfl) (by rfl) (fun _ _ _ _ h => h) (fun K hK => ?_); go_big_quiet_op; refine hK _ ?_; clear hK K) | (refine T_two (by rfl) (by rfl) (by rfl) (by rfl) (fun _ _ _ _ h => h) (fun K hK => ?_); go_big_quiet_op; refine ⟨_, fun _ _ => rfl, ?_⟩; refine hK _ ?_; clear hK K; try simp only [Act.put, List.setIfInBounds_toArray, List.set_cons_zero, List.set_cons_succ]) | fail)
      refine T_done ?_
      have hbD : Blk w2.drew w.heap.size 29 #[.int .i64 com, .slice A chs.length c] := hb2.drew
      have hTD : TabAt w2.drew T O p t := hT2.fr0 (Fr.refl No w2).drew
      have hFD : Fr No w w2.drew := hF2.drew
      have hzD : w.heap.size < w2.drew.heap.size := hz2
      clear hb2 hT2 hF2 hz2 q1 q1f hbk z0 z1 zf0 zf1
      generalize w2.drew = w3 at *
      (have z0 := hbD.cell 0; have z1 := hbD.cell 1; have zf0 := hbD.frozen 0; have zf1 := hbD.frozen 1; simp only [List.getElem?_toArray, List.getElem?_cons_zero, List.getElem?_cons_succ] at z0 z1)
      go_wp2_with fail
      go_loopw [25] (fun i wr => ∃ (k : Nat) (T' O' : Nat → Prop), k ≤ chs.length ∧ i = .int .i64 (k : Int) ∧ TabAt wr T' O' p ((chs.take k).foldl (stepT com) t) ∧ (∀ b, T' b → T b ∨ w3.heap.size ≤ b) ∧ (∀ b, O' b → O b ∨ w3.heap.size ≤ b) ∧ Fr T w3 wr) (fun i _ => chs.length - (intOf i).toNat)
      case atStart => exact ⟨0, T, O, by omega, rfl, hTD, fun b hb => .inl hb, fun b hb => .inl hb, Fr.refl _ _⟩
      case round =>
        obtain ⟨k, T', O', hk, rfl, hTk, hT', hO', hf⟩ := hrel
        have hszr := hf.size
        have hbR := hbD.fr hf (fun hT => by have := hTl _ hT; omega)
        by_cases hlt : k < chs.length
        · have ek : decide ((k : Int) < chs.length) = true := by simpa using (by omega : (k : Int) < chs.length)
          have hfW : Fr T w wr := (hFD.mono (fun _ _ hn => hn.elim)).trans hf (fun b _ hT => hT)
          have hrd := hch.fr hfW (fun b hb hT => hS b hb.1 hT)
          obtain ⟨ga, of, Av, nn, D, mm, rfl, hga, hcell, hsl, hby⟩ := hrd.at_ hlt
          obtain ⟨hoop, hcx⟩ := HC.out _ (List.getElem_mem hlt)
          have hsm := rightC_small hcx
          have HT := Lib.hid (foldT_snoc com t (chs.take k) chs[k])
          have HTk := Lib.hid (take_snocC chs k hlt)
          generalize chs[k] = x at *
          obtain ⟨oop, gone, ob⟩ := x
          simp only at hcell hsl hby hsm hoop
          have hw64 : W64 oop := by
            unfold oopB at hoop
            simp only [Bool.and_eq_true, decide_eq_true_eq] at hoop
            exact wf_of (by omega) (by omega)
          clear hoop hcx
          have hcell' := addr5 _ _ _ hcell
          obtain ⟨e1, e2, e3⟩ := fold_first com (chs.take k) t
          have e4 : ((chs.take k).foldl (stepT com) t).n ≤ 1000000 := by rw [e3, List.length_take]; omega
          clear e3
          generalize htk : (chs.take k).foldl (stepT com) t = tk at *
          clear htk
          go_wp2_with (first
            | (refine wpList_ldA ag_chp rfl _ rfl ⟨ga, of + k * 5, none⟩ _ rfl rfl hcell' ?_)
            | fail)
          have hfo : Fr No wr (wr.alloc (.cells #[.int .i64 oop, .bool gone, .int .i64 ob.cls, .slice Av ob.slots.length nn, .slice D ob.bytes.length mm] 62)) := (Fr.refl No wr).alloc _
          have hbO := Blk.new wr 62 #[.int .i64 oop, .bool gone, .int .i64 ob.cls, .slice Av ob.slots.length nn, .slice D ob.bytes.length mm]
          have hzA : wr.heap.size < (wr.alloc (.cells #[.int .i64 oop, .bool gone, .int .i64 ob.cls, .slice Av ob.slots.length nn, .slice D ob.bytes.length mm] 62)).heap.size := by simp
          generalize hwA : wr.alloc (.cells #[.int .i64 oop, .bool gone, .int .i64 ob.cls, .slice Av ob.slots.length nn, .slice D ob.bytes.length mm] 62) = wA at *
          clear hwA
          obtain ⟨mb, wb, f, g, hP⟩ := hTk.fr0 hfo
          have hbX := hbR.fr0 hfo
          have hbT := hP.blk
          have hob : ObjC wA (fun b => S b ∧ b < w.heap.size) [.int .i64 ob.cls, .slice Av ob.slots.length nn, .slice D ob.bytes.length mm] ob := ObjC.fr0 ⟨Av, nn, D, mm, rfl, hsl, hby⟩ hfo
          obtain ⟨i1, i2, i3, i4, i5, i6⟩ := hP.inT
          have hTlt : ∀ b, T' b → b < wr.heap.size := hTk.lt.1
          have hOlt : ∀ b, O' b → b < wr.heap.size := hTk.lt.2.1
          obtain ⟨v0, xs, hv0, hown0, hxs0, hvb0⟩ : ∃ v0 xs, (f oop).getD (.slice none 0 0) = v0 ∧ wA.ownsRow 0 tVer 5 v0 (tk.vs oop).length xs ∧ ChsC wA O' xs (tk.vs oop) ∧ ∀ b, v0.ownBlock = some b → (T' b ∧ b ≠ p ∧ b ≠ mb ∧ b ≠ wb) ∧ ∃ v, f oop = some v ∧ v.ownBlock = some b := by
            rcases hP.row oop hw64 with ⟨r1, r2⟩ | ⟨v, xs, r1, _, r3, r4, r5⟩
            · exact ⟨_, [], rfl, by rw [r1, r2]; exact World.ownsRow_nil _ _ _ _, by rw [r2]; rfl, fun b hb => by rw [r1] at hb; simp [Value.ownBlock] at hb⟩
            · exact ⟨v, xs, by rw [r1]; rfl, r3, r4, fun b hb => ⟨r5 b hb, v, r1, hb⟩⟩
          have hsmall := hP.small oop
          have HOB := Lib.hid (show ∀ j u, [Value.int .i64 ob.cls, .slice Av ob.slots.length nn, .slice D ob.bytes.length mm][j]? = some u → wA.cell? ((⟨wr.heap.size, 2, none⟩ : Addr).add j) = some u from addr5 _ _ _ (fun j u hu => by
            have := hbO.all (j + 2) u (by simpa using hu)
            rw [show (⟨wr.heap.size, 0, none⟩ : Addr).add (j + 2) = ⟨wr.heap.size, 2 + j, none⟩ by unfold Addr.add; split <;> simp_all <;> omega] at this
            exact this))
          have HVB := Lib.hid hvb0
          have n1 : ¬ v0.ownBlock = some mb := fun e => (hvb0 _ e).1.2.2.1 rfl
          have n2 : ¬ v0.ownBlock = some p := fun e => (hvb0 _ e).1.2.1 rfl
          have n3 : ¬ v0.ownBlock = some w.heap.size := fun e => by have := hT' _ (hvb0 _ e).1.1; rcases this with h9 | h9; have := hTl _ h9; omega; omega
          have n4 : ¬ v0.ownBlock = some wr.heap.size := fun e => by have := hTlt _ (hvb0 _ e).1.1; omega
          have n5 : ¬ v0.ownBlock = some wb := fun e => (hvb0 _ e).1.2.2.2 rfl
          clear hvb0 hcell hcell'
          have hbxk := hbX
          (have z0 := hbX.cell 0; have z1 := hbX.cell 1; have zf0 := hbX.frozen 0; have zf1 := hbX.frozen 1; simp only [List.getElem?_toArray, List.getElem?_cons_zero, List.getElem?_cons_succ] at z0 z1)
          (have y0 := hbO.cell 0; have y1 := hbO.cell 1; have y2 := hbO.cell 2; have y3 := hbO.cell 3; have y4 := hbO.cell 4; have yf0 := hbO.frozen 0; have yf1 := hbO.frozen 1; have yf2 := hbO.frozen 2; have yf3 := hbO.frozen 3; have yf4 := hbO.frozen 4; simp only [List.getElem?_toArray, List.getElem?_cons_zero, List.getElem?_cons_succ] at y0 y1 y2 y3 y4)
          (have x0 := hbT.cell 0; have x1 := hbT.cell 1; have x2 := hbT.cell 2; have x3 := hbT.cell 3; have xf0 := hbT.frozen 0; have xf1 := hbT.frozen 1; have xf2 := hbT.frozen 2; have xf3 := hbT.frozen 3; simp only [List.getElem?_toArray, List.getElem?_cons_zero, List.getElem?_cons_succ] at x0 x1 x2 x3)
          refine T_begin2 (fun b => v0.ownBlock = some b) [23] [0, 1, 2, 3, 4, 5, 6, 7, 8, 9, 10, 11, 12, 13, 14, 15, 16, 17, 18, 19, 20, 21, 22, 23] [19, 21, 22, 23] (by kernel_rfl) (by kernel_rfl) ?_
          simp only [pickOps, List.filterMap_cons, List.filterMap_nil, List.getElem?_cons_zero, List.getElem?_cons_succ, Act.put]
          (first | (refine T_skip (by rfl) (by rfl) (fun _ _ _ h => h) ?_; try simp only [Act.put, List.setIfInBounds_toArray, List.set_cons_zero, List.set_cons_succ]) | (refine T_pass (by rfl) (by rfl) ?_; try simp only [Act.put, List.setIfInBounds_toArray, List.set_cons_zero, List.set_cons_succ]) | (refine T_load (by assumption) (by rfl) (by rfl) (fun _ _ _ _ h => h) rfl rfl (by assumption) (by first | exact (fun hn => hn) | assumption) ?_; try simp only [Act.put, List.setIfInBounds_toArray, List.set_cons_zero, List.set_cons_succ]) | (refine T_nil (by rfl) (by rfl) (fun _ _ _ _ h => h) rfl rfl ?_; try simp only [Act.put, List.setIfInBounds_toArray, List.set_cons_zero, List.set_cons_succ]) | (refine T_quietN (by rfl) (by rfl) (by rfl) (by rfl) (fun _ _ _ _ h => h) (fun K hK => ?_); go_big_quiet_op; refine hK _ ?_; clear hK K) | (refine T_two (by rfl) (by rfl) (by rfl) (by rfl) (fun _ _ _ _ h => h) (fun K hK => ?_); go_big_quiet_op; refine ⟨_, fun _ _ => rfl, ?_⟩; refine hK _ ?_; clear hK K; try simp only [Act.put, List.setIfInBounds_toArray, List.set_cons_zero, List.set_cons_succ]) | fail)
          (first | (refine T_skip (by rfl) (by rfl) (fun _ _ _ h => h) ?_; try simp only [Act.put, List.setIfInBounds_toArray, List.set_cons_zero, List.set_cons_succ]) | (refine T_pass (by rfl) (by rfl) ?_; try simp only [Act.put, List.setIfInBounds_toArray, List.set_cons_zero, List.set_cons_succ]) | (refine T_load (by assumption) (by rfl) (by rfl) (fun _ _ _ _ h => h) rfl rfl (by assumption) (by first | exact (fun hn => hn) | assumption) ?_; try simp only [Act.put, List.setIfInBounds_toArray, List.set_cons_zero, List.set_cons_succ]) | (refine T_nil (by rfl) (by rfl) (fun _ _ _ _ h => h) rfl rfl ?_; try simp only [Act.put, List.setIfInBounds_toArray, List.set_cons_zero, List.set_cons_succ]) | (refine T_quietN (by rfl) (by rfl) (by rfl) (by rfl) (fun _ _ _ _ h => h) (fun K hK => ?_); go_big_quiet_op; refine hK _ ?_; clear hK K) | (refine T_two (by rfl) (by rfl) (by rfl) (by rfl) (fun _ _ _ _ h => h) (fun K hK => ?_); go_big_quiet_op; refine ⟨_, fun _ _ => rfl, ?_⟩; refine hK _ ?_; clear hK K; try simp only [Act.put, List.setIfInBounds_toArray, List.set_cons_zero, List.set_cons_succ]) | fail)
          (first | (refine T_skip (by rfl) (by rfl) (fun _ _ _ h => h) ?_; try simp only [Act.put, List.setIfInBounds_toArray, List.set_cons_zero, List.set_cons_succ]) | (refine T_pass (by rfl) (by rfl) ?_; try simp only [Act.put, List.setIfInBounds_toArray, List.set_cons_zero, List.set_cons_succ]) | (refine T_load (by assumption) (by rfl) (by rfl) (fun _ _ _ _ h => h) rfl rfl (by assumption) (by first | exact (fun hn => hn) | assumption) ?_; try simp only [Act.put, List.setIfInBounds_toArray, List.set_cons_zero, List.set_cons_succ]) | (refine T_nil (by rfl) (by rfl) (fun _ _ _ _ h => h) rfl rfl ?_; try simp only [Act.put, List.setIfInBounds_toArray, List.set_cons_zero, List.set_cons_succ]) | (refine T_quietN (by rfl) (by rfl) (by rfl) (by rfl) (fun _ _ _ _ h => h) (fun K hK => ?_); go_big_quiet_op; refine hK _ ?_; clear hK K) | (refine T_two (by rfl) (by rfl) (by rfl) (by rfl) (fun _ _ _ _ h => h) (fun K hK => ?_); go_big_quiet_op; refine ⟨_, fun _ _ => rfl, ?_⟩; refine hK _ ?_; clear hK K; try simp only [Act.put, List.setIfInBounds_toArray, List.set_cons_zero, List.set_cons_succ]) | fail)
          (first | (refine T_skip (by rfl) (by rfl) (fun _ _ _ h => h) ?_; try simp only [Act.put, List.setIfInBounds_toArray, List.set_cons_zero, List.set_cons_succ]) | (refine T_pass (by rfl) (by rfl) ?_; try simp only [Act.put, List.setIfInBounds_toArray, List.set_cons_zero, List.set_cons_succ]) | (refine T_load (by assumption) (by rfl) (by rfl) (fun _ _ _ _ h => h) rfl rfl (by assumption) (by first | exact (fun hn => hn) | assumption) ?_; try simp only [Act.put, List.setIfInBounds_toArray, List.set_cons_zero, List.set_cons_succ]) | (refine T_nil (by rfl) (by rfl) (fun _ _ _ _ h => h) rfl rfl ?_; try simp only [Act.put, List.setIfInBounds_toArray, List.set_cons_zero, List.set_cons_succ]) | (refine T_quietN (by rfl) (by rfl) (by rfl) (by rfl) (fun _ _ _ _ h => h) (fun K hK => ?_); go_big_quiet_op; refine hK _ ?_; clear hK K) | (refine T_two (by rfl) (by rfl) (by rfl) (by rfl) (fun _ _ _ _ h => h) (fun K hK => ?_); go_big_quiet_op; refine ⟨_, fun _ _ => rfl, ?_⟩; refine hK _ ?_; clear hK K; try simp only [Act.put, List.setIfInBounds_toArray, List.set_cons_zero, List.set_cons_succ]) | fail)
          (first | (refine T_skip (by rfl) (by rfl) (fun _ _ _ h => h) ?_; try simp only [Act.put, List.setIfInBounds_toArray, List.set_cons_zero, List.set_cons_succ]) | (refine T_pass (by rfl) (by rfl) ?_; try simp only [Act.put, List.setIfInBounds_toArray, List.set_cons_zero, List.set_cons_succ]) | (refine T_load (by assumption) (by rfl) (by rfl) (fun _ _ _ _ h => h) rfl rfl (by assumption) (by first | exact (fun hn => hn) | assumption) ?_; try simp only [Act.put, List.setIfInBounds_toArray, List.set_cons_zero, List.set_cons_succ]) | (refine T_nil (by rfl) (by rfl) (fun _ _ _ _ h => h) rfl rfl ?_; try simp only [Act.put, List.setIfInBounds_toArray, List.set_cons_zero, List.set_cons_succ]) | (refine T_quietN (by rfl) (by rfl) (by rfl) (by rfl) (fun _ _ _ _ h => h) (fun K hK => ?_); go_big_quiet_op; refine hK _ ?_; clear hK K) | (refine T_two (by rfl) (by rfl) (by rfl) (by rfl) (fun _ _ _ _ h => h) (fun K hK => ?_); go_big_quiet_op; refine ⟨_, fun _ _ => rfl, ?_⟩; refine hK _ ?_; clear hK K; try simp only [Act.put, List.setIfInBounds_toArray, List.set_cons_zero, List.set_cons_succ]) | fail)
          (first | (refine T_skip (by rfl) (by rfl) (fun _ _ _ h => h) ?_; try simp only [Act.put, List.setIfInBounds_toArray, List.set_cons_zero, List.set_cons_succ]) | (refine T_pass (by rfl) (by rfl) ?_; try simp only [Act.put, List.setIfInBounds_toArray, List.set_cons_zero, List.set_cons_succ]) | (refine T_load (by assumption) (by rfl) (by rfl) (fun _ _ _ _ h => h) rfl rfl (by assumption) (by first | exact (fun hn => hn) | assumption) ?_; try simp only [Act.put, List.setIfInBounds_toArray, List.set_cons_zero, List.set_cons_succ]) | (refine T_nil (by rfl) (by rfl) (fun _ _ _ _ h => h) rfl rfl ?_; try simp only [Act.put, List.setIfInBounds_toArray, List.set_cons_zero, List.set_cons_succ]) | (refine T_quietN (by rfl) (by rfl) (by rfl) (by rfl) (fun _ _ _ _ h => h) (fun K hK => ?_); go_big_quiet_op; refine hK _ ?_; clear hK K) | (refine T_two (by rfl) (by rfl) (by rfl) (by rfl) (fun _ _ _ _ h => h) (fun K hK => ?_); go_big_quiet_op; refine ⟨_, fun _ _ => rfl, ?_⟩; refine hK _ ?_; clear hK K; try simp only [Act.put, List.setIfInBounds_toArray, List.set_cons_zero, List.set_cons_succ]) | fail)
          (first | (refine T_skip (by rfl) (by rfl) (fun _ _ _ h => h) ?_; try simp only [Act.put, List.setIfInBounds_toArray, List.set_cons_zero, List.set_cons_succ]) | (refine T_pass (by rfl) (by rfl) ?_; try simp only [Act.put, List.setIfInBounds_toArray, List.set_cons_zero, List.set_cons_succ]) | (refine T_load (by assumption) (by rfl) (by rfl) (fun _ _ _ _ h => h) rfl rfl (by assumption) (by first | exact (fun hn => hn) | assumption) ?_; try simp only [Act.put, List.setIfInBounds_toArray, List.set_cons_zero, List.set_cons_succ]) | (refine T_nil (by rfl) (by rfl) (fun _ _ _ _ h => h) rfl rfl ?_; try simp only [Act.put, List.setIfInBounds_toArray, List.set_cons_zero, List.set_cons_succ]) | (refine T_quietN (by rfl) (by rfl) (by rfl) (by rfl) (fun _ _ _ _ h => h) (fun K hK => ?_); go_big_quiet_op; refine hK _ ?_; clear hK K) | (refine T_two (by rfl) (by rfl) (by rfl) (by rfl) (fun _ _ _ _ h => h) (fun K hK => ?_); go_big_quiet_op; refine ⟨_, fun _ _ => rfl, ?_⟩; refine hK _ ?_; clear hK K; try simp only [Act.put, List.setIfInBounds_toArray, List.set_cons_zero, List.set_cons_succ]) | fail)
          (first | (refine T_skip (by rfl) (by rfl) (fun _ _ _ h => h) ?_; try simp only [Act.put, List.setIfInBounds_toArray, List.set_cons_zero, List.set_cons_succ]) | (refine T_pass (by rfl) (by rfl) ?_; try simp only [Act.put, List.setIfInBounds_toArray, List.set_cons_zero, List.set_cons_succ]) | (refine T_load (by assumption) (by rfl) (by rfl) (fun _ _ _ _ h => h) rfl rfl (by assumption) (by first | exact (fun hn => hn) | assumption) ?_; try simp only [Act.put, List.setIfInBounds_toArray, List.set_cons_zero, List.set_cons_succ]) | (refine T_nil (by rfl) (by rfl) (fun _ _ _ _ h => h) rfl rfl ?_; try simp only [Act.put, List.setIfInBounds_toArray, List.set_cons_zero, List.set_cons_succ]) | (refine T_quietN (by rfl) (by rfl) (by rfl) (by rfl) (fun _ _ _ _ h => h) (fun K hK => ?_); go_big_quiet_op; refine hK _ ?_; clear hK K) | (refine T_two (by rfl) (by rfl) (by rfl) (by rfl) (fun _ _ _ _ h => h) (fun K hK => ?_); go_big_quiet_op; refine ⟨_, fun _ _ => rfl, ?_⟩; refine hK _ ?_; clear hK K; try simp only [Act.put, List.setIfInBounds_toArray, List.set_cons_zero, List.set_cons_succ]) | fail)
          (first | (refine T_skip (by rfl) (by rfl) (fun _ _ _ h => h) ?_; try simp only [Act.put, List.setIfInBounds_toArray, List.set_cons_zero, List.set_cons_succ]) | (refine T_pass (by rfl) (by rfl) ?_; try simp only [Act.put, List.setIfInBounds_toArray, List.set_cons_zero, List.set_cons_succ]) | (refine T_load (by assumption) (by rfl) (by rfl) (fun _ _ _ _ h => h) rfl rfl (by assumption) (by first | exact (fun hn => hn) | assumption) ?_; try simp only [Act.put, List.setIfInBounds_toArray, List.set_cons_zero, List.set_cons_succ]) | (refine T_nil (by rfl) (by rfl) (fun _ _ _ _ h => h) rfl rfl ?_; try simp only [Act.put, List.setIfInBounds_toArray, List.set_cons_zero, List.set_cons_succ]) | (refine T_quietN (by rfl) (by rfl) (by rfl) (by rfl) (fun _ _ _ _ h => h) (fun K hK => ?_); go_big_quiet_op; refine hK _ ?_; clear hK K) | (refine T_two (by rfl) (by rfl) (by rfl) (by rfl) (fun _ _ _ _ h => h) (fun K hK => ?_); go_big_quiet_op; refine ⟨_, fun _ _ => rfl, ?_⟩; refine hK _ ?_; clear hK K; try simp only [Act.put, List.setIfInBounds_toArray, List.set_cons_zero, List.set_cons_succ]) | fail)
          (first | (refine T_skip (by rfl) (by rfl) (fun _ _ _ h => h) ?_; try simp only [Act.put, List.setIfInBounds_toArray, List.set_cons_zero, List.set_cons_succ]) | (refine T_pass (by rfl) (by rfl) ?_; try simp only [Act.put, List.setIfInBounds_toArray, List.set_cons_zero, List.set_cons_succ]) | (refine T_load (by assumption) (by rfl) (by rfl) (fun _ _ _ _ h => h) rfl rfl (by assumption) (by first | exact (fun hn => hn) | assumption) ?_; try simp only [Act.put, List.setIfInBounds_toArray, List.set_cons_zero, List.set_cons_succ]) | (refine T_nil (by rfl) (by rfl) (fun _ _ _ _ h => h) rfl rfl ?_; try simp only [Act.put, List.setIfInBounds_toArray, List.set_cons_zero, List.set_cons_succ]) | (refine T_quietN (by rfl) (by rfl) (by rfl) (by rfl) (fun _ _ _ _ h => h) (fun K hK => ?_); go_big_quiet_op; refine hK _ ?_; clear hK K) | (refine T_two (by rfl) (by rfl) (by rfl) (by rfl) (fun _ _ _ _ h => h) (fun K hK => ?_); go_big_quiet_op; refine ⟨_, fun _ _ => rfl, ?_⟩; refine hK _ ?_; clear hK K; try simp only [Act.put, List.setIfInBounds_toArray, List.set_cons_zero, List.set_cons_succ]) | fail)
          (first | (refine T_skip (by rfl) (by rfl) (fun _ _ _ h => h) ?_; try simp only [Act.put, List.setIfInBounds_toArray, List.set_cons_zero, List.set_cons_succ]) | (refine T_pass (by rfl) (by rfl) ?_; try simp only [Act.put, List.setIfInBounds_toArray, List.set_cons_zero, List.set_cons_succ]) | (refine T_load (by assumption) (by rfl) (by rfl) (fun _ _ _ _ h => h) rfl rfl (by assumption) (by first | exact (fun hn => hn) | assumption) ?_; try simp only [Act.put, List.setIfInBounds_toArray, List.set_cons_zero, List.set_cons_succ]) | (refine T_nil (by rfl) (by rfl) (fun _ _ _ _ h => h) rfl rfl ?_; try simp only [Act.put, List.setIfInBounds_toArray, List.set_cons_zero, List.set_cons_succ]) | (refine T_quietN (by rfl) (by rfl) (by rfl) (by rfl) (fun _ _ _ _ h => h) (fun K hK => ?_); go_big_quiet_op; refine hK _ ?_; clear hK K) | (refine T_two (by rfl) (by rfl) (by rfl) (by rfl) (fun _ _ _ _ h => h) (fun K hK => ?_); go_big_quiet_op; refine ⟨_, fun _ _ => rfl, ?_⟩; refine hK _ ?_; clear hK K; try simp only [Act.put, List.setIfInBounds_toArray, List.set_cons_zero, List.set_cons_succ]) | fail)
          (first | (refine T_skip (by rfl) (by rfl) (fun _ _ _ h => h) ?_; try simp only [Act.put, List.setIfInBounds_toArray, List.set_cons_zero, List.set_cons_succ]) | (refine T_pass (by rfl) (by rfl) ?_; try simp only [Act.put, List.setIfInBounds_toArray, List.set_cons_zero, List.set_cons_succ]) | (refine T_load (by assumption) (by rfl) (by rfl) (fun _ _ _ _ h => h) rfl rfl (by assumption) (by first | exact (fun hn => hn) | assumption) ?_; try simp only [Act.put, List.setIfInBounds_toArray, List.set_cons_zero, List.set_cons_succ]) | (refine T_nil (by rfl) (by rfl) (fun _ _ _ _ h => h) rfl rfl ?_; try simp only [Act.put, List.setIfInBounds_toArray, List.set_cons_zero, List.set_cons_succ]) | (refine T_quietN (by rfl) (by rfl) (by rfl) (by rfl) (fun _ _ _ _ h => h) (fun K hK => ?_); go_big_quiet_op; refine hK _ ?_; clear hK K) | (refine T_two (by rfl) (by rfl) (by rfl) (by rfl) (fun _ _ _ _ h => h) (fun K hK => ?_); go_big_quiet_op; refine ⟨_, fun _ _ => rfl, ?_⟩; refine hK _ ?_; clear hK K; try simp only [Act.put, List.setIfInBounds_toArray, List.set_cons_zero, List.set_cons_succ]) | fail)
          refine T_look (w := wA.drew) (f := f) (b := mb) hP.vers n1 Try.underlying56 zero_vers hw64 (by rfl) (by rfl) (fun _ _ _ _ h => h) rfl rfl rfl hv0 ?_
          try simp only [Act.put, List.setIfInBounds_toArray, List.set_cons_zero, List.set_cons_succ]
          repeat (first | (refine T_skip (by rfl) (by rfl) (fun _ _ _ h => h) ?_; try simp only [Act.put, List.setIfInBounds_toArray, List.set_cons_zero, List.set_cons_succ]) | (refine T_pass (by rfl) (by rfl) ?_; try simp only [Act.put, List.setIfInBounds_toArray, List.set_cons_zero, List.set_cons_succ]) | (refine T_load (by assumption) (by rfl) (by rfl) (fun _ _ _ _ h => h) rfl rfl (by assumption) (by first | exact (fun hn => hn) | assumption) ?_; try simp only [Act.put, List.setIfInBounds_toArray, List.set_cons_zero, List.set_cons_succ]) | (refine T_nil (by rfl) (by rfl) (fun _ _ _ _ h => h) rfl rfl ?_; try simp only [Act.put, List.setIfInBounds_toArray, List.set_cons_zero, List.set_cons_succ]) | (refine T_quietN (by rfl) (by rfl) (by rfl) (by rfl) (fun _ _ _ _ h => h) (fun K hK => ?_); go_big_quiet_op; refine hK _ ?_; clear hK K) | (refine T_two (by rfl) (by rfl) (by rfl) (by rfl) (fun _ _ _ _ h => h) (fun K hK => ?_); go_big_quiet_op; refine ⟨_, fun _ _ => rfl, ?_⟩; refine hK _ ?_; clear hK K; try simp only [Act.put, List.setIfInBounds_toArray, List.set_cons_zero, List.set_cons_succ]) | fail)
          refine T_loadA (cs := [.int .i64 ob.cls, .slice Av ob.slots.length nn, .slice D ob.bytes.length mm]) ag_obj (by rfl) (by rfl) (fun _ _ _ _ h => h) rfl rfl rfl (show ∀ j u, _ → wA.drew.cell? _ = some u from HOB.out) n4 ?_
          try simp only [Act.put, List.setIfInBounds_toArray, List.set_cons_zero, List.set_cons_succ]
          (refine T_call (by rfl) (by rfl) (fun K hK => ?_); go_wp2_with fail)
          refine (ocopy_calls (fun b => S b ∧ b < w.heap.size) [.int .i64 ob.cls, .slice Av ob.slots.length nn, .slice D ob.bytes.length mm] ob wA.drew hob (by have := hsm.1; omega)).mono ?_
          rintro e wB ⟨csB, rfl, hownB, hfB⟩
          (refine hK.out _ _ ((hfB.mono (fun _ _ hn => hn.elim))) ?_; clear hK K; try simp only [Act.put, List.setIfInBounds_toArray, List.set_cons_zero, List.set_cons_succ])
          obtain ⟨A2, c2, D2, d2, rfl⟩ := hownB.lit5
          have hocB := hownB.rd (by have := hsm.1; omega) (by have := hsm.2; omega)
          have hzB := hfB.size
          have hdz : wA.drew.heap.size = wA.heap.size := rfl
          rw [hdz] at hzB hocB
          have hocB := hocB.lt
          repeat (first | (refine T_skip (by rfl) (by rfl) (fun _ _ _ h => h) ?_; try simp only [Act.put, List.setIfInBounds_toArray, List.set_cons_zero, List.set_cons_succ]) | (refine T_pass (by rfl) (by rfl) ?_; try simp only [Act.put, List.setIfInBounds_toArray, List.set_cons_zero, List.set_cons_succ]) | (refine T_load (by assumption) (by rfl) (by rfl) (fun _ _ _ _ h => h) rfl rfl (by assumption) (by first | exact (fun hn => hn) | assumption) ?_; try simp only [Act.put, List.setIfInBounds_toArray, List.set_cons_zero, List.set_cons_succ]) | (refine T_nil (by rfl) (by rfl) (fun _ _ _ _ h => h) rfl rfl ?_; try simp only [Act.put, List.setIfInBounds_toArray, List.set_cons_zero, List.set_cons_succ]) | (refine T_quietN (by rfl) (by rfl) (by rfl) (by rfl) (fun _ _ _ _ h => h) (fun K hK => ?_); go_big_quiet_op; refine hK _ ?_; clear hK K) | (refine T_two (by rfl) (by rfl) (by rfl) (by rfl) (fun _ _ _ _ h => h) (fun K hK => ?_); go_big_quiet_op; refine ⟨_, fun _ _ => rfl, ?_⟩; refine hK _ ?_; clear hK K; try simp only [Act.put, List.setIfInBounds_toArray, List.set_cons_zero, List.set_cons_succ]) | fail)
          have hfAB : Fr No wA wB := (Fr.refl No wA).drew.tr hfB
          refine T_call (by rfl) (by rfl) (fun K hK => ?_)
          refine wp_buildOne so_ver (by decide) [.int .i64 com, .bool gone, .int .i64 ob.cls, .slice A2 ob.slots.length c2, .slice D2 ob.bytes.length d2] rfl rfl rfl ?_
          (refine hK.out _ _ (((Fr.refl _ _).alloc _)) ?_; clear hK K; try simp only [Act.put, List.setIfInBounds_toArray, List.set_cons_zero, List.set_cons_succ])
          refine T_call (by rfl) (by rfl) (fun K hK => ?_)
          refine wp_app_at so_ver (own_fr0 hown0 (hfAB.alloc (.cells ([.int .i64 com, .bool gone, .int .i64 ob.cls, .slice A2 ob.slots.length c2, .slice D2 ob.bytes.length d2]).toArray tVer))) ((Blk.new _ _ _).rd (size := 5) (n := 1) (by rfl) (by decide)) (one5 rfl rfl rfl rfl rfl) (by omega) (by simp) rfl rfl rfl ?_
          intro v5 w5 hown5 hg5 hat5
          refine hK.out _ _ ((Fr.refl _ _).grown hg5 (fun q hq => .inr hq)) ?_
          clear hK K
          try simp only [Act.put, List.setIfInBounds_toArray, List.set_cons_zero, List.set_cons_succ]
          have hfC : Fr No wA (wB.alloc (.cells ([.int .i64 com, .bool gone, .int .i64 ob.cls, .slice A2 ob.slots.length c2, .slice D2 ob.bytes.length d2]).toArray tVer)) := hfAB.alloc _
          have hzC : (wB.alloc (.cells ([.int .i64 com, .bool gone, .int .i64 ob.cls, .slice A2 ob.slots.length c2, .slice D2 ob.bytes.length d2]).toArray tVer)).heap.size = wB.heap.size + 1 := by simp
          have hfD : Fr (fun b => v0.ownBlock = some b) (wB.alloc (.cells ([.int .i64 com, .bool gone, .int .i64 ob.cls, .slice A2 ob.slots.length c2, .slice D2 ob.bytes.length d2]).toArray tVer)) w5 := (Fr.refl _ _).grown hg5 (fun q hq => .inr hq)
          have hfBC : Fr No wB (wB.alloc (.cells ([.int .i64 com, .bool gone, .int .i64 ob.cls, .slice A2 ob.slots.length c2, .slice D2 ob.bytes.length d2]).toArray tVer)) := (Fr.refl No wB).alloc _
          generalize hwC : wB.alloc (.cells ([.int .i64 com, .bool gone, .int .i64 ob.cls, .slice A2 ob.slots.length c2, .slice D2 ob.bytes.length d2]).toArray tVer) = wC at *
          clear hwC
          have hfAD : Fr (fun b => v0.ownBlock = some b) wA w5 := (hfC.mono (fun _ _ hn => hn.elim)).trans hfD (fun b _ hT => hT)
          have hm5 := hP.vers.fr hfAD n1
          refine T_turn No [] (by rfl) (by rfl) (by rfl) (fun K hK => ?_)
          refine wp_putM (x := oop) (u := v5) rfl Try.underlying56 hm5 rfl (by unfold maxLen; omega) rfl hw64 rfl ?_
          intro w6 hm6 hg6
          refine hK.out _ _ ?_
          clear hK K
          refine T_done ?_
          clear z0 z1 zf0 zf1 y0 y1 y2 y3 y4 yf0 yf1 yf2 yf3 yf4 x0 x1 x2 x3 xf0 xf1 xf2 xf3
          have hf6 : Fr (fun b => b = mb) w5 w6 := (Fr.refl _ w5).grown hg6 (fun q hq => by injection hq with hq; exact .inr hq.symm)
          have hf06 : Fr (fun b => b = mb ∨ v0.ownBlock = some b) wA w6 := (hfAD.mono (fun b _ h => .inr h)).trans hf6 (fun b _ h => .inl h)
          have hplA : p < wA.heap.size := hbT.lt
          have hbX6 : Blk w6 w.heap.size 29 _ := hbxk.fr hf06 (fun hh => by
            rcases hh with hh | hh
            · rcases hT' _ i2 with h9 | h9
              · have := hTl _ h9; omega
              · omega
            · exact n3 hh)
          have hbO6 : Blk w6 wr.heap.size 62 _ := hbO.fr hf06 (fun hh => by
            rcases hh with hh | hh
            · have := hTlt _ i2; omega
            · exact n4 hh)
          have hbT6 := hbT.fr hf06 (fun hh => by
            rcases hh with hh | hh
            · exact i4 hh
            · exact n2 hh)
          have hw6 := hP.when.fr hf06 (fun hh => by
            rcases hh with hh | hh
            · exact i6 hh.symm
            · exact n5 hh)
          (have z0 := hbX6.cell 0; have z1 := hbX6.cell 1; have zf0 := hbX6.frozen 0; have zf1 := hbX6.frozen 1; simp only [List.getElem?_toArray, List.getElem?_cons_zero, List.getElem?_cons_succ] at z0 z1)
          (have y0 := hbO6.cell 0; have y1 := hbO6.cell 1; have y2 := hbO6.cell 2; have y3 := hbO6.cell 3; have y4 := hbO6.cell 4; have yf0 := hbO6.frozen 0; have yf1 := hbO6.frozen 1; have yf2 := hbO6.frozen 2; have yf3 := hbO6.frozen 3; have yf4 := hbO6.frozen 4; simp only [List.getElem?_toArray, List.getElem?_cons_zero, List.getElem?_cons_succ] at y0 y1 y2 y3 y4)
          (have x0 := hbT6.cell 0; have x1 := hbT6.cell 1; have x2 := hbT6.cell 2; have x3 := hbT6.cell 3; have xf0 := hbT6.frozen 0; have xf1 := hbT6.frozen 1; have xf2 := hbT6.frozen 2; have xf3 := hbT6.frozen 3; simp only [List.getElem?_toArray, List.getElem?_cons_zero, List.getElem?_cons_succ] at x0 x1 x2 x3)
          go_wp2_with fail
          refine T_begin2 No [8] [0, 1, 2, 3, 4, 5, 6, 7, 8] [8] (by kernel_rfl) (by kernel_rfl) ?_
          simp only [pickOps, List.filterMap_cons, List.filterMap_nil, List.getElem?_cons_zero, List.getElem?_cons_succ, Act.put]
          repeat (first | (refine T_skip (by rfl) (by rfl) (fun _ _ _ h => h) ?_; try simp only [Act.put, List.setIfInBounds_toArray, List.set_cons_zero, List.set_cons_succ]) | (refine T_pass (by rfl) (by rfl) ?_; try simp only [Act.put, List.setIfInBounds_toArray, List.set_cons_zero, List.set_cons_succ]) | (refine T_load (by assumption) (by rfl) (by rfl) (fun _ _ _ _ h => h) rfl rfl (by assumption) (by first | exact (fun hn => hn) | assumption) ?_; try simp only [Act.put, List.setIfInBounds_toArray, List.set_cons_zero, List.set_cons_succ]) | (refine T_nil (by rfl) (by rfl) (fun _ _ _ _ h => h) rfl rfl ?_; try simp only [Act.put, List.setIfInBounds_toArray, List.set_cons_zero, List.set_cons_succ]) | (refine T_quietN (by rfl) (by rfl) (by rfl) (by rfl) (fun _ _ _ _ h => h) (fun K hK => ?_); go_big_quiet_op; refine hK _ ?_; clear hK K) | (refine T_two (by rfl) (by rfl) (by rfl) (by rfl) (fun _ _ _ _ h => h) (fun K hK => ?_); go_big_quiet_op; refine ⟨_, fun _ _ => rfl, ?_⟩; refine hK _ ?_; clear hK K; try simp only [Act.put, List.setIfInBounds_toArray, List.set_cons_zero, List.set_cons_succ]) | fail)
          refine T_turn No [] (by rfl) (by rfl) (by rfl) (fun K hK => ?_)
          refine wp_putM (x := oop) (u := .int .i64 com) rfl Try.underlying57 (show MapV w6.drew wb tk.n g from hw6) rfl (by unfold maxLen; omega) rfl hw64 rfl ?_
          intro w7 hm7 hg7
          refine hK.out _ _ ?_
          clear hK K
          refine T_done ?_
          have hf7 : Fr (fun b => b = wb) w6 w7 := ((Fr.refl (fun b => b = wb) w6).drew).grown hg7 (fun q hq => by injection hq with hq; exact .inr hq.symm)
          have hz7 : w5.heap.size ≤ w7.heap.size := Nat.le_trans hf6.size hf7.size
          have hzD5 := hfD.size
          have hF7 : Fr (fun b => b = mb ∨ b = wb ∨ v0.ownBlock = some b) wA w7 := (hf06.mono (fun b _ h => h.elim .inl (fun h => .inr (.inr h)))).trans hf7 (fun b _ h => .inr (.inl h))
          have hlt5 : ∀ b, v5.ownBlock = some b → v0.ownBlock = some b ∨ wC.heap.size ≤ b ∧ b < w5.heap.size := fun b hb => by
            rcases hat5 with h3 | h3
            · exact .inl (h3 ▸ hb)
            · rw [h3] at hb
              injection hb with hb
              exact .inr ⟨by omega, hb ▸ (hown5.lt _ h3).2⟩
          have hstep := hP.step (com := com) (c := ⟨oop, gone, ob⟩) (v' := v5) (w' := w7) (xs' := xs ++ [.int .i64 com, .bool gone, .int .i64 ob.cls, .slice A2 ob.slots.length c2, .slice D2 ob.bytes.length d2]) (O' := fun b => O' b ∨ wA.heap.size ≤ b ∧ b < wB.heap.size) (R := fun b => v0.ownBlock = some b) hw64
            hF7 (fun b hb => (HVB.out b hb).2) (hm6.fr hf7 i6) hm7
            (own_fr (own_fr hown5 hf6 (fun b hb e => by
              subst e
              rcases hlt5 _ hb with h9 | h9
              · exact n1 h9
              · have := hTlt _ i2; omega)) hf7 (fun b hb e => by
              subst e
              rcases hlt5 _ hb with h9 | h9
              · exact n5 h9
              · have := hTlt _ i3; omega))
            ?_ (fun b hb => by
              rcases hlt5 b hb with h9 | h9
              · exact .inl (HVB.out b h9).2
              · exact .inr (by omega)) (fun b hb => .inl hb) (fun b hb => by
              rcases hb with hb | hb
              · exact .inl hb
              · exact .inr (by omega)) (fun b hb e => by
              rcases hb with hb | hb
              · rcases hlt5 b e with h9 | h9
                · exact (hP.off b (HVB.out b h9).1.1).2 hb
                · have := hOlt b hb; omega
              · rcases hlt5 b e with h9 | h9
                · have := hTlt b (HVB.out b h9).1.1; omega
                · omega)
          · clear z0 z1 zf0 zf1 y0 y1 y2 y3 y4 yf0 yf1 yf2 yf3 yf4 x0 x1 x2 x3 xf0 xf1 xf2 xf3
            go_wp2_with fail
            go_roundw
            case rel =>
              refine ⟨k + 1, _, _, by omega, by go_num, by rw [HTk.out, HT.out]; exact ⟨mb, wb, _, _, hstep⟩, ?_, ?_, ?_⟩
              · intro b hb
                rcases hb with hb | hb
                · exact hT' b hb
                · rcases hlt5 b hb with h9 | h9
                  · exact hT' b (HVB.out b h9).1.1
                  · exact .inr (by omega)
              · intro b hb
                rcases hb with hb | hb
                · exact hO' b hb
                · exact .inr (by omega)
              · refine (hf.trans (hfo.mono (fun _ _ hn => hn.elim)) (fun b _ h => h)).trans hF7 (fun b hb hT => ?_)
                have key : T' b → T b := fun h9 => (hT' b h9).resolve_right (by omega)
                rcases hT with hT | hT | hT
                · exact key (hT ▸ i2)
                · exact key (hT ▸ i3)
                · exact key (HVB.out b hT).1.1
            case measure => simp [intOf]; omega
          · have k1 : ∀ b, wA.heap.size ≤ b → ¬ v0.ownBlock = some b := fun b hb e => by have := hTlt b (HVB.out b e).1.1; omega
            have hF57 : Fr (fun b => b = mb ∨ b = wb) w5 w7 := (hf6.mono (fun b _ h => .inl h)).trans hf7 (fun b _ h => .inr h)
            have h1 : ObjC w7 (fun b => O' b ∨ wA.heap.size ≤ b ∧ b < wB.heap.size) [.int .i64 ob.cls, .slice A2 ob.slots.length c2, .slice D2 ob.bytes.length d2] ob :=
              (((hocB.fr0 hfBC).keep hfD (fun b hb e => k1 b hb.1 e)).keep hF57 (fun b hb e => by
                rcases e with e | e
                · have := hTlt _ i2; have := hb.1; omega
                · have := hTlt _ i3; have := hb.1; omega)).mono (fun b _ hb => .inr hb)
            have h2 := (hxs0.keep hF7 (fun b hb e => by
              rcases e with e | e | e
              · exact (hP.off _ i2).2 (e ▸ hb)
              · exact (hP.off _ i3).2 (e ▸ hb)
              · exact (hP.off b (HVB.out b e).1.1).2 hb)).mono (T := fun b => O' b ∨ wA.heap.size ≤ b ∧ b < wB.heap.size) (fun b _ hb => .inl hb)
            obtain ⟨A', c', D', d', e, r1, r2⟩ := h1
            injection e with _ e
            injection e with e1 e
            injection e with e2 _
            injection e1 with e11 _ e13
            injection e2 with e21 _ e23
            subst e11 e13 e21 e23
            exact ChsC.snoc (show ChC w7 (fun b => O' b ∨ wA.heap.size ≤ b ∧ b < wB.heap.size) [.int .i64 com, .bool gone, .int .i64 ob.cls, .slice A2 ob.slots.length c2, .slice D2 ob.bytes.length d2] ⟨com, gone, ob⟩ from ⟨A2, c2, D2, d2, rfl, r1, r2⟩) h2
        · obtain rfl : k = chs.length := by omega
          have ek : decide ((chs.length : Int) < chs.length) = false := by simp
          rw [List.take_length] at hTk
          obtain ⟨mb1, wb1, hbk1⟩ := hTk.blk
          (have y0 := hbR.cell 0; have y1 := hbR.cell 1; have yf0 := hbR.frozen 0; have yf1 := hbR.frozen 1; simp only [List.getElem?_toArray, List.getElem?_cons_zero, List.getElem?_cons_succ] at y0 y1)
          (have x0 := hbk1.cell 0; have x1 := hbk1.cell 1; have x2 := hbk1.cell 2; have x3 := hbk1.cell 3; have xf0 := hbk1.frozen 0; have xf1 := hbk1.frozen 1; have xf2 := hbk1.frozen 2; have xf3 := hbk1.frozen 3; simp only [List.getElem?_toArray, List.getElem?_cons_zero, List.getElem?_cons_succ] at x0 x1 x2 x3)
          have hT9 := hTk.relast com
          have hTp' := hTk.lt.2.2
          have hfz : Fr T wr (wr.setCell ⟨p, 1, none⟩ (.int .i64 com)) := (Fr.refl T wr).set (p := ⟨p, 1, none⟩) (.inr hTp) _
          go_wp2
          go_ret
          refine ⟨by rw [HM.out]; rfl, T', O', by rw [HM.out]; exact hT9, fun b hb => ?_, fun b hb => ?_, ?_⟩
          · rcases hT' b hb with h9 | h9
            · exact .inl h9
            · exact .inr (by omega)
          · rcases hO' b hb with h9 | h9
            · exact .inl h9
            · exact .inr (by omega)
          · exact ((hFD.mono (fun _ _ hn => hn.elim)).trans hf (fun b _ h => h)).trans hfz (fun b _ h => h)
end Go.Proofs.Ytifcnjebepipnaa
