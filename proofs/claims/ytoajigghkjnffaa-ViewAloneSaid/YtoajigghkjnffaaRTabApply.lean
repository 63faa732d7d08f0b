/- The reference's Apply. No condition but size. -/
import Derived.Test.YtoajigghkjnffaaRTab
namespace Go.Proofs.Ytoajigghkjnffaa
set_option linter.unusedVariables false
set_option linter.unusedSimpArgs false
open Go.RowKit

def RApplyR (w : World) (T O : Nat → Prop) (q : Nat) (t : RTabM) (r : RecM) (e : Ending) (w' : World) : Prop :=
  e = .returned (.int .i64 (rapplyM t r).2) ∧ ∃ T' O' : Nat → Prop, RTabAt w' T' O' q (rapplyM t r).1 ∧ (∀ b, T' b → T b ∨ w.heap.size ≤ b) ∧ (∀ b, O' b → O b ∨ w.heap.size ≤ b) ∧ Fr T w w'
theorem map_snocW (com : Int) (l : List ChM) (c : ChM) (W : List (Int × Int)) : W ++ (l ++ [c]).map (fun c => (c.oop, com)) = (W ++ l.map (fun c => (c.oop, com))) ++ [(c.oop, com)] := by simp
theorem one2 {a b : Value} (h1 : a.oneCell' = true) (h2 : b.oneCell' = true) : ∀ u ∈ [a, b], u.oneCell' = true := by
  intro u hu
  simp only [List.mem_cons, List.not_mem_nil, or_false] at hu
  rcases hu with rfl | rfl <;> assumption
set_option maxHeartbeats 4000000 in
set_option maxRecDepth 100000 in
theorem rapply_calls (w : World) (T O S : Nat → Prop) (q : Nat) (t : RTabM) (cs : List Value) (r : RecM) (h : RTabAt w T O q t) (hr : RecC w S cs r) (hS : ∀ b, S b → ¬ T b) (hn : t.l.length ≤ 1000000) (hn2 : t.w.length ≤ 900000) :
    Calls Try.prog 41 #[.pointer (some ⟨q, 0, none⟩), .agg cs.toArray] w fun e w' => RApplyR w T O q t r e w' := by
  obtain ⟨com, chs⟩ := r
  have hr := hr.lt
  obtain ⟨A0, c0, rfl, hch⟩ := hr
  simp only at hch
  have g1 := plain_i64
  have g2 := plain_lval
  have g3 := plain_lu8
  have g4 := plain_bool
  have g5 := plain_lchr
  have g6 := plain_lwhen
  have g7 := plain_lrecr
  obtain ⟨hTl, hOl, hTq⟩ := h.lt
  have hql := hTl q hTq
  have hf1 : Fr No w (w.alloc (.cells #[.int .i64 com, .slice A0 chs.length c0] tRecr)) := (Fr.refl No w).alloc _
  have hbx := Blk.new w tRecr #[.int .i64 com, .slice A0 chs.length c0]
  have hz1 : w.heap.size < (w.alloc (.cells #[.int .i64 com, .slice A0 chs.length c0] tRecr)).heap.size := by simp
  have hrc : RecC (w.alloc (.cells #[.int .i64 com, .slice A0 chs.length c0] tRecr)) (fun b => S b ∧ b < w.heap.size) [.int .i64 com, .slice A0 chs.length c0] ⟨com, chs⟩ := RecC.fr0 ⟨A0, c0, rfl, hch⟩ hf1
  have hbxa := hbx.all
  go_enter Try.func41, Try.ntmps41
  go_wp2_with (first
    | (refine wpList_ldA ag_recr rfl _ rfl ⟨w.heap.size, 0, none⟩ [.int .i64 com, .slice A0 chs.length c0] rfl rfl hbxa ?_)
    | fail)
  refine (refrightr_calls _ _ ⟨com, chs⟩ _ hrc).mono ?_
  rintro e w2 ⟨rfl, hf2⟩
  have hF2 := hf1.tr hf2
  have hb2 := hbx.fr0 hf2
  have hT2 := h.fr0 hF2
  have hz2 : w.heap.size < w2.heap.size := Nat.lt_of_lt_of_le hz1 hf2.size
  clear hrc hbxa hf1 hbx hz1 hf2
  (have z0 := hb2.cell 0; have z1 := hb2.cell 1; have zf0 := hb2.frozen 0; have zf1 := hb2.frozen 1; simp only [List.getElem?_toArray, List.getElem?_cons_zero, List.getElem?_cons_succ] at z0 z1)
  cases hrr : rightR ⟨com, chs⟩ with
  | false =>
    have HM := Lib.hid (rapplyM_bad (t := t) hrr)
    clear hrr
    go_wp2
    go_ret
    exact ⟨by rw [HM.out]; rfl, T, O, by rw [HM.out]; exact hT2, fun b hb => .inl hb, fun b hb => .inl hb, hF2.mono (fun _ _ hn => hn.elim)⟩
  | true =>
    obtain ⟨Bv, Lv, Wv, hP2⟩ := hT2
    have hbk := hP2.blk
    have q1 := hbk.cell 1
    have q1f := hbk.frozen 1
    simp only [List.getElem?_toArray, List.getElem?_cons_zero, List.getElem?_cons_succ] at q1
    by_cases hold : com ≤ t.en
    · have HM := Lib.hid (rapplyM_old (t := t) hrr hold)
      have ek : decide (com ≤ t.en) = true := by simpa using hold
      clear hrr hold
      go_wp2_with fail
      (refine T_begin No [0, 1, 2, 3, 4, 5, 6] [] (by kernel_rfl) (by kernel_rfl) ?_; simp only [pickOps, List.filterMap_cons, List.filterMap_nil, List.getElem?_cons_zero, List.getElem?_cons_succ, Act.put])
      repeat (first | (refine T_skip (by rfl) (by rfl) (fun _ _ _ h => h) ?_; try simp only [Act.put, List.setIfInBounds_toArray, List.set_cons_zero, List.set_cons_succ]) | (refine T_pass (by rfl) (by rfl) ?_; try simp only [Act.put, List.setIfInBounds_toArray, List.set_cons_zero, List.set_cons_succ]) | (refine T_load (by assumption) (by rfl) (by rfl) (fun _ _ _ _ h => h) rfl rfl (by assumption) (by first | exact (fun hn => hn) | assumption) ?_; try simp only [Act.put, List.setIfInBounds_toArray, List.set_cons_zero, List.set_cons_succ]) | (refine T_nil (by rfl) (by rfl) (fun _ _ _ _ h => h) rfl rfl ?_; try simp only [Act.put, List.setIfInBounds_toArray, List.set_cons_zero, List.set_cons_succ]) | (refine T_quiet (by rfl) (by rfl) (by rfl) (fun _ _ _ _ h => h) (fun K hK => ?_); go_big_quiet_op; refine hK _ ?_; clear hK K) | (refine T_two (by rfl) (by rfl) (by rfl) (by rfl) (fun _ _ _ _ h => h) (fun K hK => ?_); go_big_quiet_op; refine ⟨_, fun _ _ => rfl, ?_⟩; refine hK _ ?_; clear hK K; try simp only [Act.put, List.setIfInBounds_toArray, List.set_cons_zero, List.set_cons_succ]) | fail)
      refine T_done ?_
      go_wp2
      go_ret
      exact ⟨by rw [HM.out]; rfl, T, O, by rw [HM.out]; exact RTabAt.fr0 ⟨Bv, Lv, Wv, hP2⟩ (Fr.refl No w2).drew, fun b hb => .inl hb, fun b hb => .inl hb, hF2.drew.mono (fun _ _ hn => hn.elim)⟩
    · have HM := Lib.hid (rapplyM_yes (t := t) hrr hold)
      have ek : decide (com ≤ t.en) = false := by simpa using hold
      obtain ⟨_, hcom, hlen, hcr⟩ := rightR_four hrr
      simp only at hcom hlen hcr
      have HC := Lib.hid (chsRight_all hcr)
      clear hrr hold hcr
      go_wp2_with fail
      (refine T_begin No [0, 1, 2, 3, 4, 5, 6] [] (by kernel_rfl) (by kernel_rfl) ?_; simp only [pickOps, List.filterMap_cons, List.filterMap_nil, List.getElem?_cons_zero, List.getElem?_cons_succ, Act.put])
      repeat (first | (refine T_skip (by rfl) (by rfl) (fun _ _ _ h => h) ?_; try simp only [Act.put, List.setIfInBounds_toArray, List.set_cons_zero, List.set_cons_succ]) | (refine T_pass (by rfl) (by rfl) ?_; try simp only [Act.put, List.setIfInBounds_toArray, List.set_cons_zero, List.set_cons_succ]) | (refine T_load (by assumption) (by rfl) (by rfl) (fun _ _ _ _ h => h) rfl rfl (by assumption) (by first | exact (fun hn => hn) | assumption) ?_; try simp only [Act.put, List.setIfInBounds_toArray, List.set_cons_zero, List.set_cons_succ]) | (refine T_nil (by rfl) (by rfl) (fun _ _ _ _ h => h) rfl rfl ?_; try simp only [Act.put, List.setIfInBounds_toArray, List.set_cons_zero, List.set_cons_succ]) | (refine T_quiet (by rfl) (by rfl) (by rfl) (fun _ _ _ _ h => h) (fun K hK => ?_); go_big_quiet_op; refine hK _ ?_; clear hK K) | (refine T_two (by rfl) (by rfl) (by rfl) (by rfl) (fun _ _ _ _ h => h) (fun K hK => ?_); go_big_quiet_op; refine ⟨_, fun _ _ => rfl, ?_⟩; refine hK _ ?_; clear hK K; try simp only [Act.put, List.setIfInBounds_toArray, List.set_cons_zero, List.set_cons_succ]) | fail)
      refine T_done ?_
      have hbD : Blk w2.drew w.heap.size tRecr #[.int .i64 com, .slice A0 chs.length c0] := hb2.drew
      have hPD : RTabP w2.drew T O q Bv Lv Wv t := hP2.fr (Fr.refl No w2).drew (fun _ _ hn => hn) (fun _ _ hn => hn)
      have hFD : Fr No w w2.drew := hF2.drew
      have hzD : w.heap.size < w2.drew.heap.size := hz2
      clear hb2 hP2 hF2 hz2 q1 q1f hbk z0 z1 zf0 zf1
      generalize w2.drew = w3 at *
      (have z0 := hbD.cell 0; have z1 := hbD.cell 1; have zf0 := hbD.frozen 0; have zf1 := hbD.frozen 1; simp only [List.getElem?_toArray, List.getElem?_cons_zero, List.getElem?_cons_succ] at z0 z1)
      go_wp2_with fail
      have hfx : Fr No w3 (w3.alloc (.cells #[.int .i64 com, .slice none 0 0] tRecr)) := (Fr.refl No w3).alloc _
      have hbX := Blk.new w3 tRecr #[.int .i64 com, .slice none 0 0]
      have hz4 : (w3.alloc (.cells #[.int .i64 com, .slice none 0 0] tRecr)).heap.size = w3.heap.size + 1 := by simp
      have hb4 := hbD.fr0 hfx
      have hP4 := hPD.fr hfx (fun _ _ hn => hn) (fun _ _ hn => hn)
      have hF4 := hFD.tr hfx
      clear hbD hPD hFD hfx z0 z1 zf0 zf1
      generalize w3.alloc (.cells #[.int .i64 com, .slice none 0 0] tRecr) = w4 at *
      obtain ⟨bx, hbxe⟩ : ∃ bx, bx = w3.heap.size := ⟨_, rfl⟩
      rw [← hbxe] at hbX hz4 hzD ⊢
      clear hbxe
      obtain ⟨j1, j2, j3, j4⟩ := hP4.inT
      obtain ⟨D0, d0, rfl, _, _, hD0⟩ := own_form hP4.wrow
      have HJ3 := Lib.hid j3
      have HJ4 := Lib.hid j4
      have HP4 := Lib.hid hP4
      have hq4 := hP4.blk
      have hw40 := hP4.wrow
      clear hP4 j3 j4 h
      go_wp2_with fail
      go_loopw [6] (fun i wr => ∃ (k : Nat) (A : Option Addr) (c : Nat) (xs : List Value) (D : Option Addr) (d : Nat), k ≤ chs.length ∧ i = .int .i64 (k : Int) ∧ Blk wr bx tRecr #[.int .i64 com, .slice A k c] ∧ wr.ownsRow (bx + 1) tChr 5 (.slice A k c) k xs ∧ ChsC wr (fun b => bx + 1 ≤ b ∧ ¬ (Value.slice A k c).ownBlock = some b ∧ ¬ (Value.slice D (t.w.length + k) d).ownBlock = some b) xs (chs.take k) ∧ Blk wr q 58 #[.int .i64 t.fr, .int .i64 t.en, Bv, Lv, .slice D (t.w.length + k) d] ∧ wr.ownsRow 0 tWhen 2 (.slice D (t.w.length + k) d) (t.w.length + k) (pairs (t.w ++ (chs.take k).map (fun c => (c.oop, com)))) ∧ (∀ b, (Value.slice D (t.w.length + k) d).ownBlock = some b → T b ∧ b ≠ q ∧ ¬ Lv.ownBlock = some b ∨ bx + 1 ≤ b) ∧ (∀ b, (Value.slice A k c).ownBlock = some b → ¬ (Value.slice D (t.w.length + k) d).ownBlock = some b) ∧ Fr (fun b => b = bx ∨ bx + 1 ≤ b ∨ T b ∧ ¬ Lv.ownBlock = some b) w4 wr) (fun i _ => chs.length - (intOf i).toNat)
      case atStart => exact ⟨0, none, 0, [], D0, d0, by omega, rfl, hbX, World.ownsRow_nil _ _ _ _, rfl, hq4, by simpa using hw40, fun b hb => .inl ⟨(HJ3.out b hb).1, (HJ3.out b hb).2, fun e => HJ4.out b e hb⟩, by simp [Value.ownBlock], Fr.refl _ _⟩
      case round =>
        obtain ⟨k, A, c, xs, D, d, hk, rfl, hbXr, hownA, hxs, hbQr, hownD, hDT, hAD, hf⟩ := hrel
        have hszr := hf.size
        have hfW : Fr T w wr := (hF4.mono (fun _ _ hn => hn.elim)).trans hf (fun b hb hT => by
          rcases hT with hT | hT | hT
          · omega
          · omega
          · exact hT.1)
        have hbRr := hb4.fr hf (by
          rintro (hT | hT | hT)
          · omega
          · omega
          · have := hTl _ hT.1; omega)
        by_cases hlt : k < chs.length
        · have ek : decide ((k : Int) < chs.length) = true := by simpa using (by omega : (k : Int) < chs.length)
          have hrd := hch.fr hfW (fun b hb hT => hS b hb.1 hT)
          obtain ⟨ga, of, Av, nn, Dv, mm, rfl, hga, hcell, hsl, hby⟩ := hrd.at_ hlt
          obtain ⟨hoop, hcx⟩ := HC.out _ (List.getElem_mem hlt)
          have hsm := rightC_small hcx
          have HTk := Lib.hid (take_snocC chs k hlt)
          have HTw := Lib.hid (map_snocW com (chs.take k) chs[k] t.w)
          generalize chs[k] = x at *
          obtain ⟨oop, gone, ob⟩ := x
          simp only at hcell hsl hby hsm
          clear hoop hcx
          have hcell' := addr5 _ _ _ hcell
          (have z0 := hbRr.cell 0; have z1 := hbRr.cell 1; have zf0 := hbRr.frozen 0; have zf1 := hbRr.frozen 1; simp only [List.getElem?_toArray, List.getElem?_cons_zero, List.getElem?_cons_succ] at z0 z1)
          go_wp2_with (first
            | (refine wpList_ldA ag_chr rfl _ rfl ⟨ga, of + k * 5, none⟩ _ rfl rfl hcell' ?_)
            | fail)
          have hfo : Fr No wr (wr.alloc (.cells #[.int .i64 oop, .bool gone, .int .i64 ob.cls, .slice Av ob.slots.length nn, .slice Dv ob.bytes.length mm] tChr)) := (Fr.refl No wr).alloc _
          have hbO := Blk.new wr tChr #[.int .i64 oop, .bool gone, .int .i64 ob.cls, .slice Av ob.slots.length nn, .slice Dv ob.bytes.length mm]
          have hzA : wr.heap.size < (wr.alloc (.cells #[.int .i64 oop, .bool gone, .int .i64 ob.cls, .slice Av ob.slots.length nn, .slice Dv ob.bytes.length mm] tChr)).heap.size := by simp
          generalize hwA : wr.alloc (.cells #[.int .i64 oop, .bool gone, .int .i64 ob.cls, .slice Av ob.slots.length nn, .slice Dv ob.bytes.length mm] tChr) = wA at *
          clear hwA z0 z1 zf0 zf1
          have hbRA := hbRr.fr0 hfo
          have hbXA := hbXr.fr0 hfo
          have hbQA := hbQr.fr0 hfo
          have hownAA := own_fr0 hownA hfo
          have hownDA := own_fr0 hownD hfo
          have hob : ObjC wA (fun b => S b ∧ b < w.heap.size) [.int .i64 ob.cls, .slice Av ob.slots.length nn, .slice Dv ob.bytes.length mm] ob := ObjC.fr0 ⟨Av, nn, Dv, mm, rfl, hsl, hby⟩ hfo
          have HOB := Lib.hid (show ∀ j u, [Value.int .i64 ob.cls, .slice Av ob.slots.length nn, .slice Dv ob.bytes.length mm][j]? = some u → wA.cell? ((⟨wr.heap.size, 2, none⟩ : Addr).add j) = some u from addr5 _ _ _ (fun j u hu => by
            have := hbO.all (j + 2) u (by simpa using hu)
            rw [show (⟨wr.heap.size, 0, none⟩ : Addr).add (j + 2) = ⟨wr.heap.size, 2 + j, none⟩ by unfold Addr.add; split <;> simp_all <;> omega] at this
            exact this))
          have HAL := Lib.hid (show ∀ b, (Value.slice A k c).ownBlock = some b → bx + 1 ≤ b ∧ b < wr.heap.size from fun b hb => hownA.lt b hb)
          have HDL := Lib.hid (show ∀ b, (Value.slice D (t.w.length + k) d).ownBlock = some b → b < wr.heap.size ∧ b ≠ q ∧ b ≠ bx ∧ b ≠ w.heap.size from fun b hb => by
            refine ⟨(hownD.lt b hb).2, ?_⟩
            rcases hDT b hb with h9 | h9
            · have := hTl b h9.1; exact ⟨h9.2.1, by omega, by omega⟩
            · omega)
          have n1 : ¬ (Value.slice A k c).ownBlock = some wr.heap.size := fun e => by have := HAL.out _ e; omega
          have n2 : ¬ (Value.slice A k c).ownBlock = some bx := fun e => by have := HAL.out _ e; omega
          have n3 : ¬ (Value.slice A k c).ownBlock = some q := fun e => by have := HAL.out _ e; omega
          have n4 : ¬ (Value.slice A k c).ownBlock = some w.heap.size := fun e => by have := HAL.out _ e; omega
          have m1 : ¬ (Value.slice D (t.w.length + k) d).ownBlock = some wr.heap.size := fun e => by have := HDL.out _ e; omega
          have m2 : ¬ (Value.slice D (t.w.length + k) d).ownBlock = some bx := fun e => (HDL.out _ e).2.2.1 rfl
          have m3 : ¬ (Value.slice D (t.w.length + k) d).ownBlock = some q := fun e => (HDL.out _ e).2.1 rfl
          have m4 : ¬ (Value.slice D (t.w.length + k) d).ownBlock = some w.heap.size := fun e => (HDL.out _ e).2.2.2 rfl
          (have z0 := hbXA.cell 0; have z1 := hbXA.cell 1; have zf0 := hbXA.frozen 0; have zf1 := hbXA.frozen 1; simp only [List.getElem?_toArray, List.getElem?_cons_zero, List.getElem?_cons_succ] at z0 z1)
          (have y0 := hbO.cell 0; have y1 := hbO.cell 1; have y2 := hbO.cell 2; have y3 := hbO.cell 3; have y4 := hbO.cell 4; have yf0 := hbO.frozen 0; have yf1 := hbO.frozen 1; have yf2 := hbO.frozen 2; have yf3 := hbO.frozen 3; have yf4 := hbO.frozen 4; simp only [List.getElem?_toArray, List.getElem?_cons_zero, List.getElem?_cons_succ] at y0 y1 y2 y3 y4)
          refine T_begin2 (fun b => (Value.slice A k c).ownBlock = some b) [13] [0, 1, 2, 3, 4, 5, 6, 7, 8, 9, 10, 11, 12, 13] [8, 10, 11, 13] (by kernel_rfl) (by kernel_rfl) ?_
          simp only [pickOps, List.filterMap_cons, List.filterMap_nil, List.getElem?_cons_zero, List.getElem?_cons_succ, Act.put]
          repeat (first | (refine T_skip (by rfl) (by rfl) (fun _ _ _ h => h) ?_; try simp only [Act.put, List.setIfInBounds_toArray, List.set_cons_zero, List.set_cons_succ]) | (refine T_pass (by rfl) (by rfl) ?_; try simp only [Act.put, List.setIfInBounds_toArray, List.set_cons_zero, List.set_cons_succ]) | (refine T_load (by assumption) (by rfl) (by rfl) (fun _ _ _ _ h => h) rfl rfl (by assumption) (by first | exact (fun hn => hn) | assumption) ?_; try simp only [Act.put, List.setIfInBounds_toArray, List.set_cons_zero, List.set_cons_succ]) | (refine T_nil (by rfl) (by rfl) (fun _ _ _ _ h => h) rfl rfl ?_; try simp only [Act.put, List.setIfInBounds_toArray, List.set_cons_zero, List.set_cons_succ]) | (refine T_quietN (by rfl) (by rfl) (by rfl) (by rfl) (fun _ _ _ _ h => h) (fun K hK => ?_); go_big_quiet_op; refine hK _ ?_; clear hK K) | (refine T_two (by rfl) (by rfl) (by rfl) (by rfl) (fun _ _ _ _ h => h) (fun K hK => ?_); go_big_quiet_op; refine ⟨_, fun _ _ => rfl, ?_⟩; refine hK _ ?_; clear hK K; try simp only [Act.put, List.setIfInBounds_toArray, List.set_cons_zero, List.set_cons_succ]) | fail)
          refine T_loadA (cs := [.int .i64 ob.cls, .slice Av ob.slots.length nn, .slice Dv ob.bytes.length mm]) ag_obj (by rfl) (by rfl) (fun _ _ _ _ h => h) rfl rfl rfl (show ∀ j u, _ → wA.drew.cell? _ = some u from HOB.out) n1 ?_
          try simp only [Act.put, List.setIfInBounds_toArray, List.set_cons_zero, List.set_cons_succ]
          (refine T_call (by rfl) (by rfl) (fun K hK => ?_); go_wp2_with fail)
          refine (refcopy_calls (fun b => S b ∧ b < w.heap.size) [.int .i64 ob.cls, .slice Av ob.slots.length nn, .slice Dv ob.bytes.length mm] ob wA.drew hob (by have := hsm.1; omega)).mono ?_
          rintro e wB ⟨csB, rfl, hownB, hfB⟩
          (refine hK.out _ _ ((hfB.mono (fun _ _ hn => hn.elim))) ?_; clear hK K; try simp only [Act.put, List.setIfInBounds_toArray, List.set_cons_zero, List.set_cons_succ])
          obtain ⟨A2, c2, D2, d2, rfl⟩ := hownB.lit5
          have hocB := hownB.rd (by have := hsm.1; omega) (by have := hsm.2; omega)
          have hzB := hfB.size
          have hdz : wA.drew.heap.size = wA.heap.size := rfl
          rw [hdz] at hzB hocB
          have hocB := hocB.lt
          repeat (first | (refine T_skip (by rfl) (by rfl) (fun _ _ _ h => h) ?_; try simp only [Act.put, List.setIfInBounds_toArray, List.set_cons_zero, List.set_cons_succ]) | (refine T_pass (by rfl) (by rfl) ?_; try simp only [Act.put, List.setIfInBounds_toArray, List.set_cons_zero, List.set_cons_succ]) | (refine T_load (by assumption) (by rfl) (by rfl) (fun _ _ _ _ h => h) rfl rfl (by assumption) (by first | exact (fun hn => hn) | assumption) ?_; try simp only [Act.put, List.setIfInBounds_toArray, List.set_cons_zero, List.set_cons_succ]) | (refine T_nil (by rfl) (by rfl) (fun _ _ _ _ h => h) rfl rfl ?_; try simp only [Act.put, List.setIfInBounds_toArray, List.set_cons_zero, List.set_cons_succ]) | (refine T_quietN (by rfl) (by rfl) (by rfl) (by rfl) (fun _ _ _ _ h => h) (fun K hK => ?_); go_big_quiet_op; refine hK _ ?_; clear hK K) | (refine T_two (by rfl) (by rfl) (by rfl) (by rfl) (fun _ _ _ _ h => h) (fun K hK => ?_); go_big_quiet_op; refine ⟨_, fun _ _ => rfl, ?_⟩; refine hK _ ?_; clear hK K; try simp only [Act.put, List.setIfInBounds_toArray, List.set_cons_zero, List.set_cons_succ]) | fail)
          have hfAB : Fr No wA wB := (Fr.refl No wA).drew.tr hfB
          refine T_call (by rfl) (by rfl) (fun K hK => ?_)
          refine wp_buildOne so_chr (by decide) [.int .i64 oop, .bool gone, .int .i64 ob.cls, .slice A2 ob.slots.length c2, .slice D2 ob.bytes.length d2] rfl rfl rfl ?_
          (refine hK.out _ _ (((Fr.refl _ _).alloc _)) ?_; clear hK K; try simp only [Act.put, List.setIfInBounds_toArray, List.set_cons_zero, List.set_cons_succ])
          refine T_call (by rfl) (by rfl) (fun K hK => ?_)
          refine wp_app_at so_chr (own_fr0 hownAA (hfAB.alloc (.cells ([.int .i64 oop, .bool gone, .int .i64 ob.cls, .slice A2 ob.slots.length c2, .slice D2 ob.bytes.length d2]).toArray tChr))) ((Blk.new _ _ _).rd (size := 5) (n := 1) (by rfl) (by decide)) (one5 rfl rfl rfl rfl rfl) (by omega) (by simp; omega) rfl rfl rfl ?_
          intro v5 w5 hown5 hg5 hat5
          refine hK.out _ _ ((Fr.refl _ _).grown hg5 (fun q hq => .inr hq)) ?_
          clear hK K
          try simp only [Act.put, List.setIfInBounds_toArray, List.set_cons_zero, List.set_cons_succ]
          have hfC : Fr No wA (wB.alloc (.cells ([.int .i64 oop, .bool gone, .int .i64 ob.cls, .slice A2 ob.slots.length c2, .slice D2 ob.bytes.length d2]).toArray tChr)) := hfAB.alloc _
          have hzC : (wB.alloc (.cells ([.int .i64 oop, .bool gone, .int .i64 ob.cls, .slice A2 ob.slots.length c2, .slice D2 ob.bytes.length d2]).toArray tChr)).heap.size = wB.heap.size + 1 := by simp
          have hfD : Fr (fun b => (Value.slice A k c).ownBlock = some b) (wB.alloc (.cells ([.int .i64 oop, .bool gone, .int .i64 ob.cls, .slice A2 ob.slots.length c2, .slice D2 ob.bytes.length d2]).toArray tChr)) w5 := (Fr.refl _ _).grown hg5 (fun q hq => .inr hq)
          have hfBC : Fr No wB (wB.alloc (.cells ([.int .i64 oop, .bool gone, .int .i64 ob.cls, .slice A2 ob.slots.length c2, .slice D2 ob.bytes.length d2]).toArray tChr)) := (Fr.refl No wB).alloc _
          generalize hwC : wB.alloc (.cells ([.int .i64 oop, .bool gone, .int .i64 ob.cls, .slice A2 ob.slots.length c2, .slice D2 ob.bytes.length d2]).toArray tChr) = wC at *
          clear hwC z0 z1 zf0 zf1 y0 y1 y2 y3 y4 yf0 yf1 yf2 yf3 yf4
          have hfAD : Fr (fun b => (Value.slice A k c).ownBlock = some b) wA w5 := (hfC.mono (fun _ _ hn => hn.elim)).trans hfD (fun b _ hT => hT)
          have hbX5 := hbXA.fr hfAD n2
          obtain ⟨A3, c3, rfl, hc3, hc3m, hA3⟩ := own_form hown5
          (have z0 := hbX5.cell 0; have z1 := hbX5.cell 1; have zf0 := hbX5.frozen 0; have zf1 := hbX5.frozen 1; simp only [List.getElem?_toArray, List.getElem?_cons_zero, List.getElem?_cons_succ] at z0 z1)
          repeat (first | (refine T_skip (by rfl) (by rfl) (fun _ _ _ h => h) ?_; try simp only [Act.put, List.setIfInBounds_toArray, List.set_cons_zero, List.set_cons_succ]) | (refine T_pass (by rfl) (by rfl) ?_; try simp only [Act.put, List.setIfInBounds_toArray, List.set_cons_zero, List.set_cons_succ]) | (refine T_load (by assumption) (by rfl) (by rfl) (fun _ _ _ _ h => h) rfl rfl (by assumption) (by first | exact (fun hn => hn) | assumption) ?_; try simp only [Act.put, List.setIfInBounds_toArray, List.set_cons_zero, List.set_cons_succ]) | (refine T_nil (by rfl) (by rfl) (fun _ _ _ _ h => h) rfl rfl ?_; try simp only [Act.put, List.setIfInBounds_toArray, List.set_cons_zero, List.set_cons_succ]) | (refine T_quietN (by rfl) (by rfl) (by rfl) (by rfl) (fun _ _ _ _ h => h) (fun K hK => ?_); go_big_quiet_op; refine hK _ ?_; clear hK K) | (refine T_two (by rfl) (by rfl) (by rfl) (by rfl) (fun _ _ _ _ h => h) (fun K hK => ?_); go_big_quiet_op; refine ⟨_, fun _ _ => rfl, ?_⟩; refine hK _ ?_; clear hK K; try simp only [Act.put, List.setIfInBounds_toArray, List.set_cons_zero, List.set_cons_succ]) | fail)
          refine T_turn No [] (by rfl) (by rfl) (by rfl) (fun K hK => ?_)
          go_wp2_with fail
          refine hK.out _ _ ?_
          clear hK K
          refine T_done ?_
          have hfS : Fr (fun b => b = bx) w5 (w5.setCell ⟨bx, 1, none⟩ (.slice A3 (k + 1) c3)) := (Fr.refl (fun b => b = bx) w5).set (p := ⟨bx, 1, none⟩) (.inr rfl) _
          have hbX6 := hbX5.put 1 (.slice A3 (k + 1) c3)
          generalize hw6 : w5.setCell ⟨bx, 1, none⟩ (.slice A3 (k + 1) c3) = w6 at *
          have hf06 : Fr (fun b => b = bx ∨ (Value.slice A k c).ownBlock = some b) wA w6 := (hfAD.mono (fun b _ h => .inr h)).trans hfS (fun b _ h => .inl h)
          have hbR6 := hbRA.fr hf06 (by rintro (h9 | h9); omega; exact n4 h9)
          have hbQ6 := hbQA.fr hf06 (by rintro (h9 | h9); omega; exact n3 h9)
          have hbO6 := hbO.fr hf06 (by rintro (h9 | h9); omega; exact n1 h9)
          have hownD6 := own_fr hownDA hf06 (fun b hb e => by
            rcases e with e | e
            · exact (HDL.out b hb).2.2.1 e
            · exact hAD b e hb)
          clear z0 z1 zf0 zf1
          clear hw6
          have hbX6 : Blk w6 bx tRecr #[.int .i64 com, .slice A3 (k + 1) c3] := hbX6
          (have z0 := hbR6.cell 0; have z1 := hbR6.cell 1; have zf0 := hbR6.frozen 0; have zf1 := hbR6.frozen 1; simp only [List.getElem?_toArray, List.getElem?_cons_zero, List.getElem?_cons_succ] at z0 z1)
          (have y0 := hbO6.cell 0; have y1 := hbO6.cell 1; have y2 := hbO6.cell 2; have y3 := hbO6.cell 3; have y4 := hbO6.cell 4; have yf0 := hbO6.frozen 0; have yf1 := hbO6.frozen 1; have yf2 := hbO6.frozen 2; have yf3 := hbO6.frozen 3; have yf4 := hbO6.frozen 4; simp only [List.getElem?_toArray, List.getElem?_cons_zero, List.getElem?_cons_succ] at y0 y1 y2 y3 y4)
          (have x0 := hbQ6.cell 0; have x1 := hbQ6.cell 1; have x2 := hbQ6.cell 2; have x3 := hbQ6.cell 3; have x4 := hbQ6.cell 4; have xf0 := hbQ6.frozen 0; have xf1 := hbQ6.frozen 1; have xf2 := hbQ6.frozen 2; have xf3 := hbQ6.frozen 3; have xf4 := hbQ6.frozen 4; simp only [List.getElem?_toArray, List.getElem?_cons_zero, List.getElem?_cons_succ] at x0 x1 x2 x3 x4)
          go_wp2_with fail
          refine T_begin2 (fun b => (Value.slice D (t.w.length + k) d).ownBlock = some b) [14] [0, 1, 2, 3, 4, 5, 6, 7, 8, 9, 10, 11, 12, 13, 14] [10, 11, 14] (by kernel_rfl) (by kernel_rfl) ?_
          simp only [pickOps, List.filterMap_cons, List.filterMap_nil, List.getElem?_cons_zero, List.getElem?_cons_succ, Act.put]
          repeat (first | (refine T_skip (by rfl) (by rfl) (fun _ _ _ h => h) ?_; try simp only [Act.put, List.setIfInBounds_toArray, List.set_cons_zero, List.set_cons_succ]) | (refine T_pass (by rfl) (by rfl) ?_; try simp only [Act.put, List.setIfInBounds_toArray, List.set_cons_zero, List.set_cons_succ]) | (refine T_load (by assumption) (by rfl) (by rfl) (fun _ _ _ _ h => h) rfl rfl (by assumption) (by first | exact (fun hn => hn) | assumption) ?_; try simp only [Act.put, List.setIfInBounds_toArray, List.set_cons_zero, List.set_cons_succ]) | (refine T_nil (by rfl) (by rfl) (fun _ _ _ _ h => h) rfl rfl ?_; try simp only [Act.put, List.setIfInBounds_toArray, List.set_cons_zero, List.set_cons_succ]) | (refine T_quietN (by rfl) (by rfl) (by rfl) (by rfl) (fun _ _ _ _ h => h) (fun K hK => ?_); go_big_quiet_op; refine hK _ ?_; clear hK K) | (refine T_two (by rfl) (by rfl) (by rfl) (by rfl) (fun _ _ _ _ h => h) (fun K hK => ?_); go_big_quiet_op; refine ⟨_, fun _ _ => rfl, ?_⟩; refine hK _ ?_; clear hK K; try simp only [Act.put, List.setIfInBounds_toArray, List.set_cons_zero, List.set_cons_succ]) | fail)
          refine T_call (by rfl) (by rfl) (fun K hK => ?_)
          refine wp_buildOne so_when (by decide) [.int .i64 oop, .int .i64 com] rfl rfl rfl ?_
          (refine hK.out _ _ (((Fr.refl _ _).alloc _)) ?_; clear hK K; try simp only [Act.put, List.setIfInBounds_toArray, List.set_cons_zero, List.set_cons_succ])
          refine T_call (by rfl) (by rfl) (fun K hK => ?_)
          refine wp_app_at so_when (own_fr0 hownD6 ((Fr.refl No w6).drew.alloc (.cells ([Value.int .i64 oop, .int .i64 com]).toArray tWhen))) ((Blk.new _ _ _).rd (size := 2) (n := 1) (by rfl) (by decide)) (one2 rfl rfl) (by omega) (by simp) rfl rfl rfl ?_
          intro v8 w8 hown8 hg8 hat8
          refine hK.out _ _ ((Fr.refl _ _).grown hg8 (fun q hq => .inr hq)) ?_
          clear hK K
          try simp only [Act.put, List.setIfInBounds_toArray, List.set_cons_zero, List.set_cons_succ]
          have hf68 : Fr (fun b => (Value.slice D (t.w.length + k) d).ownBlock = some b) w6 w8 := (((Fr.refl (fun b => (Value.slice D (t.w.length + k) d).ownBlock = some b) w6).drew).alloc (.cells ([Value.int .i64 oop, .int .i64 com]).toArray tWhen)).grown hg8 (fun q hq => .inr hq)
          have hz68 : w6.heap.size + 1 = (w6.drew.alloc (.cells ([Value.int .i64 oop, .int .i64 com]).toArray tWhen)).heap.size := by simp
          have hbQ8 := hbQ6.fr hf68 m3
          obtain ⟨D3, d3, rfl, hd3, hd3m, hD3⟩ := own_form hown8
          clear x0 x1 x2 x3 x4 xf0 xf1 xf2 xf3 xf4
          (have x0 := hbQ8.cell 0; have x1 := hbQ8.cell 1; have x2 := hbQ8.cell 2; have x3 := hbQ8.cell 3; have x4 := hbQ8.cell 4; have xf0 := hbQ8.frozen 0; have xf1 := hbQ8.frozen 1; have xf2 := hbQ8.frozen 2; have xf3 := hbQ8.frozen 3; have xf4 := hbQ8.frozen 4; simp only [List.getElem?_toArray, List.getElem?_cons_zero, List.getElem?_cons_succ] at x0 x1 x2 x3 x4)
          repeat (first | (refine T_skip (by rfl) (by rfl) (fun _ _ _ h => h) ?_; try simp only [Act.put, List.setIfInBounds_toArray, List.set_cons_zero, List.set_cons_succ]) | (refine T_pass (by rfl) (by rfl) ?_; try simp only [Act.put, List.setIfInBounds_toArray, List.set_cons_zero, List.set_cons_succ]) | (refine T_load (by assumption) (by rfl) (by rfl) (fun _ _ _ _ h => h) rfl rfl (by assumption) (by first | exact (fun hn => hn) | assumption) ?_; try simp only [Act.put, List.setIfInBounds_toArray, List.set_cons_zero, List.set_cons_succ]) | (refine T_nil (by rfl) (by rfl) (fun _ _ _ _ h => h) rfl rfl ?_; try simp only [Act.put, List.setIfInBounds_toArray, List.set_cons_zero, List.set_cons_succ]) | (refine T_quietN (by rfl) (by rfl) (by rfl) (by rfl) (fun _ _ _ _ h => h) (fun K hK => ?_); go_big_quiet_op; refine hK _ ?_; clear hK K) | (refine T_two (by rfl) (by rfl) (by rfl) (by rfl) (fun _ _ _ _ h => h) (fun K hK => ?_); go_big_quiet_op; refine ⟨_, fun _ _ => rfl, ?_⟩; refine hK _ ?_; clear hK K; try simp only [Act.put, List.setIfInBounds_toArray, List.set_cons_zero, List.set_cons_succ]) | fail)
          refine T_turn No [] (by rfl) (by rfl) (by rfl) (fun K hK => ?_)
          go_wp2_with fail
          refine hK.out _ _ ?_
          clear hK K
          refine T_done ?_
          have hf9 : Fr (fun b => b = q) w8 (w8.setCell ⟨q, 4, none⟩ (.slice D3 (t.w.length + k + 1) d3)) := (Fr.refl (fun b => b = q) w8).set (p := ⟨q, 4, none⟩) (.inr rfl) _
          have hbQ9 := hbQ8.put 4 (.slice D3 (t.w.length + k + 1) d3)
          generalize hw9 : w8.setCell ⟨q, 4, none⟩ (.slice D3 (t.w.length + k + 1) d3) = w9 at *
          clear hw9 z0 z1 zf0 zf1 y0 y1 y2 y3 y4 yf0 yf1 yf2 yf3 yf4 x0 x1 x2 x3 x4 xf0 xf1 xf2 xf3 xf4
          have hf69 : Fr (fun b => b = q ∨ (Value.slice D (t.w.length + k) d).ownBlock = some b) w6 w9 := (hf68.mono (fun b _ h => .inr h)).trans hf9 (fun b _ h => .inl h)
          have hA3lt : ∀ b, (Value.slice A3 (k + 1) c3).ownBlock = some b → (Value.slice A k c).ownBlock = some b ∨ wC.heap.size ≤ b ∧ b < w5.heap.size := fun b hb => by
            rcases hat5 with h3 | h3
            · exact .inl (h3 ▸ hb)
            · rw [h3] at hb
              injection hb with hb
              exact .inr ⟨by omega, hb ▸ (hown5.lt _ h3).2⟩
          have hD3lt : ∀ b, (Value.slice D3 (t.w.length + k + 1) d3).ownBlock = some b → (Value.slice D (t.w.length + k) d).ownBlock = some b ∨ w6.heap.size < b ∧ b < w8.heap.size := fun b hb => by
            rcases hat8 with h3 | h3
            · exact .inl (h3 ▸ hb)
            · rw [h3] at hb
              injection hb with hb
              exact .inr ⟨by omega, hb ▸ (hown8.lt _ h3).2⟩
          have hzD5 := hfD.size
          have hz56 := hfS.size
          have hz69 := hf69.size
          have hqB : q < bx := by omega
          have s1 : ∀ b, (Value.slice A3 (k + 1) c3).ownBlock = some b → ¬ (Value.slice D (t.w.length + k) d).ownBlock = some b := fun b hb e => by
            rcases hA3lt b hb with h9 | h9
            · exact hAD b h9 e
            · have := HDL.out b e; omega
          have s2 : ∀ b, (Value.slice A3 (k + 1) c3).ownBlock = some b → ¬ (Value.slice D3 (t.w.length + k + 1) d3).ownBlock = some b := fun b hb e => by
            rcases hD3lt b e with h9 | h9
            · exact s1 b hb h9
            · have := (hown5.lt b hb).2; omega
          have s3 : ∀ b, (Value.slice A3 (k + 1) c3).ownBlock = some b → bx + 1 ≤ b := fun b hb => (hown5.lt b hb).1
          go_wp2_with fail
          go_roundw
          case rel =>
            refine ⟨k + 1, A3, c3, xs ++ [.int .i64 oop, .bool gone, .int .i64 ob.cls, .slice A2 ob.slots.length c2, .slice D2 ob.bytes.length d2], D3, d3, by omega, by go_num, hbX6.fr hf69 (by rintro (h9 | h9); omega; exact m2 h9), ?_, ?_, hbQ9, ?_, ?_, s2, ?_⟩
            · exact own_fr (own_fr hown5 hfS (fun b hb e => by have := s3 b hb; omega)) hf69 (fun b hb e => by
                rcases e with e | e
                · have := s3 b hb; omega
                · exact s1 b hb e)
            · rw [HTk.out]
              have hcell5 : ChC wC (fun b => bx + 1 ≤ b ∧ ¬ (Value.slice A k c).ownBlock = some b ∧ ¬ (Value.slice D (t.w.length + k) d).ownBlock = some b ∧ b < wC.heap.size) [.int .i64 oop, .bool gone, .int .i64 ob.cls, .slice A2 ob.slots.length c2, .slice D2 ob.bytes.length d2] ⟨oop, gone, ob⟩ := by
                have h1 := hocB.fr0 hfBC
                obtain ⟨A', c', D', d', e, r1, r2⟩ := h1
                injection e with _ e
                injection e with e1 e
                injection e with e2 _
                injection e1 with e11 _ e13
                injection e2 with e21 _ e23
                subst e11 e13 e21 e23
                exact ChC.mono (S := fun b => wA.heap.size ≤ b ∧ b < wB.heap.size) ⟨A2, c2, D2, d2, rfl, r1, r2⟩ (fun b _ hb => ⟨by omega, fun e => by have := HAL.out b e; omega, fun e => by have := HDL.out b e; omega, by omega⟩)
              have hxsC : ChsC wC (fun b => bx + 1 ≤ b ∧ ¬ (Value.slice A k c).ownBlock = some b ∧ ¬ (Value.slice D (t.w.length + k) d).ownBlock = some b ∧ b < wC.heap.size) xs (chs.take k) := ((hxs.keep (hfo.tr hfC) (fun _ _ hn => hn)).mono (fun b hl hb => ⟨hb.1, hb.2.1, hb.2.2, hl⟩))
              have h8 := ChsC.snoc hcell5 hxsC
              have h9 := ((h8.keep hfD (fun b hb e => hb.2.1 e)).keep hfS (fun b hb e => by have := hb.1; omega)).keep hf69 (fun b hb e => by
                rcases e with e | e
                · have := hb.1; omega
                · exact hb.2.2.1 e)
              refine h9.mono (fun b _ hb => ⟨hb.1, fun e => ?_, fun e => ?_⟩)
              · rcases hA3lt b e with h7 | h7
                · exact hb.2.1 h7
                · have := hb.2.2.2; omega
              · rcases hD3lt b e with h7 | h7
                · exact hb.2.2.1 h7
                · have := hb.2.2.2; omega
            · rw [HTk.out, HTw.out, pairs_snoc]
              exact own_fr hown8 hf9 (fun b hb e => by
                rcases hD3lt b hb with h7 | h7
                · exact (HDL.out b h7).2.1 e
                · omega)
            · intro b hb
              rcases hD3lt b hb with h7 | h7
              · exact hDT b h7
              · exact .inr (by omega)
            · refine ((hf.trans (hfo.mono (fun _ _ hn => hn.elim)) (fun b _ h => h)).trans hf06 (fun b hb hT => ?_)).trans hf69 (fun b hb hT => ?_)
              · rcases hT with hT | hT
                · exact .inl hT
                · exact .inr (.inl (HAL.out b hT).1)
              · rcases hT with hT | hT
                · exact .inr (.inr (by subst hT; exact ⟨j1, fun e => (j2 _ e).2 rfl⟩))
                · rcases hDT b hT with h9 | h9
                  · exact .inr (.inr ⟨h9.1, h9.2.2⟩)
                  · exact .inr (.inl h9)
          case measure => simp [intOf]; omega
        · obtain rfl : k = chs.length := by omega
          have ek : decide ((chs.length : Int) < chs.length) = false := by simp
          rw [List.take_length] at hxs hownD
          obtain ⟨ys, hownL0, hysO⟩ := HP4.out.lrow
          obtain ⟨L0, l0, rfl, _, _, hL0⟩ := own_form hownL0
          obtain ⟨Ab, cb, hBv, hbase⟩ := HP4.out.base
          have hoffO := fun b (hb : O b) => hOl b hb
          have hTO := fun b (hb : T b) => (HP4.out.off b hb).2
          have HLT := Lib.hid (show ∀ b, (Value.slice L0 t.l.length l0).ownBlock = some b → T b ∧ b ≠ q from j2)
          have hfr : ∀ b, O b → ¬ (b = bx ∨ bx + 1 ≤ b ∨ T b ∧ ¬ (Value.slice L0 t.l.length l0).ownBlock = some b) := fun b hb hT => by
            have := hoffO b hb
            rcases hT with hT | hT | hT
            · omega
            · omega
            · exact hTO b hT.1 hb
          have hownLr := own_fr hownL0 hf (fun b hb hT => by
            have := hTl b (j2 b hb).1
            rcases hT with hT | hT | hT
            · omega
            · omega
            · exact hT.2 hb)
          have hysr := hysO.keep hf hfr
          have hbaser := hbase.fr hf hfr
          have n2 : ¬ (Value.slice L0 t.l.length l0).ownBlock = some bx := fun e => by have := hTl _ (j2 _ e).1; omega
          have n3 : ¬ (Value.slice L0 t.l.length l0).ownBlock = some q := fun e => (j2 _ e).2 rfl
          have n4 : ¬ (Value.slice L0 t.l.length l0).ownBlock = some w.heap.size := fun e => by have := hTl _ (j2 _ e).1; omega
          have hcsX := hbXr.all
          (have z0 := hbRr.cell 0; have z1 := hbRr.cell 1; have zf0 := hbRr.frozen 0; have zf1 := hbRr.frozen 1; simp only [List.getElem?_toArray, List.getElem?_cons_zero, List.getElem?_cons_succ] at z0 z1)
          (have x0 := hbQr.cell 0; have x1 := hbQr.cell 1; have x2 := hbQr.cell 2; have x3 := hbQr.cell 3; have x4 := hbQr.cell 4; have xf0 := hbQr.frozen 0; have xf1 := hbQr.frozen 1; have xf2 := hbQr.frozen 2; have xf3 := hbQr.frozen 3; have xf4 := hbQr.frozen 4; simp only [List.getElem?_toArray, List.getElem?_cons_zero, List.getElem?_cons_succ] at x0 x1 x2 x3 x4)
          go_wp2_with fail
          refine T_begin2 (fun b => (Value.slice L0 t.l.length l0).ownBlock = some b) [10] [0, 1, 2, 3, 4, 5, 6, 7, 8, 9, 10] [6, 7, 10] (by kernel_rfl) (by kernel_rfl) ?_
          simp only [pickOps, List.filterMap_cons, List.filterMap_nil, List.getElem?_cons_zero, List.getElem?_cons_succ, Act.put]
          repeat (first | (refine T_skip (by rfl) (by rfl) (fun _ _ _ h => h) ?_; try simp only [Act.put, List.setIfInBounds_toArray, List.set_cons_zero, List.set_cons_succ]) | (refine T_pass (by rfl) (by rfl) ?_; try simp only [Act.put, List.setIfInBounds_toArray, List.set_cons_zero, List.set_cons_succ]) | (refine T_load (by assumption) (by rfl) (by rfl) (fun _ _ _ _ h => h) rfl rfl (by assumption) (by first | exact (fun hn => hn) | assumption) ?_; try simp only [Act.put, List.setIfInBounds_toArray, List.set_cons_zero, List.set_cons_succ]) | (refine T_nil (by rfl) (by rfl) (fun _ _ _ _ h => h) rfl rfl ?_; try simp only [Act.put, List.setIfInBounds_toArray, List.set_cons_zero, List.set_cons_succ]) | (refine T_quietN (by rfl) (by rfl) (by rfl) (by rfl) (fun _ _ _ _ h => h) (fun K hK => ?_); go_big_quiet_op; refine hK _ ?_; clear hK K) | (refine T_two (by rfl) (by rfl) (by rfl) (by rfl) (fun _ _ _ _ h => h) (fun K hK => ?_); go_big_quiet_op; refine ⟨_, fun _ _ => rfl, ?_⟩; refine hK _ ?_; clear hK K; try simp only [Act.put, List.setIfInBounds_toArray, List.set_cons_zero, List.set_cons_succ]) | fail)
          refine T_loadA (cs := [.int .i64 com, .slice A chs.length c]) ag_recr (by rfl) (by rfl) (fun _ _ _ _ h => h) rfl rfl rfl (show ∀ j u, _ → wr.drew.cell? _ = some u from hcsX) n2 ?_
          try simp only [Act.put, List.setIfInBounds_toArray, List.set_cons_zero, List.set_cons_succ]
          repeat (first | (refine T_skip (by rfl) (by rfl) (fun _ _ _ h => h) ?_; try simp only [Act.put, List.setIfInBounds_toArray, List.set_cons_zero, List.set_cons_succ]) | (refine T_pass (by rfl) (by rfl) ?_; try simp only [Act.put, List.setIfInBounds_toArray, List.set_cons_zero, List.set_cons_succ]) | (refine T_load (by assumption) (by rfl) (by rfl) (fun _ _ _ _ h => h) rfl rfl (by assumption) (by first | exact (fun hn => hn) | assumption) ?_; try simp only [Act.put, List.setIfInBounds_toArray, List.set_cons_zero, List.set_cons_succ]) | (refine T_nil (by rfl) (by rfl) (fun _ _ _ _ h => h) rfl rfl ?_; try simp only [Act.put, List.setIfInBounds_toArray, List.set_cons_zero, List.set_cons_succ]) | (refine T_quietN (by rfl) (by rfl) (by rfl) (by rfl) (fun _ _ _ _ h => h) (fun K hK => ?_); go_big_quiet_op; refine hK _ ?_; clear hK K) | (refine T_two (by rfl) (by rfl) (by rfl) (by rfl) (fun _ _ _ _ h => h) (fun K hK => ?_); go_big_quiet_op; refine ⟨_, fun _ _ => rfl, ?_⟩; refine hK _ ?_; clear hK K; try simp only [Act.put, List.setIfInBounds_toArray, List.set_cons_zero, List.set_cons_succ]) | fail)
          refine T_call (by rfl) (by rfl) (fun K hK => ?_)
          refine wp_buildOne so_recr (by decide) [.int .i64 com, .slice A chs.length c] rfl rfl rfl ?_
          (refine hK.out _ _ (((Fr.refl _ _).alloc _)) ?_; clear hK K; try simp only [Act.put, List.setIfInBounds_toArray, List.set_cons_zero, List.set_cons_succ])
          refine T_call (by rfl) (by rfl) (fun K hK => ?_)
          refine wp_app_at so_recr (own_fr0 hownLr ((Fr.refl No wr).drew.alloc (.cells ([Value.int .i64 com, .slice A chs.length c]).toArray tRecr))) ((Blk.new _ _ _).rd (size := 2) (n := 1) (by rfl) (by decide)) (one2 rfl rfl) (by omega) (by simp) rfl rfl rfl ?_
          intro v5 w5 hown5 hg5 hat5
          refine hK.out _ _ ((Fr.refl _ _).grown hg5 (fun q hq => .inr hq)) ?_
          clear hK K
          try simp only [Act.put, List.setIfInBounds_toArray, List.set_cons_zero, List.set_cons_succ]
          have hf5 : Fr (fun b => (Value.slice L0 t.l.length l0).ownBlock = some b) wr w5 := (((Fr.refl (fun b => (Value.slice L0 t.l.length l0).ownBlock = some b) wr).drew).alloc (.cells ([Value.int .i64 com, .slice A chs.length c]).toArray tRecr)).grown hg5 (fun q hq => .inr hq)
          have hzr : wr.heap.size + 1 = (wr.drew.alloc (.cells ([Value.int .i64 com, .slice A chs.length c]).toArray tRecr)).heap.size := by simp
          have hbQ5 := hbQr.fr hf5 n3
          have hbR5 := hbRr.fr hf5 n4
          obtain ⟨L3, l3, rfl, hl3, hl3m, hL3⟩ := own_form hown5
          clear x0 x1 x2 x3 x4 xf0 xf1 xf2 xf3 xf4 z0 z1 zf0 zf1
          (have x0 := hbQ5.cell 0; have x1 := hbQ5.cell 1; have x2 := hbQ5.cell 2; have x3 := hbQ5.cell 3; have x4 := hbQ5.cell 4; have xf0 := hbQ5.frozen 0; have xf1 := hbQ5.frozen 1; have xf2 := hbQ5.frozen 2; have xf3 := hbQ5.frozen 3; have xf4 := hbQ5.frozen 4; simp only [List.getElem?_toArray, List.getElem?_cons_zero, List.getElem?_cons_succ] at x0 x1 x2 x3 x4)
          repeat (first | (refine T_skip (by rfl) (by rfl) (fun _ _ _ h => h) ?_; try simp only [Act.put, List.setIfInBounds_toArray, List.set_cons_zero, List.set_cons_succ]) | (refine T_pass (by rfl) (by rfl) ?_; try simp only [Act.put, List.setIfInBounds_toArray, List.set_cons_zero, List.set_cons_succ]) | (refine T_load (by assumption) (by rfl) (by rfl) (fun _ _ _ _ h => h) rfl rfl (by assumption) (by first | exact (fun hn => hn) | assumption) ?_; try simp only [Act.put, List.setIfInBounds_toArray, List.set_cons_zero, List.set_cons_succ]) | (refine T_nil (by rfl) (by rfl) (fun _ _ _ _ h => h) rfl rfl ?_; try simp only [Act.put, List.setIfInBounds_toArray, List.set_cons_zero, List.set_cons_succ]) | (refine T_quietN (by rfl) (by rfl) (by rfl) (by rfl) (fun _ _ _ _ h => h) (fun K hK => ?_); go_big_quiet_op; refine hK _ ?_; clear hK K) | (refine T_two (by rfl) (by rfl) (by rfl) (by rfl) (fun _ _ _ _ h => h) (fun K hK => ?_); go_big_quiet_op; refine ⟨_, fun _ _ => rfl, ?_⟩; refine hK _ ?_; clear hK K; try simp only [Act.put, List.setIfInBounds_toArray, List.set_cons_zero, List.set_cons_succ]) | fail)
          refine T_turn No [] (by rfl) (by rfl) (by rfl) (fun K hK => ?_)
          go_wp2_with fail
          refine hK.out _ _ ?_
          clear hK K
          refine T_done ?_
          have hf6 : Fr (fun b => b = q) w5 (w5.setCell ⟨q, 3, none⟩ (.slice L3 (t.l.length + 1) l3)) := (Fr.refl (fun b => b = q) w5).set (p := ⟨q, 3, none⟩) (.inr rfl) _
          have hbQ6 := hbQ5.put 3 (.slice L3 (t.l.length + 1) l3)
          have hbQ6 : Blk (w5.setCell ⟨q, 3, none⟩ (.slice L3 (t.l.length + 1) l3)) q 58 #[.int .i64 t.fr, .int .i64 t.en, Bv, .slice L3 (t.l.length + 1) l3, .slice D (t.w.length + chs.length) d] := hbQ6
          generalize hw6 : w5.setCell ⟨q, 3, none⟩ (.slice L3 (t.l.length + 1) l3) = w6 at *
          have hbR6 := hbR5.fr hf6 (by omega)
          clear hw6 x0 x1 x2 x3 x4 xf0 xf1 xf2 xf3 xf4
          (have x0 := hbQ6.cell 0; have x1 := hbQ6.cell 1; have x2 := hbQ6.cell 2; have x3 := hbQ6.cell 3; have x4 := hbQ6.cell 4; have xf0 := hbQ6.frozen 0; have xf1 := hbQ6.frozen 1; have xf2 := hbQ6.frozen 2; have xf3 := hbQ6.frozen 3; have xf4 := hbQ6.frozen 4; simp only [List.getElem?_toArray, List.getElem?_cons_zero, List.getElem?_cons_succ] at x0 x1 x2 x3 x4)
          (have z0 := hbR6.cell 0; have z1 := hbR6.cell 1; have zf0 := hbR6.frozen 0; have zf1 := hbR6.frozen 1; simp only [List.getElem?_toArray, List.getElem?_cons_zero, List.getElem?_cons_succ] at z0 z1)
          have hf7 : Fr (fun b => b = q) w6 (w6.setCell ⟨q, 1, none⟩ (.int .i64 com)) := (Fr.refl (fun b => b = q) w6).set (p := ⟨q, 1, none⟩) (.inr rfl) _
          have hbQ7 := hbQ6.put 1 (.int .i64 com)
          go_wp2
          go_ret
          have hfq : Fr (fun b => b = q) w5 (w6.setCell ⟨q, 1, none⟩ (.int .i64 com)) := hf6.trans hf7 (fun b _ h => h)
          have hf57 : Fr (fun b => b = q ∨ (Value.slice L0 t.l.length l0).ownBlock = some b) wr (w6.setCell ⟨q, 1, none⟩ (.int .i64 com)) := (hf5.mono (fun b _ h => .inr h)).trans hfq (fun b _ h => .inl h)
          generalize w6.setCell ⟨q, 1, none⟩ (.int .i64 com) = w7 at *
          have hz57 := hf57.size
          have hL3lt : ∀ b, (Value.slice L3 (t.l.length + 1) l3).ownBlock = some b → (Value.slice L0 t.l.length l0).ownBlock = some b ∨ wr.heap.size < b ∧ b < w5.heap.size := fun b hb => by
            rcases hat5 with h3 | h3
            · exact .inl (h3 ▸ hb)
            · rw [h3] at hb
              injection hb with hb
              exact .inr ⟨by omega, hb ▸ (hown5.lt _ h3).2⟩
          have hz75 := hfq.size
          have hDr : ∀ b, (Value.slice D (t.w.length + chs.length) d).ownBlock = some b → b < wr.heap.size ∧ b ≠ q ∧ ¬ (Value.slice L0 t.l.length l0).ownBlock = some b := fun b hb => by
            refine ⟨(hownD.lt b hb).2, ?_⟩
            rcases hDT b hb with h9 | h9
            · exact h9.2
            · exact ⟨by omega, fun e => by have := hTl b (HLT.out b e).1; omega⟩
          refine ⟨by rw [HM.out]; rfl, fun b => T b ∨ (Value.slice D (t.w.length + chs.length) d).ownBlock = some b ∨ (Value.slice L3 (t.l.length + 1) l3).ownBlock = some b, fun b => O b ∨ bx + 1 ≤ b ∧ b < wr.heap.size ∧ ¬ (Value.slice D (t.w.length + chs.length) d).ownBlock = some b, ?_, ?_, ?_, ?_⟩
          · rw [HM.out]
            refine ⟨Bv, .slice L3 (t.l.length + 1) l3, .slice D (t.w.length + chs.length) d, { blk := hbQ7, base := ⟨Ab, cb, hBv, (hbaser.fr hf57 ?_).mono (fun b _ hb => .inl hb)⟩, lrow := ⟨ys ++ [.int .i64 com, .slice A chs.length c], ?_, ?_⟩, wrow := ?_, inT := ⟨.inl j1, ?_, ?_, ?_⟩, off := ?_, offO := ?_ }⟩
            · rintro b hb (e | e)
              · exact hTO q j1 (e ▸ hb)
              · exact hTO b (HLT.out b e).1 hb
            · simp only [List.length_append, List.length_singleton]
              exact own_fr hown5 hfq (fun b hb e => by
                rcases hL3lt b hb with h7 | h7
                · exact (HLT.out b h7).2 e
                · omega)
            · refine RecsC.snoc (c := ⟨com, chs⟩) ⟨A, c, rfl, xs, ?_, ?_⟩ ((hysr.keep hf57 ?_).mono (fun b _ hb => .inl hb))
              · obtain ⟨_, _, e9, _, _, hAl⟩ := own_form hownA
                injection e9 with e91 e92 e93
                subst e91 e93
                refine Rd.mono (Rd.fr (own_rd hownA (by show chs.length ≤ _; omega)) hf57 (fun b hb hT => ?_)) (fun b _ hb => .inr ⟨(hownA.lt b ((hAl b).2 hb)).1, (hownA.lt b ((hAl b).2 hb)).2, hAD b ((hAl b).2 hb)⟩) (by decide)
                have := (hownA.lt b ((hAl b).2 hb)).1
                rcases hT with e | e
                · omega
                · have := hTl b (HLT.out b e).1; omega
              · refine ((hxs.mono (T := fun b => bx + 1 ≤ b ∧ b < wr.heap.size ∧ ¬ (Value.slice D (t.w.length + chs.length) d).ownBlock = some b) (fun b hl hb => ⟨hb.1, hl, hb.2.2⟩)).keep hf57 (fun b hb hT => ?_)).mono (fun b _ hb => .inr hb)
                rcases hT with e | e
                · have := hb.1; omega
                · have := hTl b (HLT.out b e).1; have := hb.1; omega
              · rintro b hb (e | e)
                · exact hTO q j1 (e ▸ hb)
                · exact hTO b (HLT.out b e).1 hb
            · simp only [List.length_append, List.length_map]
              exact own_fr hownD hf57 (fun b hb e => by
                rcases e with e | e
                · exact (hDr b hb).2.1 e
                · exact (hDr b hb).2.2 e)
            · intro b hb
              refine ⟨.inr (.inr hb), ?_⟩
              rcases hL3lt b hb with h7 | h7
              · exact (HLT.out b h7).2
              · omega
            · exact fun b hb => ⟨.inr (.inl hb), (hDr b hb).2.1⟩
            · intro b hb e
              rcases hL3lt b hb with h7 | h7
              · exact (hDr b e).2.2 h7
              · have := (hDr b e).1; omega
            · rintro b (hb | hb | hb)
              · have := hTl b hb
                refine ⟨by omega, ?_⟩
                rintro (h9 | h9)
                · exact hTO b hb h9
                · omega
              · refine ⟨by have := (hDr b hb).1; omega, ?_⟩
                rintro (h9 | h9)
                · rcases hDT b hb with h8 | h8
                  · exact hTO b h8.1 h9
                  · have := hoffO b h9; omega
                · exact h9.2.2 hb
              · refine ⟨?_, ?_⟩
                · rcases hL3lt b hb with h7 | h7
                  · have := hTl b (HLT.out b h7).1; omega
                  · omega
                · rintro (h9 | h9)
                  · rcases hL3lt b hb with h7 | h7
                    · exact hTO b (HLT.out b h7).1 h9
                    · have := hoffO b h9; omega
                  · rcases hL3lt b hb with h7 | h7
                    · have := hTl b (HLT.out b h7).1; omega
                    · omega
            · rintro b (hb | hb)
              · have := hoffO b hb; omega
              · omega
          · rintro b (hb | hb | hb)
            · exact .inl hb
            · rcases hDT b hb with h8 | h8
              · exact .inl h8.1
              · exact .inr (by omega)
            · rcases hL3lt b hb with h7 | h7
              · exact .inl (HLT.out b h7).1
              · exact .inr (by omega)
          · rintro b (hb | hb)
            · exact .inl hb
            · exact .inr (by omega)
          · refine hfW.trans hf57 (fun b hb hT => ?_)
            rcases hT with e | e
            · exact e ▸ j1
            · exact (HLT.out b e).1
end Go.Proofs.Ytoajigghkjnffaa
