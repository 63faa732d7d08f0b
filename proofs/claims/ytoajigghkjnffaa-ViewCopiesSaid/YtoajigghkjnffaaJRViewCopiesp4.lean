/- The reference's Apply. No condition but size. lapidarylaw12.given. No condition but size. lapidarylaw12.both: a table of records, and the reference's. No condition but size. How changes and records come in. No condition. Lists of acts (chapter 12) in memory. No condition. How acts (chapter 12) come in. No condition. -/
import Derived.Test.YtoajigghkjnffaaJRViewCopiesp3
import Derived.Test.YtoajigghkjnffaaJRViewCopiesp1
namespace Go.Proofs.Ytoajigghkjnffaa
set_option linter.unusedVariables false
set_option linter.unusedSimpArgs false
open Go.RowKit

def RApplyR (w : World) (T O : Nat → Prop) (q : Nat) (t : RTabM) (r : RecM) (e : Ending) (w' : World) : Prop :=
  e = .returned (.int .i64 (rapplyM t r).2) ∧ ∃ T' O' : Nat → Prop, RTabAt w' T' O' q (rapplyM t r).1 ∧ (∀ b, T' b → T b ∨ w.heap.size ≤ b) ∧ (∀ b, O' b → O b ∨ w.heap.size ≤ b) ∧ Fr T w w'
theorem map_snocW (com : Int) (l : List ChM) (c : ChM) (W : List (Int × Int)) : W ++ (l ++ [c]).map (fun c => (c.oop, com)) = (W ++ l.map (fun c => (c.oop, com))) ++ [(c.oop, com)] := by simp
theorem one2 {a b : Value} (h1 : a.oneCell' = true) (h2 : b.oneCell' = true) : ∀ u ∈ [a, b], u.oneCell' = true := by
  intro u hu
  simp only [List.mem_cons, List.not_mem_nil, or_false] at hu
  rcases hu with rfl | rfl <;> assumption
set_option maxHeartbeats 4000000 in
set_option maxRecDepth 100000 in
theorem rapply_calls (w : World) (T O S : Nat → Prop) (q : Nat) (t : RTabM) (cs : List Value) (r : RecM) (h : RTabAt w T O q t) (hr : RecC w S cs r) (hS : ∀ b, S b → ¬ T b) (hn : t.l.length ≤ 1000000) (hn2 : t.w.length ≤ 900000) :
    Calls Try.prog 41 #[.pointer (some ⟨q, 0, none⟩), .agg cs.toArray] w fun e w' => RApplyR w T O q t r e w' := by
  obtain ⟨com, chs⟩ := r
  have hr := hr.lt
  obtain ⟨A0, c0, rfl, hch⟩ := hr
  simp only at hch
  have g1 := plain_i64
  have g2 := plain_lval
  have g3 := plain_lu8
  have g4 := plain_bool
  have g5 := plain_lchr
  have g6 := plain_lwhen
  have g7 := plain_lrecr
  obtain ⟨hTl, hOl, hTq⟩ := h.lt
  have hql := hTl q hTq
  have hf1 : Fr No w (w.alloc (.cells #[.int .i64 com, .slice A0 chs.length c0] tRecr)) := (Fr.refl No w).alloc _
  have hbx := Blk.new w tRecr #[.int .i64 com, .slice A0 chs.length c0]
  have hz1 : w.heap.size < (w.alloc (.cells #[.int .i64 com, .slice A0 chs.length c0] tRecr)).heap.size := by simp
  have hrc : RecC (w.alloc (.cells #[.int .i64 com, .slice A0 chs.length c0] tRecr)) (fun b => S b ∧ b < w.heap.size) [.int .i64 com, .slice A0 chs.length c0] ⟨com, chs⟩ := RecC.fr0 ⟨A0, c0, rfl, hch⟩ hf1
  have hbxa := hbx.all
  go_enter Try.func41, Try.ntmps41
  go_wp2_with (first
    | (refine wpList_ldA ag_recr rfl _ rfl ⟨w.heap.size, 0, none⟩ [.int .i64 com, .slice A0 chs.length c0] rfl rfl hbxa ?_)
    | fail)
  refine (refrightr_calls _ _ ⟨com, chs⟩ _ hrc).mono ?_
  rintro e w2 ⟨rfl, hf2⟩
  have hF2 := hf1.tr hf2
  have hb2 := hbx.fr0 hf2
  have hT2 := h.fr0 hF2
  have hz2 : w.heap.size < w2.heap.size := Nat.lt_of_lt_of_le hz1 hf2.size
  clear hrc hbxa hf1 hbx hz1 hf2
  (have z0 := hb2.cell 0; have z1 := hb2.cell 1; have zf0 := hb2.frozen 0; have zf1 := hb2.frozen 1; simp only [List.getElem?_toArray, List.getElem?_cons_zero, List.getElem?_cons_succ] at z0 z1)
  cases hrr : rightR ⟨com, chs⟩ with
  | false =>
    have HM := Lib.hid (rapplyM_bad (t := t) hrr)
    clear hrr
    go_wp2
    go_ret
    exact ⟨by rw [HM.out]; rfl, T, O, by rw [HM.out]; exact hT2, fun b hb => .inl hb, fun b hb => .inl hb, hF2.mono (fun _ _ hn => hn.elim)⟩
  | true =>
    obtain ⟨Bv, Lv, Wv, hP2⟩ := hT2
    have hbk := hP2.blk
    have q1 := hbk.cell 1
    have q1f := hbk.frozen 1
    simp only [List.getElem?_toArray, List.getElem?_cons_zero, List.getElem?_cons_succ] at q1
    by_cases hold : com ≤ t.en
    · have HM := Lib.hid (rapplyM_old (t := t) hrr hold)
      have ek : decide (com ≤ t.en) = true := by simpa using hold
      clear hrr hold
      go_wp2_with fail
      (refine T_begin No [0, 1, 2, 3, 4, 5, 6] [] (by kernel_rfl) (by kernel_rfl) ?_; simp only [pickOps, List.filterMap_cons, List.filterMap_nil, List.getElem?_cons_zero, List.getElem?_cons_succ, Act.put])
      repeat (first | (refine T_skip (by rfl) (by rfl) (fun _ _ _ h => h) ?_; try simp only [Act.put, List.setIfInBounds_toArray, List.set_cons_zero, List.set_cons_succ]) | (refine T_pass (by rfl) (by rfl) ?_; try simp only [Act.put, List.setIfInBounds_toArray, List.set_cons_zero, List.set_cons_succ]) | (refine T_load (by assumption) (by rfl) (by rfl) (fun _ _ _ _ h => h) rfl rfl (by assumption) (by first | exact (fun hn => hn) | assumption) ?_; try simp only [Act.put, List.setIfInBounds_toArray, List.set_cons_zero, List.set_cons_succ]) | (refine T_nil (by rfl) (by rfl) (fun _ _ _ _ h => h) rfl rfl ?_; try simp only [Act.put, List.setIfInBounds_toArray, List.set_cons_zero, List.set_cons_succ]) | (refine T_quiet (by rfl) (by rfl) (by rfl) (fun _ _ _ _ h => h) (fun K hK => ?_); go_big_quiet_op; refine hK _ ?_; clear hK K) | (refine T_two (by rfl) (by rfl) (by rfl) (by rfl) (fun _ _ _ _ h => h) (fun K hK => ?_); go_big_quiet_op; refine ⟨_, fun _ _ => rfl, ?_⟩; refine hK _ ?_; clear hK K; try simp only [Act.put, List.setIfInBounds_toArray, List.set_cons_zero, List.set_cons_succ]) | fail)
      refine T_done ?_
      go_wp2
      go_ret
      exact ⟨by rw [HM.out]; rfl, T, O, by rw [HM.out]; exact RTabAt.fr0 ⟨Bv, Lv, Wv, hP2⟩ (Fr.refl No w2).drew, fun b hb => .inl hb, fun b hb => .inl hb, hF2.drew.mono (fun _ _ hn => hn.elim)⟩
    · have HM := Lib.hid (rapplyM_yes (t := t) hrr hold)
      have ek : decide (com ≤ t.en) = false := by simpa using hold
      obtain ⟨_, hcom, hlen, hcr⟩ := rightR_four hrr
      simp only at hcom hlen hcr
      have HC := Lib.hid (chsRight_all hcr)
      clear hrr hold hcr
      go_wp2_with fail
      (refine T_begin No [0, 1, 2, 3, 4, 5, 6] [] (by kernel_rfl) (by kernel_rfl) ?_; simp only [pickOps, List.filterMap_cons, List.filterMap_nil, List.getElem?_cons_zero, List.getElem?_cons_succ, Act.put])
      repeat (first | (refine T_skip (by rfl) (by rfl) (fun _ _ _ h => h) ?_; try simp only [Act.put, List.setIfInBounds_toArray, List.set_cons_zero, List.set_cons_succ]) | (refine T_pass (by rfl) (by rfl) ?_; try simp only [Act.put, List.setIfInBounds_toArray, List.set_cons_zero, List.set_cons_succ]) | (refine T_load (by assumption) (by rfl) (by rfl) (fun _ _ _ _ h => h) rfl rfl (by assumption) (by first | exact (fun hn => hn) | assumption) ?_; try simp only [Act.put, List.setIfInBounds_toArray, List.set_cons_zero, List.set_cons_succ]) | (refine T_nil (by rfl) (by rfl) (fun _ _ _ _ h => h) rfl rfl ?_; try simp only [Act.put, List.setIfInBounds_toArray, List.set_cons_zero, List.set_cons_succ]) | (refine T_quiet (by rfl) (by rfl) (by rfl) (fun _ _ _ _ h => h) (fun K hK => ?_); go_big_quiet_op; refine hK _ ?_; clear hK K) | (refine T_two (by rfl) (by rfl) (by rfl) (by rfl) (fun _ _ _ _ h => h) (fun K hK => ?_); go_big_quiet_op; refine ⟨_, fun _ _ => rfl, ?_⟩; refine hK _ ?_; clear hK K; try simp only [Act.put, List.setIfInBounds_toArray, List.set_cons_zero, List.set_cons_succ]) | fail)
      refine T_done ?_
      have hbD : Blk w2.drew w.heap.size tRecr #[.int .i64 com, .slice A0 chs.length c0] := hb2.drew
      have hPD : RTabP w2.drew T O q Bv Lv Wv t := hP2.fr (Fr.refl No w2).drew (fun _ _ hn => hn) (fun _ _ hn => hn)
      have hFD : Fr No w w2.drew := hF2.drew
      have hzD : w.heap.size < w2.drew.heap.size := hz2
      clear hb2 hP2 hF2 hz2 q1 q1f hbk z0 z1 zf0 zf1
      generalize w2.drew = w3 at *
      (have z0 := hbD.cell 0; have z1 := hbD.cell 1; have zf0 := hbD.frozen 0; have zf1 := hbD.frozen 1; simp only [List.getElem?_toArray, List.getElem?_cons_zero, List.getElem?_cons_succ] at z0 z1)
      go_wp2_with fail
      have hfx : Fr No w3 (w3.alloc (.cells #[.int .i64 com, .slice none 0 0] tRecr)) := (Fr.refl No w3).alloc _
      have hbX := Blk.new w3 tRecr #[.int .i64 com, .slice none 0 0]
      have hz4 : (w3.alloc (.cells #[.int .i64 com, .slice none 0 0] tRecr)).heap.size = w3.heap.size + 1 := by simp
      have hb4 := hbD.fr0 hfx
      have hP4 := hPD.fr hfx (fun _ _ hn => hn) (fun _ _ hn => hn)
      have hF4 := hFD.tr hfx
      clear hbD hPD hFD hfx z0 z1 zf0 zf1
      generalize w3.alloc (.cells #[.int .i64 com, .slice none 0 0] tRecr) = w4 at *
      obtain ⟨bx, hbxe⟩ : ∃ bx, bx = w3.heap.size := ⟨_, rfl⟩
      rw [← hbxe] at hbX hz4 hzD ⊢
      clear hbxe
      obtain ⟨j1, j2, j3, j4⟩ := hP4.inT
      obtain ⟨D0, d0, rfl, _, _, hD0⟩ := own_form hP4.wrow
      have HJ3 := Lib.hid j3
      have HJ4 := Lib.hid j4
      have HP4 := Lib.hid hP4
      have hq4 := hP4.blk
      have hw40 := hP4.wrow
      clear hP4 j3 j4 h
      go_wp2_with fail
      go_loopw [6] (fun i wr => ∃ (k : Nat) (A : Option Addr) (c : Nat) (xs : List Value) (D : Option Addr) (d : Nat), k ≤ chs.length ∧ i = .int .i64 (k : Int) ∧ Blk wr bx tRecr #[.int .i64 com, .slice A k c] ∧ wr.ownsRow (bx + 1) tChr 5 (.slice A k c) k xs ∧ ChsC wr (fun b => bx + 1 ≤ b ∧ ¬ (Value.slice A k c).ownBlock = some b ∧ ¬ (Value.slice D (t.w.length + k) d).ownBlock = some b) xs (chs.take k) ∧ Blk wr q 58 #[.int .i64 t.fr, .int .i64 t.en, Bv, Lv, .slice D (t.w.length + k) d] ∧ wr.ownsRow 0 tWhen 2 (.slice D (t.w.length + k) d) (t.w.length + k) (pairs (t.w ++ (chs.take k).map (fun c => (c.oop, com)))) ∧ (∀ b, (Value.slice D (t.w.length + k) d).ownBlock = some b → T b ∧ b ≠ q ∧ ¬ Lv.ownBlock = some b ∨ bx + 1 ≤ b) ∧ (∀ b, (Value.slice A k c).ownBlock = some b → ¬ (Value.slice D (t.w.length + k) d).ownBlock = some b) ∧ Fr (fun b => b = bx ∨ bx + 1 ≤ b ∨ T b ∧ ¬ Lv.ownBlock = some b) w4 wr) (fun i _ => chs.length - (intOf i).toNat)
      case atStart => exact ⟨0, none, 0, [], D0, d0, by omega, rfl, hbX, World.ownsRow_nil _ _ _ _, rfl, hq4, by simpa using hw40, fun b hb => .inl ⟨(HJ3.out b hb).1, (HJ3.out b hb).2, fun e => HJ4.out b e hb⟩, by simp [Value.ownBlock], Fr.refl _ _⟩
      case round =>
        obtain ⟨k, A, c, xs, D, d, hk, rfl, hbXr, hownA, hxs, hbQr, hownD, hDT, hAD, hf⟩ := hrel
        have hszr := hf.size
        have hfW : Fr T w wr := (hF4.mono (fun _ _ hn => hn.elim)).trans hf (fun b hb hT => by
          rcases hT with hT | hT | hT
          · omega
          · omega
          · exact hT.1)
        have hbRr := hb4.fr hf (by
          rintro (hT | hT | hT)
          · omega
          · omega
          · have := hTl _ hT.1; omega)
        by_cases hlt : k < chs.length
        · have ek : decide ((k : Int) < chs.length) = true := by simpa using (by omega : (k : Int) < chs.length)
          have hrd := hch.fr hfW (fun b hb hT => hS b hb.1 hT)
          obtain ⟨ga, of, Av, nn, Dv, mm, rfl, hga, hcell, hsl, hby⟩ := hrd.at_ hlt
          obtain ⟨hoop, hcx⟩ := HC.out _ (List.getElem_mem hlt)
          have hsm := rightC_small hcx
          have HTk := Lib.hid (take_snocC chs k hlt)
          have HTw := Lib.hid (map_snocW com (chs.take k) chs[k] t.w)
          generalize chs[k] = x at *
          obtain ⟨oop, gone, ob⟩ := x
          simp only at hcell hsl hby hsm
          clear hoop hcx
          have hcell' := addr5 _ _ _ hcell
          (have z0 := hbRr.cell 0; have z1 := hbRr.cell 1; have zf0 := hbRr.frozen 0; have zf1 := hbRr.frozen 1; simp only [List.getElem?_toArray, List.getElem?_cons_zero, List.getElem?_cons_succ] at z0 z1)
          go_wp2_with (first
            | (refine wpList_ldA ag_chr rfl _ rfl ⟨ga, of + k * 5, none⟩ _ rfl rfl hcell' ?_)
            | fail)
          have hfo : Fr No wr (wr.alloc (.cells #[.int .i64 oop, .bool gone, .int .i64 ob.cls, .slice Av ob.slots.length nn, .slice Dv ob.bytes.length mm] tChr)) := (Fr.refl No wr).alloc _
          have hbO := Blk.new wr tChr #[.int .i64 oop, .bool gone, .int .i64 ob.cls, .slice Av ob.slots.length nn, .slice Dv ob.bytes.length mm]
          have hzA : wr.heap.size < (wr.alloc (.cells #[.int .i64 oop, .bool gone, .int .i64 ob.cls, .slice Av ob.slots.length nn, .slice Dv ob.bytes.length mm] tChr)).heap.size := by simp
          generalize hwA : wr.alloc (.cells #[.int .i64 oop, .bool gone, .int .i64 ob.cls, .slice Av ob.slots.length nn, .slice Dv ob.bytes.length mm] tChr) = wA at *
          clear hwA z0 z1 zf0 zf1
          have hbRA := hbRr.fr0 hfo
          have hbXA := hbXr.fr0 hfo
          have hbQA := hbQr.fr0 hfo
          have hownAA := own_fr0 hownA hfo
          have hownDA := own_fr0 hownD hfo
          have hob : ObjC wA (fun b => S b ∧ b < w.heap.size) [.int .i64 ob.cls, .slice Av ob.slots.length nn, .slice Dv ob.bytes.length mm] ob := ObjC.fr0 ⟨Av, nn, Dv, mm, rfl, hsl, hby⟩ hfo
          have HOB := Lib.hid (show ∀ j u, [Value.int .i64 ob.cls, .slice Av ob.slots.length nn, .slice Dv ob.bytes.length mm][j]? = some u → wA.cell? ((⟨wr.heap.size, 2, none⟩ : Addr).add j) = some u from addr5 _ _ _ (fun j u hu => by
            have := hbO.all (j + 2) u (by simpa using hu)
            rw [show (⟨wr.heap.size, 0, none⟩ : Addr).add (j + 2) = ⟨wr.heap.size, 2 + j, none⟩ by unfold Addr.add; split <;> simp_all <;> omega] at this
            exact this))
          have HAL := Lib.hid (show ∀ b, (Value.slice A k c).ownBlock = some b → bx + 1 ≤ b ∧ b < wr.heap.size from fun b hb => hownA.lt b hb)
          have HDL := Lib.hid (show ∀ b, (Value.slice D (t.w.length + k) d).ownBlock = some b → b < wr.heap.size ∧ b ≠ q ∧ b ≠ bx ∧ b ≠ w.heap.size from fun b hb => by
            refine ⟨(hownD.lt b hb).2, ?_⟩
            rcases hDT b hb with h9 | h9
            · have := hTl b h9.1; exact ⟨h9.2.1, by omega, by omega⟩
            · omega)
          have n1 : ¬ (Value.slice A k c).ownBlock = some wr.heap.size := fun e => by have := HAL.out _ e; omega
          have n2 : ¬ (Value.slice A k c).ownBlock = some bx := fun e => by have := HAL.out _ e; omega
          have n3 : ¬ (Value.slice A k c).ownBlock = some q := fun e => by have := HAL.out _ e; omega
          have n4 : ¬ (Value.slice A k c).ownBlock = some w.heap.size := fun e => by have := HAL.out _ e; omega
          have m1 : ¬ (Value.slice D (t.w.length + k) d).ownBlock = some wr.heap.size := fun e => by have := HDL.out _ e; omega
          have m2 : ¬ (Value.slice D (t.w.length + k) d).ownBlock = some bx := fun e => (HDL.out _ e).2.2.1 rfl
          have m3 : ¬ (Value.slice D (t.w.length + k) d).ownBlock = some q := fun e => (HDL.out _ e).2.1 rfl
          have m4 : ¬ (Value.slice D (t.w.length + k) d).ownBlock = some w.heap.size := fun e => (HDL.out _ e).2.2.2 rfl
          (have z0 := hbXA.cell 0; have z1 := hbXA.cell 1; have zf0 := hbXA.frozen 0; have zf1 := hbXA.frozen 1; simp only [List.getElem?_toArray, List.getElem?_cons_zero, List.getElem?_cons_succ] at z0 z1)
          (have y0 := hbO.cell 0; have y1 := hbO.cell 1; have y2 := hbO.cell 2; have y3 := hbO.cell 3; have y4 := hbO.cell 4; have yf0 := hbO.frozen 0; have yf1 := hbO.frozen 1; have yf2 := hbO.frozen 2; have yf3 := hbO.frozen 3; have yf4 := hbO.frozen 4; simp only [List.getElem?_toArray, List.getElem?_cons_zero, List.getElem?_cons_succ] at y0 y1 y2 y3 y4)
          refine T_begin2 (fun b => (Value.slice A k c).ownBlock = some b) [13] [0, 1, 2, 3, 4, 5, 6, 7, 8, 9, 10, 11, 12, 13] [8, 10, 11, 13] (by kernel_rfl) (by kernel_rfl) ?_
          simp only [pickOps, List.filterMap_cons, List.filterMap_nil, List.getElem?_cons_zero, List.getElem?_cons_succ, Act.put]
          repeat (first | (refine T_skip (by rfl) (by rfl) (fun _ _ _ h => h) ?_; try simp only [Act.put, List.setIfInBounds_toArray, List.set_cons_zero, List.set_cons_succ]) | (refine T_pass (by rfl) (by rfl) ?_; try simp only [Act.put, List.setIfInBounds_toArray, List.set_cons_zero, List.set_cons_succ]) | (refine T_load (by assumption) (by rfl) (by rfl) (fun _ _ _ _ h => h) rfl rfl (by assumption) (by first | exact (fun hn => hn) | assumption) ?_; try simp only [Act.put, List.setIfInBounds_toArray, List.set_cons_zero, List.set_cons_succ]) | (refine T_nil (by rfl) (by rfl) (fun _ _ _ _ h => h) rfl rfl ?_; try simp only [Act.put, List.setIfInBounds_toArray, List.set_cons_zero, List.set_cons_succ]) | (refine T_quietN (by rfl) (by rfl) (by rfl) (by rfl) (fun _ _ _ _ h => h) (fun K hK => ?_); go_big_quiet_op; refine hK _ ?_; clear hK K) | (refine T_two (by rfl) (by rfl) (by rfl) (by rfl) (fun _ _ _ _ h => h) (fun K hK => ?_); go_big_quiet_op; refine ⟨_, fun _ _ => rfl, ?_⟩; refine hK _ ?_; clear hK K; try simp only [Act.put, List.setIfInBounds_toArray, List.set_cons_zero, List.set_cons_succ]) | fail)
          refine T_loadA (cs := [.int .i64 ob.cls, .slice Av ob.slots.length nn, .slice Dv ob.bytes.length mm]) ag_obj (by rfl) (by rfl) (fun _ _ _ _ h => h) rfl rfl rfl (show ∀ j u, _ → wA.drew.cell? _ = some u from HOB.out) n1 ?_
          try simp only [Act.put, List.setIfInBounds_toArray, List.set_cons_zero, List.set_cons_succ]
          (refine T_call (by rfl) (by rfl) (fun K hK => ?_); go_wp2_with fail)
          refine (refcopy_calls (fun b => S b ∧ b < w.heap.size) [.int .i64 ob.cls, .slice Av ob.slots.length nn, .slice Dv ob.bytes.length mm] ob wA.drew hob (by have := hsm.1; omega)).mono ?_
          rintro e wB ⟨csB, rfl, hownB, hfB⟩
          (refine hK.out _ _ ((hfB.mono (fun _ _ hn => hn.elim))) ?_; clear hK K; try simp only [Act.put, List.setIfInBounds_toArray, List.set_cons_zero, List.set_cons_succ])
          obtain ⟨A2, c2, D2, d2, rfl⟩ := hownB.lit5
          have hocB := hownB.rd (by have := hsm.1; omega) (by have := hsm.2; omega)
          have hzB := hfB.size
          have hdz : wA.drew.heap.size = wA.heap.size := rfl
          rw [hdz] at hzB hocB
          have hocB := hocB.lt
          repeat (first | (refine T_skip (by rfl) (by rfl) (fun _ _ _ h => h) ?_; try simp only [Act.put, List.setIfInBounds_toArray, List.set_cons_zero, List.set_cons_succ]) | (refine T_pass (by rfl) (by rfl) ?_; try simp only [Act.put, List.setIfInBounds_toArray, List.set_cons_zero, List.set_cons_succ]) | (refine T_load (by assumption) (by rfl) (by rfl) (fun _ _ _ _ h => h) rfl rfl (by assumption) (by first | exact (fun hn => hn) | assumption) ?_; try simp only [Act.put, List.setIfInBounds_toArray, List.set_cons_zero, List.set_cons_succ]) | (refine T_nil (by rfl) (by rfl) (fun _ _ _ _ h => h) rfl rfl ?_; try simp only [Act.put, List.setIfInBounds_toArray, List.set_cons_zero, List.set_cons_succ]) | (refine T_quietN (by rfl) (by rfl) (by rfl) (by rfl) (fun _ _ _ _ h => h) (fun K hK => ?_); go_big_quiet_op; refine hK _ ?_; clear hK K) | (refine T_two (by rfl) (by rfl) (by rfl) (by rfl) (fun _ _ _ _ h => h) (fun K hK => ?_); go_big_quiet_op; refine ⟨_, fun _ _ => rfl, ?_⟩; refine hK _ ?_; clear hK K; try simp only [Act.put, List.setIfInBounds_toArray, List.set_cons_zero, List.set_cons_succ]) | fail)
          have hfAB : Fr No wA wB := (Fr.refl No wA).drew.tr hfB
          refine T_call (by rfl) (by rfl) (fun K hK => ?_)
          refine wp_buildOne so_chr (by decide) [.int .i64 oop, .bool gone, .int .i64 ob.cls, .slice A2 ob.slots.length c2, .slice D2 ob.bytes.length d2] rfl rfl rfl ?_
          (refine hK.out _ _ (((Fr.refl _ _).alloc _)) ?_; clear hK K; try simp only [Act.put, List.setIfInBounds_toArray, List.set_cons_zero, List.set_cons_succ])
          refine T_call (by rfl) (by rfl) (fun K hK => ?_)
          refine wp_app_at so_chr (own_fr0 hownAA (hfAB.alloc (.cells ([.int .i64 oop, .bool gone, .int .i64 ob.cls, .slice A2 ob.slots.length c2, .slice D2 ob.bytes.length d2]).toArray tChr))) ((Blk.new _ _ _).rd (size := 5) (n := 1) (by rfl) (by decide)) (one5 rfl rfl rfl rfl rfl) (by omega) (by simp; omega) rfl rfl rfl ?_
          intro v5 w5 hown5 hg5 hat5
          refine hK.out _ _ ((Fr.refl _ _).grown hg5 (fun q hq => .inr hq)) ?_
          clear hK K
          try simp only [Act.put, List.setIfInBounds_toArray, List.set_cons_zero, List.set_cons_succ]
          have hfC : Fr No wA (wB.alloc (.cells ([.int .i64 oop, .bool gone, .int .i64 ob.cls, .slice A2 ob.slots.length c2, .slice D2 ob.bytes.length d2]).toArray tChr)) := hfAB.alloc _
          have hzC : (wB.alloc (.cells ([.int .i64 oop, .bool gone, .int .i64 ob.cls, .slice A2 ob.slots.length c2, .slice D2 ob.bytes.length d2]).toArray tChr)).heap.size = wB.heap.size + 1 := by simp
          have hfD : Fr (fun b => (Value.slice A k c).ownBlock = some b) (wB.alloc (.cells ([.int .i64 oop, .bool gone, .int .i64 ob.cls, .slice A2 ob.slots.length c2, .slice D2 ob.bytes.length d2]).toArray tChr)) w5 := (Fr.refl _ _).grown hg5 (fun q hq => .inr hq)
          have hfBC : Fr No wB (wB.alloc (.cells ([.int .i64 oop, .bool gone, .int .i64 ob.cls, .slice A2 ob.slots.length c2, .slice D2 ob.bytes.length d2]).toArray tChr)) := (Fr.refl No wB).alloc _
          generalize hwC : wB.alloc (.cells ([.int .i64 oop, .bool gone, .int .i64 ob.cls, .slice A2 ob.slots.length c2, .slice D2 ob.bytes.length d2]).toArray tChr) = wC at *
          clear hwC z0 z1 zf0 zf1 y0 y1 y2 y3 y4 yf0 yf1 yf2 yf3 yf4
          have hfAD : Fr (fun b => (Value.slice A k c).ownBlock = some b) wA w5 := (hfC.mono (fun _ _ hn => hn.elim)).trans hfD (fun b _ hT => hT)
          have hbX5 := hbXA.fr hfAD n2
          obtain ⟨A3, c3, rfl, hc3, hc3m, hA3⟩ := own_form hown5
          (have z0 := hbX5.cell 0; have z1 := hbX5.cell 1; have zf0 := hbX5.frozen 0; have zf1 := hbX5.frozen 1; simp only [List.getElem?_toArray, List.getElem?_cons_zero, List.getElem?_cons_succ] at z0 z1)
          repeat (first | (refine T_skip (by rfl) (by rfl) (fun _ _ _ h => h) ?_; try simp only [Act.put, List.setIfInBounds_toArray, List.set_cons_zero, List.set_cons_succ]) | (refine T_pass (by rfl) (by rfl) ?_; try simp only [Act.put, List.setIfInBounds_toArray, List.set_cons_zero, List.set_cons_succ]) | (refine T_load (by assumption) (by rfl) (by rfl) (fun _ _ _ _ h => h) rfl rfl (by assumption) (by first | exact (fun hn => hn) | assumption) ?_; try simp only [Act.put, List.setIfInBounds_toArray, List.set_cons_zero, List.set_cons_succ]) | (refine T_nil (by rfl) (by rfl) (fun _ _ _ _ h => h) rfl rfl ?_; try simp only [Act.put, List.setIfInBounds_toArray, List.set_cons_zero, List.set_cons_succ]) | (refine T_quietN (by rfl) (by rfl) (by rfl) (by rfl) (fun _ _ _ _ h => h) (fun K hK => ?_); go_big_quiet_op; refine hK _ ?_; clear hK K) | (refine T_two (by rfl) (by rfl) (by rfl) (by rfl) (fun _ _ _ _ h => h) (fun K hK => ?_); go_big_quiet_op; refine ⟨_, fun _ _ => rfl, ?_⟩; refine hK _ ?_; clear hK K; try simp only [Act.put, List.setIfInBounds_toArray, List.set_cons_zero, List.set_cons_succ]) | fail)
          refine T_turn No [] (by rfl) (by rfl) (by rfl) (fun K hK => ?_)
          go_wp2_with fail
          refine hK.out _ _ ?_
          clear hK K
          refine T_done ?_
          have hfS : Fr (fun b => b = bx) w5 (w5.setCell ⟨bx, 1, none⟩ (.slice A3 (k + 1) c3)) := (Fr.refl (fun b => b = bx) w5).set (p := ⟨bx, 1, none⟩) (.inr rfl) _
          have hbX6 := hbX5.put 1 (.slice A3 (k + 1) c3)
          generalize hw6 : w5.setCell ⟨bx, 1, none⟩ (.slice A3 (k + 1) c3) = w6 at *
          have hf06 : Fr (fun b => b = bx ∨ (Value.slice A k c).ownBlock = some b) wA w6 := (hfAD.mono (fun b _ h => .inr h)).trans hfS (fun b _ h => .inl h)
          have hbR6 := hbRA.fr hf06 (by rintro (h9 | h9); omega; exact n4 h9)
          have hbQ6 := hbQA.fr hf06 (by rintro (h9 | h9); omega; exact n3 h9)
          have hbO6 := hbO.fr hf06 (by rintro (h9 | h9); omega; exact n1 h9)
          have hownD6 := own_fr hownDA hf06 (fun b hb e => by
            rcases e with e | e
            · exact (HDL.out b hb).2.2.1 e
            · exact hAD b e hb)
          clear z0 z1 zf0 zf1
          clear hw6
          have hbX6 : Blk w6 bx tRecr #[.int .i64 com, .slice A3 (k + 1) c3] := hbX6
          (have z0 := hbR6.cell 0; have z1 := hbR6.cell 1; have zf0 := hbR6.frozen 0; have zf1 := hbR6.frozen 1; simp only [List.getElem?_toArray, List.getElem?_cons_zero, List.getElem?_cons_succ] at z0 z1)
          (have y0 := hbO6.cell 0; have y1 := hbO6.cell 1; have y2 := hbO6.cell 2; have y3 := hbO6.cell 3; have y4 := hbO6.cell 4; have yf0 := hbO6.frozen 0; have yf1 := hbO6.frozen 1; have yf2 := hbO6.frozen 2; have yf3 := hbO6.frozen 3; have yf4 := hbO6.frozen 4; simp only [List.getElem?_toArray, List.getElem?_cons_zero, List.getElem?_cons_succ] at y0 y1 y2 y3 y4)
          (have x0 := hbQ6.cell 0; have x1 := hbQ6.cell 1; have x2 := hbQ6.cell 2; have x3 := hbQ6.cell 3; have x4 := hbQ6.cell 4; have xf0 := hbQ6.frozen 0; have xf1 := hbQ6.frozen 1; have xf2 := hbQ6.frozen 2; have xf3 := hbQ6.frozen 3; have xf4 := hbQ6.frozen 4; simp only [List.getElem?_toArray, List.getElem?_cons_zero, List.getElem?_cons_succ] at x0 x1 x2 x3 x4)
          go_wp2_with fail
          refine T_begin2 (fun b => (Value.slice D (t.w.length + k) d).ownBlock = some b) [14] [0, 1, 2, 3, 4, 5, 6, 7, 8, 9, 10, 11, 12, 13, 14] [10, 11, 14] (by kernel_rfl) (by kernel_rfl) ?_
          simp only [pickOps, List.filterMap_cons, List.filterMap_nil, List.getElem?_cons_zero, List.getElem?_cons_succ, Act.put]
          repeat (first | (refine T_skip (by rfl) (by rfl) (fun _ _ _ h => h) ?_; try simp only [Act.put, List.setIfInBounds_toArray, List.set_cons_zero, List.set_cons_succ]) | (refine T_pass (by rfl) (by rfl) ?_; try simp only [Act.put, List.setIfInBounds_toArray, List.set_cons_zero, List.set_cons_succ]) | (refine T_load (by assumption) (by rfl) (by rfl) (fun _ _ _ _ h => h) rfl rfl (by assumption) (by first | exact (fun hn => hn) | assumption) ?_; try simp only [Act.put, List.setIfInBounds_toArray, List.set_cons_zero, List.set_cons_succ]) | (refine T_nil (by rfl) (by rfl) (fun _ _ _ _ h => h) rfl rfl ?_; try simp only [Act.put, List.setIfInBounds_toArray, List.set_cons_zero, List.set_cons_succ]) | (refine T_quietN (by rfl) (by rfl) (by rfl) (by rfl) (fun _ _ _ _ h => h) (fun K hK => ?_); go_big_quiet_op; refine hK _ ?_; clear hK K) | (refine T_two (by rfl) (by rfl) (by rfl) (by rfl) (fun _ _ _ _ h => h) (fun K hK => ?_); go_big_quiet_op; refine ⟨_, fun _ _ => rfl, ?_⟩; refine hK _ ?_; clear hK K; try simp only [Act.put, List.setIfInBounds_toArray, List.set_cons_zero, List.set_cons_succ]) | fail)
          refine T_call (by rfl) (by rfl) (fun K hK => ?_)
          refine wp_buildOne so_when (by decide) [.int .i64 oop, .int .i64 com] rfl rfl rfl ?_
          (refine hK.out _ _ (((Fr.refl _ _).alloc _)) ?_; clear hK K; try simp only [Act.put, List.setIfInBounds_toArray, List.set_cons_zero, List.set_cons_succ])
          refine T_call (by rfl) (by rfl) (fun K hK => ?_)
          refine wp_app_at so_when (own_fr0 hownD6 ((Fr.refl No w6).drew.alloc (.cells ([Value.int .i64 oop, .int .i64 com]).toArray tWhen))) ((Blk.new _ _ _).rd (size := 2) (n := 1) (by rfl) (by decide)) (one2 rfl rfl) (by omega) (by simp) rfl rfl rfl ?_
          intro v8 w8 hown8 hg8 hat8
          refine hK.out _ _ ((Fr.refl _ _).grown hg8 (fun q hq => .inr hq)) ?_
          clear hK K
          try simp only [Act.put, List.setIfInBounds_toArray, List.set_cons_zero, List.set_cons_succ]
          have hf68 : Fr (fun b => (Value.slice D (t.w.length + k) d).ownBlock = some b) w6 w8 := (((Fr.refl (fun b => (Value.slice D (t.w.length + k) d).ownBlock = some b) w6).drew).alloc (.cells ([Value.int .i64 oop, .int .i64 com]).toArray tWhen)).grown hg8 (fun q hq => .inr hq)
          have hz68 : w6.heap.size + 1 = (w6.drew.alloc (.cells ([Value.int .i64 oop, .int .i64 com]).toArray tWhen)).heap.size := by simp
          have hbQ8 := hbQ6.fr hf68 m3
          obtain ⟨D3, d3, rfl, hd3, hd3m, hD3⟩ := own_form hown8
          clear x0 x1 x2 x3 x4 xf0 xf1 xf2 xf3 xf4
          (have x0 := hbQ8.cell 0; have x1 := hbQ8.cell 1; have x2 := hbQ8.cell 2; have x3 := hbQ8.cell 3; have x4 := hbQ8.cell 4; have xf0 := hbQ8.frozen 0; have xf1 := hbQ8.frozen 1; have xf2 := hbQ8.frozen 2; have xf3 := hbQ8.frozen 3; have xf4 := hbQ8.frozen 4; simp only [List.getElem?_toArray, List.getElem?_cons_zero, List.getElem?_cons_succ] at x0 x1 x2 x3 x4)
          repeat (first | (refine T_skip (by rfl) (by rfl) (fun _ _ _ h => h) ?_; try simp only [Act.put, List.setIfInBounds_toArray, List.set_cons_zero, List.set_cons_succ]) | (refine T_pass (by rfl) (by rfl) ?_; try simp only [Act.put, List.setIfInBounds_toArray, List.set_cons_zero, List.set_cons_succ]) | (refine T_load (by assumption) (by rfl) (by rfl) (fun _ _ _ _ h => h) rfl rfl (by assumption) (by first | exact (fun hn => hn) | assumption) ?_; try simp only [Act.put, List.setIfInBounds_toArray, List.set_cons_zero, List.set_cons_succ]) | (refine T_nil (by rfl) (by rfl) (fun _ _ _ _ h => h) rfl rfl ?_; try simp only [Act.put, List.setIfInBounds_toArray, List.set_cons_zero, List.set_cons_succ]) | (refine T_quietN (by rfl) (by rfl) (by rfl) (by rfl) (fun _ _ _ _ h => h) (fun K hK => ?_); go_big_quiet_op; refine hK _ ?_; clear hK K) | (refine T_two (by rfl) (by rfl) (by rfl) (by rfl) (fun _ _ _ _ h => h) (fun K hK => ?_); go_big_quiet_op; refine ⟨_, fun _ _ => rfl, ?_⟩; refine hK _ ?_; clear hK K; try simp only [Act.put, List.setIfInBounds_toArray, List.set_cons_zero, List.set_cons_succ]) | fail)
          refine T_turn No [] (by rfl) (by rfl) (by rfl) (fun K hK => ?_)
          go_wp2_with fail
          refine hK.out _ _ ?_
          clear hK K
          refine T_done ?_
          have hf9 : Fr (fun b => b = q) w8 (w8.setCell ⟨q, 4, none⟩ (.slice D3 (t.w.length + k + 1) d3)) := (Fr.refl (fun b => b = q) w8).set (p := ⟨q, 4, none⟩) (.inr rfl) _
          have hbQ9 := hbQ8.put 4 (.slice D3 (t.w.length + k + 1) d3)
          generalize hw9 : w8.setCell ⟨q, 4, none⟩ (.slice D3 (t.w.length + k + 1) d3) = w9 at *
          clear hw9 z0 z1 zf0 zf1 y0 y1 y2 y3 y4 yf0 yf1 yf2 yf3 yf4 x0 x1 x2 x3 x4 xf0 xf1 xf2 xf3 xf4
          have hf69 : Fr (fun b => b = q ∨ (Value.slice D (t.w.length + k) d).ownBlock = some b) w6 w9 := (hf68.mono (fun b _ h => .inr h)).trans hf9 (fun b _ h => .inl h)
          have hA3lt : ∀ b, (Value.slice A3 (k + 1) c3).ownBlock = some b → (Value.slice A k c).ownBlock = some b ∨ wC.heap.size ≤ b ∧ b < w5.heap.size := fun b hb => by
            rcases hat5 with h3 | h3
            · exact .inl (h3 ▸ hb)
            · rw [h3] at hb
              injection hb with hb
              exact .inr ⟨by omega, hb ▸ (hown5.lt _ h3).2⟩
          have hD3lt : ∀ b, (Value.slice D3 (t.w.length + k + 1) d3).ownBlock = some b → (Value.slice D (t.w.length + k) d).ownBlock = some b ∨ w6.heap.size < b ∧ b < w8.heap.size := fun b hb => by
            rcases hat8 with h3 | h3
            · exact .inl (h3 ▸ hb)
            · rw [h3] at hb
              injection hb with hb
              exact .inr ⟨by omega, hb ▸ (hown8.lt _ h3).2⟩
          have hzD5 := hfD.size
          have hz56 := hfS.size
          have hz69 := hf69.size
          have hqB : q < bx := by omega
          have s1 : ∀ b, (Value.slice A3 (k + 1) c3).ownBlock = some b → ¬ (Value.slice D (t.w.length + k) d).ownBlock = some b := fun b hb e => by
            rcases hA3lt b hb with h9 | h9
            · exact hAD b h9 e
            · have := HDL.out b e; omega
          have s2 : ∀ b, (Value.slice A3 (k + 1) c3).ownBlock = some b → ¬ (Value.slice D3 (t.w.length + k + 1) d3).ownBlock = some b := fun b hb e => by
            rcases hD3lt b e with h9 | h9
            · exact s1 b hb h9
            · have := (hown5.lt b hb).2; omega
          have s3 : ∀ b, (Value.slice A3 (k + 1) c3).ownBlock = some b → bx + 1 ≤ b := fun b hb => (hown5.lt b hb).1
          go_wp2_with fail
          go_roundw
          case rel =>
            refine ⟨k + 1, A3, c3, xs ++ [.int .i64 oop, .bool gone, .int .i64 ob.cls, .slice A2 ob.slots.length c2, .slice D2 ob.bytes.length d2], D3, d3, by omega, by go_num, hbX6.fr hf69 (by rintro (h9 | h9); omega; exact m2 h9), ?_, ?_, hbQ9, ?_, ?_, s2, ?_⟩
            · exact own_fr (own_fr hown5 hfS (fun b hb e => by have := s3 b hb; omega)) hf69 (fun b hb e => by
                rcases e with e | e
                · have := s3 b hb; omega
                · exact s1 b hb e)
            · rw [HTk.out]
              have hcell5 : ChC wC (fun b => bx + 1 ≤ b ∧ ¬ (Value.slice A k c).ownBlock = some b ∧ ¬ (Value.slice D (t.w.length + k) d).ownBlock = some b ∧ b < wC.heap.size) [.int .i64 oop, .bool gone, .int .i64 ob.cls, .slice A2 ob.slots.length c2, .slice D2 ob.bytes.length d2] ⟨oop, gone, ob⟩ := by
                have h1 := hocB.fr0 hfBC
                obtain ⟨A', c', D', d', e, r1, r2⟩ := h1
                injection e with _ e
                injection e with e1 e
                injection e with e2 _
                injection e1 with e11 _ e13
                injection e2 with e21 _ e23
                subst e11 e13 e21 e23
                exact ChC.mono (S := fun b => wA.heap.size ≤ b ∧ b < wB.heap.size) ⟨A2, c2, D2, d2, rfl, r1, r2⟩ (fun b _ hb => ⟨by omega, fun e => by have := HAL.out b e; omega, fun e => by have := HDL.out b e; omega, by omega⟩)
              have hxsC : ChsC wC (fun b => bx + 1 ≤ b ∧ ¬ (Value.slice A k c).ownBlock = some b ∧ ¬ (Value.slice D (t.w.length + k) d).ownBlock = some b ∧ b < wC.heap.size) xs (chs.take k) := ((hxs.keep (hfo.tr hfC) (fun _ _ hn => hn)).mono (fun b hl hb => ⟨hb.1, hb.2.1, hb.2.2, hl⟩))
              have h8 := ChsC.snoc hcell5 hxsC
              have h9 := ((h8.keep hfD (fun b hb e => hb.2.1 e)).keep hfS (fun b hb e => by have := hb.1; omega)).keep hf69 (fun b hb e => by
                rcases e with e | e
                · have := hb.1; omega
                · exact hb.2.2.1 e)
              refine h9.mono (fun b _ hb => ⟨hb.1, fun e => ?_, fun e => ?_⟩)
              · rcases hA3lt b e with h7 | h7
                · exact hb.2.1 h7
                · have := hb.2.2.2; omega
              · rcases hD3lt b e with h7 | h7
                · exact hb.2.2.1 h7
                · have := hb.2.2.2; omega
            · rw [HTk.out, HTw.out, pairs_snoc]
              exact own_fr hown8 hf9 (fun b hb e => by
                rcases hD3lt b hb with h7 | h7
                · exact (HDL.out b h7).2.1 e
                · omega)
            · intro b hb
              rcases hD3lt b hb with h7 | h7
              · exact hDT b h7
              · exact .inr (by omega)
            · refine ((hf.trans (hfo.mono (fun _ _ hn => hn.elim)) (fun b _ h => h)).trans hf06 (fun b hb hT => ?_)).trans hf69 (fun b hb hT => ?_)
              · rcases hT with hT | hT
                · exact .inl hT
                · exact .inr (.inl (HAL.out b hT).1)
              · rcases hT with hT | hT
                · exact .inr (.inr (by subst hT; exact ⟨j1, fun e => (j2 _ e).2 rfl⟩))
                · rcases hDT b hT with h9 | h9
                  · exact .inr (.inr ⟨h9.1, h9.2.2⟩)
                  · exact .inr (.inl h9)
          case measure => simp [intOf]; omega
        · obtain rfl : k = chs.length := by omega
          have ek : decide ((chs.length : Int) < chs.length) = false := by simp
          rw [List.take_length] at hxs hownD
          obtain ⟨ys, hownL0, hysO⟩ := HP4.out.lrow
          obtain ⟨L0, l0, rfl, _, _, hL0⟩ := own_form hownL0
          obtain ⟨Ab, cb, hBv, hbase⟩ := HP4.out.base
          have hoffO := fun b (hb : O b) => hOl b hb
          have hTO := fun b (hb : T b) => (HP4.out.off b hb).2
          have HLT := Lib.hid (show ∀ b, (Value.slice L0 t.l.length l0).ownBlock = some b → T b ∧ b ≠ q from j2)
          have hfr : ∀ b, O b → ¬ (b = bx ∨ bx + 1 ≤ b ∨ T b ∧ ¬ (Value.slice L0 t.l.length l0).ownBlock = some b) := fun b hb hT => by
            have := hoffO b hb
            rcases hT with hT | hT | hT
            · omega
            · omega
            · exact hTO b hT.1 hb
          have hownLr := own_fr hownL0 hf (fun b hb hT => by
            have := hTl b (j2 b hb).1
            rcases hT with hT | hT | hT
            · omega
            · omega
            · exact hT.2 hb)
          have hysr := hysO.keep hf hfr
          have hbaser := hbase.fr hf hfr
          have n2 : ¬ (Value.slice L0 t.l.length l0).ownBlock = some bx := fun e => by have := hTl _ (j2 _ e).1; omega
          have n3 : ¬ (Value.slice L0 t.l.length l0).ownBlock = some q := fun e => (j2 _ e).2 rfl
          have n4 : ¬ (Value.slice L0 t.l.length l0).ownBlock = some w.heap.size := fun e => by have := hTl _ (j2 _ e).1; omega
          have hcsX := hbXr.all
          (have z0 := hbRr.cell 0; have z1 := hbRr.cell 1; have zf0 := hbRr.frozen 0; have zf1 := hbRr.frozen 1; simp only [List.getElem?_toArray, List.getElem?_cons_zero, List.getElem?_cons_succ] at z0 z1)
          (have x0 := hbQr.cell 0; have x1 := hbQr.cell 1; have x2 := hbQr.cell 2; have x3 := hbQr.cell 3; have x4 := hbQr.cell 4; have xf0 := hbQr.frozen 0; have xf1 := hbQr.frozen 1; have xf2 := hbQr.frozen 2; have xf3 := hbQr.frozen 3; have xf4 := hbQr.frozen 4; simp only [List.getElem?_toArray, List.getElem?_cons_zero, List.getElem?_cons_succ] at x0 x1 x2 x3 x4)
          go_wp2_with fail
          refine T_begin2 (fun b => (Value.slice L0 t.l.length l0).ownBlock = some b) [10] [0, 1, 2, 3, 4, 5, 6, 7, 8, 9, 10] [6, 7, 10] (by kernel_rfl) (by kernel_rfl) ?_
          simp only [pickOps, List.filterMap_cons, List.filterMap_nil, List.getElem?_cons_zero, List.getElem?_cons_succ, Act.put]
          repeat (first | (refine T_skip (by rfl) (by rfl) (fun _ _ _ h => h) ?_; try simp only [Act.put, List.setIfInBounds_toArray, List.set_cons_zero, List.set_cons_succ]) | (refine T_pass (by rfl) (by rfl) ?_; try simp only [Act.put, List.setIfInBounds_toArray, List.set_cons_zero, List.set_cons_succ]) | (refine T_load (by assumption) (by rfl) (by rfl) (fun _ _ _ _ h => h) rfl rfl (by assumption) (by first | exact (fun hn => hn) | assumption) ?_; try simp only [Act.put, List.setIfInBounds_toArray, List.set_cons_zero, List.set_cons_succ]) | (refine T_nil (by rfl) (by rfl) (fun _ _ _ _ h => h) rfl rfl ?_; try simp only [Act.put, List.setIfInBounds_toArray, List.set_cons_zero, List.set_cons_succ]) | (refine T_quietN (by rfl) (by rfl) (by rfl) (by rfl) (fun _ _ _ _ h => h) (fun K hK => ?_); go_big_quiet_op; refine hK _ ?_; clear hK K) | (refine T_two (by rfl) (by rfl) (by rfl) (by rfl) (fun _ _ _ _ h => h) (fun K hK => ?_); go_big_quiet_op; refine ⟨_, fun _ _ => rfl, ?_⟩; refine hK _ ?_; clear hK K; try simp only [Act.put, List.setIfInBounds_toArray, List.set_cons_zero, List.set_cons_succ]) | fail)
          refine T_loadA (cs := [.int .i64 com, .slice A chs.length c]) ag_recr (by rfl) (by rfl) (fun _ _ _ _ h => h) rfl rfl rfl (show ∀ j u, _ → wr.drew.cell? _ = some u from hcsX) n2 ?_
          try simp only [Act.put, List.setIfInBounds_toArray, List.set_cons_zero, List.set_cons_succ]
          repeat (first | (refine T_skip (by rfl) (by rfl) (fun _ _ _ h => h) ?_; try simp only [Act.put, List.setIfInBounds_toArray, List.set_cons_zero, List.set_cons_succ]) | (refine T_pass (by rfl) (by rfl) ?_; try simp only [Act.put, List.setIfInBounds_toArray, List.set_cons_zero, List.set_cons_succ]) | (refine T_load (by assumption) (by rfl) (by rfl) (fun _ _ _ _ h => h) rfl rfl (by assumption) (by first | exact (fun hn => hn) | assumption) ?_; try simp only [Act.put, List.setIfInBounds_toArray, List.set_cons_zero, List.set_cons_succ]) | (refine T_nil (by rfl) (by rfl) (fun _ _ _ _ h => h) rfl rfl ?_; try simp only [Act.put, List.setIfInBounds_toArray, List.set_cons_zero, List.set_cons_succ]) | (refine T_quietN (by rfl) (by rfl) (by rfl) (by rfl) (fun _ _ _ _ h => h) (fun K hK => ?_); go_big_quiet_op; refine hK _ ?_; clear hK K) | (refine T_two (by rfl) (by rfl) (by rfl) (by rfl) (fun _ _ _ _ h => h) (fun K hK => ?_); go_big_quiet_op; refine ⟨_, fun _ _ => rfl, ?_⟩; refine hK _ ?_; clear hK K; try simp only [Act.put, List.setIfInBounds_toArray, List.set_cons_zero, List.set_cons_succ]) | fail)
          refine T_call (by rfl) (by rfl) (fun K hK => ?_)
          refine wp_buildOne so_recr (by decide) [.int .i64 com, .slice A chs.length c] rfl rfl rfl ?_
          (refine hK.out _ _ (((Fr.refl _ _).alloc _)) ?_; clear hK K; try simp only [Act.put, List.setIfInBounds_toArray, List.set_cons_zero, List.set_cons_succ])
          refine T_call (by rfl) (by rfl) (fun K hK => ?_)
          refine wp_app_at so_recr (own_fr0 hownLr ((Fr.refl No wr).drew.alloc (.cells ([Value.int .i64 com, .slice A chs.length c]).toArray tRecr))) ((Blk.new _ _ _).rd (size := 2) (n := 1) (by rfl) (by decide)) (one2 rfl rfl) (by omega) (by simp) rfl rfl rfl ?_
          intro v5 w5 hown5 hg5 hat5
          refine hK.out _ _ ((Fr.refl _ _).grown hg5 (fun q hq => .inr hq)) ?_
          clear hK K
          try simp only [Act.put, List.setIfInBounds_toArray, List.set_cons_zero, List.set_cons_succ]
          have hf5 : Fr (fun b => (Value.slice L0 t.l.length l0).ownBlock = some b) wr w5 := (((Fr.refl (fun b => (Value.slice L0 t.l.length l0).ownBlock = some b) wr).drew).alloc (.cells ([Value.int .i64 com, .slice A chs.length c]).toArray tRecr)).grown hg5 (fun q hq => .inr hq)
          have hzr : wr.heap.size + 1 = (wr.drew.alloc (.cells ([Value.int .i64 com, .slice A chs.length c]).toArray tRecr)).heap.size := by simp
          have hbQ5 := hbQr.fr hf5 n3
          have hbR5 := hbRr.fr hf5 n4
          obtain ⟨L3, l3, rfl, hl3, hl3m, hL3⟩ := own_form hown5
          clear x0 x1 x2 x3 x4 xf0 xf1 xf2 xf3 xf4 z0 z1 zf0 zf1
          (have x0 := hbQ5.cell 0; have x1 := hbQ5.cell 1; have x2 := hbQ5.cell 2; have x3 := hbQ5.cell 3; have x4 := hbQ5.cell 4; have xf0 := hbQ5.frozen 0; have xf1 := hbQ5.frozen 1; have xf2 := hbQ5.frozen 2; have xf3 := hbQ5.frozen 3; have xf4 := hbQ5.frozen 4; simp only [List.getElem?_toArray, List.getElem?_cons_zero, List.getElem?_cons_succ] at x0 x1 x2 x3 x4)
          repeat (first | (refine T_skip (by rfl) (by rfl) (fun _ _ _ h => h) ?_; try simp only [Act.put, List.setIfInBounds_toArray, List.set_cons_zero, List.set_cons_succ]) | (refine T_pass (by rfl) (by rfl) ?_; try simp only [Act.put, List.setIfInBounds_toArray, List.set_cons_zero, List.set_cons_succ]) | (refine T_load (by assumption) (by rfl) (by rfl) (fun _ _ _ _ h => h) rfl rfl (by assumption) (by first | exact (fun hn => hn) | assumption) ?_; try simp only [Act.put, List.setIfInBounds_toArray, List.set_cons_zero, List.set_cons_succ]) | (refine T_nil (by rfl) (by rfl) (fun _ _ _ _ h => h) rfl rfl ?_; try simp only [Act.put, List.setIfInBounds_toArray, List.set_cons_zero, List.set_cons_succ]) | (refine T_quietN (by rfl) (by rfl) (by rfl) (by rfl) (fun _ _ _ _ h => h) (fun K hK => ?_); go_big_quiet_op; refine hK _ ?_; clear hK K) | (refine T_two (by rfl) (by rfl) (by rfl) (by rfl) (fun _ _ _ _ h => h) (fun K hK => ?_); go_big_quiet_op; refine ⟨_, fun _ _ => rfl, ?_⟩; refine hK _ ?_; clear hK K; try simp only [Act.put, List.setIfInBounds_toArray, List.set_cons_zero, List.set_cons_succ]) | fail)
          refine T_turn No [] (by rfl) (by rfl) (by rfl) (fun K hK => ?_)
          go_wp2_with fail
          refine hK.out _ _ ?_
          clear hK K
          refine T_done ?_
          have hf6 : Fr (fun b => b = q) w5 (w5.setCell ⟨q, 3, none⟩ (.slice L3 (t.l.length + 1) l3)) := (Fr.refl (fun b => b = q) w5).set (p := ⟨q, 3, none⟩) (.inr rfl) _
          have hbQ6 := hbQ5.put 3 (.slice L3 (t.l.length + 1) l3)
          have hbQ6 : Blk (w5.setCell ⟨q, 3, none⟩ (.slice L3 (t.l.length + 1) l3)) q 58 #[.int .i64 t.fr, .int .i64 t.en, Bv, .slice L3 (t.l.length + 1) l3, .slice D (t.w.length + chs.length) d] := hbQ6
          generalize hw6 : w5.setCell ⟨q, 3, none⟩ (.slice L3 (t.l.length + 1) l3) = w6 at *
          have hbR6 := hbR5.fr hf6 (by omega)
          clear hw6 x0 x1 x2 x3 x4 xf0 xf1 xf2 xf3 xf4
          (have x0 := hbQ6.cell 0; have x1 := hbQ6.cell 1; have x2 := hbQ6.cell 2; have x3 := hbQ6.cell 3; have x4 := hbQ6.cell 4; have xf0 := hbQ6.frozen 0; have xf1 := hbQ6.frozen 1; have xf2 := hbQ6.frozen 2; have xf3 := hbQ6.frozen 3; have xf4 := hbQ6.frozen 4; simp only [List.getElem?_toArray, List.getElem?_cons_zero, List.getElem?_cons_succ] at x0 x1 x2 x3 x4)
          (have z0 := hbR6.cell 0; have z1 := hbR6.cell 1; have zf0 := hbR6.frozen 0; have zf1 := hbR6.frozen 1; simp only [List.getElem?_toArray, List.getElem?_cons_zero, List.getElem?_cons_succ] at z0 z1)
          have hf7 : Fr (fun b => b = q) w6 (w6.setCell ⟨q, 1, none⟩ (.int .i64 com)) := (Fr.refl (fun b => b = q) w6).set (p := ⟨q, 1, none⟩) (.inr rfl) _
          have hbQ7 := hbQ6.put 1 (.int .i64 com)
          go_wp2
          go_ret
          have hfq : Fr (fun b => b = q) w5 (w6.setCell ⟨q, 1, none⟩ (.int .i64 com)) := hf6.trans hf7 (fun b _ h => h)
          have hf57 : Fr (fun b => b = q ∨ (Value.slice L0 t.l.length l0).ownBlock = some b) wr (w6.setCell ⟨q, 1, none⟩ (.int .i64 com)) := (hf5.mono (fun b _ h => .inr h)).trans hfq (fun b _ h => .inl h)
          generalize w6.setCell ⟨q, 1, none⟩ (.int .i64 com) = w7 at *
          have hz57 := hf57.size
          have hL3lt : ∀ b, (Value.slice L3 (t.l.length + 1) l3).ownBlock = some b → (Value.slice L0 t.l.length l0).ownBlock = some b ∨ wr.heap.size < b ∧ b < w5.heap.size := fun b hb => by
            rcases hat5 with h3 | h3
            · exact .inl (h3 ▸ hb)
            · rw [h3] at hb
              injection hb with hb
              exact .inr ⟨by omega, hb ▸ (hown5.lt _ h3).2⟩
          have hz75 := hfq.size
          have hDr : ∀ b, (Value.slice D (t.w.length + chs.length) d).ownBlock = some b → b < wr.heap.size ∧ b ≠ q ∧ ¬ (Value.slice L0 t.l.length l0).ownBlock = some b := fun b hb => by
            refine ⟨(hownD.lt b hb).2, ?_⟩
            rcases hDT b hb with h9 | h9
            · exact h9.2
            · exact ⟨by omega, fun e => by have := hTl b (HLT.out b e).1; omega⟩
          refine ⟨by rw [HM.out]; rfl, fun b => T b ∨ (Value.slice D (t.w.length + chs.length) d).ownBlock = some b ∨ (Value.slice L3 (t.l.length + 1) l3).ownBlock = some b, fun b => O b ∨ bx + 1 ≤ b ∧ b < wr.heap.size ∧ ¬ (Value.slice D (t.w.length + chs.length) d).ownBlock = some b, ?_, ?_, ?_, ?_⟩
          · rw [HM.out]
            refine ⟨Bv, .slice L3 (t.l.length + 1) l3, .slice D (t.w.length + chs.length) d, { blk := hbQ7, base := ⟨Ab, cb, hBv, (hbaser.fr hf57 ?_).mono (fun b _ hb => .inl hb)⟩, lrow := ⟨ys ++ [.int .i64 com, .slice A chs.length c], ?_, ?_⟩, wrow := ?_, inT := ⟨.inl j1, ?_, ?_, ?_⟩, off := ?_, offO := ?_ }⟩
            · rintro b hb (e | e)
              · exact hTO q j1 (e ▸ hb)
              · exact hTO b (HLT.out b e).1 hb
            · simp only [List.length_append, List.length_singleton]
              exact own_fr hown5 hfq (fun b hb e => by
                rcases hL3lt b hb with h7 | h7
                · exact (HLT.out b h7).2 e
                · omega)
            · refine RecsC.snoc (c := ⟨com, chs⟩) ⟨A, c, rfl, xs, ?_, ?_⟩ ((hysr.keep hf57 ?_).mono (fun b _ hb => .inl hb))
              · obtain ⟨_, _, e9, _, _, hAl⟩ := own_form hownA
                injection e9 with e91 e92 e93
                subst e91 e93
                refine Rd.mono (Rd.fr (own_rd hownA (by show chs.length ≤ _; omega)) hf57 (fun b hb hT => ?_)) (fun b _ hb => .inr ⟨(hownA.lt b ((hAl b).2 hb)).1, (hownA.lt b ((hAl b).2 hb)).2, hAD b ((hAl b).2 hb)⟩) (by decide)
                have := (hownA.lt b ((hAl b).2 hb)).1
                rcases hT with e | e
                · omega
                · have := hTl b (HLT.out b e).1; omega
              · refine ((hxs.mono (T := fun b => bx + 1 ≤ b ∧ b < wr.heap.size ∧ ¬ (Value.slice D (t.w.length + chs.length) d).ownBlock = some b) (fun b hl hb => ⟨hb.1, hl, hb.2.2⟩)).keep hf57 (fun b hb hT => ?_)).mono (fun b _ hb => .inr hb)
                rcases hT with e | e
                · have := hb.1; omega
                · have := hTl b (HLT.out b e).1; have := hb.1; omega
              · rintro b hb (e | e)
                · exact hTO q j1 (e ▸ hb)
                · exact hTO b (HLT.out b e).1 hb
            · simp only [List.length_append, List.length_map]
              exact own_fr hownD hf57 (fun b hb e => by
                rcases e with e | e
                · exact (hDr b hb).2.1 e
                · exact (hDr b hb).2.2 e)
            · intro b hb
              refine ⟨.inr (.inr hb), ?_⟩
              rcases hL3lt b hb with h7 | h7
              · exact (HLT.out b h7).2
              · omega
            · exact fun b hb => ⟨.inr (.inl hb), (hDr b hb).2.1⟩
            · intro b hb e
              rcases hL3lt b hb with h7 | h7
              · exact (hDr b e).2.2 h7
              · have := (hDr b e).1; omega
            · rintro b (hb | hb | hb)
              · have := hTl b hb
                refine ⟨by omega, ?_⟩
                rintro (h9 | h9)
                · exact hTO b hb h9
                · omega
              · refine ⟨by have := (hDr b hb).1; omega, ?_⟩
                rintro (h9 | h9)
                · rcases hDT b hb with h8 | h8
                  · exact hTO b h8.1 h9
                  · have := hoffO b h9; omega
                · exact h9.2.2 hb
              · refine ⟨?_, ?_⟩
                · rcases hL3lt b hb with h7 | h7
                  · have := hTl b (HLT.out b h7).1; omega
                  · omega
                · rintro (h9 | h9)
                  · rcases hL3lt b hb with h7 | h7
                    · exact hTO b (HLT.out b h7).1 h9
                    · have := hoffO b h9; omega
                  · rcases hL3lt b hb with h7 | h7
                    · have := hTl b (HLT.out b h7).1; omega
                    · omega
            · rintro b (hb | hb)
              · have := hoffO b hb; omega
              · omega
          · rintro b (hb | hb | hb)
            · exact .inl hb
            · rcases hDT b hb with h8 | h8
              · exact .inl h8.1
              · exact .inr (by omega)
            · rcases hL3lt b hb with h7 | h7
              · exact .inl (HLT.out b h7).1
              · exact .inr (by omega)
          · rintro b (hb | hb)
            · exact .inl hb
            · exact .inr (by omega)
          · refine hfW.trans hf57 (fun b hb hT => ?_)
            rcases hT with e | e
            · exact e ▸ j1
            · exact (HLT.out b e).1
end Go.Proofs.Ytoajigghkjnffaa
namespace Go.Proofs.Ytoajigghkjnffaa
set_option linter.unusedVariables false
set_option linter.unusedSimpArgs false
open Go.RowKit

theorem so_chp : SliceOf Try.prog 66 104 (.agg #[.int .i64 0, .bool false, .int .i64 0, .slice none 0 0, .slice none 0 0]) 5 72 := ⟨Try.underlying66, by kernel_rfl, rfl, by decide, by decide, by decide⟩
theorem take_snocL (l : List ChM) (k : Nat) (h : k < l.length) : l.take (k + 1) = l.take k ++ [l[k]] := by
  rw [List.take_succ_eq_append_getElem h]
/-- That the memory can hold a record's objects. -/
def RecOk (r : RecM) : Prop := r.chs.length * 72 ≤ 140737488351232 ∧ ∀ c ∈ r.chs, c.obj.slots.length * 16 ≤ 140737488351232 ∧ c.obj.bytes.length ≤ 140737488351232
theorem ChM.eta (c : ChM) : (⟨c.oop, c.gone, c.obj⟩ : ChM) = c := rfl
set_option maxHeartbeats 4000000 in
set_option maxRecDepth 100000 in
theorem given12_calls (S : Nat → Prop) (cs : List Value) (r : RecM) (w : World) (h : RecC w S cs r) (ok : RecOk r) :
    Calls Try.prog 40 #[.agg cs.toArray] w fun e w' => ∃ cs' : List Value, e = .returned (.agg cs'.toArray) ∧ RecC w' (fun b => w.heap.size ≤ b) cs' r ∧ Fr No w w' := by
  obtain ⟨com, chs⟩ := r
  obtain ⟨ok1, ok2⟩ := ok
  simp only at ok1 ok2
  obtain ⟨Ar, cr, rfl, hch⟩ := h
  simp only at hch
  have g1 := plain_i64
  have g2 := plain_lval
  have g3 := plain_lu8
  have g4 := plain_bool
  have g5 := plain_lchr
  have g6 := plain_lchp
  have hle := hch.le
  have hf1 : Fr No w (((w.alloc (.cells #[.int .i64 com, .slice Ar chs.length cr] 50)).alloc (.cells #[.int .i64 0, .slice none 0 0] 76)).alloc (.cells #[.int .i64 com, .slice none 0 0] 76)) := (((Fr.refl No w).alloc _).alloc _).alloc _
  have hbx : Blk (((w.alloc (.cells #[.int .i64 com, .slice Ar chs.length cr] 50)).alloc (.cells #[.int .i64 0, .slice none 0 0] 76)).alloc (.cells #[.int .i64 com, .slice none 0 0] 76)) w.heap.size 50 #[.int .i64 com, .slice Ar chs.length cr] := ((Blk.new w _ _).alloc _).alloc _
  have hbr : Blk (((w.alloc (.cells #[.int .i64 com, .slice Ar chs.length cr] 50)).alloc (.cells #[.int .i64 0, .slice none 0 0] 76)).alloc (.cells #[.int .i64 com, .slice none 0 0] 76)) (w.heap.size + 1) 76 #[.int .i64 0, .slice none 0 0] := (Blk.newAt (by simp)).alloc _
  have hby : Blk (((w.alloc (.cells #[.int .i64 com, .slice Ar chs.length cr] 50)).alloc (.cells #[.int .i64 0, .slice none 0 0] 76)).alloc (.cells #[.int .i64 com, .slice none 0 0] 76)) (w.heap.size + 1 + 1) 76 #[.int .i64 com, .slice none 0 0] := Blk.newAt (by simp)
  have hz1 : (((w.alloc (.cells #[.int .i64 com, .slice Ar chs.length cr] 50)).alloc (.cells #[.int .i64 0, .slice none 0 0] 76)).alloc (.cells #[.int .i64 com, .slice none 0 0] 76)).heap.size = w.heap.size + 3 := by simp
  go_enter Try.func40, Try.ntmps40
  go_upto_region 2 with fail
  generalize hw1 : (((w.alloc (.cells #[.int .i64 com, .slice Ar chs.length cr] 50)).alloc (.cells #[.int .i64 0, .slice none 0 0] 76)).alloc (.cells #[.int .i64 com, .slice none 0 0] 76)) = w1 at *
  clear hw1
  have hz1' : w.heap.size + 3 ≤ w1.heap.size := by omega
  clear hz1
  go_wp2_with fail
  go_loopw [4] (fun i wr => ∃ (k : Nat) (A : Option Addr) (c : Nat) (xs : List Value), k ≤ chs.length ∧ i = .int .i64 (k : Int) ∧ Blk wr (w.heap.size + 1 + 1) 76 #[.int .i64 com, .slice A k c] ∧ wr.ownsRow (w.heap.size + 3) 104 5 (.slice A k c) k xs ∧ ChsC wr (fun b => w.heap.size + 3 ≤ b ∧ ¬ (Value.slice A k c).ownBlock = some b) xs (chs.take k) ∧ Fr (fun b => w.heap.size + 1 + 1 ≤ b) w1 wr) (fun i _ => chs.length - (intOf i).toNat)
  case atStart => exact ⟨0, none, 0, [], by omega, rfl, hby, World.ownsRow_nil _ _ _ _, rfl, Fr.refl _ _⟩
  case round =>
    obtain ⟨k, A, c, xs, hk, rfl, hb, hown, hxs, hf⟩ := hrel
    have hsr := hf.size
    have hfW : Fr No w wr := hf1.trans hf (fun b hb hT => by omega)
    have hbX := hbx.fr hf (fun hT => by omega)
    have hbR := hbr.fr hf (fun hT => by omega)
    (have p0 := hbX.cell 0; have p1 := hbX.cell 1; have pf0 := hbX.frozen 0; have pf1 := hbX.frozen 1; simp only [List.getElem?_toArray, List.getElem?_cons_zero, List.getElem?_cons_succ] at p0 p1)
    by_cases hlt : k < chs.length
    · have ek : decide ((k : Int) < chs.length) = true := by simpa using (by omega : (k : Int) < chs.length)
      have hrd := hch.fr0 hfW
      obtain ⟨ga, of, Av, nn, D, mm, rfl, _, hcell, hsl, hby'⟩ := hrd.at_ hlt
      have hok := ok2 _ (List.getElem_mem hlt)
      have HT := Lib.hid (take_snocL chs k hlt)
      have hgl : ga < wr.heap.size := World.block_lt_of_cell? wr _ (hcell 0 _ rfl)
      generalize chs[k] = x at *
      obtain ⟨oop, gone, ob⟩ := x
      simp only at hcell hsl hby' hok
      have k0 := hcell 0 _ rfl
      have k1 := hcell 1 _ rfl
      have hobc : ∀ j u, [Value.int .i64 ob.cls, .slice Av ob.slots.length nn, .slice D ob.bytes.length mm][j]? = some u → wr.cell? ((⟨ga, of + k * 5 + 2, none⟩ : Addr).add j) = some u := addr5 _ _ _ (fun j u hu => by
        have := hcell (j + 2) u (by simpa using hu)
        rwa [show of + k * 5 + (j + 2) = of + k * 5 + 2 + j by omega] at this)
      have HOB := Lib.hid hobc
      simp only [Nat.add_zero] at k0
      have hgaw : ga < w.heap.size := by
        obtain ⟨g', o', Av', nn', D', mm', hA', _, hcell', _, _⟩ := hch.at_ hlt
        injection hA' with hA'
        injection hA' with h1 h2
        subst h1 h2
        exact World.block_lt_of_cell? w _ (hcell' 0 _ rfl)
      have hSG : ¬ ((Value.slice A k c).ownBlock = some ga) := fun hh => by have := (hown.lt _ hh).1; omega
      have hSX : ¬ ((Value.slice A k c).ownBlock = some w.heap.size) := fun hh => by have := (hown.lt _ hh).1; omega
      have hSH : ¬ ((Value.slice A k c).ownBlock = some (w.heap.size + 1 + 1)) := fun hh => by have := (hown.lt _ hh).1; omega
      have hownlt := fun b (hb : (Value.slice A k c).ownBlock = some b) => hown.lt b hb
      have HOL := Lib.hid hownlt
      clear hcell hobc hrd hownlt
      (have q0 := hb.cell 0; have q1 := hb.cell 1; have qf0 := hb.frozen 0; have qf1 := hb.frozen 1; simp only [List.getElem?_toArray, List.getElem?_cons_zero, List.getElem?_cons_succ] at q0 q1)
      go_wp2_with fail
      refine T_begin2 (fun b => (Value.slice A k c).ownBlock = some b) [25] [0, 1, 2, 3, 4, 5, 6, 7, 8, 9, 10, 11, 12, 13, 14, 15, 16, 17, 18, 19, 20, 21, 22, 23, 24, 25] [20, 22, 23, 25] (by kernel_rfl) (by kernel_rfl) ?_
      simp only [pickOps, List.filterMap_cons, List.filterMap_nil, List.getElem?_cons_zero, List.getElem?_cons_succ, Act.put]
      repeat (first | (refine T_skip (by rfl) (by rfl) (fun _ _ _ h => h) ?_; try simp only [Act.put, List.setIfInBounds_toArray, List.set_cons_zero, List.set_cons_succ]) | (refine T_pass (by rfl) (by rfl) ?_; try simp only [Act.put, List.setIfInBounds_toArray, List.set_cons_zero, List.set_cons_succ]) | (refine T_load (by assumption) (by rfl) (by rfl) (fun _ _ _ _ h => h) rfl rfl (by assumption) (by first | exact (fun hn => hn) | assumption) ?_; try simp only [Act.put, List.setIfInBounds_toArray, List.set_cons_zero, List.set_cons_succ]) | (refine T_nil (by rfl) (by rfl) (fun _ _ _ _ h => h) rfl rfl ?_; try simp only [Act.put, List.setIfInBounds_toArray, List.set_cons_zero, List.set_cons_succ]) | (refine T_quietN (by rfl) (by rfl) (by rfl) (by rfl) (fun _ _ _ _ h => h) (fun K hK => ?_); go_big_quiet_op; refine hK _ ?_; clear hK K) | (refine T_two (by rfl) (by rfl) (by rfl) (by rfl) (fun _ _ _ _ h => h) (fun K hK => ?_); go_big_quiet_op; refine ⟨_, fun _ _ => rfl, ?_⟩; refine hK _ ?_; clear hK K; try simp only [Act.put, List.setIfInBounds_toArray, List.set_cons_zero, List.set_cons_succ]) | fail)
      refine T_loadA (cs := [.int .i64 ob.cls, .slice Av ob.slots.length nn, .slice D ob.bytes.length mm]) ag_obj (by rfl) (by rfl) (fun _ _ _ _ h => h) rfl rfl rfl (show ∀ j u, _ → wr.drew.cell? _ = some u from HOB.out) hSG ?_
      try simp only [Act.put, List.setIfInBounds_toArray, List.set_cons_zero, List.set_cons_succ]
      (refine T_call (by rfl) (by rfl) (fun K hK => ?_); go_wp2_with fail)
      refine (refcopy_calls S _ ob _ (show ObjC wr.drew S _ ob from ⟨Av, nn, D, mm, rfl, hsl, hby'⟩) (by omega)).mono ?_
      rintro e w3 ⟨cs3, rfl, hown3, hf3⟩
      (refine hK.out _ _ ((hf3.mono (fun _ _ hn => hn.elim))) ?_; clear hK K; try simp only [Act.put, List.setIfInBounds_toArray, List.set_cons_zero, List.set_cons_succ])
      obtain ⟨A2, c2, D2, d2, rfl⟩ := hown3.lit5
      have hoc3 := (hown3.rd (by omega) (by omega))
      have hz3 := hf3.size
      have hdz : wr.drew.heap.size = wr.heap.size := rfl
      rw [hdz] at hz3 hoc3
      repeat (first | (refine T_skip (by rfl) (by rfl) (fun _ _ _ h => h) ?_; try simp only [Act.put, List.setIfInBounds_toArray, List.set_cons_zero, List.set_cons_succ]) | (refine T_pass (by rfl) (by rfl) ?_; try simp only [Act.put, List.setIfInBounds_toArray, List.set_cons_zero, List.set_cons_succ]) | (refine T_load (by assumption) (by rfl) (by rfl) (fun _ _ _ _ h => h) rfl rfl (by assumption) (by first | exact (fun hn => hn) | assumption) ?_; try simp only [Act.put, List.setIfInBounds_toArray, List.set_cons_zero, List.set_cons_succ]) | (refine T_nil (by rfl) (by rfl) (fun _ _ _ _ h => h) rfl rfl ?_; try simp only [Act.put, List.setIfInBounds_toArray, List.set_cons_zero, List.set_cons_succ]) | (refine T_quietN (by rfl) (by rfl) (by rfl) (by rfl) (fun _ _ _ _ h => h) (fun K hK => ?_); go_big_quiet_op; refine hK _ ?_; clear hK K) | (refine T_two (by rfl) (by rfl) (by rfl) (by rfl) (fun _ _ _ _ h => h) (fun K hK => ?_); go_big_quiet_op; refine ⟨_, fun _ _ => rfl, ?_⟩; refine hK _ ?_; clear hK K; try simp only [Act.put, List.setIfInBounds_toArray, List.set_cons_zero, List.set_cons_succ]) | fail)
      have hf03 : Fr No wr w3 := (Fr.refl No wr).drew.tr hf3
      refine T_call (by rfl) (by rfl) (fun K hK => ?_)
      refine wp_buildOne so_chp (by decide) [.int .i64 oop, .bool gone, .int .i64 ob.cls, .slice A2 ob.slots.length c2, .slice D2 ob.bytes.length d2] rfl rfl rfl ?_
      (refine hK.out _ _ (((Fr.refl _ _).alloc _)) ?_; clear hK K; try simp only [Act.put, List.setIfInBounds_toArray, List.set_cons_zero, List.set_cons_succ])
      refine T_call (by rfl) (by rfl) (fun K hK => ?_)
      refine wp_app_at so_chp (own_fr0 hown (hf03.alloc (.cells ([.int .i64 oop, .bool gone, .int .i64 ob.cls, .slice A2 ob.slots.length c2, .slice D2 ob.bytes.length d2]).toArray 104))) ((Blk.new _ _ _).rd (size := 5) (n := 1) (by rfl) (by decide)) (one5 rfl rfl rfl rfl rfl) (by omega) (by simp; omega) rfl rfl rfl ?_
      intro v5 w5 hown5 hg5 hat5
      refine hK.out _ _ ((Fr.refl _ _).grown hg5 (fun q hq => .inr hq)) ?_
      clear hK K
      try simp only [Act.put, List.setIfInBounds_toArray, List.set_cons_zero, List.set_cons_succ]
      have hfA5 : Fr No wr (w3.alloc (.cells ([.int .i64 oop, .bool gone, .int .i64 ob.cls, .slice A2 ob.slots.length c2, .slice D2 ob.bytes.length d2]).toArray 104)) := hf03.alloc _
      have hb5 := (hb.fr0 hfA5).grown hg5 (fun hh => hSH hh.symm)
      obtain ⟨A3, c3, rfl, hc3, hc3m, hA3⟩ := own_form hown5
      (have z0 := hb5.cell 0; have z1 := hb5.cell 1; have zf0 := hb5.frozen 0; have zf1 := hb5.frozen 1; simp only [List.getElem?_toArray, List.getElem?_cons_zero, List.getElem?_cons_succ] at z0 z1)
      repeat (first | (refine T_skip (by rfl) (by rfl) (fun _ _ _ h => h) ?_; try simp only [Act.put, List.setIfInBounds_toArray, List.set_cons_zero, List.set_cons_succ]) | (refine T_pass (by rfl) (by rfl) ?_; try simp only [Act.put, List.setIfInBounds_toArray, List.set_cons_zero, List.set_cons_succ]) | (refine T_load (by assumption) (by rfl) (by rfl) (fun _ _ _ _ h => h) rfl rfl (by assumption) (by first | exact (fun hn => hn) | assumption) ?_; try simp only [Act.put, List.setIfInBounds_toArray, List.set_cons_zero, List.set_cons_succ]) | (refine T_nil (by rfl) (by rfl) (fun _ _ _ _ h => h) rfl rfl ?_; try simp only [Act.put, List.setIfInBounds_toArray, List.set_cons_zero, List.set_cons_succ]) | (refine T_quietN (by rfl) (by rfl) (by rfl) (by rfl) (fun _ _ _ _ h => h) (fun K hK => ?_); go_big_quiet_op; refine hK _ ?_; clear hK K) | (refine T_two (by rfl) (by rfl) (by rfl) (by rfl) (fun _ _ _ _ h => h) (fun K hK => ?_); go_big_quiet_op; refine ⟨_, fun _ _ => rfl, ?_⟩; refine hK _ ?_; clear hK K; try simp only [Act.put, List.setIfInBounds_toArray, List.set_cons_zero, List.set_cons_succ]) | fail)
      refine T_turn No [] (by rfl) (by rfl) (by rfl) (fun K hK => ?_)
      go_wp2_with fail
      refine hK.out _ _ ?_
      clear hK K
      refine T_done ?_
      have hfS : Fr (fun b => b = w.heap.size + 1 + 1) w5 (w5.setCell ⟨w.heap.size + 1 + 1, 1, none⟩ (.slice A3 (k + 1) c3)) := (Fr.refl _ w5).set1 1 _
      have hgF : Fr (fun b => (Value.slice A k c).ownBlock = some b) (w3.alloc (.cells ([.int .i64 oop, .bool gone, .int .i64 ob.cls, .slice A2 ob.slots.length c2, .slice D2 ob.bytes.length d2]).toArray 104)) w5 := (Fr.refl _ _).grown hg5 (fun q hq => .inr hq)
      go_wp2_with fail
      go_roundw
      case rel =>
        refine ⟨k + 1, A3, c3, xs ++ [.int .i64 oop, .bool gone, .int .i64 ob.cls, .slice A2 ob.slots.length c2, .slice D2 ob.bytes.length d2], by omega, by go_num, hb5.put 1 _, own_fr hown5 hfS (fun b hb hT => by have := (hown5.lt _ hb).1; omega), ?_, ?_⟩
        · rw [HT.out]
          have h8 := (ChsC.snoc (show ChC w3 (fun b => w.heap.size + 3 ≤ b ∧ ¬ (Value.slice A k c).ownBlock = some b) [.int .i64 oop, .bool gone, .int .i64 ob.cls, .slice A2 ob.slots.length c2, .slice D2 ob.bytes.length d2] ⟨oop, gone, ob⟩ by
            obtain ⟨A', c', D', d', e, r1, r2⟩ := hoc3
            injection e with _ e
            injection e with e1 e
            injection e with e2 _
            injection e1 with e11 _ e13
            injection e2 with e21 _ e23
            subst e11 e13 e21 e23
            exact ChC.mono ⟨A2, c2, D2, d2, rfl, r1, r2⟩ (fun b hl hb => ⟨by omega, fun e => by have := (HOL.out b e).2; omega⟩)) (hxs.keep hf03 (fun _ _ hn => hn))).lt
          have h9 := ((h8.keep ((Fr.refl No w3).alloc (.cells ([.int .i64 oop, .bool gone, .int .i64 ob.cls, .slice A2 ob.slots.length c2, .slice D2 ob.bytes.length d2]).toArray 104)) (fun _ _ hn => hn)).keep hgF (fun b hb hT => hb.1.2 hT)).keep hfS (fun b hb hT => by have := hb.1.1; omega)
          refine h9.mono (fun b _ hb => ⟨hb.1.1, fun e => ?_⟩)
          rcases hat5 with h3 | h3
          · exact hb.1.2 (h3 ▸ e)
          · rw [h3] at e; injection e with e; have := hb.2; simp at e; omega
        · exact (((hf.trans (hfA5.mono (fun _ _ hn => hn.elim)) (fun b _ h => h)).grown hg5 (fun q hq => .inr (by have := (HOL.out q hq).1; omega)))).set (.inr (Nat.le_refl _)) _
      case measure => simp [intOf]; omega
    · obtain rfl : k = chs.length := by omega
      have ek : decide ((chs.length : Int) < chs.length) = false := by simp
      rw [List.take_length] at hxs
      have hcs := hb.all
      go_wp2_with (first
        | (refine wpList_ldA ag_recp rfl _ rfl ⟨w.heap.size + 1 + 1, 0, none⟩ [.int .i64 com, .slice A chs.length c] rfl rfl hcs ?_)
        | (refine wpList_stA ag_recp.info rfl _ _ rfl (w.heap.size + 1) 0 _ _ [.int .i64 com, .slice A chs.length c] _ rfl rfl rfl rfl (by intro u hu; simp at hu; rcases hu with rfl | rfl <;> rfl) hbR (by decide) ?_; intro w5 hb5 hg5 hz5)
        | fail)
      rw [splice_all _ _ (by rfl)] at hb5
      have hf5 : Fr (fun b => b = w.heap.size + 1) wr w5 := (Fr.refl _ wr).grown hg5 (fun q hq => by injection hq with hq; exact .inr hq.symm)
      obtain ⟨_, _, e9, _, _, hDl⟩ := own_form hown
      injection e9 with e91 e92 e93
      subst e91 e93
      refine bodyPost_ret (results_blk ag_recp rfl _ _ _ _ _ rfl hb5 rfl) rfl ⟨_, rfl, ⟨A, c, rfl, xs, ?_, ?_⟩, hfW.trans hf5 (fun b hb hT => by omega)⟩
      · exact Rd.mono (Rd.fr (own_rd hown (by omega)) hf5 (fun b hb hT => by have := (hown.lt b ((hDl b).2 hb)).1; omega)) (fun b _ hb => by have := (hown.lt b ((hDl b).2 hb)).1; omega) (by decide)
      · exact (hxs.keep hf5 (fun b hb hT => by have := hb.1; omega)).mono (fun b _ hb => by have := hb.1; omega)
end Go.Proofs.Ytoajigghkjnffaa
namespace Go.Proofs.Ytoajigghkjnffaa
set_option linter.unusedVariables false
set_option linter.unusedSimpArgs false
open Go.RowKit

def tabOf (l : List RecM) : TabM := l.foldl (fun t r => (applyM t r).1) tab0
def rtabOf (l : List RecM) : RTabM := l.foldl (fun t r => (rapplyM t r).1) rtab0
theorem tabOf_snoc (l : List RecM) (r : RecM) : tabOf (l ++ [r]) = (applyM (tabOf l) r).1 := by unfold tabOf; rw [List.foldl_append]; rfl
theorem rtabOf_snoc (l : List RecM) (r : RecM) : rtabOf (l ++ [r]) = (rapplyM (rtabOf l) r).1 := by unfold rtabOf; rw [List.foldl_append]; rfl
theorem applyM_n2 (t : TabM) (r : RecM) : (applyM t r).1.n ≤ t.n + 4096 := by
  cases hr : rightR r with
  | false => rw [applyM_bad hr]; exact Nat.le_add_right _ _
  | true =>
    have := applyM_n t r
    have := (rightR_four hr).2.2.1
    omega
theorem rapplyM_n (t : RTabM) (r : RecM) : (rapplyM t r).1.w.length ≤ t.w.length + 4096 ∧ (rapplyM t r).1.l.length ≤ t.l.length + 1 := by
  cases hr : rightR r with
  | false => rw [rapplyM_bad hr]; exact ⟨Nat.le_add_right _ _, Nat.le_add_right _ _⟩
  | true =>
    have h4 := (rightR_four hr).2.2.1
    by_cases h2 : r.commit ≤ t.en
    · rw [rapplyM_old hr h2]; exact ⟨Nat.le_add_right _ _, Nat.le_add_right _ _⟩
    · rw [rapplyM_yes hr h2]
      refine ⟨?_, ?_⟩
      · show (t.w ++ r.chs.map _).length ≤ _
        rw [List.length_append, List.length_map]; omega
      · show (t.l ++ [r]).length ≤ _
        simp
theorem tab0_ok : TabOk tab0 := by
  intro x
  exact ⟨List.Pairwise.nil, by intro v hv; exact absurd hv List.not_mem_nil, Nat.le_refl _, by intro v hv; exact absurd hv List.not_mem_nil⟩
theorem tabOf_ok : ∀ (l : List RecM) (t : TabM), TabOk t → TabOk (l.foldl (fun t r => (applyM t r).1) t)
  | [], t, h => h
  | r :: l, t, h => tabOf_ok l _ (applyM_ok h)
theorem RecC.len {w : World} {S : Nat → Prop} {cs : List Value} {r : RecM} (h : RecC w S cs r) : cs.length = 2 := by
  obtain ⟨_, _, rfl, _⟩ := h; rfl
theorem RecsC.at_ {w : World} {S : Nat → Prop} : ∀ {ts : List RecM} {xs : List Value} {k : Nat} (_ : RecsC w S xs ts) (hk : k < ts.length), ∃ cs, RecC w S cs ts[k] ∧ ∀ j u, cs[j]? = some u → xs[k * 2 + j]? = some u
  | [], _, _, _, hk => absurd hk (by simp)
  | t :: ts, xs, 0, ⟨cs, rest, e, hc, hr⟩, _ => ⟨cs, hc, fun j u hu => by
      subst e
      rw [Nat.zero_mul, Nat.zero_add, List.getElem?_append_left (List.getElem?_eq_some_iff.1 hu).1]; exact hu⟩
  | t :: ts, xs, k + 1, ⟨cs, rest, e, hc, hr⟩, hk => by
      obtain ⟨cs', hc', hj⟩ := RecsC.at_ (k := k) hr (by simpa using hk)
      refine ⟨cs', by simpa using hc', fun j u hu => ?_⟩
      subst e
      rw [List.getElem?_append_right (by rw [hc.len]; omega), hc.len, show (k + 1) * 2 + j - 2 = k * 2 + j by omega]
      exact hj j u hu
/-- A slice of records. -/
def RdRec (w : World) (S : Nat → Prop) (A : Option Addr) (ts : List RecM) : Prop := ∃ xs, Rd w S 2 A ts.length xs ∧ RecsC w S xs ts
theorem RdRec.fr {w w' : World} {S T : Nat → Prop} {A : Option Addr} {ts : List RecM} (h : RdRec w S A ts) (hf : Fr T w w') (hd : ∀ b, S b → ¬ T b) : RdRec w' S A ts := by
  obtain ⟨xs, h1, h2⟩ := h; exact ⟨xs, h1.fr hf hd, h2.keep hf hd⟩
theorem RdRec.fr0 {w w' : World} {S : Nat → Prop} {A : Option Addr} {ts : List RecM} (h : RdRec w S A ts) (hf : Fr No w w') : RdRec w' S A ts := h.fr hf (fun _ _ hn => hn)
theorem RdRec.le {w : World} {S : Nat → Prop} {A : Option Addr} {ts : List RecM} (h : RdRec w S A ts) : ts.length ≤ 211106232532992 := by
  obtain ⟨xs, h1, _⟩ := h; exact h1.le
theorem RdRec.at_ {w : World} {S : Nat → Prop} {A : Option Addr} {ts : List RecM} (h : RdRec w S A ts) {k : Nat} (hk : k < ts.length) :
    ∃ g o cs, A = some ⟨g, o, none⟩ ∧ RecC w S cs ts[k] ∧ (∀ j u, cs[j]? = some u → w.cell? ((⟨g, o + k * 2, none⟩ : Addr).add j) = some u) ∧ cs.length = 2 := by
  obtain ⟨xs, h1, h2⟩ := h
  obtain ⟨g, o, hA, hS, hc⟩ := h1.plain (by omega) (by decide)
  obtain ⟨cs, hcs, hj⟩ := h2.at_ hk
  exact ⟨g, o, cs, hA, hcs, addr5 _ _ _ (fun j u hu => by have := hc _ u (hj j u hu); rwa [← Nat.add_assoc] at this), hcs.len⟩
theorem take_snocR (l : List RecM) (k : Nat) (h : k < l.length) : l.take (k + 1) = l.take k ++ [l[k]] := by
  rw [List.take_succ_eq_append_getElem h]
set_option maxHeartbeats 4000000 in
set_option maxRecDepth 100000 in
theorem both_calls (S : Nat → Prop) (A : Option Addr) (c : Nat) (l : List RecM) (w : World) (h : RdRec w S A l) (hS : ∀ b, S b → b < w.heap.size) (ok : ∀ r ∈ l, RecOk r) :
    Calls Try.prog 15 #[.slice A l.length c] w fun e w' => ∃ (p q : Nat) (T O T2 O2 : Nat → Prop), e = .returned (.tuple #[.pointer (some ⟨p, 0, none⟩), .pointer (some ⟨q, 0, none⟩)]) ∧ TabAt w' T O p (tabOf (l.take 12)) ∧ RTabAt w' T2 O2 q (rtabOf (l.take 12)) ∧
      (∀ b, T b ∨ O b ∨ T2 b ∨ O2 b → w.heap.size ≤ b) ∧ (∀ b, T b → ¬ T2 b ∧ ¬ O2 b) ∧ (∀ b, T2 b → ¬ O b) ∧ Fr No w w' := by
  have hle := h.le
  have HOK := Lib.hid ok
  clear ok
  go_enter Try.func15, Try.ntmps15
  go_wp2_with fail
  refine (tnew_calls _).mono ?_
  rintro e w1 ⟨p, rfl, hT1, hf1⟩
  go_wp2_with fail
  refine (rnew_calls _).mono ?_
  rintro e w2 ⟨q, rfl, hR2, hf2⟩
  have hT2 := hT1.fr0 hf2
  have hF2 := hf1.tr hf2
  have hz1 := hf1.size
  have hz2 := hf2.size
  clear hT1
  go_wp2_with fail
  go_loopw [6] (fun i wr => ∃ (k : Nat) (T O T2 O2 : Nat → Prop), k ≤ l.length ∧ k ≤ 12 ∧ i = .int .i64 (k : Int) ∧ TabAt wr T O p (tabOf (l.take k)) ∧ RTabAt wr T2 O2 q (rtabOf (l.take k)) ∧ (tabOf (l.take k)).n ≤ k * 4096 ∧ (rtabOf (l.take k)).w.length ≤ k * 4096 ∧ (rtabOf (l.take k)).l.length ≤ k ∧
      (∀ b, T b ∨ O b ∨ T2 b ∨ O2 b → w.heap.size ≤ b) ∧ (∀ b, T b → ¬ T2 b ∧ ¬ O2 b) ∧ (∀ b, T2 b → ¬ O b) ∧ Fr No w wr) (fun i _ => l.length - (intOf i).toNat)
  case atStart =>
    refine ⟨0, _, _, _, _, by omega, by omega, rfl, hT2, hR2, Nat.le_refl _, Nat.le_refl _, Nat.le_refl _, ?_, ?_, ?_, hF2⟩
    · rintro b (hb | hb | hb | hb)
      · exact hb.1
      · exact hb.elim
      · omega
      · exact hb.elim
    · exact fun b hb => ⟨by omega, fun hn => hn⟩
    · exact fun b hb hn => hn
  case round =>
    obtain ⟨k, T, O, T2, O2, hk, hk12, rfl, hT, hR, hn1, hn2, hn3, hall, hd1, hd2, hf⟩ := hrel
    by_cases hlt : k < l.length
    · have ek : decide ((k : Int) < l.length) = true := by simpa using (by omega : (k : Int) < l.length)
      by_cases h12 : k < 12
      · have ek2 : decide ((k : Int) < 12) = true := by simpa using (by omega : (k : Int) < 12)
        obtain ⟨g, o, cs, rfl, hcs, hcell, hcl⟩ := (h.fr0 hf).at_ hlt
        have hok := HOK.out _ (List.getElem_mem hlt)
        have HT := Lib.hid (take_snocR l k hlt)
        generalize l[k] = r at *
        go_wp2_with (first
          | (refine wpList_ldA ag_recr rfl _ rfl ⟨g, o + k * 2, none⟩ cs rfl hcl hcell ?_)
          | fail)
        refine (given12_calls S cs r _ hcs hok).mono ?_
        rintro e w3 ⟨cs3, rfl, hr3, hf3⟩
        have hT3 := hT.fr0 hf3
        have hR3 := hR.fr0 hf3
        have hz3 := hf3.size
        have hRl := hR.lt
        have hTl := hT.lt
        go_wp2_with fail
        refine (tapply_calls _ T O _ p _ cs3 r hT3 hr3 (fun b hb hTb => by have := hTl.1 b hTb; omega) (by omega)).mono ?_
        rintro e w4 ⟨rfl, T', O', hT4, hT', hO', hf4⟩
        have hF4 : Fr No w w4 := (hf.tr hf3).trans hf4 (fun b hb hTb => by have := hall b (.inl hTb); omega)
        have hz4 := hf4.size
        have hR4 := hR3.fr hf4 (fun b hb hTb => (hd1 b hTb).1 hb) (fun b hb hTb => (hd1 b hTb).2 hb)
        have hcell4 : ∀ j u, cs[j]? = some u → w4.cell? ((⟨g, o + k * 2, none⟩ : Addr).add j) = some u := fun j u hu => by
          have h1 := hcell j u hu
          refine hf4.cell_some (hf3.cell_some h1 (fun hn => hn)) (fun hTb => ?_)
          rw [block_of_add] at hTb
          have h2 := hall _ (.inl hTb)
          obtain ⟨g', o', cs', hA', hcs', hcell', hcl'⟩ := h.at_ hlt
          injection hA' with hA'
          injection hA' with e1 e2
          subst e1 e2
          have hb0 := World.block_lt_of_cell? w _ (hcell' 0 _ (List.getElem?_eq_getElem (by omega)))
          rw [block_of_add] at hb0
          simp only at hb0 h2
          omega
        have hcs4 := (hcs.fr0 hf3).fr hf4 (fun b hb hTb => by have := hS b hb; have := hall b (.inl hTb); omega)
        go_wp2_with (first
          | (refine wpList_ldA ag_recr rfl _ rfl ⟨g, o + k * 2, none⟩ cs rfl hcl hcell4 ?_)
          | fail)
        refine (rapply_calls _ T2 O2 S q _ cs r hR4 hcs4 (fun b hb hTb => by have := hS b hb; have := hall b (.inr (.inr (.inl hTb))); omega) (by omega) (by omega)).mono ?_
        rintro e w5 ⟨rfl, T2', O2', hR5, hT2', hO2', hf5⟩
        have hF5 : Fr No w w5 := hF4.trans hf5 (fun b hb hTb => by have := hall b (.inr (.inr (.inl hTb))); omega)
        have hT4l := hT4.lt
        have hT5 := hT4.fr hf5 (fun b hb hTb => by
          rcases hT' b hb with h9 | h9
          · exact (hd1 b h9).1 hTb
          · have := hRl.1 b hTb; omega) (fun b hb hTb => by
          rcases hO' b hb with h9 | h9
          · exact hd2 b hTb h9
          · have := hRl.1 b hTb; omega)
        have ha1 := applyM_n2 (tabOf (l.take k)) r
        have ha2 := rapplyM_n (rtabOf (l.take k)) r
        have hwz := hf.size
        go_wp2_with fail
        go_roundw
        case rel =>
          refine ⟨k + 1, T', O', T2', O2', by omega, by omega, by go_num, by rw [HT.out, tabOf_snoc]; exact hT5, by rw [HT.out, rtabOf_snoc]; exact hR5, by rw [HT.out, tabOf_snoc]; omega, by rw [HT.out, rtabOf_snoc]; omega, by rw [HT.out, rtabOf_snoc]; omega, ?_, ?_, ?_, hF5⟩
          · rintro b (hb | hb | hb | hb)
            · rcases hT' b hb with h9 | h9
              · exact hall b (.inl h9)
              · omega
            · rcases hO' b hb with h9 | h9
              · exact hall b (.inr (.inl h9))
              · omega
            · rcases hT2' b hb with h9 | h9
              · exact hall b (.inr (.inr (.inl h9)))
              · omega
            · rcases hO2' b hb with h9 | h9
              · exact hall b (.inr (.inr (.inr h9)))
              · omega
          · intro b hb
            have hbl := hT4l.1 b hb
            refine ⟨fun h8 => ?_, fun h8 => ?_⟩
            · rcases hT2' b h8 with h9 | h9
              · rcases hT' b hb with h7 | h7
                · exact (hd1 b h7).1 h9
                · have := hRl.1 b h9; omega
              · omega
            · rcases hO2' b h8 with h9 | h9
              · rcases hT' b hb with h7 | h7
                · exact (hd1 b h7).2 h9
                · have := hRl.2.1 b h9; omega
              · omega
          · intro b hb h8
            have hbl := hT4l.2.1 b h8
            rcases hT2' b hb with h9 | h9
            · rcases hO' b h8 with h7 | h7
              · exact hd2 b h9 h7
              · have := hRl.1 b h9; omega
            · omega
        case measure => simp [intOf]; omega
      · obtain rfl : k = 12 := by omega
        have ek2 : decide ((12 : Int) < 12) = false := by decide
        go_wp2
        go_ret2
        exact ⟨p, q, T, O, T2, O2, rfl, hT, hR, hall, hd1, hd2, hf⟩
    · obtain rfl : k = l.length := by omega
      have ek : decide ((l.length : Int) < l.length) = false := by simp
      go_wp2
      go_ret2
      have e12 : l.take 12 = l.take l.length := by rw [List.take_of_length_le (by omega), List.take_length]
      exact ⟨p, q, T, O, T2, O2, rfl, by rw [e12]; exact hT, by rw [e12]; exact hR, hall, hd1, hd2, hf⟩
end Go.Proofs.Ytoajigghkjnffaa
namespace Go.Proofs.Ytoajigghkjnffaa
set_option linter.unusedVariables false
set_option linter.unusedSimpArgs false
open Go.ChangeShapes Go.WideShapes Go.ChangeAt Go.RowKit

/-- What a change's cells read as. -/
def ChR (w : World) (cs : List Value) (c : ChM) : Prop :=
  ChC w (fun b => b < w.heap.size) cs c ∧ c.obj.slots.length * 16 ≤ 140737488351232 ∧ c.obj.bytes.length ≤ 140737488351232
set_option maxRecDepth 100000 in
theorem opens_ch : Opens Try.prog 71 ChR (fun c => c.obj.slots.length + c.obj.bytes.length + 4) := by
  intro H enc w sp held fuel cs x h hw
  have hu := Try.underlying71
  obtain ⟨xs, n, _, rfl, hl, hxl, hf⟩ := DataW.trod_struct hu h
  have hc5 : Try.prog.cellsOf 71 = 5 := by kernel_rfl
  have hi1 : Try.prog.cellsOf 2 = 1 := by kernel_rfl
  have hi2 : Try.prog.cellsOf 4 = 1 := by kernel_rfl
  have hi3 : Try.prog.cellsOf 27 = 3 := by kernel_rfl
  rw [hc5] at hl
  have f0 := hf 0 _ rfl
  have f1 := hf 1 _ rfl
  have f2 := hf 2 _ rfl
  match cs, hl with
  | [c0, c1, c2, c3, c4], _ =>
  match xs, hxl with
  | [x0, x1, x2], _ =>
  simp only [hi1, hi2, hi3, List.drop_zero, List.drop_succ_cons, List.take_succ_cons, List.take_zero, List.getElem?_cons_zero, List.getElem?_cons_succ] at f0 f1 f2
  have hw' : ∀ m, m ∈ DataW.weights Try.prog 27 x2.1 → m ≤ reachBytes := by
    intro m hm
    refine hw m ?_
    rw [DataW.weights, hu]
    simp only [DataW.weightsEach, List.map_cons, List.map_nil, List.mem_append]
    exact .inr (.inr (.inl hm))
  obtain ⟨a0, e0, _, w0⟩ := DataW.trod_int Try.underlying2 f0
  obtain ⟨b1, e1, _⟩ := DataW.trod_bool Try.underlying4 f1
  obtain ⟨o, ⟨ho, hob, _, _⟩, hb⟩ := opens_obj H enc w sp held n [c2, c3, c4] x2 f2 hw'
  obtain ⟨A, na, D, m, e2, r1, r2⟩ := ho
  injection e0 with e0 _
  injection e1 with e1 _
  injection e2 with e20 e2
  injection e2 with e21 e2
  injection e2 with e22 _
  subst e0 e1 e20 e21 e22
  refine ⟨⟨a0, b1, o⟩, ⟨⟨A, na, D, m, rfl, r1, r2⟩, hob.1, hob.2⟩, ?_⟩
  have := bulk_pos x0.1
  have := bulk_pos x1.1
  simp only at hb
  simp only [List.map_cons, List.map_nil, Rows.uptoBulk, Rows.uptoBulkAll]
  omega
def bulkC (l : List ChM) : Nat := (l.map (fun c => c.obj.slots.length + c.obj.bytes.length + 4)).sum
theorem chs_of_all2 {w : World} : ∀ {css : List (List Value)} {ts : List ChM}, All2 (ChR w) css ts → ChsC w (fun b => b < w.heap.size) css.flatten ts ∧ ∀ c ∈ ts, c.obj.slots.length * 16 ≤ 140737488351232 ∧ c.obj.bytes.length ≤ 140737488351232
  | [], [], _ => ⟨rfl, fun d hd => by cases hd⟩
  | c :: css, t :: ts, h => by
    obtain ⟨h1, h2⟩ := chs_of_all2 h.2
    refine ⟨⟨c, css.flatten, rfl, h.1.1, h1⟩, fun d hd => ?_⟩
    rcases List.mem_cons.1 hd with rfl | hd
    · exact h.1.2
    · exact h2 d hd
set_option maxRecDepth 100000 in
theorem opens_chs : Opens Try.prog 48 (fun w cs (ts : List ChM) => (∃ A c, cs = [.slice A ts.length c] ∧ RdCh w (fun b => b < w.heap.size) A ts ∧ ts.length ≤ c ∧ c ≤ maxLen) ∧ (∀ c ∈ ts, c.obj.slots.length * 16 ≤ 140737488351232 ∧ c.obj.bytes.length ≤ 140737488351232) ∧ ts.length * 72 ≤ reachBytes) (fun ts => bulkC ts + 1) := by
  intro H enc w sp held fuel cs x h hw
  obtain ⟨ys, ⟨⟨A, c, css, rfl, hrd, hall, hc, hm⟩, h8⟩, hb⟩ := opens_list Try.underlying48 (size := 5) (bytes := 72) (by kernel_rfl) (by kernel_rfl) (by decide) (by decide) opens_ch (fun w cs y hy => hy.1.len) H enc w sp held fuel cs x h hw
  obtain ⟨k1, k2⟩ := chs_of_all2 hall
  exact ⟨ys, ⟨⟨A, c, rfl, ⟨css.flatten, hrd, k1⟩, hc, hm⟩, k2, h8⟩, hb⟩
/-- What a record's cells read as. -/
def RecR (w : World) (cs : List Value) (r : RecM) : Prop := RecC w (fun b => b < w.heap.size) cs r ∧ RecOk r ∧ -9223372036854775808 ≤ r.commit ∧ r.commit ≤ 9223372036854775807
set_option maxRecDepth 100000 in
theorem opens_rec : Opens Try.prog 50 RecR (fun r => bulkC r.chs + 2) := by
  intro H enc w sp held fuel cs x h hw
  have hu := Try.underlying50
  obtain ⟨xs, n, _, rfl, hl, hxl, hf⟩ := DataW.trod_struct hu h
  have hc2 : Try.prog.cellsOf 50 = 2 := by kernel_rfl
  have hi1 : Try.prog.cellsOf 2 = 1 := by kernel_rfl
  have hi2 : Try.prog.cellsOf 48 = 1 := by kernel_rfl
  rw [hc2] at hl
  have f0 := hf 0 _ rfl
  have f1 := hf 1 _ rfl
  match cs, hl with
  | [c0, c1], _ =>
  match xs, hxl with
  | [x0, x1], _ =>
  simp only [hi1, hi2, List.drop_zero, List.drop_succ_cons, List.take_succ_cons, List.take_zero, List.getElem?_cons_zero, List.getElem?_cons_succ] at f0 f1
  have hw' : ∀ m, m ∈ DataW.weights Try.prog 48 x1.1 → m ≤ reachBytes := by
    intro m hm
    refine hw m ?_
    rw [DataW.weights, hu]
    simp only [DataW.weightsEach, List.map_cons, List.map_nil, List.mem_append]
    exact .inr (.inl hm)
  obtain ⟨a0, e0, _, w0⟩ := DataW.trod_int Try.underlying2 f0
  obtain ⟨ts, ⟨⟨A, c, e1, hrd, _, _⟩, hts, h72⟩, hb⟩ := opens_chs H enc w sp held n [c1] x1 f1 hw'
  injection e0 with e0 _
  injection e1 with e1 _
  subst e0 e1
  refine ⟨⟨a0, ts⟩, ⟨⟨A, c, rfl, hrd⟩, ⟨by simpa [reachBytes] using h72, hts⟩, wf_i64 w0⟩, ?_⟩
  have := bulk_pos x0.1
  simp only at hb
  simp only [List.map_cons, List.map_nil, Rows.uptoBulk, Rows.uptoBulkAll]
  omega
section
variable {H : Type} {enc : TypeId × Value → H} {W : World} {held : Bool}
theorem open_rec {ts : List TypeId} {ds : List (DataW H)} (hsz : (DataW.weightsEach Try.prog ts ds).all (· ≤ reachBytes) = true) {j : Nat} {v : Value} {d : DataW H} {p : List MemPlace}
    (ht : ts[j]? = some 50) (hd : ds[j]? = some d) (h : DataW.Trod enc Try.prog W 0 (fun _ => true) held 50 v d p) :
    ∃ (cs : List Value) (r : RecM), v = .agg cs.toArray ∧ RecR W cs r ∧ bulkC r.chs + 2 ≤ Rows.uptoBulk d := by
  obtain ⟨fuel, hf⟩ := h
  obtain ⟨r, h1, h3⟩ := opens_rec H enc W (fun _ => true) held fuel _ _ hf (weights_of hsz ht hd)
  have hl : v.cells.toList.length = 2 := by obtain ⟨⟨A, c, e, _⟩, _⟩ := h1; rw [e]; rfl
  cases v with
  | agg cs => exact ⟨cs.toList, r, rfl, h1, h3⟩
  | _ => simp [Value.cells] at hl
end
theorem recs_of_all2 {w : World} : ∀ {css : List (List Value)} {ts : List RecM}, All2 (RecR w) css ts → RecsC w (fun b => b < w.heap.size) css.flatten ts ∧ ∀ r ∈ ts, RecOk r
  | [], [], _ => ⟨rfl, fun d hd => by cases hd⟩
  | c :: css, t :: ts, h => by
    obtain ⟨h1, h2⟩ := recs_of_all2 h.2
    refine ⟨⟨c, css.flatten, rfl, h.1.1, h1⟩, fun d hd => ?_⟩
    rcases List.mem_cons.1 hd with rfl | hd
    · exact h.1.2.1
    · exact h2 d hd
set_option maxRecDepth 100000 in
theorem opens_recs : Opens Try.prog 32 (fun w cs (ts : List RecM) => (∃ A c, cs = [.slice A ts.length c] ∧ RdRec w (fun b => b < w.heap.size) A ts ∧ ts.length ≤ c ∧ c ≤ maxLen) ∧ (∀ r ∈ ts, RecOk r) ∧ ts.length * 32 ≤ reachBytes) (fun ts => (ts.map (fun r => bulkC r.chs + 2)).sum + 1) := by
  intro H enc w sp held fuel cs x h hw
  obtain ⟨ys, ⟨⟨A, c, css, rfl, hrd, hall, hc, hm⟩, h8⟩, hb⟩ := opens_list Try.underlying32 (size := 2) (bytes := 32) (by kernel_rfl) (by kernel_rfl) (by decide) (by decide) opens_rec (fun w cs y hy => hy.1.len) H enc w sp held fuel cs x h hw
  obtain ⟨k1, k2⟩ := recs_of_all2 hall
  exact ⟨ys, ⟨⟨A, c, rfl, ⟨css.flatten, hrd, k1⟩, hc, hm⟩, k2, h8⟩, hb⟩
section
variable {H : Type} {enc : TypeId × Value → H} {W : World} {held : Bool}
theorem open_recs {ts : List TypeId} {ds : List (DataW H)} (hsz : (DataW.weightsEach Try.prog ts ds).all (· ≤ reachBytes) = true) {j : Nat} {v : Value} {d : DataW H} {p : List MemPlace}
    (ht : ts[j]? = some 32) (hd : ds[j]? = some d) (h : DataW.Trod enc Try.prog W 0 (fun _ => true) held 32 v d p) (hv : ∃ A n c, v = .slice A n c) :
    ∃ (A : Option Addr) (c : Nat) (l : List RecM), v = .slice A l.length c ∧ RdRec W (fun b => b < W.heap.size) A l ∧ (∀ r ∈ l, RecOk r) ∧ (l.map (fun r => bulkC r.chs + 2)).sum + 1 ≤ Rows.uptoBulk d := by
  obtain ⟨A, n, c, rfl⟩ := hv
  obtain ⟨fuel, hf⟩ := h
  obtain ⟨l, ⟨⟨A', c', e, h1, h2, h3⟩, h4, h5⟩, h6⟩ := opens_recs H enc W (fun _ => true) held fuel _ _ hf (weights_of hsz ht hd)
  simp [Value.cells] at e
  obtain ⟨rfl, rfl, rfl⟩ := e
  exact ⟨_, _, l, rfl, h1, h4, h6⟩
end
end Go.Proofs.Ytoajigghkjnffaa
namespace Go.Proofs.Ytoajigghkjnffaa
set_option linter.unusedVariables false
set_option linter.unusedSimpArgs false
open Go.RowKit

structure ActM where
  kind : Int
  oop : Int
  o : ObjM
  r : RecM
abbrev tAct : TypeId := 52
theorem ag_act : AggOf Try.prog tAct 7 := ⟨⟨_, Try.underlying52, rfl⟩, by kernel_rfl⟩
def ActC (w : World) (S : Nat → Prop) (cs : List Value) (a : ActM) : Prop :=
  ∃ A c D d E e, cs = [.int .i64 a.kind, .int .i64 a.oop, .int .i64 a.o.cls, .slice A a.o.slots.length c, .slice D a.o.bytes.length d, .int .i64 a.r.commit, .slice E a.r.chs.length e] ∧ RdV w S A a.o.slots ∧ RdB w S D a.o.bytes ∧ RdCh w S E a.r.chs
theorem ActC.len {w : World} {S : Nat → Prop} {cs : List Value} {a : ActM} (h : ActC w S cs a) : cs.length = 7 := by
  obtain ⟨A, c, D, d, E, e, rfl, _⟩ := h; rfl
theorem ActC.fr {w w' : World} {S T : Nat → Prop} {cs : List Value} {a : ActM} (h : ActC w S cs a) (hf : Fr T w w') (hd : ∀ b, S b → ¬ T b) : ActC w' S cs a := by
  obtain ⟨A, c, D, d, E, e, rfl, h1, h2, h3⟩ := h
  exact ⟨A, c, D, d, E, e, rfl, Rd.fr h1 hf hd, Rd.fr h2 hf hd, h3.fr hf hd⟩
def ActsC (w : World) (S : Nat → Prop) : List Value → List ActM → Prop
  | xs, [] => xs = []
  | xs, t :: ts => ∃ cs rest, xs = cs ++ rest ∧ ActC w S cs t ∧ ActsC w S rest ts
theorem ActsC.fr {w w' : World} {S T : Nat → Prop} (hf : Fr T w w') (hd : ∀ b, S b → ¬ T b) : ∀ {ts : List ActM} {xs : List Value}, ActsC w S xs ts → ActsC w' S xs ts
  | [], _, h => h
  | t :: ts, _, ⟨cs, rest, e, hc, hr⟩ => ⟨cs, rest, e, hc.fr hf hd, ActsC.fr hf hd hr⟩
theorem ActsC.at_ {w : World} {S : Nat → Prop} : ∀ {ts : List ActM} {xs : List Value} {k : Nat} (_ : ActsC w S xs ts) (hk : k < ts.length), ∃ cs, ActC w S cs ts[k] ∧ ∀ j u, cs[j]? = some u → xs[k * 7 + j]? = some u
  | t :: ts, _, 0, ⟨cs, rest, e, hc, hr⟩, _ => ⟨cs, hc, fun j u hu => by
      obtain ⟨hj, _⟩ := List.getElem?_eq_some_iff.1 hu
      rw [e, Nat.zero_mul, Nat.zero_add, List.getElem?_append_left hj]; exact hu⟩
  | t :: ts, _, k + 1, ⟨cs, rest, e, hc, hr⟩, hk => by
    obtain ⟨cs', h1, h2⟩ := ActsC.at_ hr (k := k) (by simpa using hk)
    refine ⟨cs', by simpa using h1, fun j u hu => ?_⟩
    have hl := hc.len
    rw [e, List.getElem?_append_right (by omega), hl, show (k + 1) * 7 + j - 7 = k * 7 + j by omega]
    exact h2 j u hu
def RdAct (w : World) (S : Nat → Prop) (A : Option Addr) (ts : List ActM) : Prop := ∃ xs, Rd w S 7 A ts.length xs ∧ ActsC w S xs ts
theorem RdAct.fr {w w' : World} {S T : Nat → Prop} {A : Option Addr} {ts : List ActM} (h : RdAct w S A ts) (hf : Fr T w w') (hd : ∀ b, S b → ¬ T b) : RdAct w' S A ts := by
  obtain ⟨xs, h1, h2⟩ := h; exact ⟨xs, h1.fr hf hd, h2.fr hf hd⟩
theorem RdAct.fr0 {w w' : World} {S : Nat → Prop} {A : Option Addr} {ts : List ActM} (h : RdAct w S A ts) (hf : Fr No w w') : RdAct w' S A ts := h.fr hf (fun _ _ hn => hn)
theorem RdAct.le {w : World} {S : Nat → Prop} {A : Option Addr} {ts : List ActM} (h : RdAct w S A ts) : ts.length ≤ 211106232532992 := by
  obtain ⟨xs, h1, h2⟩ := h; exact h1.2.1
theorem RdAct.at_ {w : World} {S : Nat → Prop} {A : Option Addr} {ts : List ActM} (h : RdAct w S A ts) {k : Nat} (hk : k < ts.length) :
    ∃ g o cs, A = some ⟨g, o, none⟩ ∧ S g ∧ ActC w S cs ts[k] ∧ ∀ j u, cs[j]? = some u → w.cell? ((⟨g, o + k * 7, none⟩ : Addr).add j) = some u := by
  obtain ⟨xs, h1, h2⟩ := h
  obtain ⟨g, o, hA, hS, hc⟩ := h1.plain (by omega) (by decide)
  obtain ⟨cs, hcs, hj⟩ := h2.at_ hk
  exact ⟨g, o, cs, hA, hS, hcs, addr5 _ _ _ (fun j u hu => by have := hc _ u (hj j u hu); rwa [← Nat.add_assoc] at this)⟩
def ActOk (a : ActM) : Prop := W64 a.oop ∧ (a.o.slots.length * 16 ≤ 140737488351232 ∧ a.o.bytes.length ≤ 140737488351232) ∧ RecOk a.r ∧ -9223372036854775808 ≤ a.kind ∧ a.kind ≤ 9223372036854775807
end Go.Proofs.Ytoajigghkjnffaa
namespace Go.Proofs.Ytoajigghkjnffaa
set_option linter.unusedVariables false
set_option linter.unusedSimpArgs false
open Go.ChangeShapes Go.WideShapes Go.ChangeAt Go.RowKit

def ActR (w : World) (cs : List Value) (a : ActM) : Prop := ActC w (fun b => b < w.heap.size) cs a ∧ ActOk a
set_option maxRecDepth 100000 in
theorem opens_act : Opens Try.prog 52 ActR (fun _ => 1) := by
  intro H enc w sp held fuel cs x h hw
  have hu := Try.underlying52
  obtain ⟨xs, n, _, rfl, hl, hxl, hf⟩ := DataW.trod_struct hu h
  have hc7 : Try.prog.cellsOf 52 = 7 := by kernel_rfl
  have hi1 : Try.prog.cellsOf 3 = 1 := by kernel_rfl
  have hi2 : Try.prog.cellsOf 2 = 1 := by kernel_rfl
  have hi3 : Try.prog.cellsOf 27 = 3 := by kernel_rfl
  have hi4 : Try.prog.cellsOf 50 = 2 := by kernel_rfl
  rw [hc7] at hl
  have f0 := hf 0 _ rfl
  have f1 := hf 1 _ rfl
  have f2 := hf 2 _ rfl
  have f3 := hf 3 _ rfl
  match cs, hl with
  | [c0, c1, c2, c3, c4, c5, c6], _ =>
  match xs, hxl with
  | [x0, x1, x2, x3], _ =>
  simp only [hi1, hi2, hi3, hi4, List.drop_zero, List.drop_succ_cons, List.take_succ_cons, List.take_zero, List.getElem?_cons_zero, List.getElem?_cons_succ] at f0 f1 f2 f3
  have hw2 : ∀ m, m ∈ DataW.weights Try.prog 27 x2.1 → m ≤ reachBytes := by
    intro m hm
    refine hw m ?_
    rw [DataW.weights, hu]
    simp only [DataW.weightsEach, List.map_cons, List.map_nil, List.mem_append]
    exact .inr (.inr (.inl hm))
  have hw3 : ∀ m, m ∈ DataW.weights Try.prog 50 x3.1 → m ≤ reachBytes := by
    intro m hm
    refine hw m ?_
    rw [DataW.weights, hu]
    simp only [DataW.weightsEach, List.map_cons, List.map_nil, List.mem_append]
    exact .inr (.inr (.inr (.inl hm)))
  obtain ⟨a0, e0, _, w0⟩ := DataW.trod_int Try.underlying3 f0
  obtain ⟨a1, e1, _, w1⟩ := DataW.trod_int Try.underlying2 f1
  obtain ⟨o, ⟨ho, hob, _, _⟩, _⟩ := opens_obj H enc w sp held n [c2, c3, c4] x2 f2 hw2
  obtain ⟨r, ⟨hr, hrok, _, _⟩, _⟩ := opens_rec H enc w sp held n [c5, c6] x3 f3 hw3
  obtain ⟨A, na, D, m, e2, r1, r2⟩ := ho
  obtain ⟨E, ne, e3, r3⟩ := hr
  injection e0 with e0 _
  injection e1 with e1 _
  injection e2 with e20 e2
  injection e2 with e21 e2
  injection e2 with e22 _
  injection e3 with e30 e3
  injection e3 with e31 _
  subst e0 e1 e20 e21 e22 e30 e31
  exact ⟨⟨a0, a1, o, r⟩, ⟨⟨A, na, D, m, E, ne, rfl, r1, r2, r3⟩, w1, hob, hrok, wf_i64 w0⟩, bulk_pos _⟩
theorem acts_of_all2 {w : World} : ∀ {css : List (List Value)} {ts : List ActM}, All2 (ActR w) css ts → ActsC w (fun b => b < w.heap.size) css.flatten ts ∧ ∀ a ∈ ts, ActOk a
  | [], [], _ => ⟨rfl, fun d hd => by cases hd⟩
  | c :: css, t :: ts, h => by
    obtain ⟨h1, h2⟩ := acts_of_all2 h.2
    refine ⟨⟨c, css.flatten, rfl, h.1.1, h1⟩, fun d hd => ?_⟩
    rcases List.mem_cons.1 hd with rfl | hd
    · exact h.1.2
    · exact h2 d hd
set_option maxRecDepth 100000 in
theorem opens_acts : Opens Try.prog 47 (fun w cs (ts : List ActM) => (∃ A c, cs = [.slice A ts.length c] ∧ RdAct w (fun b => b < w.heap.size) A ts ∧ ts.length ≤ c ∧ c ≤ maxLen) ∧ ∀ a ∈ ts, ActOk a) (fun ts => (ts.map (fun _ => 1)).sum + 1) := by
  intro H enc w sp held fuel cs x h hw
  obtain ⟨ys, ⟨⟨A, c, css, rfl, hrd, hall, hc, hm⟩, h8⟩, hb⟩ := opens_list Try.underlying47 (size := 7) (bytes := 104) (by kernel_rfl) (by kernel_rfl) (by decide) (by decide) opens_act (fun w cs y hy => hy.1.len) H enc w sp held fuel cs x h hw
  obtain ⟨k1, k2⟩ := acts_of_all2 hall
  exact ⟨ys, ⟨⟨A, c, rfl, ⟨css.flatten, hrd, k1⟩, hc, hm⟩, k2⟩, hb⟩
section
variable {H : Type} {enc : TypeId × Value → H} {W : World} {held : Bool}
theorem open_acts {ts : List TypeId} {ds : List (DataW H)} (hsz : (DataW.weightsEach Try.prog ts ds).all (· ≤ reachBytes) = true) {j : Nat} {v : Value} {d : DataW H} {p : List MemPlace}
    (ht : ts[j]? = some 47) (hd : ds[j]? = some d) (h : DataW.Trod enc Try.prog W 0 (fun _ => true) held 47 v d p) (hv : ∃ A n c, v = .slice A n c) :
    ∃ (A : Option Addr) (c : Nat) (l : List ActM), v = .slice A l.length c ∧ RdAct W (fun b => b < W.heap.size) A l ∧ (∀ a ∈ l, ActOk a) := by
  obtain ⟨A, n, c, rfl⟩ := hv
  obtain ⟨fuel, hf⟩ := h
  obtain ⟨l, ⟨⟨A', c', e, h1, h2, h3⟩, h4⟩, h6⟩ := opens_acts H enc W (fun _ => true) held fuel _ _ hf (weights_of hsz ht hd)
  simp [Value.cells] at e
  obtain ⟨rfl, rfl, rfl⟩ := e
  exact ⟨_, _, l, rfl, h1, h4⟩
end
end Go.Proofs.Ytoajigghkjnffaa
