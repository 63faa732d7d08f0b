/- Which records can be kept: value's RightRecord, and the reference's. No condition. table.Apply. No condition but size. The reference's Copy of an object. No condition but size. The reference's table in memory; New, Apply. No condition but size. -/
import Derived.Test.YtoajigghkjnffaaJRViewCopiesp1
import Derived.Test.YtoajigghkjnffaaJRViewCopiesp2
import Derived.Deep.CutBlock
import Derived.Deep.DeepCutAuto
import Derived.Deep.DeepAppendWide
namespace Go.Proofs.Ytoajigghkjnffaa
set_option linter.unusedVariables false
set_option linter.unusedSimpArgs false
open Go.RowKit

theorem ag_chp : AggOf Try.prog 104 5 := ⟨⟨_, Try.underlying104, rfl⟩, by kernel_rfl⟩
theorem ag_chr : AggOf Try.prog 71 5 := ⟨⟨_, Try.underlying71, rfl⟩, by kernel_rfl⟩
theorem ag_recp : AggOf Try.prog 76 2 := ⟨⟨_, Try.underlying76, rfl⟩, by kernel_rfl⟩
theorem ag_recr : AggOf Try.prog 50 2 := ⟨⟨_, Try.underlying50, rfl⟩, by kernel_rfl⟩
theorem plain_lchp : ∀ w, (isAgg 66).run Try.prog w = .ok false w := plain_of Try.underlying66 rfl
theorem plain_lchr : ∀ w, (isAgg 48).run Try.prog w = .ok false w := plain_of Try.underlying48 rfl
theorem noObj_c (w : World) (S : Nat → Prop) : ObjC w S [.int .i64 0, .slice none 0 0, .slice none 0 0] noObj := ⟨none, 0, none, 0, rfl, Rd.nil_, Rd.nil_⟩
theorem rightC_gone (o : Int) (ob : ObjM) : rightC ⟨o, true, ob⟩ = sameO ob noObj := rfl
theorem rightC_here (o : Int) (ob : ObjM) : rightC ⟨o, false, ob⟩ = rightO ob := rfl
set_option maxHeartbeats 1000000 in
set_option maxRecDepth 100000 in
theorem chright_calls (S : Nat → Prop) (cs : List Value) (c : ChM) (w : World) (h : ChC w S cs c) :
    Calls Try.prog 68 #[.agg cs.toArray] w fun e w' => e = .returned (.bool (rightC c)) ∧ Fr No w w' := by
  obtain ⟨oop, gone, ob⟩ := c
  obtain ⟨Av, nn, D, mm, rfl, hs, hb⟩ := h
  simp only at hs hb
  have g1 := plain_i64
  have g2 := plain_lval
  have g3 := plain_lu8
  have g4 := plain_bool
  have hf : Fr No w (w.alloc (.cells #[.int .i64 oop, .bool gone, .int .i64 ob.cls, .slice Av ob.slots.length nn, .slice D ob.bytes.length mm] 104)) := (Fr.refl No w).alloc _
  have hoc : ObjC (w.alloc (.cells #[.int .i64 oop, .bool gone, .int .i64 ob.cls, .slice Av ob.slots.length nn, .slice D ob.bytes.length mm] 104)) S [.int .i64 ob.cls, .slice Av ob.slots.length nn, .slice D ob.bytes.length mm] ob := ObjC.fr0 ⟨Av, nn, D, mm, rfl, hs, hb⟩ hf
  cases gone with
  | true =>
    have H := Lib.hid (rightC_gone oop ob)
    go_enter Try.func68, Try.ntmps68
    go_wp2_with fail
    refine (vsame_calls S S _ _ ob noObj _ hoc (noObj_c _ S)).mono ?_
    rintro e w2 ⟨rfl, hf2⟩
    go_wp2
    go_ret
    exact ⟨ret_bool H.out.symm, hf.tr hf2⟩
  | false =>
    have H := Lib.hid (rightC_here oop ob)
    go_enter Try.func68, Try.ntmps68
    go_wp2_with fail
    refine (righto_calls S _ ob _ hoc).mono ?_
    rintro e w2 ⟨rfl, hf2⟩
    go_wp2
    go_ret
    exact ⟨ret_bool H.out.symm, hf.tr hf2⟩
theorem chsRight_no1 {last : Int} {c : ChM} {r : List ChM} (h : decide (last < c.oop) = false) : chsRight last (c :: r) = false := by rw [chsRight, h, Bool.false_and]
theorem chsRight_no2 {last : Int} {c : ChM} {r : List ChM} (h : oopB c.oop = false) : chsRight last (c :: r) = false := by rw [chsRight, h, Bool.false_and, Bool.and_false]
theorem chsRight_no3 {last : Int} {c : ChM} {r : List ChM} (h : rightC c = false) : chsRight last (c :: r) = false := by rw [chsRight, h, Bool.false_and, Bool.and_false, Bool.and_false]
theorem chsRight_yes {last : Int} {c : ChM} {r : List ChM} (h1 : decide (last < c.oop) = true) (h2 : oopB c.oop = true) (h3 : rightC c = true) : chsRight last (c :: r) = chsRight c.oop r := by rw [chsRight, h1, h2, h3, Bool.true_and, Bool.true_and, Bool.true_and]
theorem drop_consC (l : List ChM) (k : Nat) (h : k < l.length) : l.drop k = l[k] :: l.drop (k + 1) := List.drop_eq_getElem_cons h

set_option maxHeartbeats 4000000 in
set_option maxRecDepth 100000 in
theorem vrightr_calls (S : Nat → Prop) (cs : List Value) (r : RecM) (w : World) (h : RecC w S cs r) :
    Calls Try.prog 57 #[.agg cs.toArray] w fun e w' => e = .returned (.bool (rightR r)) ∧ Fr No w w' := by
  obtain ⟨com, chs⟩ := r
  obtain ⟨A, c, rfl, hch⟩ := h
  simp only at hch
  have g1 := plain_i64
  have g2 := plain_lchp
  have g4 := plain_bool
  have g5 := plain_lval
  have g6 := plain_lu8
  have hle := hch.le
  have hf : Fr No w (w.alloc (.cells #[.int .i64 com, .slice A chs.length c] 76)) := (Fr.refl No w).alloc _
  have hbx := Blk.new w 76 #[.int .i64 com, .slice A chs.length c]
  have H : Hid (rightR ⟨com, chs⟩ = (decide (1 ≤ com) && (decide (com ≤ 1099511627776) && (decide (chs.length ≤ 4096) && chsRight 0 chs)))) := Lib.hid rfl
  by_cases h0 : 1 ≤ com
  rotate_left
  · have e0 : decide (com < 1) = true := by simpa using h0
    rw [show decide (1 ≤ com) = false by simpa using h0, Bool.false_and] at H
    clear h0
    go_enter Try.func57, Try.ntmps57
    go_wp2
    go_ret
    exact ⟨ret_bool H.out.symm, hf⟩
  have e0 : decide (com < 1) = false := by simpa using h0
  rw [show decide (1 ≤ com) = true by simpa using h0, Bool.true_and] at H
  clear h0
  by_cases h1 : com ≤ 1099511627776
  rotate_left
  · have e1 : decide (1099511627776 < com) = true := by simpa using h1
    rw [show decide (com ≤ 1099511627776) = false by simpa using h1, Bool.false_and] at H
    clear h1
    go_enter Try.func57, Try.ntmps57
    go_wp2
    go_ret
    exact ⟨ret_bool H.out.symm, hf⟩
  have e1 : decide (1099511627776 < com) = false := by simpa using h1
  rw [show decide (com ≤ 1099511627776) = true by simpa using h1, Bool.true_and] at H
  clear h1
  by_cases h2 : chs.length ≤ 4096
  rotate_left
  · have e2 : decide ((4096 : Int) < chs.length) = true := by simp; omega
    rw [show decide (chs.length ≤ 4096) = false by simpa using h2, Bool.false_and] at H
    clear h2
    go_enter Try.func57, Try.ntmps57
    go_wp2
    go_ret
    exact ⟨ret_bool H.out.symm, hf⟩
  have e2 : decide ((4096 : Int) < chs.length) = false := by simp; omega
  rw [show decide (chs.length ≤ 4096) = true by simpa using h2, Bool.true_and] at H
  go_enter Try.func57, Try.ntmps57
  go_wp2_with fail
  generalize hw1 : w.alloc (.cells #[.int .i64 com, .slice A chs.length c] 76) = w1 at *
  clear hw1
  go_loopw [3, 23] (fun la i wr => ∃ (k : Nat) (last : Int), k ≤ chs.length ∧ i = .int .i64 (k : Int) ∧ la = .int .i64 last ∧ Hid (chsRight 0 chs = chsRight last (chs.drop k)) ∧ Fr No w1 wr) (fun _ i _ => chs.length - (intOf i).toNat)
  case atStart => exact ⟨0, 0, by omega, rfl, rfl, Lib.hid rfl, Fr.refl _ _⟩
  case round =>
    obtain ⟨k, last, hk, rfl, rfl, HC, hfr⟩ := hrel
    by_cases hlt : k < chs.length
    · have ek : decide ((k : Int) < chs.length) = true := by simpa using (by omega : (k : Int) < chs.length)
      obtain ⟨ga, of, Av, nn, D, mm, rfl, _, hcell, hsl, hby⟩ := RdCh.at_ (hch.fr0 (hf.tr hfr)) hlt
      have HD := Lib.hid (drop_consC chs k hlt)
      generalize chs[k] = x at *
      obtain ⟨oop, gone, ob⟩ := x
      simp only at hcell hsl hby
      have hall := addr5 _ _ _ hcell
      clear hcell
      have hfA : Fr No wr (wr.alloc (.cells #[.int .i64 oop, .bool gone, .int .i64 ob.cls, .slice Av ob.slots.length nn, .slice D ob.bytes.length mm] 104)) := (Fr.refl No wr).alloc _
      have hcc : ChC (wr.alloc (.cells #[.int .i64 oop, .bool gone, .int .i64 ob.cls, .slice Av ob.slots.length nn, .slice D ob.bytes.length mm] 104)) S [.int .i64 oop, .bool gone, .int .i64 ob.cls, .slice Av ob.slots.length nn, .slice D ob.bytes.length mm] ⟨oop, gone, ob⟩ := ChC.keep ⟨Av, nn, D, mm, rfl, hsl, hby⟩ hfA (fun _ _ hn => hn)
      have hnew := Blk.new wr 104 #[.int .i64 oop, .bool gone, .int .i64 ob.cls, .slice Av ob.slots.length nn, .slice D ob.bytes.length mm]
      cases hl : decide (last < oop) with
      | false =>
        have HN := Lib.hid (chsRight_no1 (c := ⟨oop, gone, ob⟩) (r := chs.drop (k + 1)) hl)
        have el : decide (oop ≤ last) = true := by simp at hl ⊢; omega
        clear hl
        go_wp2_with (first
          | (refine wpList_ldA ag_chp rfl _ rfl ⟨ga, of + k * 5, none⟩ [.int .i64 oop, .bool gone, .int .i64 ob.cls, .slice Av ob.slots.length nn, .slice D ob.bytes.length mm] rfl rfl hall ?_)
          | fail)
        go_ret
        exact ⟨ret_bool (by rw [H.out, HC.out, HD.out, HN.out]), hf.tr (hfr.tr hfA)⟩
      | true =>
        have el : decide (oop ≤ last) = false := by simp at hl ⊢; omega
        have HL := Lib.hid hl
        clear hl
        have hoop := oop_calls oop
        cases ho : oopB oop with
        | false =>
          rw [ho] at hoop
          have HN := Lib.hid (chsRight_no2 (last := last) (c := ⟨oop, gone, ob⟩) (r := chs.drop (k + 1)) ho)
          clear ho
          go_wp2_with (first
            | (refine wpList_ldA ag_chp rfl _ rfl ⟨ga, of + k * 5, none⟩ [.int .i64 oop, .bool gone, .int .i64 ob.cls, .slice Av ob.slots.length nn, .slice D ob.bytes.length mm] rfl rfl hall ?_)
            | fail)
          refine (hoop _).mono ?_
          rintro e _ ⟨rfl, rfl⟩
          go_wp2
          go_ret
          exact ⟨ret_bool (by rw [H.out, HC.out, HD.out, HN.out]), hf.tr (hfr.tr hfA)⟩
        | true =>
          rw [ho] at hoop
          have HO := Lib.hid ho
          clear ho
          go_wp2_with (first
            | (refine wpList_ldA ag_chp rfl _ rfl ⟨ga, of + k * 5, none⟩ [.int .i64 oop, .bool gone, .int .i64 ob.cls, .slice Av ob.slots.length nn, .slice D ob.bytes.length mm] rfl rfl hall ?_)
            | fail)
          refine (hoop _).mono ?_
          rintro e _ ⟨rfl, rfl⟩
          have hnall := hnew.all
          go_wp2_with (first
            | (refine wpList_ldA ag_chp rfl _ rfl ⟨wr.heap.size, 0, none⟩ [.int .i64 oop, .bool gone, .int .i64 ob.cls, .slice Av ob.slots.length nn, .slice D ob.bytes.length mm] rfl rfl hnall ?_)
            | fail)
          refine (chright_calls S _ _ _ hcc).mono ?_
          rintro e w4 ⟨rfl, hf4⟩
          have hnew4 := hnew.fr0 hf4
          (have z0 := hnew4.cell 0; have z1 := hnew4.cell 1; have z2 := hnew4.cell 2; have z3 := hnew4.cell 3; have z4 := hnew4.cell 4; have zf0 := hnew4.frozen 0; have zf1 := hnew4.frozen 1; have zf2 := hnew4.frozen 2; have zf3 := hnew4.frozen 3; have zf4 := hnew4.frozen 4; simp only [List.getElem?_toArray, List.getElem?_cons_zero, List.getElem?_cons_succ] at z0 z1 z2 z3 z4)
          cases hc : rightC ⟨oop, gone, ob⟩ with
          | false =>
            have HN := Lib.hid (chsRight_no3 (last := last) (r := chs.drop (k + 1)) hc)
            clear hc
            go_wp2
            go_ret
            exact ⟨ret_bool (by rw [H.out, HC.out, HD.out, HN.out]), hf.tr (hfr.tr (hfA.tr hf4))⟩
          | true =>
            have HN := Lib.hid (chsRight_yes (r := chs.drop (k + 1)) HL.out HO.out hc)
            clear hc
            go_wp2
            go_roundw
            case rel => exact ⟨k + 1, oop, by omega, by go_num, rfl, Lib.hid (by rw [HC.out, HD.out, HN.out]), hfr.tr (hfA.tr hf4)⟩
            case measure => simp [intOf]; omega
    · obtain rfl : k = chs.length := by omega
      have ek : decide ((chs.length : Int) < chs.length) = false := by simp
      have HE := Lib.hid (show rightR ⟨com, chs⟩ = true by rw [H.out, HC.out, List.drop_length]; rfl)
      go_wp2
      go_ret
      exact ⟨ret_bool HE.out.symm, hf.tr hfr⟩

set_option maxHeartbeats 4000000 in
set_option maxRecDepth 100000 in
theorem refrightr_calls (S : Nat → Prop) (cs : List Value) (r : RecM) (w : World) (h : RecC w S cs r) :
    Calls Try.prog 58 #[.agg cs.toArray] w fun e w' => e = .returned (.bool (rightR r)) ∧ Fr No w w' := by
  obtain ⟨com, chs⟩ := r
  obtain ⟨A, c, rfl, hch⟩ := h
  simp only at hch
  have g1 := plain_i64
  have g2 := plain_lchr
  have g4 := plain_bool
  have g5 := plain_lval
  have g6 := plain_lu8
  have hle := hch.le
  have hf : Fr No w (w.alloc (.cells #[.int .i64 com, .slice A chs.length c] 50)) := (Fr.refl No w).alloc _
  have hbx := Blk.new w 50 #[.int .i64 com, .slice A chs.length c]
  have H : Hid (rightR ⟨com, chs⟩ = (decide (1 ≤ com) && (decide (com ≤ 1099511627776) && (decide (chs.length ≤ 4096) && chsRight 0 chs)))) := Lib.hid rfl
  by_cases h0 : 1 ≤ com
  rotate_left
  · have e0 : decide (com < 1) = true := by simpa using h0
    rw [show decide (1 ≤ com) = false by simpa using h0, Bool.false_and] at H
    clear h0
    go_enter Try.func58, Try.ntmps58
    go_wp2
    go_ret
    exact ⟨ret_bool H.out.symm, hf⟩
  have e0 : decide (com < 1) = false := by simpa using h0
  rw [show decide (1 ≤ com) = true by simpa using h0, Bool.true_and] at H
  clear h0
  by_cases h1 : com ≤ 1099511627776
  rotate_left
  · have e1 : decide (1099511627776 < com) = true := by simpa using h1
    rw [show decide (com ≤ 1099511627776) = false by simpa using h1, Bool.false_and] at H
    clear h1
    go_enter Try.func58, Try.ntmps58
    go_wp2
    go_ret
    exact ⟨ret_bool H.out.symm, hf⟩
  have e1 : decide (1099511627776 < com) = false := by simpa using h1
  rw [show decide (com ≤ 1099511627776) = true by simpa using h1, Bool.true_and] at H
  clear h1
  by_cases h2 : chs.length ≤ 4096
  rotate_left
  · have e2 : decide ((4096 : Int) < chs.length) = true := by simp; omega
    rw [show decide (chs.length ≤ 4096) = false by simpa using h2, Bool.false_and] at H
    clear h2
    go_enter Try.func58, Try.ntmps58
    go_wp2
    go_ret
    exact ⟨ret_bool H.out.symm, hf⟩
  have e2 : decide ((4096 : Int) < chs.length) = false := by simp; omega
  rw [show decide (chs.length ≤ 4096) = true by simpa using h2, Bool.true_and] at H
  go_enter Try.func58, Try.ntmps58
  go_wp2_with fail
  generalize hw1 : w.alloc (.cells #[.int .i64 com, .slice A chs.length c] 50) = w1 at *
  clear hw1
  go_loopw [3] (fun i wr => ∃ (k : Nat) (last : Int), k ≤ chs.length ∧ i = .int .i64 (k : Int) ∧ Hid (0 < k → ∃ h : k - 1 < chs.length, (chs[k - 1]'h).oop = last) ∧ Hid (k = 0 → last = 0) ∧ Hid (chsRight 0 chs = chsRight last (chs.drop k)) ∧ Fr No w1 wr) (fun i _ => chs.length - (intOf i).toNat)
  case atStart => exact ⟨0, 0, by omega, rfl, Lib.hid (fun h => by omega), Lib.hid (fun _ => rfl), Lib.hid rfl, Fr.refl _ _⟩
  case round =>
    obtain ⟨k, last, hk, rfl, HP, HZ, HC, hfr⟩ := hrel
    have hbr := hbx.fr0 hfr
    (have p0 := hbr.cell 0; have p1 := hbr.cell 1; have pf0 := hbr.frozen 0; have pf1 := hbr.frozen 1; simp only [List.getElem?_toArray, List.getElem?_cons_zero, List.getElem?_cons_succ] at p0 p1)
    by_cases hlt : k < chs.length
    · have ek : decide ((k : Int) < chs.length) = true := by simpa using (by omega : (k : Int) < chs.length)
      have hrd := hch.fr0 (hf.tr hfr)
      obtain ⟨ga, of, Av, nn, D, mm, rfl, _, hcell, hsl, hby⟩ := hrd.at_ hlt
      have hprev : 0 < k → wr.cell? ⟨ga, of + (k - 1) * 5, none⟩ = some (.int .i64 last) := fun h0 => by
        obtain ⟨hh, he⟩ := HP.out h0
        obtain ⟨g', o', Av', nn', D', mm', hA', _, hcell', _, _⟩ := hrd.at_ hh
        injection hA' with hA'
        injection hA' with h1 h2
        subst h1 h2
        have := hcell' 0 _ rfl
        rw [he] at this
        exact this
      have HPR := Lib.hid hprev
      have HD := Lib.hid (drop_consC chs k hlt)
      clear hrd hprev
      generalize hxk : chs[k] = x at hcell hsl hby HD
      have HX := Lib.hid (show ∃ h : k + 1 - 1 < chs.length, (chs[k + 1 - 1]'h).oop = x.oop from ⟨by omega, by rw [← hxk]; rfl⟩)
      clear hxk
      obtain ⟨oop, gone, ob⟩ := x
      simp only at hcell hsl hby HX
      have hall := addr5 _ _ _ hcell
      clear hcell
      have hfA : Fr No wr (wr.alloc (.cells #[.int .i64 oop, .bool gone, .int .i64 ob.cls, .slice Av ob.slots.length nn, .slice D ob.bytes.length mm] 71)) := (Fr.refl No wr).alloc _
      have hoc : ObjC (wr.alloc (.cells #[.int .i64 oop, .bool gone, .int .i64 ob.cls, .slice Av ob.slots.length nn, .slice D ob.bytes.length mm] 71)) S [.int .i64 ob.cls, .slice Av ob.slots.length nn, .slice D ob.bytes.length mm] ob := ObjC.fr0 ⟨Av, nn, D, mm, rfl, hsl, hby⟩ hfA
      have hnew := Blk.new wr 71 #[.int .i64 oop, .bool gone, .int .i64 ob.cls, .slice Av ob.slots.length nn, .slice D ob.bytes.length mm]
      have hbA := hbr.fr0 hfA
      have HPA : Hid (0 < k → (wr.alloc (.cells #[.int .i64 oop, .bool gone, .int .i64 ob.cls, .slice Av ob.slots.length nn, .slice D ob.bytes.length mm] 71)).cell? ⟨ga, of + (k - 1) * 5, none⟩ = some (.int .i64 last)) := Lib.hid (fun h0 => hfA.cell_some (HPR.out h0) (fun hn => hn))
      go_upto_region 7 with (first
        | (refine wpList_ldA ag_chr rfl _ rfl ⟨ga, of + k * 5, none⟩ [.int .i64 oop, .bool gone, .int .i64 ob.cls, .slice Av ob.slots.length nn, .slice D ob.bytes.length mm] rfl rfl hall ?_)
        | fail)
      generalize hwA : wr.alloc (.cells #[.int .i64 oop, .bool gone, .int .i64 ob.cls, .slice Av ob.slots.length nn, .slice D ob.bytes.length mm] 71) = wA at *
      clear hwA HPR p0 p1 pf0 pf1
      obtain ⟨good, hgood⟩ : ∃ good, good = (decide (last < oop) && oopB oop) := ⟨_, rfl⟩
      have HG := Lib.hid hgood
      clear hgood
      go_cut [54] (fun s54 wx => s54 = .bool (!good) ∧ Fr No wA wx)
      case first =>
        (have p0 := hbA.cell 0; have p1 := hbA.cell 1; have pf0 := hbA.frozen 0; have pf1 := hbA.frozen 1; simp only [List.getElem?_toArray, List.getElem?_cons_zero, List.getElem?_cons_succ] at p0 p1)
        (have z0 := hnew.cell 0; have z1 := hnew.cell 1; have z2 := hnew.cell 2; have z3 := hnew.cell 3; have z4 := hnew.cell 4; have zf0 := hnew.frozen 0; have zf1 := hnew.frozen 1; have zf2 := hnew.frozen 2; have zf3 := hnew.frozen 3; have zf4 := hnew.frozen 4; simp only [List.getElem?_toArray, List.getElem?_cons_zero, List.getElem?_cons_succ] at z0 z1 z2 z3 z4)
        have ho1 : oopB oop = (decide (1 ≤ oop) && decide (oop ≤ 4096)) := rfl
        rw [ho1] at HG
        clear ho1
        by_cases hA1 : 1 ≤ oop
        rotate_left
        · have ea : decide (oop < 1) = true := by simpa using hA1
          have HGD := Lib.hid (show good = false by rw [HG.out, show decide (1 ≤ oop) = false by simpa using hA1, Bool.false_and, Bool.and_false])
          clear hA1 HG HP HZ HPA
          refine T_begin2 No [] [0, 1, 2, 3, 4, 5, 6, 7, 8, 9, 10, 11, 12, 13, 14, 15, 16, 17, 18, 19, 20, 21, 22, 23] [] (by kernel_rfl) (by kernel_rfl) ?_
          simp only [pickOps, List.filterMap_cons, List.filterMap_nil, List.getElem?_cons_zero, List.getElem?_cons_succ, Act.put]
          repeat (first | (refine T_skip (by rfl) (by rfl) (fun _ _ _ h => h) ?_; try simp only [Act.put, List.setIfInBounds_toArray, List.set_cons_zero, List.set_cons_succ]) | (refine T_pass (by rfl) (by rfl) ?_; try simp only [Act.put, List.setIfInBounds_toArray, List.set_cons_zero, List.set_cons_succ]) | (refine T_load (by assumption) (by rfl) (by rfl) (fun _ _ _ _ h => h) rfl rfl (by assumption) (by first | exact (fun hn => hn) | assumption) ?_; try simp only [Act.put, List.setIfInBounds_toArray, List.set_cons_zero, List.set_cons_succ]) | (refine T_nil (by rfl) (by rfl) (fun _ _ _ _ h => h) rfl rfl ?_; try simp only [Act.put, List.setIfInBounds_toArray, List.set_cons_zero, List.set_cons_succ]) | (refine T_quietN (by rfl) (by rfl) (by rfl) (by rfl) (fun _ _ _ _ h => h) (fun K hK => ?_); go_big_quiet_op; refine hK _ ?_; clear hK K) | (refine T_two (by rfl) (by rfl) (by rfl) (by rfl) (fun _ _ _ _ h => h) (fun K hK => ?_); go_big_quiet_op; refine ⟨_, fun _ _ => rfl, ?_⟩; refine hK _ ?_; clear hK K; try simp only [Act.put, List.setIfInBounds_toArray, List.set_cons_zero, List.set_cons_succ]) | fail)
          refine T_done ?_
          go_wp2_with fail
          go_meet
          case rel => exact ⟨by rw [HGD.out]; rfl, (Fr.refl No wA).drew⟩
        have ea : decide (oop < 1) = false := by simpa using hA1
        by_cases hB1 : oop ≤ 4096
        rotate_left
        · have eb : decide (4096 < oop) = true := by simpa using hB1
          have HGD := Lib.hid (show good = false by rw [HG.out, show decide (oop ≤ 4096) = false by simpa using hB1, Bool.and_false, Bool.and_false])
          clear hA1 hB1 HG HP HZ HPA
          refine T_begin2 No [] [0, 1, 2, 3, 4, 5, 6, 7, 8, 9, 10, 11, 12, 13, 14, 15, 16, 17, 18, 19, 20, 21, 22, 23] [] (by kernel_rfl) (by kernel_rfl) ?_
          simp only [pickOps, List.filterMap_cons, List.filterMap_nil, List.getElem?_cons_zero, List.getElem?_cons_succ, Act.put]
          repeat (first | (refine T_skip (by rfl) (by rfl) (fun _ _ _ h => h) ?_; try simp only [Act.put, List.setIfInBounds_toArray, List.set_cons_zero, List.set_cons_succ]) | (refine T_pass (by rfl) (by rfl) ?_; try simp only [Act.put, List.setIfInBounds_toArray, List.set_cons_zero, List.set_cons_succ]) | (refine T_load (by assumption) (by rfl) (by rfl) (fun _ _ _ _ h => h) rfl rfl (by assumption) (by first | exact (fun hn => hn) | assumption) ?_; try simp only [Act.put, List.setIfInBounds_toArray, List.set_cons_zero, List.set_cons_succ]) | (refine T_nil (by rfl) (by rfl) (fun _ _ _ _ h => h) rfl rfl ?_; try simp only [Act.put, List.setIfInBounds_toArray, List.set_cons_zero, List.set_cons_succ]) | (refine T_quietN (by rfl) (by rfl) (by rfl) (by rfl) (fun _ _ _ _ h => h) (fun K hK => ?_); go_big_quiet_op; refine hK _ ?_; clear hK K) | (refine T_two (by rfl) (by rfl) (by rfl) (by rfl) (fun _ _ _ _ h => h) (fun K hK => ?_); go_big_quiet_op; refine ⟨_, fun _ _ => rfl, ?_⟩; refine hK _ ?_; clear hK K; try simp only [Act.put, List.setIfInBounds_toArray, List.set_cons_zero, List.set_cons_succ]) | fail)
          refine T_done ?_
          go_wp2_with fail
          go_meet
          case rel => exact ⟨by rw [HGD.out]; rfl, (Fr.refl No wA).drew⟩
        have eb : decide (4096 < oop) = false := by simpa using hB1
        rw [show decide (1 ≤ oop) = true by simpa using hA1, show decide (oop ≤ 4096) = true by simpa using hB1] at HG
        rcases Nat.eq_zero_or_pos k with hk0 | hk1
        · have HGD := Lib.hid (show good = true by
            rw [HG.out, HZ.out hk0, show decide ((0 : Int) < oop) = true by simpa using (by omega : (0 : Int) < oop)]; rfl)
          have ez : decide (0 < k) = false := by simp; omega
          have ez2 : decide ((0 : Int) < (k : Int)) = false := by simp; omega
          clear hA1 hB1 HG HP HZ HPA hk0
          refine T_begin2 No [] [0, 1, 2, 3, 4, 5, 6, 7, 8, 9, 10, 11, 12, 13, 14, 15, 16, 17, 18, 19, 20, 21, 22, 23] [] (by kernel_rfl) (by kernel_rfl) ?_
          simp only [pickOps, List.filterMap_cons, List.filterMap_nil, List.getElem?_cons_zero, List.getElem?_cons_succ, Act.put]
          repeat (first | (refine T_skip (by rfl) (by rfl) (fun _ _ _ h => h) ?_; try simp only [Act.put, List.setIfInBounds_toArray, List.set_cons_zero, List.set_cons_succ]) | (refine T_pass (by rfl) (by rfl) ?_; try simp only [Act.put, List.setIfInBounds_toArray, List.set_cons_zero, List.set_cons_succ]) | (refine T_load (by assumption) (by rfl) (by rfl) (fun _ _ _ _ h => h) rfl rfl (by assumption) (by first | exact (fun hn => hn) | assumption) ?_; try simp only [Act.put, List.setIfInBounds_toArray, List.set_cons_zero, List.set_cons_succ]) | (refine T_nil (by rfl) (by rfl) (fun _ _ _ _ h => h) rfl rfl ?_; try simp only [Act.put, List.setIfInBounds_toArray, List.set_cons_zero, List.set_cons_succ]) | (refine T_quietN (by rfl) (by rfl) (by rfl) (by rfl) (fun _ _ _ _ h => h) (fun K hK => ?_); go_big_quiet_op; refine hK _ ?_; clear hK K) | (refine T_two (by rfl) (by rfl) (by rfl) (by rfl) (fun _ _ _ _ h => h) (fun K hK => ?_); go_big_quiet_op; refine ⟨_, fun _ _ => rfl, ?_⟩; refine hK _ ?_; clear hK K; try simp only [Act.put, List.setIfInBounds_toArray, List.set_cons_zero, List.set_cons_succ]) | fail)
          refine T_done ?_
          go_wp2_with fail
          go_meet
          case rel => exact ⟨by rw [HGD.out]; rfl, (Fr.refl No wA).drew⟩
        · have hprev := HPA.out hk1
          have ez : decide (0 < k) = true := by simpa using hk1
          obtain ⟨j, hj⟩ : ∃ j, k = j + 1 := ⟨k - 1, by omega⟩
          subst hj
          simp only [Nat.add_sub_cancel] at hprev
          have ez2 : decide ((0 : Int) < (j : Int) + 1) = true := by first | (simp; done) | (simp; omega)
          have ez3 : decide (0 < j + 1) = true := by simp
          have ej : (j : Int) + 1 - 1 = (j : Int) := by omega
          have hjl : (j : Int) < (chs.length : Int) := by omega
          have hj0 : (0 : Int) ≤ (j : Int) := by omega
          cases hl : decide (last < oop) with
          | false =>
            have el : decide (oop ≤ last) = true := by simp at hl ⊢; omega
            have HGD := Lib.hid (show good = false by rw [HG.out, hl]; rfl)
            clear hA1 hB1 HG HP HZ HPA hl hk1
            refine T_begin2 No [] [0, 1, 2, 3, 4, 5, 6, 7, 8, 9, 10, 11, 12, 13, 14, 15, 16, 17, 18, 19, 20, 21, 22, 23] [] (by kernel_rfl) (by kernel_rfl) ?_
            simp only [pickOps, List.filterMap_cons, List.filterMap_nil, List.getElem?_cons_zero, List.getElem?_cons_succ, Act.put]
            repeat (first | (refine T_skip (by rfl) (by rfl) (fun _ _ _ h => h) ?_; try simp only [Act.put, List.setIfInBounds_toArray, List.set_cons_zero, List.set_cons_succ]) | (refine T_pass (by rfl) (by rfl) ?_; try simp only [Act.put, List.setIfInBounds_toArray, List.set_cons_zero, List.set_cons_succ]) | (refine T_load (by assumption) (by rfl) (by rfl) (fun _ _ _ _ h => h) rfl rfl (by assumption) (by first | exact (fun hn => hn) | assumption) ?_; try simp only [Act.put, List.setIfInBounds_toArray, List.set_cons_zero, List.set_cons_succ]) | (refine T_nil (by rfl) (by rfl) (fun _ _ _ _ h => h) rfl rfl ?_; try simp only [Act.put, List.setIfInBounds_toArray, List.set_cons_zero, List.set_cons_succ]) | (refine T_quietN (by rfl) (by rfl) (by rfl) (by rfl) (fun _ _ _ _ h => h) (fun K hK => ?_); go_big_quiet_op; refine hK _ ?_; clear hK K) | (refine T_two (by rfl) (by rfl) (by rfl) (by rfl) (fun _ _ _ _ h => h) (fun K hK => ?_); go_big_quiet_op; refine ⟨_, fun _ _ => rfl, ?_⟩; refine hK _ ?_; clear hK K; try simp only [Act.put, List.setIfInBounds_toArray, List.set_cons_zero, List.set_cons_succ]) | fail)
            refine T_done ?_
            go_wp2_with fail
            go_meet
            case rel => exact ⟨by rw [HGD.out]; rfl, (Fr.refl No wA).drew⟩
          | true =>
            have el : decide (oop ≤ last) = false := by simp at hl ⊢; omega
            have HGD := Lib.hid (show good = true by rw [HG.out, hl]; rfl)
            clear hA1 hB1 HG HP HZ HPA hl hk1
            refine T_begin2 No [] [0, 1, 2, 3, 4, 5, 6, 7, 8, 9, 10, 11, 12, 13, 14, 15, 16, 17, 18, 19, 20, 21, 22, 23] [] (by kernel_rfl) (by kernel_rfl) ?_
            simp only [pickOps, List.filterMap_cons, List.filterMap_nil, List.getElem?_cons_zero, List.getElem?_cons_succ, Act.put]
            repeat (first | (refine T_skip (by rfl) (by rfl) (fun _ _ _ h => h) ?_; try simp only [Act.put, List.setIfInBounds_toArray, List.set_cons_zero, List.set_cons_succ]) | (refine T_pass (by rfl) (by rfl) ?_; try simp only [Act.put, List.setIfInBounds_toArray, List.set_cons_zero, List.set_cons_succ]) | (refine T_load (by assumption) (by rfl) (by rfl) (fun _ _ _ _ h => h) rfl rfl (by assumption) (by first | exact (fun hn => hn) | assumption) ?_; try simp only [Act.put, List.setIfInBounds_toArray, List.set_cons_zero, List.set_cons_succ]) | (refine T_nil (by rfl) (by rfl) (fun _ _ _ _ h => h) rfl rfl ?_; try simp only [Act.put, List.setIfInBounds_toArray, List.set_cons_zero, List.set_cons_succ]) | (refine T_quietN (by rfl) (by rfl) (by rfl) (by rfl) (fun _ _ _ _ h => h) (fun K hK => ?_); go_big_quiet_op; refine hK _ ?_; clear hK K) | (refine T_two (by rfl) (by rfl) (by rfl) (by rfl) (fun _ _ _ _ h => h) (fun K hK => ?_); go_big_quiet_op; refine ⟨_, fun _ _ => rfl, ?_⟩; refine hK _ ?_; clear hK K; try simp only [Act.put, List.setIfInBounds_toArray, List.set_cons_zero, List.set_cons_succ]) | fail)
            refine T_done ?_
            go_wp2_with fail
            go_meet
            case rel => exact ⟨by rw [HGD.out]; rfl, (Fr.refl No wA).drew⟩
      case rest =>
        obtain ⟨rfl, hfc⟩ := hcut
        have hnewc := hnew.fr0 hfc
        have hocc := hoc.fr0 hfc
        (have z0 := hnewc.cell 0; have z1 := hnewc.cell 1; have z2 := hnewc.cell 2; have z3 := hnewc.cell 3; have z4 := hnewc.cell 4; have zf0 := hnewc.frozen 0; have zf1 := hnewc.frozen 1; have zf2 := hnewc.frozen 2; have zf3 := hnewc.frozen 3; have zf4 := hnewc.frozen 4; simp only [List.getElem?_toArray, List.getElem?_cons_zero, List.getElem?_cons_succ] at z0 z1 z2 z3 z4)
        cases good with
        | false =>
          have HN := Lib.hid (show chsRight last (⟨oop, gone, ob⟩ :: chs.drop (k + 1)) = false by
            have h9 := HG.out.symm
            rw [Bool.and_eq_false_iff] at h9
            rcases h9 with h9 | h9
            · exact chsRight_no1 h9
            · exact chsRight_no2 h9)
          simp only [Bool.not_false]
          go_wp2
          go_ret
          exact ⟨ret_bool (by rw [H.out, HC.out, HD.out, HN.out]), hf.tr (hfr.tr (hfA.tr hfc))⟩
        | true =>
          have h9 := HG.out.symm
          rw [Bool.and_eq_true] at h9
          have HL := Lib.hid h9.1
          have HO := Lib.hid h9.2
          clear h9 HG
          simp only [Bool.not_true]
          cases gone with
          | true =>
            go_wp2_with fail
            refine (refsame_calls S S _ _ ob noObj _ hocc (noObj_c _ S)).mono ?_
            rintro e w4 ⟨rfl, hf4⟩
            have hnew4 := hnewc.fr0 hf4
            clear z0 z1 z2 z3 z4 zf0 zf1 zf2 zf3 zf4
            (have z0 := hnew4.cell 0; have z1 := hnew4.cell 1; have z2 := hnew4.cell 2; have z3 := hnew4.cell 3; have z4 := hnew4.cell 4; have zf0 := hnew4.frozen 0; have zf1 := hnew4.frozen 1; have zf2 := hnew4.frozen 2; have zf3 := hnew4.frozen 3; have zf4 := hnew4.frozen 4; simp only [List.getElem?_toArray, List.getElem?_cons_zero, List.getElem?_cons_succ] at z0 z1 z2 z3 z4)
            cases hc : sameO ob noObj with
            | false =>
              have HN := Lib.hid (chsRight_no3 (last := last) (r := chs.drop (k + 1)) (show rightC ⟨oop, true, ob⟩ = false from hc))
              clear hc
              go_wp2
              go_ret
              exact ⟨ret_bool (by rw [H.out, HC.out, HD.out, HN.out]), hf.tr (hfr.tr (hfA.tr (hfc.tr hf4)))⟩
            | true =>
              have HN := Lib.hid (chsRight_yes (r := chs.drop (k + 1)) HL.out HO.out (show rightC ⟨oop, true, ob⟩ = true from hc))
              clear hc
              go_wp2
              go_roundw
              case rel => exact ⟨k + 1, oop, by omega, by go_num, Lib.hid (fun _ => HX.out), Lib.hid (fun h => by omega), Lib.hid (by rw [HC.out, HD.out, HN.out]), hfr.tr (hfA.tr (hfc.tr hf4))⟩
              case measure => simp [intOf]; omega
          | false =>
            go_wp2_with fail
            refine (refrighto_calls S _ ob _ hocc).mono ?_
            rintro e w4 ⟨rfl, hf4⟩
            cases hc : rightO ob with
            | false =>
              have HN := Lib.hid (chsRight_no3 (last := last) (r := chs.drop (k + 1)) (show rightC ⟨oop, false, ob⟩ = false from hc))
              clear hc
              go_wp2
              go_ret
              exact ⟨ret_bool (by rw [H.out, HC.out, HD.out, HN.out]), hf.tr (hfr.tr (hfA.tr (hfc.tr hf4)))⟩
            | true =>
              have HN := Lib.hid (chsRight_yes (r := chs.drop (k + 1)) HL.out HO.out (show rightC ⟨oop, false, ob⟩ = true from hc))
              clear hc
              go_wp2
              go_roundw
              case rel => exact ⟨k + 1, oop, by omega, by go_num, Lib.hid (fun _ => HX.out), Lib.hid (fun h => by omega), Lib.hid (by rw [HC.out, HD.out, HN.out]), hfr.tr (hfA.tr (hfc.tr hf4))⟩
              case measure => simp [intOf]; omega
    · obtain rfl : k = chs.length := by omega
      have ek : decide ((chs.length : Int) < chs.length) = false := by simp
      have HE := Lib.hid (show rightR ⟨com, chs⟩ = true by rw [H.out, HC.out, List.drop_length]; rfl)
      go_wp2
      go_ret
      exact ⟨ret_bool HE.out.symm, hf.tr hfr⟩
end Go.Proofs.Ytoajigghkjnffaa
namespace Go.Proofs.Ytoajigghkjnffaa
set_option linter.unusedVariables false
set_option linter.unusedSimpArgs false
open Go.RowKit

def ApplyR (w : World) (T O : Nat → Prop) (p : Nat) (t : TabM) (r : RecM) (e : Ending) (w' : World) : Prop :=
  e = .returned (.int .i64 (applyM t r).2) ∧ ∃ T' O' : Nat → Prop, TabAt w' T' O' p (applyM t r).1 ∧ (∀ b, T' b → T b ∨ w.heap.size ≤ b) ∧ (∀ b, O' b → O b ∨ w.heap.size ≤ b) ∧ Fr T w w'
theorem take_snocC (l : List ChM) (k : Nat) (h : k < l.length) : l.take (k + 1) = l.take k ++ [l[k]] := by
  rw [List.take_succ_eq_append_getElem h]
theorem foldT_snoc (com : Int) (t : TabM) (l : List ChM) (c : ChM) : (l ++ [c]).foldl (stepT com) t = stepT com (l.foldl (stepT com) t) c := by
  rw [List.foldl_append]; rfl
theorem TabAt.blk {w : World} {T O : Nat → Prop} {p : Nat} {t : TabM} (h : TabAt w T O p t) : ∃ mb wb, Blk w p 92 #[.int .i64 t.first, .int .i64 t.last, .map (some mb), .map (some wb)] := by
  obtain ⟨mb, wb, f, g, hP⟩ := h
  exact ⟨mb, wb, hP.blk⟩
theorem TabAt.relast {w : World} {T O : Nat → Prop} {p : Nat} {t : TabM} (h : TabAt w T O p t) (last : Int) : TabAt (w.setCell ⟨p, 1, none⟩ (.int .i64 last)) T O p { t with last := last } := by
  obtain ⟨mb, wb, f, g, hP⟩ := h
  have hf : Fr (fun b => b = p) w (w.setCell ⟨p, 1, none⟩ (.int .i64 last)) := (Fr.refl (fun b => b = p) w).set (p := ⟨p, 1, none⟩) (.inr rfl) _
  obtain ⟨i1, i2, i3, i4, i5, i6⟩ := hP.inT
  refine ⟨mb, wb, f, g, { blk := hP.blk.put 1 _, vers := hP.vers.fr hf (fun e => i4 e.symm), when := hP.when.fr hf (fun e => i5 e.symm), row := fun x hx => (hP.row x hx).fr hf (fun b hb => hb.2.1) (fun b hb e => (hP.off _ i1).2 (e ▸ hb)), at_ := hP.at_, apart := hP.apart, inT := hP.inT, off := fun b hb => ⟨Nat.lt_of_lt_of_le (hP.off b hb).1 hf.size, (hP.off b hb).2⟩, offO := fun b hb => Nat.lt_of_lt_of_le (hP.offO b hb) hf.size, small := hP.small }⟩
theorem one5 {a b c d e : Value} (h1 : a.oneCell' = true) (h2 : b.oneCell' = true) (h3 : c.oneCell' = true) (h4 : d.oneCell' = true) (h5 : e.oneCell' = true) : ∀ u ∈ [a, b, c, d, e], u.oneCell' = true := by
  intro u hu
  simp only [List.mem_cons, List.not_mem_nil, or_false] at hu
  rcases hu with rfl | rfl | rfl | rfl | rfl <;> assumption
theorem ObjOwn.lit5 {w : World} {B : Nat} {cs : List Value} {o : ObjM} (h : ObjOwn w B cs o) : ∃ A c D d, cs = [.int .i64 o.cls, .slice A o.slots.length c, .slice D o.bytes.length d] := by
  obtain ⟨A, c, D, d, M, e, _⟩ := h; exact ⟨A, c, D, d, e⟩
set_option maxHeartbeats 4000000 in
set_option maxRecDepth 100000 in
theorem tapply_calls (w : World) (T O S : Nat → Prop) (p : Nat) (t : TabM) (cs : List Value) (r : RecM) (h : TabAt w T O p t) (hr : RecC w S cs r) (hS : ∀ b, S b → ¬ T b) (hn : t.n ≤ 900000) :
    Calls Try.prog 39 #[.pointer (some ⟨p, 0, none⟩), .agg cs.toArray] w fun e w' => ApplyR w T O p t r e w' := by
  obtain ⟨com, chs⟩ := r
  have hr := hr.lt
  obtain ⟨A, c, rfl, hch⟩ := hr
  simp only at hch
  have g1 := plain_i64
  have g2 := plain_lval
  have g3 := plain_lu8
  have g4 := plain_bool
  have g5 := plain_lchp
  have g6 := plain_mver
  have g7 := plain_mi64
  obtain ⟨hTl, hOl, hTp⟩ := h.lt
  have hpl := hTl p hTp
  have hf1 : Fr No w (w.alloc (.cells #[.int .i64 com, .slice A chs.length c] 76)) := (Fr.refl No w).alloc _
  have hbx := Blk.new w 76 #[.int .i64 com, .slice A chs.length c]
  have hz1 : w.heap.size < (w.alloc (.cells #[.int .i64 com, .slice A chs.length c] 76)).heap.size := by simp
  have hrc : RecC (w.alloc (.cells #[.int .i64 com, .slice A chs.length c] 76)) (fun b => S b ∧ b < w.heap.size) [.int .i64 com, .slice A chs.length c] ⟨com, chs⟩ := RecC.fr0 ⟨A, c, rfl, hch⟩ hf1
  have hbxa := hbx.all
  go_enter Try.func39, Try.ntmps39
  go_wp2_with (first
    | (refine wpList_ldA ag_recp rfl _ rfl ⟨w.heap.size, 0, none⟩ [.int .i64 com, .slice A chs.length c] rfl rfl hbxa ?_)
    | fail)
  refine (vrightr_calls _ _ ⟨com, chs⟩ _ hrc).mono ?_
  rintro e w2 ⟨rfl, hf2⟩
  have hF2 := hf1.tr hf2
  have hb2 := hbx.fr0 hf2
  have hT2 := h.fr0 hF2
  have hz2 : w.heap.size < w2.heap.size := Nat.lt_of_lt_of_le hz1 hf2.size
  clear hrc hbxa hf1 hbx hz1 hf2
  (have z0 := hb2.cell 0; have z1 := hb2.cell 1; have zf0 := hb2.frozen 0; have zf1 := hb2.frozen 1; simp only [List.getElem?_toArray, List.getElem?_cons_zero, List.getElem?_cons_succ] at z0 z1)
  cases hrr : rightR ⟨com, chs⟩ with
  | false =>
    have HM := Lib.hid (applyM_bad (t := t) hrr)
    clear hrr
    go_wp2
    go_ret
    exact ⟨by rw [HM.out]; rfl, T, O, by rw [HM.out]; exact hT2, fun b hb => .inl hb, fun b hb => .inl hb, hF2.mono (fun _ _ hn => hn.elim)⟩
  | true =>
    obtain ⟨mb0, wb0, hbk⟩ := hT2.blk
    have q1 := hbk.cell 1
    have q1f := hbk.frozen 1
    simp only [List.getElem?_toArray, List.getElem?_cons_zero, List.getElem?_cons_succ] at q1
    by_cases hold : com ≤ t.last
    · have HM := Lib.hid (applyM_old (t := t) hrr hold)
      have ek : decide (com ≤ t.last) = true := by simpa using hold
      clear hrr hold
      go_wp2_with fail
      (refine T_begin No [0, 1, 2, 3, 4, 5, 6, 7] [] (by kernel_rfl) (by kernel_rfl) ?_; simp only [pickOps, List.filterMap_cons, List.filterMap_nil, List.getElem?_cons_zero, List.getElem?_cons_succ, Act.put])
      repeat (first | (refine T_skip (by rfl) (by rfl) (fun _ _ _ h => h) ?_; try simp only [Act.put, List.setIfInBounds_toArray, List.set_cons_zero, List.set_cons_succ]) | (refine T_pass (by rfl) (by rfl) ?_; try simp only [Act.put, List.setIfInBounds_toArray, List.set_cons_zero, List.set_cons_succ]) | (refine T_load (by assumption) (by rfl) (by rfl) (fun _ _ _ _ h => h) rfl rfl (by assumption) (by first | exact (fun hn => hn) | assumption) ?_; try simp only [Act.put, List.setIfInBounds_toArray, List.set_cons_zero, List.set_cons_succ]) | (refine T_nil (by rfl) (by rfl) (fun _ _ _ _ h => h) rfl rfl ?_; try simp only [Act.put, List.setIfInBounds_toArray, List.set_cons_zero, List.set_cons_succ]) | (refine T_quiet (by rfl) (by rfl) (by rfl) (fun _ _ _ _ h => h) (fun K hK => ?_); go_big_quiet_op; refine hK _ ?_; clear hK K) | (refine T_two (by rfl) (by rfl) (by rfl) (by rfl) (fun _ _ _ _ h => h) (fun K hK => ?_); go_big_quiet_op; refine ⟨_, fun _ _ => rfl, ?_⟩; refine hK _ ?_; clear hK K; try simp only [Act.put, List.setIfInBounds_toArray, List.set_cons_zero, List.set_cons_succ]) | fail)
      refine T_done ?_
      go_wp2
      go_ret
      exact ⟨by rw [HM.out]; rfl, T, O, by rw [HM.out]; exact hT2.fr0 (Fr.refl No w2).drew, fun b hb => .inl hb, fun b hb => .inl hb, hF2.drew.mono (fun _ _ hn => hn.elim)⟩
    · have HM := Lib.hid (applyM_yes (t := t) hrr hold)
      have ek : decide (com ≤ t.last) = false := by simpa using hold
      obtain ⟨_, hcom, hlen, hcr⟩ := rightR_four hrr
      simp only at hcom hlen hcr
      have HC := Lib.hid (chsRight_all hcr)
      clear hrr hold hcr
      go_wp2_with fail
      (refine T_begin No [0, 1, 2, 3, 4, 5, 6, 7] [] (by kernel_rfl) (by kernel_rfl) ?_; simp only [pickOps, List.filterMap_cons, List.filterMap_nil, List.getElem?_cons_zero, List.getElem?_cons_succ, Act.put])
      repeat (first | (refine T_skip (by rfl) (by rfl) (fun _ _ _ h => h) ?_; try simp only [Act.put, List.setIfInBounds_toArray, List.set_cons_zero, List.set_cons_succ]) | (refine T_pass (by rfl) (by rfl) ?_; try simp only [Act.put, List.setIfInBounds_toArray, List.set_cons_zero, List.set_cons_succ]) | (refine T_load (by assumption) (by rfl) (by rfl) (fun _ _ _ _ h => h) rfl rfl (by assumption) (by first | exact (fun hn => hn) | assumption) ?_; try simp only [Act.put, List.setIfInBounds_toArray, List.set_cons_zero, List.set_cons_succ]) | (refine T_nil (by rfl) (by rfl) (fun _ _ _ _ h => h) rfl rfl ?_; try simp only [Act.put, List.setIfInBounds_toArray, List.set_cons_zero, List.set_cons_succ]) | (refine T_quiet (by rfl) (by rfl) (by rfl) (fun _ _ _ _ h => h) (fun K hK => ?_); go_big_quiet_op; refine hK _ ?_; clear hK K) | (refine T_two (by rfl) (by rfl) (by rfl) (by rfl) (fun _ _ _ _ h => h) (fun K hK => ?_); go_big_quiet_op; refine ⟨_, fun _ _ => rfl, ?_⟩; refine hK _ ?_; clear hK K; try simp only [Act.put, List.setIfInBounds_toArray, List.set_cons_zero, List.set_cons_succ]) | fail)
      refine T_done ?_
      have hbD : Blk w2.drew w.heap.size 76 #[.int .i64 com, .slice A chs.length c] := hb2.drew
      have hTD : TabAt w2.drew T O p t := hT2.fr0 (Fr.refl No w2).drew
      have hFD : Fr No w w2.drew := hF2.drew
      have hzD : w.heap.size < w2.drew.heap.size := hz2
      clear hb2 hT2 hF2 hz2 q1 q1f hbk z0 z1 zf0 zf1
      generalize w2.drew = w3 at *
      (have z0 := hbD.cell 0; have z1 := hbD.cell 1; have zf0 := hbD.frozen 0; have zf1 := hbD.frozen 1; simp only [List.getElem?_toArray, List.getElem?_cons_zero, List.getElem?_cons_succ] at z0 z1)
      go_wp2_with fail
      go_loopw [25] (fun i wr => ∃ (k : Nat) (T' O' : Nat → Prop), k ≤ chs.length ∧ i = .int .i64 (k : Int) ∧ TabAt wr T' O' p ((chs.take k).foldl (stepT com) t) ∧ (∀ b, T' b → T b ∨ w3.heap.size ≤ b) ∧ (∀ b, O' b → O b ∨ w3.heap.size ≤ b) ∧ Fr T w3 wr) (fun i _ => chs.length - (intOf i).toNat)
      case atStart => exact ⟨0, T, O, by omega, rfl, hTD, fun b hb => .inl hb, fun b hb => .inl hb, Fr.refl _ _⟩
      case round =>
        obtain ⟨k, T', O', hk, rfl, hTk, hT', hO', hf⟩ := hrel
        have hszr := hf.size
        have hbR := hbD.fr hf (fun hT => by have := hTl _ hT; omega)
        by_cases hlt : k < chs.length
        · have ek : decide ((k : Int) < chs.length) = true := by simpa using (by omega : (k : Int) < chs.length)
          have hfW : Fr T w wr := (hFD.mono (fun _ _ hn => hn.elim)).trans hf (fun b _ hT => hT)
          have hrd := hch.fr hfW (fun b hb hT => hS b hb.1 hT)
          obtain ⟨ga, of, Av, nn, D, mm, rfl, hga, hcell, hsl, hby⟩ := hrd.at_ hlt
          obtain ⟨hoop, hcx⟩ := HC.out _ (List.getElem_mem hlt)
          have hsm := rightC_small hcx
          have HT := Lib.hid (foldT_snoc com t (chs.take k) chs[k])
          have HTk := Lib.hid (take_snocC chs k hlt)
          generalize chs[k] = x at *
          obtain ⟨oop, gone, ob⟩ := x
          simp only at hcell hsl hby hsm hoop
          have hw64 : W64 oop := by
            unfold oopB at hoop
            simp only [Bool.and_eq_true, decide_eq_true_eq] at hoop
            exact wf_of (by omega) (by omega)
          clear hoop hcx
          have hcell' := addr5 _ _ _ hcell
          obtain ⟨e1, e2, e3⟩ := fold_first com (chs.take k) t
          have e4 : ((chs.take k).foldl (stepT com) t).n ≤ 1000000 := by rw [e3, List.length_take]; omega
          clear e3
          generalize htk : (chs.take k).foldl (stepT com) t = tk at *
          clear htk
          go_wp2_with (first
            | (refine wpList_ldA ag_chp rfl _ rfl ⟨ga, of + k * 5, none⟩ _ rfl rfl hcell' ?_)
            | fail)
          have hfo : Fr No wr (wr.alloc (.cells #[.int .i64 oop, .bool gone, .int .i64 ob.cls, .slice Av ob.slots.length nn, .slice D ob.bytes.length mm] 104)) := (Fr.refl No wr).alloc _
          have hbO := Blk.new wr 104 #[.int .i64 oop, .bool gone, .int .i64 ob.cls, .slice Av ob.slots.length nn, .slice D ob.bytes.length mm]
          have hzA : wr.heap.size < (wr.alloc (.cells #[.int .i64 oop, .bool gone, .int .i64 ob.cls, .slice Av ob.slots.length nn, .slice D ob.bytes.length mm] 104)).heap.size := by simp
          generalize hwA : wr.alloc (.cells #[.int .i64 oop, .bool gone, .int .i64 ob.cls, .slice Av ob.slots.length nn, .slice D ob.bytes.length mm] 104) = wA at *
          clear hwA
          obtain ⟨mb, wb, f, g, hP⟩ := hTk.fr0 hfo
          have hbX := hbR.fr0 hfo
          have hbT := hP.blk
          have hob : ObjC wA (fun b => S b ∧ b < w.heap.size) [.int .i64 ob.cls, .slice Av ob.slots.length nn, .slice D ob.bytes.length mm] ob := ObjC.fr0 ⟨Av, nn, D, mm, rfl, hsl, hby⟩ hfo
          obtain ⟨i1, i2, i3, i4, i5, i6⟩ := hP.inT
          have hTlt : ∀ b, T' b → b < wr.heap.size := hTk.lt.1
          have hOlt : ∀ b, O' b → b < wr.heap.size := hTk.lt.2.1
          obtain ⟨v0, xs, hv0, hown0, hxs0, hvb0⟩ : ∃ v0 xs, (f oop).getD (.slice none 0 0) = v0 ∧ wA.ownsRow 0 tVer 5 v0 (tk.vs oop).length xs ∧ ChsC wA O' xs (tk.vs oop) ∧ ∀ b, v0.ownBlock = some b → (T' b ∧ b ≠ p ∧ b ≠ mb ∧ b ≠ wb) ∧ ∃ v, f oop = some v ∧ v.ownBlock = some b := by
            rcases hP.row oop hw64 with ⟨r1, r2⟩ | ⟨v, xs, r1, _, r3, r4, r5⟩
            · exact ⟨_, [], rfl, by rw [r1, r2]; exact World.ownsRow_nil _ _ _ _, by rw [r2]; rfl, fun b hb => by rw [r1] at hb; simp [Value.ownBlock] at hb⟩
            · exact ⟨v, xs, by rw [r1]; rfl, r3, r4, fun b hb => ⟨r5 b hb, v, r1, hb⟩⟩
          have hsmall := hP.small oop
          have HOB := Lib.hid (show ∀ j u, [Value.int .i64 ob.cls, .slice Av ob.slots.length nn, .slice D ob.bytes.length mm][j]? = some u → wA.cell? ((⟨wr.heap.size, 2, none⟩ : Addr).add j) = some u from addr5 _ _ _ (fun j u hu => by
            have := hbO.all (j + 2) u (by simpa using hu)
            rw [show (⟨wr.heap.size, 0, none⟩ : Addr).add (j + 2) = ⟨wr.heap.size, 2 + j, none⟩ by unfold Addr.add; split <;> simp_all <;> omega] at this
            exact this))
          have HVB := Lib.hid hvb0
          have n1 : ¬ v0.ownBlock = some mb := fun e => (hvb0 _ e).1.2.2.1 rfl
          have n2 : ¬ v0.ownBlock = some p := fun e => (hvb0 _ e).1.2.1 rfl
          have n3 : ¬ v0.ownBlock = some w.heap.size := fun e => by have := hT' _ (hvb0 _ e).1.1; rcases this with h9 | h9; have := hTl _ h9; omega; omega
          have n4 : ¬ v0.ownBlock = some wr.heap.size := fun e => by have := hTlt _ (hvb0 _ e).1.1; omega
          have n5 : ¬ v0.ownBlock = some wb := fun e => (hvb0 _ e).1.2.2.2 rfl
          clear hvb0 hcell hcell'
          have hbxk := hbX
          (have z0 := hbX.cell 0; have z1 := hbX.cell 1; have zf0 := hbX.frozen 0; have zf1 := hbX.frozen 1; simp only [List.getElem?_toArray, List.getElem?_cons_zero, List.getElem?_cons_succ] at z0 z1)
          (have y0 := hbO.cell 0; have y1 := hbO.cell 1; have y2 := hbO.cell 2; have y3 := hbO.cell 3; have y4 := hbO.cell 4; have yf0 := hbO.frozen 0; have yf1 := hbO.frozen 1; have yf2 := hbO.frozen 2; have yf3 := hbO.frozen 3; have yf4 := hbO.frozen 4; simp only [List.getElem?_toArray, List.getElem?_cons_zero, List.getElem?_cons_succ] at y0 y1 y2 y3 y4)
          (have x0 := hbT.cell 0; have x1 := hbT.cell 1; have x2 := hbT.cell 2; have x3 := hbT.cell 3; have xf0 := hbT.frozen 0; have xf1 := hbT.frozen 1; have xf2 := hbT.frozen 2; have xf3 := hbT.frozen 3; simp only [List.getElem?_toArray, List.getElem?_cons_zero, List.getElem?_cons_succ] at x0 x1 x2 x3)
          refine T_begin2 (fun b => v0.ownBlock = some b) [23] [0, 1, 2, 3, 4, 5, 6, 7, 8, 9, 10, 11, 12, 13, 14, 15, 16, 17, 18, 19, 20, 21, 22, 23] [19, 21, 22, 23] (by kernel_rfl) (by kernel_rfl) ?_
          simp only [pickOps, List.filterMap_cons, List.filterMap_nil, List.getElem?_cons_zero, List.getElem?_cons_succ, Act.put]
          (first | (refine T_skip (by rfl) (by rfl) (fun _ _ _ h => h) ?_; try simp only [Act.put, List.setIfInBounds_toArray, List.set_cons_zero, List.set_cons_succ]) | (refine T_pass (by rfl) (by rfl) ?_; try simp only [Act.put, List.setIfInBounds_toArray, List.set_cons_zero, List.set_cons_succ]) | (refine T_load (by assumption) (by rfl) (by rfl) (fun _ _ _ _ h => h) rfl rfl (by assumption) (by first | exact (fun hn => hn) | assumption) ?_; try simp only [Act.put, List.setIfInBounds_toArray, List.set_cons_zero, List.set_cons_succ]) | (refine T_nil (by rfl) (by rfl) (fun _ _ _ _ h => h) rfl rfl ?_; try simp only [Act.put, List.setIfInBounds_toArray, List.set_cons_zero, List.set_cons_succ]) | (refine T_quietN (by rfl) (by rfl) (by rfl) (by rfl) (fun _ _ _ _ h => h) (fun K hK => ?_); go_big_quiet_op; refine hK _ ?_; clear hK K) | (refine T_two (by rfl) (by rfl) (by rfl) (by rfl) (fun _ _ _ _ h => h) (fun K hK => ?_); go_big_quiet_op; refine ⟨_, fun _ _ => rfl, ?_⟩; refine hK _ ?_; clear hK K; try simp only [Act.put, List.setIfInBounds_toArray, List.set_cons_zero, List.set_cons_succ]) | fail)
          (first | (refine T_skip (by rfl) (by rfl) (fun _ _ _ h => h) ?_; try simp only [Act.put, List.setIfInBounds_toArray, List.set_cons_zero, List.set_cons_succ]) | (refine T_pass (by rfl) (by rfl) ?_; try simp only [Act.put, List.setIfInBounds_toArray, List.set_cons_zero, List.set_cons_succ]) | (refine T_load (by assumption) (by rfl) (by rfl) (fun _ _ _ _ h => h) rfl rfl (by assumption) (by first | exact (fun hn => hn) | assumption) ?_; try simp only [Act.put, List.setIfInBounds_toArray, List.set_cons_zero, List.set_cons_succ]) | (refine T_nil (by rfl) (by rfl) (fun _ _ _ _ h => h) rfl rfl ?_; try simp only [Act.put, List.setIfInBounds_toArray, List.set_cons_zero, List.set_cons_succ]) | (refine T_quietN (by rfl) (by rfl) (by rfl) (by rfl) (fun _ _ _ _ h => h) (fun K hK => ?_); go_big_quiet_op; refine hK _ ?_; clear hK K) | (refine T_two (by rfl) (by rfl) (by rfl) (by rfl) (fun _ _ _ _ h => h) (fun K hK => ?_); go_big_quiet_op; refine ⟨_, fun _ _ => rfl, ?_⟩; refine hK _ ?_; clear hK K; try simp only [Act.put, List.setIfInBounds_toArray, List.set_cons_zero, List.set_cons_succ]) | fail)
          (first | (refine T_skip (by rfl) (by rfl) (fun _ _ _ h => h) ?_; try simp only [Act.put, List.setIfInBounds_toArray, List.set_cons_zero, List.set_cons_succ]) | (refine T_pass (by rfl) (by rfl) ?_; try simp only [Act.put, List.setIfInBounds_toArray, List.set_cons_zero, List.set_cons_succ]) | (refine T_load (by assumption) (by rfl) (by rfl) (fun _ _ _ _ h => h) rfl rfl (by assumption) (by first | exact (fun hn => hn) | assumption) ?_; try simp only [Act.put, List.setIfInBounds_toArray, List.set_cons_zero, List.set_cons_succ]) | (refine T_nil (by rfl) (by rfl) (fun _ _ _ _ h => h) rfl rfl ?_; try simp only [Act.put, List.setIfInBounds_toArray, List.set_cons_zero, List.set_cons_succ]) | (refine T_quietN (by rfl) (by rfl) (by rfl) (by rfl) (fun _ _ _ _ h => h) (fun K hK => ?_); go_big_quiet_op; refine hK _ ?_; clear hK K) | (refine T_two (by rfl) (by rfl) (by rfl) (by rfl) (fun _ _ _ _ h => h) (fun K hK => ?_); go_big_quiet_op; refine ⟨_, fun _ _ => rfl, ?_⟩; refine hK _ ?_; clear hK K; try simp only [Act.put, List.setIfInBounds_toArray, List.set_cons_zero, List.set_cons_succ]) | fail)
          (first | (refine T_skip (by rfl) (by rfl) (fun _ _ _ h => h) ?_; try simp only [Act.put, List.setIfInBounds_toArray, List.set_cons_zero, List.set_cons_succ]) | (refine T_pass (by rfl) (by rfl) ?_; try simp only [Act.put, List.setIfInBounds_toArray, List.set_cons_zero, List.set_cons_succ]) | (refine T_load (by assumption) (by rfl) (by rfl) (fun _ _ _ _ h => h) rfl rfl (by assumption) (by first | exact (fun hn => hn) | assumption) ?_; try simp only [Act.put, List.setIfInBounds_toArray, List.set_cons_zero, List.set_cons_succ]) | (refine T_nil (by rfl) (by rfl) (fun _ _ _ _ h => h) rfl rfl ?_; try simp only [Act.put, List.setIfInBounds_toArray, List.set_cons_zero, List.set_cons_succ]) | (refine T_quietN (by rfl) (by rfl) (by rfl) (by rfl) (fun _ _ _ _ h => h) (fun K hK => ?_); go_big_quiet_op; refine hK _ ?_; clear hK K) | (refine T_two (by rfl) (by rfl) (by rfl) (by rfl) (fun _ _ _ _ h => h) (fun K hK => ?_); go_big_quiet_op; refine ⟨_, fun _ _ => rfl, ?_⟩; refine hK _ ?_; clear hK K; try simp only [Act.put, List.setIfInBounds_toArray, List.set_cons_zero, List.set_cons_succ]) | fail)
          (first | (refine T_skip (by rfl) (by rfl) (fun _ _ _ h => h) ?_; try simp only [Act.put, List.setIfInBounds_toArray, List.set_cons_zero, List.set_cons_succ]) | (refine T_pass (by rfl) (by rfl) ?_; try simp only [Act.put, List.setIfInBounds_toArray, List.set_cons_zero, List.set_cons_succ]) | (refine T_load (by assumption) (by rfl) (by rfl) (fun _ _ _ _ h => h) rfl rfl (by assumption) (by first | exact (fun hn => hn) | assumption) ?_; try simp only [Act.put, List.setIfInBounds_toArray, List.set_cons_zero, List.set_cons_succ]) | (refine T_nil (by rfl) (by rfl) (fun _ _ _ _ h => h) rfl rfl ?_; try simp only [Act.put, List.setIfInBounds_toArray, List.set_cons_zero, List.set_cons_succ]) | (refine T_quietN (by rfl) (by rfl) (by rfl) (by rfl) (fun _ _ _ _ h => h) (fun K hK => ?_); go_big_quiet_op; refine hK _ ?_; clear hK K) | (refine T_two (by rfl) (by rfl) (by rfl) (by rfl) (fun _ _ _ _ h => h) (fun K hK => ?_); go_big_quiet_op; refine ⟨_, fun _ _ => rfl, ?_⟩; refine hK _ ?_; clear hK K; try simp only [Act.put, List.setIfInBounds_toArray, List.set_cons_zero, List.set_cons_succ]) | fail)
          (first | (refine T_skip (by rfl) (by rfl) (fun _ _ _ h => h) ?_; try simp only [Act.put, List.setIfInBounds_toArray, List.set_cons_zero, List.set_cons_succ]) | (refine T_pass (by rfl) (by rfl) ?_; try simp only [Act.put, List.setIfInBounds_toArray, List.set_cons_zero, List.set_cons_succ]) | (refine T_load (by assumption) (by rfl) (by rfl) (fun _ _ _ _ h => h) rfl rfl (by assumption) (by first | exact (fun hn => hn) | assumption) ?_; try simp only [Act.put, List.setIfInBounds_toArray, List.set_cons_zero, List.set_cons_succ]) | (refine T_nil (by rfl) (by rfl) (fun _ _ _ _ h => h) rfl rfl ?_; try simp only [Act.put, List.setIfInBounds_toArray, List.set_cons_zero, List.set_cons_succ]) | (refine T_quietN (by rfl) (by rfl) (by rfl) (by rfl) (fun _ _ _ _ h => h) (fun K hK => ?_); go_big_quiet_op; refine hK _ ?_; clear hK K) | (refine T_two (by rfl) (by rfl) (by rfl) (by rfl) (fun _ _ _ _ h => h) (fun K hK => ?_); go_big_quiet_op; refine ⟨_, fun _ _ => rfl, ?_⟩; refine hK _ ?_; clear hK K; try simp only [Act.put, List.setIfInBounds_toArray, List.set_cons_zero, List.set_cons_succ]) | fail)
          (first | (refine T_skip (by rfl) (by rfl) (fun _ _ _ h => h) ?_; try simp only [Act.put, List.setIfInBounds_toArray, List.set_cons_zero, List.set_cons_succ]) | (refine T_pass (by rfl) (by rfl) ?_; try simp only [Act.put, List.setIfInBounds_toArray, List.set_cons_zero, List.set_cons_succ]) | (refine T_load (by assumption) (by rfl) (by rfl) (fun _ _ _ _ h => h) rfl rfl (by assumption) (by first | exact (fun hn => hn) | assumption) ?_; try simp only [Act.put, List.setIfInBounds_toArray, List.set_cons_zero, List.set_cons_succ]) | (refine T_nil (by rfl) (by rfl) (fun _ _ _ _ h => h) rfl rfl ?_; try simp only [Act.put, List.setIfInBounds_toArray, List.set_cons_zero, List.set_cons_succ]) | (refine T_quietN (by rfl) (by rfl) (by rfl) (by rfl) (fun _ _ _ _ h => h) (fun K hK => ?_); go_big_quiet_op; refine hK _ ?_; clear hK K) | (refine T_two (by rfl) (by rfl) (by rfl) (by rfl) (fun _ _ _ _ h => h) (fun K hK => ?_); go_big_quiet_op; refine ⟨_, fun _ _ => rfl, ?_⟩; refine hK _ ?_; clear hK K; try simp only [Act.put, List.setIfInBounds_toArray, List.set_cons_zero, List.set_cons_succ]) | fail)
          (first | (refine T_skip (by rfl) (by rfl) (fun _ _ _ h => h) ?_; try simp only [Act.put, List.setIfInBounds_toArray, List.set_cons_zero, List.set_cons_succ]) | (refine T_pass (by rfl) (by rfl) ?_; try simp only [Act.put, List.setIfInBounds_toArray, List.set_cons_zero, List.set_cons_succ]) | (refine T_load (by assumption) (by rfl) (by rfl) (fun _ _ _ _ h => h) rfl rfl (by assumption) (by first | exact (fun hn => hn) | assumption) ?_; try simp only [Act.put, List.setIfInBounds_toArray, List.set_cons_zero, List.set_cons_succ]) | (refine T_nil (by rfl) (by rfl) (fun _ _ _ _ h => h) rfl rfl ?_; try simp only [Act.put, List.setIfInBounds_toArray, List.set_cons_zero, List.set_cons_succ]) | (refine T_quietN (by rfl) (by rfl) (by rfl) (by rfl) (fun _ _ _ _ h => h) (fun K hK => ?_); go_big_quiet_op; refine hK _ ?_; clear hK K) | (refine T_two (by rfl) (by rfl) (by rfl) (by rfl) (fun _ _ _ _ h => h) (fun K hK => ?_); go_big_quiet_op; refine ⟨_, fun _ _ => rfl, ?_⟩; refine hK _ ?_; clear hK K; try simp only [Act.put, List.setIfInBounds_toArray, List.set_cons_zero, List.set_cons_succ]) | fail)
          (first | (refine T_skip (by rfl) (by rfl) (fun _ _ _ h => h) ?_; try simp only [Act.put, List.setIfInBounds_toArray, List.set_cons_zero, List.set_cons_succ]) | (refine T_pass (by rfl) (by rfl) ?_; try simp only [Act.put, List.setIfInBounds_toArray, List.set_cons_zero, List.set_cons_succ]) | (refine T_load (by assumption) (by rfl) (by rfl) (fun _ _ _ _ h => h) rfl rfl (by assumption) (by first | exact (fun hn => hn) | assumption) ?_; try simp only [Act.put, List.setIfInBounds_toArray, List.set_cons_zero, List.set_cons_succ]) | (refine T_nil (by rfl) (by rfl) (fun _ _ _ _ h => h) rfl rfl ?_; try simp only [Act.put, List.setIfInBounds_toArray, List.set_cons_zero, List.set_cons_succ]) | (refine T_quietN (by rfl) (by rfl) (by rfl) (by rfl) (fun _ _ _ _ h => h) (fun K hK => ?_); go_big_quiet_op; refine hK _ ?_; clear hK K) | (refine T_two (by rfl) (by rfl) (by rfl) (by rfl) (fun _ _ _ _ h => h) (fun K hK => ?_); go_big_quiet_op; refine ⟨_, fun _ _ => rfl, ?_⟩; refine hK _ ?_; clear hK K; try simp only [Act.put, List.setIfInBounds_toArray, List.set_cons_zero, List.set_cons_succ]) | fail)
          (first | (refine T_skip (by rfl) (by rfl) (fun _ _ _ h => h) ?_; try simp only [Act.put, List.setIfInBounds_toArray, List.set_cons_zero, List.set_cons_succ]) | (refine T_pass (by rfl) (by rfl) ?_; try simp only [Act.put, List.setIfInBounds_toArray, List.set_cons_zero, List.set_cons_succ]) | (refine T_load (by assumption) (by rfl) (by rfl) (fun _ _ _ _ h => h) rfl rfl (by assumption) (by first | exact (fun hn => hn) | assumption) ?_; try simp only [Act.put, List.setIfInBounds_toArray, List.set_cons_zero, List.set_cons_succ]) | (refine T_nil (by rfl) (by rfl) (fun _ _ _ _ h => h) rfl rfl ?_; try simp only [Act.put, List.setIfInBounds_toArray, List.set_cons_zero, List.set_cons_succ]) | (refine T_quietN (by rfl) (by rfl) (by rfl) (by rfl) (fun _ _ _ _ h => h) (fun K hK => ?_); go_big_quiet_op; refine hK _ ?_; clear hK K) | (refine T_two (by rfl) (by rfl) (by rfl) (by rfl) (fun _ _ _ _ h => h) (fun K hK => ?_); go_big_quiet_op; refine ⟨_, fun _ _ => rfl, ?_⟩; refine hK _ ?_; clear hK K; try simp only [Act.put, List.setIfInBounds_toArray, List.set_cons_zero, List.set_cons_succ]) | fail)
          (first | (refine T_skip (by rfl) (by rfl) (fun _ _ _ h => h) ?_; try simp only [Act.put, List.setIfInBounds_toArray, List.set_cons_zero, List.set_cons_succ]) | (refine T_pass (by rfl) (by rfl) ?_; try simp only [Act.put, List.setIfInBounds_toArray, List.set_cons_zero, List.set_cons_succ]) | (refine T_load (by assumption) (by rfl) (by rfl) (fun _ _ _ _ h => h) rfl rfl (by assumption) (by first | exact (fun hn => hn) | assumption) ?_; try simp only [Act.put, List.setIfInBounds_toArray, List.set_cons_zero, List.set_cons_succ]) | (refine T_nil (by rfl) (by rfl) (fun _ _ _ _ h => h) rfl rfl ?_; try simp only [Act.put, List.setIfInBounds_toArray, List.set_cons_zero, List.set_cons_succ]) | (refine T_quietN (by rfl) (by rfl) (by rfl) (by rfl) (fun _ _ _ _ h => h) (fun K hK => ?_); go_big_quiet_op; refine hK _ ?_; clear hK K) | (refine T_two (by rfl) (by rfl) (by rfl) (by rfl) (fun _ _ _ _ h => h) (fun K hK => ?_); go_big_quiet_op; refine ⟨_, fun _ _ => rfl, ?_⟩; refine hK _ ?_; clear hK K; try simp only [Act.put, List.setIfInBounds_toArray, List.set_cons_zero, List.set_cons_succ]) | fail)
          (first | (refine T_skip (by rfl) (by rfl) (fun _ _ _ h => h) ?_; try simp only [Act.put, List.setIfInBounds_toArray, List.set_cons_zero, List.set_cons_succ]) | (refine T_pass (by rfl) (by rfl) ?_; try simp only [Act.put, List.setIfInBounds_toArray, List.set_cons_zero, List.set_cons_succ]) | (refine T_load (by assumption) (by rfl) (by rfl) (fun _ _ _ _ h => h) rfl rfl (by assumption) (by first | exact (fun hn => hn) | assumption) ?_; try simp only [Act.put, List.setIfInBounds_toArray, List.set_cons_zero, List.set_cons_succ]) | (refine T_nil (by rfl) (by rfl) (fun _ _ _ _ h => h) rfl rfl ?_; try simp only [Act.put, List.setIfInBounds_toArray, List.set_cons_zero, List.set_cons_succ]) | (refine T_quietN (by rfl) (by rfl) (by rfl) (by rfl) (fun _ _ _ _ h => h) (fun K hK => ?_); go_big_quiet_op; refine hK _ ?_; clear hK K) | (refine T_two (by rfl) (by rfl) (by rfl) (by rfl) (fun _ _ _ _ h => h) (fun K hK => ?_); go_big_quiet_op; refine ⟨_, fun _ _ => rfl, ?_⟩; refine hK _ ?_; clear hK K; try simp only [Act.put, List.setIfInBounds_toArray, List.set_cons_zero, List.set_cons_succ]) | fail)
          refine T_look (w := wA.drew) (f := f) (b := mb) hP.vers n1 Try.underlying89 zero_vers hw64 (by rfl) (by rfl) (fun _ _ _ _ h => h) rfl rfl rfl hv0 ?_
          try simp only [Act.put, List.setIfInBounds_toArray, List.set_cons_zero, List.set_cons_succ]
          repeat (first | (refine T_skip (by rfl) (by rfl) (fun _ _ _ h => h) ?_; try simp only [Act.put, List.setIfInBounds_toArray, List.set_cons_zero, List.set_cons_succ]) | (refine T_pass (by rfl) (by rfl) ?_; try simp only [Act.put, List.setIfInBounds_toArray, List.set_cons_zero, List.set_cons_succ]) | (refine T_load (by assumption) (by rfl) (by rfl) (fun _ _ _ _ h => h) rfl rfl (by assumption) (by first | exact (fun hn => hn) | assumption) ?_; try simp only [Act.put, List.setIfInBounds_toArray, List.set_cons_zero, List.set_cons_succ]) | (refine T_nil (by rfl) (by rfl) (fun _ _ _ _ h => h) rfl rfl ?_; try simp only [Act.put, List.setIfInBounds_toArray, List.set_cons_zero, List.set_cons_succ]) | (refine T_quietN (by rfl) (by rfl) (by rfl) (by rfl) (fun _ _ _ _ h => h) (fun K hK => ?_); go_big_quiet_op; refine hK _ ?_; clear hK K) | (refine T_two (by rfl) (by rfl) (by rfl) (by rfl) (fun _ _ _ _ h => h) (fun K hK => ?_); go_big_quiet_op; refine ⟨_, fun _ _ => rfl, ?_⟩; refine hK _ ?_; clear hK K; try simp only [Act.put, List.setIfInBounds_toArray, List.set_cons_zero, List.set_cons_succ]) | fail)
          refine T_loadA (cs := [.int .i64 ob.cls, .slice Av ob.slots.length nn, .slice D ob.bytes.length mm]) ag_obj (by rfl) (by rfl) (fun _ _ _ _ h => h) rfl rfl rfl (show ∀ j u, _ → wA.drew.cell? _ = some u from HOB.out) n4 ?_
          try simp only [Act.put, List.setIfInBounds_toArray, List.set_cons_zero, List.set_cons_succ]
          (refine T_call (by rfl) (by rfl) (fun K hK => ?_); go_wp2_with fail)
          refine (ocopy_calls (fun b => S b ∧ b < w.heap.size) [.int .i64 ob.cls, .slice Av ob.slots.length nn, .slice D ob.bytes.length mm] ob wA.drew hob (by have := hsm.1; omega)).mono ?_
          rintro e wB ⟨csB, rfl, hownB, hfB⟩
          (refine hK.out _ _ ((hfB.mono (fun _ _ hn => hn.elim))) ?_; clear hK K; try simp only [Act.put, List.setIfInBounds_toArray, List.set_cons_zero, List.set_cons_succ])
          obtain ⟨A2, c2, D2, d2, rfl⟩ := hownB.lit5
          have hocB := hownB.rd (by have := hsm.1; omega) (by have := hsm.2; omega)
          have hzB := hfB.size
          have hdz : wA.drew.heap.size = wA.heap.size := rfl
          rw [hdz] at hzB hocB
          have hocB := hocB.lt
          repeat (first | (refine T_skip (by rfl) (by rfl) (fun _ _ _ h => h) ?_; try simp only [Act.put, List.setIfInBounds_toArray, List.set_cons_zero, List.set_cons_succ]) | (refine T_pass (by rfl) (by rfl) ?_; try simp only [Act.put, List.setIfInBounds_toArray, List.set_cons_zero, List.set_cons_succ]) | (refine T_load (by assumption) (by rfl) (by rfl) (fun _ _ _ _ h => h) rfl rfl (by assumption) (by first | exact (fun hn => hn) | assumption) ?_; try simp only [Act.put, List.setIfInBounds_toArray, List.set_cons_zero, List.set_cons_succ]) | (refine T_nil (by rfl) (by rfl) (fun _ _ _ _ h => h) rfl rfl ?_; try simp only [Act.put, List.setIfInBounds_toArray, List.set_cons_zero, List.set_cons_succ]) | (refine T_quietN (by rfl) (by rfl) (by rfl) (by rfl) (fun _ _ _ _ h => h) (fun K hK => ?_); go_big_quiet_op; refine hK _ ?_; clear hK K) | (refine T_two (by rfl) (by rfl) (by rfl) (by rfl) (fun _ _ _ _ h => h) (fun K hK => ?_); go_big_quiet_op; refine ⟨_, fun _ _ => rfl, ?_⟩; refine hK _ ?_; clear hK K; try simp only [Act.put, List.setIfInBounds_toArray, List.set_cons_zero, List.set_cons_succ]) | fail)
          have hfAB : Fr No wA wB := (Fr.refl No wA).drew.tr hfB
          refine T_call (by rfl) (by rfl) (fun K hK => ?_)
          refine wp_buildOne so_ver (by decide) [.int .i64 com, .bool gone, .int .i64 ob.cls, .slice A2 ob.slots.length c2, .slice D2 ob.bytes.length d2] rfl rfl rfl ?_
          (refine hK.out _ _ (((Fr.refl _ _).alloc _)) ?_; clear hK K; try simp only [Act.put, List.setIfInBounds_toArray, List.set_cons_zero, List.set_cons_succ])
          refine T_call (by rfl) (by rfl) (fun K hK => ?_)
          refine wp_app_at so_ver (own_fr0 hown0 (hfAB.alloc (.cells ([.int .i64 com, .bool gone, .int .i64 ob.cls, .slice A2 ob.slots.length c2, .slice D2 ob.bytes.length d2]).toArray tVer))) ((Blk.new _ _ _).rd (size := 5) (n := 1) (by rfl) (by decide)) (one5 rfl rfl rfl rfl rfl) (by omega) (by simp) rfl rfl rfl ?_
          intro v5 w5 hown5 hg5 hat5
          refine hK.out _ _ ((Fr.refl _ _).grown hg5 (fun q hq => .inr hq)) ?_
          clear hK K
          try simp only [Act.put, List.setIfInBounds_toArray, List.set_cons_zero, List.set_cons_succ]
          have hfC : Fr No wA (wB.alloc (.cells ([.int .i64 com, .bool gone, .int .i64 ob.cls, .slice A2 ob.slots.length c2, .slice D2 ob.bytes.length d2]).toArray tVer)) := hfAB.alloc _
          have hzC : (wB.alloc (.cells ([.int .i64 com, .bool gone, .int .i64 ob.cls, .slice A2 ob.slots.length c2, .slice D2 ob.bytes.length d2]).toArray tVer)).heap.size = wB.heap.size + 1 := by simp
          have hfD : Fr (fun b => v0.ownBlock = some b) (wB.alloc (.cells ([.int .i64 com, .bool gone, .int .i64 ob.cls, .slice A2 ob.slots.length c2, .slice D2 ob.bytes.length d2]).toArray tVer)) w5 := (Fr.refl _ _).grown hg5 (fun q hq => .inr hq)
          have hfBC : Fr No wB (wB.alloc (.cells ([.int .i64 com, .bool gone, .int .i64 ob.cls, .slice A2 ob.slots.length c2, .slice D2 ob.bytes.length d2]).toArray tVer)) := (Fr.refl No wB).alloc _
          generalize hwC : wB.alloc (.cells ([.int .i64 com, .bool gone, .int .i64 ob.cls, .slice A2 ob.slots.length c2, .slice D2 ob.bytes.length d2]).toArray tVer) = wC at *
          clear hwC
          have hfAD : Fr (fun b => v0.ownBlock = some b) wA w5 := (hfC.mono (fun _ _ hn => hn.elim)).trans hfD (fun b _ hT => hT)
          have hm5 := hP.vers.fr hfAD n1
          refine T_turn No [] (by rfl) (by rfl) (by rfl) (fun K hK => ?_)
          refine wp_putM (x := oop) (u := v5) rfl Try.underlying89 hm5 rfl (by unfold maxLen; omega) rfl hw64 rfl ?_
          intro w6 hm6 hg6
          refine hK.out _ _ ?_
          clear hK K
          refine T_done ?_
          clear z0 z1 zf0 zf1 y0 y1 y2 y3 y4 yf0 yf1 yf2 yf3 yf4 x0 x1 x2 x3 xf0 xf1 xf2 xf3
          have hf6 : Fr (fun b => b = mb) w5 w6 := (Fr.refl _ w5).grown hg6 (fun q hq => by injection hq with hq; exact .inr hq.symm)
          have hf06 : Fr (fun b => b = mb ∨ v0.ownBlock = some b) wA w6 := (hfAD.mono (fun b _ h => .inr h)).trans hf6 (fun b _ h => .inl h)
          have hplA : p < wA.heap.size := hbT.lt
          have hbX6 : Blk w6 w.heap.size 76 _ := hbxk.fr hf06 (fun hh => by
            rcases hh with hh | hh
            · rcases hT' _ i2 with h9 | h9
              · have := hTl _ h9; omega
              · omega
            · exact n3 hh)
          have hbO6 : Blk w6 wr.heap.size 104 _ := hbO.fr hf06 (fun hh => by
            rcases hh with hh | hh
            · have := hTlt _ i2; omega
            · exact n4 hh)
          have hbT6 := hbT.fr hf06 (fun hh => by
            rcases hh with hh | hh
            · exact i4 hh
            · exact n2 hh)
          have hw6 := hP.when.fr hf06 (fun hh => by
            rcases hh with hh | hh
            · exact i6 hh.symm
            · exact n5 hh)
          (have z0 := hbX6.cell 0; have z1 := hbX6.cell 1; have zf0 := hbX6.frozen 0; have zf1 := hbX6.frozen 1; simp only [List.getElem?_toArray, List.getElem?_cons_zero, List.getElem?_cons_succ] at z0 z1)
          (have y0 := hbO6.cell 0; have y1 := hbO6.cell 1; have y2 := hbO6.cell 2; have y3 := hbO6.cell 3; have y4 := hbO6.cell 4; have yf0 := hbO6.frozen 0; have yf1 := hbO6.frozen 1; have yf2 := hbO6.frozen 2; have yf3 := hbO6.frozen 3; have yf4 := hbO6.frozen 4; simp only [List.getElem?_toArray, List.getElem?_cons_zero, List.getElem?_cons_succ] at y0 y1 y2 y3 y4)
          (have x0 := hbT6.cell 0; have x1 := hbT6.cell 1; have x2 := hbT6.cell 2; have x3 := hbT6.cell 3; have xf0 := hbT6.frozen 0; have xf1 := hbT6.frozen 1; have xf2 := hbT6.frozen 2; have xf3 := hbT6.frozen 3; simp only [List.getElem?_toArray, List.getElem?_cons_zero, List.getElem?_cons_succ] at x0 x1 x2 x3)
          go_wp2_with fail
          refine T_begin2 No [8] [0, 1, 2, 3, 4, 5, 6, 7, 8] [8] (by kernel_rfl) (by kernel_rfl) ?_
          simp only [pickOps, List.filterMap_cons, List.filterMap_nil, List.getElem?_cons_zero, List.getElem?_cons_succ, Act.put]
          repeat (first | (refine T_skip (by rfl) (by rfl) (fun _ _ _ h => h) ?_; try simp only [Act.put, List.setIfInBounds_toArray, List.set_cons_zero, List.set_cons_succ]) | (refine T_pass (by rfl) (by rfl) ?_; try simp only [Act.put, List.setIfInBounds_toArray, List.set_cons_zero, List.set_cons_succ]) | (refine T_load (by assumption) (by rfl) (by rfl) (fun _ _ _ _ h => h) rfl rfl (by assumption) (by first | exact (fun hn => hn) | assumption) ?_; try simp only [Act.put, List.setIfInBounds_toArray, List.set_cons_zero, List.set_cons_succ]) | (refine T_nil (by rfl) (by rfl) (fun _ _ _ _ h => h) rfl rfl ?_; try simp only [Act.put, List.setIfInBounds_toArray, List.set_cons_zero, List.set_cons_succ]) | (refine T_quietN (by rfl) (by rfl) (by rfl) (by rfl) (fun _ _ _ _ h => h) (fun K hK => ?_); go_big_quiet_op; refine hK _ ?_; clear hK K) | (refine T_two (by rfl) (by rfl) (by rfl) (by rfl) (fun _ _ _ _ h => h) (fun K hK => ?_); go_big_quiet_op; refine ⟨_, fun _ _ => rfl, ?_⟩; refine hK _ ?_; clear hK K; try simp only [Act.put, List.setIfInBounds_toArray, List.set_cons_zero, List.set_cons_succ]) | fail)
          refine T_turn No [] (by rfl) (by rfl) (by rfl) (fun K hK => ?_)
          refine wp_putM (x := oop) (u := .int .i64 com) rfl Try.underlying90 (show MapV w6.drew wb tk.n g from hw6) rfl (by unfold maxLen; omega) rfl hw64 rfl ?_
          intro w7 hm7 hg7
          refine hK.out _ _ ?_
          clear hK K
          refine T_done ?_
          have hf7 : Fr (fun b => b = wb) w6 w7 := ((Fr.refl (fun b => b = wb) w6).drew).grown hg7 (fun q hq => by injection hq with hq; exact .inr hq.symm)
          have hz7 : w5.heap.size ≤ w7.heap.size := Nat.le_trans hf6.size hf7.size
          have hzD5 := hfD.size
          have hF7 : Fr (fun b => b = mb ∨ b = wb ∨ v0.ownBlock = some b) wA w7 := (hf06.mono (fun b _ h => h.elim .inl (fun h => .inr (.inr h)))).trans hf7 (fun b _ h => .inr (.inl h))
          have hlt5 : ∀ b, v5.ownBlock = some b → v0.ownBlock = some b ∨ wC.heap.size ≤ b ∧ b < w5.heap.size := fun b hb => by
            rcases hat5 with h3 | h3
            · exact .inl (h3 ▸ hb)
            · rw [h3] at hb
              injection hb with hb
              exact .inr ⟨by omega, hb ▸ (hown5.lt _ h3).2⟩
          have hstep := hP.step (com := com) (c := ⟨oop, gone, ob⟩) (v' := v5) (w' := w7) (xs' := xs ++ [.int .i64 com, .bool gone, .int .i64 ob.cls, .slice A2 ob.slots.length c2, .slice D2 ob.bytes.length d2]) (O' := fun b => O' b ∨ wA.heap.size ≤ b ∧ b < wB.heap.size) (R := fun b => v0.ownBlock = some b) hw64
            hF7 (fun b hb => (HVB.out b hb).2) (hm6.fr hf7 i6) hm7
            (own_fr (own_fr hown5 hf6 (fun b hb e => by
              subst e
              rcases hlt5 _ hb with h9 | h9
              · exact n1 h9
              · have := hTlt _ i2; omega)) hf7 (fun b hb e => by
              subst e
              rcases hlt5 _ hb with h9 | h9
              · exact n5 h9
              · have := hTlt _ i3; omega))
            ?_ (fun b hb => by
              rcases hlt5 b hb with h9 | h9
              · exact .inl (HVB.out b h9).2
              · exact .inr (by omega)) (fun b hb => .inl hb) (fun b hb => by
              rcases hb with hb | hb
              · exact .inl hb
              · exact .inr (by omega)) (fun b hb e => by
              rcases hb with hb | hb
              · rcases hlt5 b e with h9 | h9
                · exact (hP.off b (HVB.out b h9).1.1).2 hb
                · have := hOlt b hb; omega
              · rcases hlt5 b e with h9 | h9
                · have := hTlt b (HVB.out b h9).1.1; omega
                · omega)
          · clear z0 z1 zf0 zf1 y0 y1 y2 y3 y4 yf0 yf1 yf2 yf3 yf4 x0 x1 x2 x3 xf0 xf1 xf2 xf3
            go_wp2_with fail
            go_roundw
            case rel =>
              refine ⟨k + 1, _, _, by omega, by go_num, by rw [HTk.out, HT.out]; exact ⟨mb, wb, _, _, hstep⟩, ?_, ?_, ?_⟩
              · intro b hb
                rcases hb with hb | hb
                · exact hT' b hb
                · rcases hlt5 b hb with h9 | h9
                  · exact hT' b (HVB.out b h9).1.1
                  · exact .inr (by omega)
              · intro b hb
                rcases hb with hb | hb
                · exact hO' b hb
                · exact .inr (by omega)
              · refine (hf.trans (hfo.mono (fun _ _ hn => hn.elim)) (fun b _ h => h)).trans hF7 (fun b hb hT => ?_)
                have key : T' b → T b := fun h9 => (hT' b h9).resolve_right (by omega)
                rcases hT with hT | hT | hT
                · exact key (hT ▸ i2)
                · exact key (hT ▸ i3)
                · exact key (HVB.out b hT).1.1
            case measure => simp [intOf]; omega
          · have k1 : ∀ b, wA.heap.size ≤ b → ¬ v0.ownBlock = some b := fun b hb e => by have := hTlt b (HVB.out b e).1.1; omega
            have hF57 : Fr (fun b => b = mb ∨ b = wb) w5 w7 := (hf6.mono (fun b _ h => .inl h)).trans hf7 (fun b _ h => .inr h)
            have h1 : ObjC w7 (fun b => O' b ∨ wA.heap.size ≤ b ∧ b < wB.heap.size) [.int .i64 ob.cls, .slice A2 ob.slots.length c2, .slice D2 ob.bytes.length d2] ob :=
              (((hocB.fr0 hfBC).keep hfD (fun b hb e => k1 b hb.1 e)).keep hF57 (fun b hb e => by
                rcases e with e | e
                · have := hTlt _ i2; have := hb.1; omega
                · have := hTlt _ i3; have := hb.1; omega)).mono (fun b _ hb => .inr hb)
            have h2 := (hxs0.keep hF7 (fun b hb e => by
              rcases e with e | e | e
              · exact (hP.off _ i2).2 (e ▸ hb)
              · exact (hP.off _ i3).2 (e ▸ hb)
              · exact (hP.off b (HVB.out b e).1.1).2 hb)).mono (T := fun b => O' b ∨ wA.heap.size ≤ b ∧ b < wB.heap.size) (fun b _ hb => .inl hb)
            obtain ⟨A', c', D', d', e, r1, r2⟩ := h1
            injection e with _ e
            injection e with e1 e
            injection e with e2 _
            injection e1 with e11 _ e13
            injection e2 with e21 _ e23
            subst e11 e13 e21 e23
            exact ChsC.snoc (show ChC w7 (fun b => O' b ∨ wA.heap.size ≤ b ∧ b < wB.heap.size) [.int .i64 com, .bool gone, .int .i64 ob.cls, .slice A2 ob.slots.length c2, .slice D2 ob.bytes.length d2] ⟨com, gone, ob⟩ from ⟨A2, c2, D2, d2, rfl, r1, r2⟩) h2
        · obtain rfl : k = chs.length := by omega
          have ek : decide ((chs.length : Int) < chs.length) = false := by simp
          rw [List.take_length] at hTk
          obtain ⟨mb1, wb1, hbk1⟩ := hTk.blk
          (have y0 := hbR.cell 0; have y1 := hbR.cell 1; have yf0 := hbR.frozen 0; have yf1 := hbR.frozen 1; simp only [List.getElem?_toArray, List.getElem?_cons_zero, List.getElem?_cons_succ] at y0 y1)
          (have x0 := hbk1.cell 0; have x1 := hbk1.cell 1; have x2 := hbk1.cell 2; have x3 := hbk1.cell 3; have xf0 := hbk1.frozen 0; have xf1 := hbk1.frozen 1; have xf2 := hbk1.frozen 2; have xf3 := hbk1.frozen 3; simp only [List.getElem?_toArray, List.getElem?_cons_zero, List.getElem?_cons_succ] at x0 x1 x2 x3)
          have hT9 := hTk.relast com
          have hTp' := hTk.lt.2.2
          have hfz : Fr T wr (wr.setCell ⟨p, 1, none⟩ (.int .i64 com)) := (Fr.refl T wr).set (p := ⟨p, 1, none⟩) (.inr hTp) _
          go_wp2
          go_ret
          refine ⟨by rw [HM.out]; rfl, T', O', by rw [HM.out]; exact hT9, fun b hb => ?_, fun b hb => ?_, ?_⟩
          · rcases hT' b hb with h9 | h9
            · exact .inl h9
            · exact .inr (by omega)
          · rcases hO' b hb with h9 | h9
            · exact .inl h9
            · exact .inr (by omega)
          · exact ((hFD.mono (fun _ _ hn => hn.elim)).trans hf (fun b _ h => h)).trans hfz (fun b _ h => h)
end Go.Proofs.Ytoajigghkjnffaa
namespace Go.Proofs.Ytoajigghkjnffaa
set_option linter.unusedVariables false
set_option linter.unusedSimpArgs false
open Go.RowKit

theorem Fr.set1 {w w1 : World} {g : Nat} (h : Fr (fun b => b = g) w w1) (i : Nat) (u : Value) : Fr (fun b => b = g) w (w1.setCell ⟨g, i, none⟩ u) := h.set (.inr rfl) u
set_option maxHeartbeats 2000000 in
set_option maxRecDepth 100000 in
theorem refcopy_calls (S : Nat → Prop) (cs : List Value) (o : ObjM) (w : World) (h : ObjC w S cs o) (h1 : o.slots.length * 16 ≤ 211106232532992) :
    Calls Try.prog 49 #[.agg cs.toArray] w fun e w' => ∃ cs' : List Value, e = .returned (.agg cs'.toArray) ∧ ObjOwn w' w.heap.size cs' o ∧ Fr No w w' := by
  obtain ⟨oc, os, ob⟩ := o
  obtain ⟨A, c, D, c2, rfl, hs, hb⟩ := h
  simp only at hs hb h1
  have g1 := plain_i64
  have g2 := plain_lval
  have g3 := plain_lu8
  have hle1 := hs.le
  have hle2 := RdB.le hb
  have hf1 : Fr No w (((w.alloc (.cells #[.int .i64 oc, .slice A os.length c, .slice D ob.length c2] 27)).alloc (.cells #[.int .i64 0, .slice none 0 0, .slice none 0 0] 27)).alloc (.cells #[.int .i64 oc, .slice none 0 0, .slice none 0 0] 27)) := (((Fr.refl No w).alloc _).alloc _).alloc _
  have hbx : Blk (((w.alloc (.cells #[.int .i64 oc, .slice A os.length c, .slice D ob.length c2] 27)).alloc (.cells #[.int .i64 0, .slice none 0 0, .slice none 0 0] 27)).alloc (.cells #[.int .i64 oc, .slice none 0 0, .slice none 0 0] 27)) w.heap.size 27 #[.int .i64 oc, .slice A os.length c, .slice D ob.length c2] := ((Blk.new w _ _).alloc _).alloc _
  have hbr : Blk (((w.alloc (.cells #[.int .i64 oc, .slice A os.length c, .slice D ob.length c2] 27)).alloc (.cells #[.int .i64 0, .slice none 0 0, .slice none 0 0] 27)).alloc (.cells #[.int .i64 oc, .slice none 0 0, .slice none 0 0] 27)) (w.heap.size + 1) 27 #[.int .i64 0, .slice none 0 0, .slice none 0 0] := (Blk.newAt (by simp)).alloc _
  have hby : Blk (((w.alloc (.cells #[.int .i64 oc, .slice A os.length c, .slice D ob.length c2] 27)).alloc (.cells #[.int .i64 0, .slice none 0 0, .slice none 0 0] 27)).alloc (.cells #[.int .i64 oc, .slice none 0 0, .slice none 0 0] 27)) (w.heap.size + 1 + 1) 27 #[.int .i64 oc, .slice none 0 0, .slice none 0 0] := Blk.newAt (by simp)
  have hz1 : (((w.alloc (.cells #[.int .i64 oc, .slice A os.length c, .slice D ob.length c2] 27)).alloc (.cells #[.int .i64 0, .slice none 0 0, .slice none 0 0] 27)).alloc (.cells #[.int .i64 oc, .slice none 0 0, .slice none 0 0] 27)).heap.size = w.heap.size + 3 := by simp
  go_enter Try.func49, Try.ntmps49
  go_upto_region 2 with fail
  generalize hw1 : (((w.alloc (.cells #[.int .i64 oc, .slice A os.length c, .slice D ob.length c2] 27)).alloc (.cells #[.int .i64 0, .slice none 0 0, .slice none 0 0] 27)).alloc (.cells #[.int .i64 oc, .slice none 0 0, .slice none 0 0] 27)) = w1 at *
  clear hw1
  have HZ1 := Lib.hid hz1
  clear hz1
  (have p0 := hbx.cell 0; have p1 := hbx.cell 1; have p2 := hbx.cell 2; have pf0 := hbx.frozen 0; have pf1 := hbx.frozen 1; have pf2 := hbx.frozen 2; simp only [List.getElem?_toArray, List.getElem?_cons_zero, List.getElem?_cons_succ] at p0 p1 p2)
  (have q0 := hby.cell 0; have q1 := hby.cell 1; have q2 := hby.cell 2; have qf0 := hby.frozen 0; have qf1 := hby.frozen 1; have qf2 := hby.frozen 2; simp only [List.getElem?_toArray, List.getElem?_cons_zero, List.getElem?_cons_succ] at q0 q1 q2)
  have hbase1 : w.heap.size + 3 ≤ w1.heap.size := by have := HZ1.out; omega
  go_upto_region 3 with (first
    | (refine wpList_app so_val (World.ownsRow_nil _ (w.heap.size + 3) _ _) (Rd.fr0 hs hf1) (vals_one _) (by omega) hbase1 rfl rfl rfl rfl ?_; intro v5 w5 hown5 hg5 hat5; obtain ⟨A5, c5, rfl, hc5, hc5m, hA5⟩ := own_form hown5; have hby5 := hby.grown hg5 (fun hh => by cases hh); (have z0 := hby5.cell 0; have z1 := hby5.cell 1; have z2 := hby5.cell 2; have zf0 := hby5.frozen 0; have zf1 := hby5.frozen 1; have zf2 := hby5.frozen 2; simp only [List.getElem?_toArray, List.getElem?_cons_zero, List.getElem?_cons_succ] at z0 z1 z2))
    | fail)
  have hf5 : Fr No w1 w5 := (Fr.refl No w1).grown hg5 (fun q hq => by cases hq)
  simp only [Nat.zero_add, List.nil_append] at hown5 hby5 hc5
  have hf56 : Fr (fun b => b = w.heap.size + 1 + 1) w5 (w5.setCell ⟨w.heap.size + 1 + 1, 1, none⟩ (.slice A5 os.length c5)) := (Fr.refl _ w5).set1 1 _
  have hby6 : Blk (w5.setCell ⟨w.heap.size + 1 + 1, 1, none⟩ (.slice A5 os.length c5)) (w.heap.size + 1 + 1) 27 #[.int .i64 oc, .slice A5 os.length c5, .slice none 0 0] := hby5.put 1 _
  have hbx6 := (hbx.fr0 hf5).fr hf56 (by omega)
  have hbr6 := (hbr.fr0 hf5).fr hf56 (by omega)
  have hown6 := own_fr hown5 hf56 (fun b hb hT => by have := (hown5.lt b hb).1; omega)
  have hb6 := Rd.fr (Rd.fr0 (Rd.lt hb (by decide)) (hf1.tr hf5)) hf56 (fun b hb hT => by have := hb.2; omega)
  have hF6 : Fr No w (w5.setCell ⟨w.heap.size + 1 + 1, 1, none⟩ (.slice A5 os.length c5)) := (hf1.tr hf5).trans hf56 (fun b hb hT => by omega)
  generalize hw6 : w5.setCell ⟨w.heap.size + 1 + 1, 1, none⟩ (.slice A5 os.length c5) = w6 at *
  have hl6 := hby6.lt
  clear hw6 p0 p1 p2 pf0 pf1 pf2 q0 q1 q2 qf0 qf1 qf2 z0 z1 z2 zf0 zf1 zf2 hg5
  (have p0 := hbx6.cell 0; have p1 := hbx6.cell 1; have p2 := hbx6.cell 2; have pf0 := hbx6.frozen 0; have pf1 := hbx6.frozen 1; have pf2 := hbx6.frozen 2; simp only [List.getElem?_toArray, List.getElem?_cons_zero, List.getElem?_cons_succ] at p0 p1 p2)
  (have q0 := hby6.cell 0; have q1 := hby6.cell 1; have q2 := hby6.cell 2; have qf0 := hby6.frozen 0; have qf1 := hby6.frozen 1; have qf2 := hby6.frozen 2; simp only [List.getElem?_toArray, List.getElem?_cons_zero, List.getElem?_cons_succ] at q0 q1 q2)
  have hgo : ∀ b, (Value.slice A5 os.length c5).ownBlock = some b → w.heap.size + 3 ≤ b ∧ b < w6.heap.size := fun b hb => hown6.lt b hb
  have HGO := Lib.hid hgo
  clear hgo
  go_upto_region 4 with (first
    | (refine wpList_app so_u8 (World.ownsRow_nil _ w6.heap.size _ _) hb6 (U8_one _) (by omega) (Nat.le_refl _) rfl rfl rfl rfl ?_; intro v7 w7 hown7 hg7 hat7; obtain ⟨A7, c7, rfl, hc7, hc7m, hA7⟩ := own_form hown7; have hby7 := hby6.grown hg7 (fun hh => by cases hh); (have z0 := hby7.cell 0; have z1 := hby7.cell 1; have z2 := hby7.cell 2; have zf0 := hby7.frozen 0; have zf1 := hby7.frozen 1; have zf2 := hby7.frozen 2; simp only [List.getElem?_toArray, List.getElem?_cons_zero, List.getElem?_cons_succ] at z0 z1 z2))
    | fail)
  have hf7 : Fr No w6 w7 := (Fr.refl No w6).grown hg7 (fun q hq => by cases hq)
  simp only [Nat.zero_add, List.nil_append] at hown7 hby7 hc7
  have hf78 : Fr (fun b => b = w.heap.size + 1 + 1) w7 (w7.setCell ⟨w.heap.size + 1 + 1, 2, none⟩ (.slice A7 ob.length c7)) := (Fr.refl _ w7).set1 2 _
  have hby8 : Blk (w7.setCell ⟨w.heap.size + 1 + 1, 2, none⟩ (.slice A7 ob.length c7)) (w.heap.size + 1 + 1) 27 #[.int .i64 oc, .slice A5 os.length c5, .slice A7 ob.length c7] := hby7.put 2 _
  have hbr8 := (hbr6.fr0 hf7).fr hf78 (by omega)
  have hown8 := own_fr (own_fr0 hown6 hf7) hf78 (fun b hb hT => by have := HGO.out b hb; omega)
  have hown78 := own_fr hown7 hf78 (fun b hb hT => by have := (hown7.lt b hb).1; omega)
  have hF8 : Fr No w (w7.setCell ⟨w.heap.size + 1 + 1, 2, none⟩ (.slice A7 ob.length c7)) := (hF6.tr hf7).trans hf78 (fun b hb hT => by omega)
  generalize hw8 : w7.setCell ⟨w.heap.size + 1 + 1, 2, none⟩ (.slice A7 ob.length c7) = w8 at *
  clear hw8 p0 p1 p2 pf0 pf1 pf2 q0 q1 q2 qf0 qf1 qf2 z0 z1 z2 zf0 zf1 zf2 hg7
  have hall8 := hby8.all
  go_wp2_with (first
    | (refine wpList_ldA ag_obj rfl _ rfl ⟨w.heap.size + 1 + 1, 0, none⟩ [.int .i64 oc, .slice A5 os.length c5, .slice A7 ob.length c7] rfl rfl hall8 ?_)
    | (refine wpList_stA ag_obj.info rfl _ _ rfl (w.heap.size + 1) 0 _ _ [.int .i64 oc, .slice A5 os.length c5, .slice A7 ob.length c7] _ rfl rfl rfl rfl (by intro u hu; simp at hu; rcases hu with rfl | rfl | rfl <;> rfl) hbr8 (by decide) ?_; intro w9 hb9 hg9 hz9)
    | fail)
  rw [splice_all _ _ (by rfl)] at hb9
  have hf9 : Fr (fun b => b = w.heap.size + 1) w8 w9 := (Fr.refl _ w8).grown hg9 (fun q hq => by injection hq with hq; exact .inr hq.symm)
  refine bodyPost_ret (results_blk ag_obj rfl _ _ _ _ _ rfl hb9 rfl) rfl ⟨_, rfl, ⟨A5, c5, A7, c7, w6.heap.size, rfl, own_down (own_fr hown8 hf9 (fun b hb hT => by have := HGO.out b hb; omega)) (by omega), fun b hb => (HGO.out b hb).2, own_fr hown78 hf9 (fun b hb hT => by have := (hown78.lt b hb).1; omega), by omega⟩, hF8.trans hf9 (fun b hb hT => by omega)⟩
end Go.Proofs.Ytoajigghkjnffaa
namespace Go.Proofs.Ytoajigghkjnffaa
set_option linter.unusedVariables false
set_option linter.unusedSimpArgs false
open Go.RowKit

structure RTabM where
  fr : Int
  en : Int
  base : List ChM
  l : List RecM
  w : List (Int × Int)
def rtab0 : RTabM := ⟨0, 0, [], [], []⟩
def pairs (l : List (Int × Int)) : List Value := l.flatMap fun p => [.int .i64 p.1, .int .i64 p.2]
theorem pairs_snoc (l : List (Int × Int)) (p : Int × Int) : pairs (l ++ [p]) = pairs l ++ [.int .i64 p.1, .int .i64 p.2] := by simp [pairs]
abbrev tChr : TypeId := 71
abbrev tRecr : TypeId := 50
abbrev tWhen : TypeId := 109
theorem so_chr : SliceOf Try.prog 48 tChr (.agg #[.int .i64 0, .bool false, .int .i64 0, .slice none 0 0, .slice none 0 0]) 5 72 := ⟨Try.underlying48, by kernel_rfl, rfl, by decide, by decide, by decide⟩
theorem so_recr : SliceOf Try.prog 32 tRecr (.agg #[.int .i64 0, .slice none 0 0]) 2 32 := ⟨Try.underlying32, by kernel_rfl, rfl, by decide, by decide, by decide⟩
theorem so_when : SliceOf Try.prog 56 tWhen (.agg #[.int .i64 0, .int .i64 0]) 2 16 := ⟨Try.underlying56, by kernel_rfl, rfl, by decide, by decide, by decide⟩
theorem plain_lwhen : ∀ w, (isAgg 56).run Try.prog w = .ok false w := plain_of Try.underlying56 rfl
theorem plain_lrecr : ∀ w, (isAgg 32).run Try.prog w = .ok false w := plain_of Try.underlying32 rfl
/-- Cells, two by two, that read as records. -/
def RecsC (w : World) (S : Nat → Prop) : List Value → List RecM → Prop
  | xs, [] => xs = []
  | xs, t :: ts => ∃ cs rest, xs = cs ++ rest ∧ RecC w S cs t ∧ RecsC w S rest ts
theorem RecsC.keep {w w' : World} {S T : Nat → Prop} (hf : Fr T w w') (hd : ∀ b, S b → ¬ T b) : ∀ {ts : List RecM} {xs : List Value}, RecsC w S xs ts → RecsC w' S xs ts
  | [], _, h => h
  | t :: ts, _, ⟨cs, rest, e, hc, hr⟩ => ⟨cs, rest, e, hc.fr hf hd, RecsC.keep hf hd hr⟩
theorem RecsC.mono {w : World} {S T : Nat → Prop} (hS : ∀ b, b < w.heap.size → S b → T b) : ∀ {ts : List RecM} {xs : List Value}, RecsC w S xs ts → RecsC w T xs ts
  | [], _, h => h
  | t :: ts, _, ⟨cs, rest, e, hc, hr⟩ => ⟨cs, rest, e, hc.mono hS, RecsC.mono hS hr⟩
theorem RecsC.snoc {w : World} {S : Nat → Prop} {cs : List Value} {c : RecM} (hc : RecC w S cs c) : ∀ {ts : List RecM} {xs : List Value}, RecsC w S xs ts → RecsC w S (xs ++ cs) (ts ++ [c])
  | [], _, h => by rw [h]; exact ⟨cs, [], by simp, hc, rfl⟩
  | t :: ts, _, ⟨c0, rest, e, h0, hr⟩ => ⟨c0, rest ++ cs, by rw [e, List.append_assoc], h0, RecsC.snoc hc hr⟩
structure RTabP (w : World) (T O : Nat → Prop) (q : Nat) (Bv Lv Wv : Value) (t : RTabM) : Prop where
  blk : Blk w q 58 #[.int .i64 t.fr, .int .i64 t.en, Bv, Lv, Wv]
  base : ∃ A c, Bv = .slice A t.base.length c ∧ RdCh w O A t.base
  lrow : ∃ xs, w.ownsRow 0 tRecr 2 Lv t.l.length xs ∧ RecsC w O xs t.l
  wrow : w.ownsRow 0 tWhen 2 Wv t.w.length (pairs t.w)
  inT : T q ∧ (∀ b, Lv.ownBlock = some b → T b ∧ b ≠ q) ∧ (∀ b, Wv.ownBlock = some b → T b ∧ b ≠ q) ∧ ∀ b, Lv.ownBlock = some b → ¬ Wv.ownBlock = some b
  off : ∀ b, T b → b < w.heap.size ∧ ¬ O b
  offO : ∀ b, O b → b < w.heap.size
def RTabAt (w : World) (T O : Nat → Prop) (q : Nat) (t : RTabM) : Prop := ∃ Bv Lv Wv, RTabP w T O q Bv Lv Wv t
theorem RTabP.fr {w w' : World} {S T O : Nat → Prop} {q : Nat} {Bv Lv Wv : Value} {t : RTabM} (h : RTabP w T O q Bv Lv Wv t) (hf : Fr S w w') (h1 : ∀ b, T b → ¬ S b) (h2 : ∀ b, O b → ¬ S b) : RTabP w' T O q Bv Lv Wv t where
  blk := h.blk.fr hf (h1 _ h.inT.1)
  base := by obtain ⟨A, c, e, hr⟩ := h.base; exact ⟨A, c, e, hr.fr hf h2⟩
  lrow := by obtain ⟨xs, a, b⟩ := h.lrow; exact ⟨xs, own_fr a hf (fun b hb => h1 b (h.inT.2.1 b hb).1), b.keep hf h2⟩
  wrow := own_fr h.wrow hf (fun b hb => h1 b (h.inT.2.2.1 b hb).1)
  inT := h.inT
  off := fun b hb => ⟨Nat.lt_of_lt_of_le (h.off b hb).1 hf.size, (h.off b hb).2⟩
  offO := fun b hb => Nat.lt_of_lt_of_le (h.offO b hb) hf.size
theorem RTabAt.fr {w w' : World} {S T O : Nat → Prop} {q : Nat} {t : RTabM} (h : RTabAt w T O q t) (hf : Fr S w w') (h1 : ∀ b, T b → ¬ S b) (h2 : ∀ b, O b → ¬ S b) : RTabAt w' T O q t := by
  obtain ⟨_, _, _, hP⟩ := h
  exact ⟨_, _, _, hP.fr hf h1 h2⟩
theorem RTabAt.fr0 {w w' : World} {T O : Nat → Prop} {q : Nat} {t : RTabM} (h : RTabAt w T O q t) (hf : Fr No w w') : RTabAt w' T O q t := h.fr hf (fun _ _ hn => hn) (fun _ _ hn => hn)
theorem RTabAt.lt {w : World} {T O : Nat → Prop} {q : Nat} {t : RTabM} (h : RTabAt w T O q t) : (∀ b, T b → b < w.heap.size) ∧ (∀ b, O b → b < w.heap.size) ∧ T q := by
  obtain ⟨_, _, _, hP⟩ := h
  exact ⟨fun b hb => (hP.off b hb).1, hP.offO, hP.inT.1⟩
def rapplyM (t : RTabM) (r : RecM) : RTabM × Int :=
  if rightR r = true then
    if r.commit ≤ t.en then (t, 5)
    else ({ t with en := r.commit, l := t.l ++ [r], w := t.w ++ r.chs.map (fun c => (c.oop, r.commit)) }, 0)
  else (t, 1)
theorem rapplyM_bad {t : RTabM} {r : RecM} (h : rightR r = false) : rapplyM t r = (t, 1) := by unfold rapplyM; rw [if_neg (by rw [h]; decide)]
theorem rapplyM_old {t : RTabM} {r : RecM} (h : rightR r = true) (h2 : r.commit ≤ t.en) : rapplyM t r = (t, 5) := by unfold rapplyM; rw [if_pos h, if_pos h2]
theorem rapplyM_yes {t : RTabM} {r : RecM} (h : rightR r = true) (h2 : ¬ r.commit ≤ t.en) : rapplyM t r = ({ t with en := r.commit, l := t.l ++ [r], w := t.w ++ r.chs.map (fun c => (c.oop, r.commit)) }, 0) := by unfold rapplyM; rw [if_pos h, if_neg h2]

theorem rnew_calls (w : World) :
    Calls Try.prog 38 #[] w fun e w' => ∃ q, e = .returned (.pointer (some ⟨q, 0, none⟩)) ∧ RTabAt w' (fun b => w.heap.size ≤ b ∧ b < w'.heap.size) No q rtab0 ∧ Fr No w w' := by
  go_enter Try.func38, Try.ntmps38
  go_wp2
  go_ret
  refine ⟨_, rfl, ⟨.slice none 0 0, .slice none 0 0, .slice none 0 0, ?_⟩, (Fr.refl No w).alloc _⟩
  exact { blk := Blk.new _ _ _
          base := ⟨none, 0, rfl, RdCh.nil_⟩
          lrow := ⟨[], World.ownsRow_nil _ _ _ _, rfl⟩
          wrow := World.ownsRow_nil _ _ _ _
          inT := by simp [Value.ownBlock]
          off := fun b hb => ⟨hb.2, fun hn => hn⟩
          offO := fun b hb => hb.elim }
end Go.Proofs.Ytoajigghkjnffaa
