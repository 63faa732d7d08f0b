/- Which records can be kept: value's RightRecord, and the reference's. No condition. -/
import Derived.Test.YtoajigghkjnffaaCh
import Derived.Test.YtoajigghkjnffaaSame
import Derived.Deep.CutBlock
import Derived.Deep.DeepCutAuto
namespace Go.Proofs.Ytoajigghkjnffaa
set_option linter.unusedVariables false
set_option linter.unusedSimpArgs false
open Go.RowKit

theorem ag_chp : AggOf Try.prog 104 5 := ⟨⟨_, Try.underlying104, rfl⟩, by kernel_rfl⟩
theorem ag_chr : AggOf Try.prog 71 5 := ⟨⟨_, Try.underlying71, rfl⟩, by kernel_rfl⟩
theorem ag_recp : AggOf Try.prog 76 2 := ⟨⟨_, Try.underlying76, rfl⟩, by kernel_rfl⟩
theorem ag_recr : AggOf Try.prog 50 2 := ⟨⟨_, Try.underlying50, rfl⟩, by kernel_rfl⟩
theorem plain_lchp : ∀ w, (isAgg 66).run Try.prog w = .ok false w := plain_of Try.underlying66 rfl
theorem plain_lchr : ∀ w, (isAgg 48).run Try.prog w = .ok false w := plain_of Try.underlying48 rfl
theorem noObj_c (w : World) (S : Nat → Prop) : ObjC w S [.int .i64 0, .slice none 0 0, .slice none 0 0] noObj := ⟨none, 0, none, 0, rfl, Rd.nil_, Rd.nil_⟩
theorem rightC_gone (o : Int) (ob : ObjM) : rightC ⟨o, true, ob⟩ = sameO ob noObj := rfl
theorem rightC_here (o : Int) (ob : ObjM) : rightC ⟨o, false, ob⟩ = rightO ob := rfl
set_option maxHeartbeats 1000000 in
set_option maxRecDepth 100000 in
theorem chright_calls (S : Nat → Prop) (cs : List Value) (c : ChM) (w : World) (h : ChC w S cs c) :
    Calls Try.prog 68 #[.agg cs.toArray] w fun e w' => e = .returned (.bool (rightC c)) ∧ Fr No w w' := by
  obtain ⟨oop, gone, ob⟩ := c
  obtain ⟨Av, nn, D, mm, rfl, hs, hb⟩ := h
  simp only at hs hb
  have g1 := plain_i64
  have g2 := plain_lval
  have g3 := plain_lu8
  have g4 := plain_bool
  have hf : Fr No w (w.alloc (.cells #[.int .i64 oop, .bool gone, .int .i64 ob.cls, .slice Av ob.slots.length nn, .slice D ob.bytes.length mm] 104)) := (Fr.refl No w).alloc _
  have hoc : ObjC (w.alloc (.cells #[.int .i64 oop, .bool gone, .int .i64 ob.cls, .slice Av ob.slots.length nn, .slice D ob.bytes.length mm] 104)) S [.int .i64 ob.cls, .slice Av ob.slots.length nn, .slice D ob.bytes.length mm] ob := ObjC.fr0 ⟨Av, nn, D, mm, rfl, hs, hb⟩ hf
  cases gone with
  | true =>
    have H := Lib.hid (rightC_gone oop ob)
    go_enter Try.func68, Try.ntmps68
    go_wp2_with fail
    refine (vsame_calls S S _ _ ob noObj _ hoc (noObj_c _ S)).mono ?_
    rintro e w2 ⟨rfl, hf2⟩
    go_wp2
    go_ret
    exact ⟨ret_bool H.out.symm, hf.tr hf2⟩
  | false =>
    have H := Lib.hid (rightC_here oop ob)
    go_enter Try.func68, Try.ntmps68
    go_wp2_with fail
    refine (righto_calls S _ ob _ hoc).mono ?_
    rintro e w2 ⟨rfl, hf2⟩
    go_wp2
    go_ret
    exact ⟨ret_bool H.out.symm, hf.tr hf2⟩
theorem chsRight_no1 {last : Int} {c : ChM} {r : List ChM} (h : decide (last < c.oop) = false) : chsRight last (c :: r) = false := by rw [chsRight, h, Bool.false_and]
theorem chsRight_no2 {last : Int} {c : ChM} {r : List ChM} (h : oopB c.oop = false) : chsRight last (c :: r) = false := by rw [chsRight, h, Bool.false_and, Bool.and_false]
theorem chsRight_no3 {last : Int} {c : ChM} {r : List ChM} (h : rightC c = false) : chsRight last (c :: r) = false := by rw [chsRight, h, Bool.false_and, Bool.and_false, Bool.and_false]
theorem chsRight_yes {last : Int} {c : ChM} {r : List ChM} (h1 : decide (last < c.oop) = true) (h2 : oopB c.oop = true) (h3 : rightC c = true) : chsRight last (c :: r) = chsRight c.oop r := by rw [chsRight, h1, h2, h3, Bool.true_and, Bool.true_and, Bool.true_and]
theorem drop_consC (l : List ChM) (k : Nat) (h : k < l.length) : l.drop k = l[k] :: l.drop (k + 1) := List.drop_eq_getElem_cons h

set_option maxHeartbeats 4000000 in
set_option maxRecDepth 100000 in
theorem vrightr_calls (S : Nat → Prop) (cs : List Value) (r : RecM) (w : World) (h : RecC w S cs r) :
    Calls Try.prog 57 #[.agg cs.toArray] w fun e w' => e = .returned (.bool (rightR r)) ∧ Fr No w w' := by
  obtain ⟨com, chs⟩ := r
  obtain ⟨A, c, rfl, hch⟩ := h
  simp only at hch
  have g1 := plain_i64
  have g2 := plain_lchp
  have g4 := plain_bool
  have g5 := plain_lval
  have g6 := plain_lu8
  have hle := hch.le
  have hf : Fr No w (w.alloc (.cells #[.int .i64 com, .slice A chs.length c] 76)) := (Fr.refl No w).alloc _
  have hbx := Blk.new w 76 #[.int .i64 com, .slice A chs.length c]
  have H : Hid (rightR ⟨com, chs⟩ = (decide (1 ≤ com) && (decide (com ≤ 1099511627776) && (decide (chs.length ≤ 4096) && chsRight 0 chs)))) := Lib.hid rfl
  by_cases h0 : 1 ≤ com
  rotate_left
  · have e0 : decide (com < 1) = true := by simpa using h0
    rw [show decide (1 ≤ com) = false by simpa using h0, Bool.false_and] at H
    clear h0
    go_enter Try.func57, Try.ntmps57
    go_wp2
    go_ret
    exact ⟨ret_bool H.out.symm, hf⟩
  have e0 : decide (com < 1) = false := by simpa using h0
  rw [show decide (1 ≤ com) = true by simpa using h0, Bool.true_and] at H
  clear h0
  by_cases h1 : com ≤ 1099511627776
  rotate_left
  · have e1 : decide (1099511627776 < com) = true := by simpa using h1
    rw [show decide (com ≤ 1099511627776) = false by simpa using h1, Bool.false_and] at H
    clear h1
    go_enter Try.func57, Try.ntmps57
    go_wp2
    go_ret
    exact ⟨ret_bool H.out.symm, hf⟩
  have e1 : decide (1099511627776 < com) = false := by simpa using h1
  rw [show decide (com ≤ 1099511627776) = true by simpa using h1, Bool.true_and] at H
  clear h1
  by_cases h2 : chs.length ≤ 4096
  rotate_left
  · have e2 : decide ((4096 : Int) < chs.length) = true := by simp; omega
    rw [show decide (chs.length ≤ 4096) = false by simpa using h2, Bool.false_and] at H
    clear h2
    go_enter Try.func57, Try.ntmps57
    go_wp2
    go_ret
    exact ⟨ret_bool H.out.symm, hf⟩
  have e2 : decide ((4096 : Int) < chs.length) = false := by simp; omega
  rw [show decide (chs.length ≤ 4096) = true by simpa using h2, Bool.true_and] at H
  go_enter Try.func57, Try.ntmps57
  go_wp2_with fail
  generalize hw1 : w.alloc (.cells #[.int .i64 com, .slice A chs.length c] 76) = w1 at *
  clear hw1
  go_loopw [3, 23] (fun la i wr => ∃ (k : Nat) (last : Int), k ≤ chs.length ∧ i = .int .i64 (k : Int) ∧ la = .int .i64 last ∧ Hid (chsRight 0 chs = chsRight last (chs.drop k)) ∧ Fr No w1 wr) (fun _ i _ => chs.length - (intOf i).toNat)
  case atStart => exact ⟨0, 0, by omega, rfl, rfl, Lib.hid rfl, Fr.refl _ _⟩
  case round =>
    obtain ⟨k, last, hk, rfl, rfl, HC, hfr⟩ := hrel
    by_cases hlt : k < chs.length
    · have ek : decide ((k : Int) < chs.length) = true := by simpa using (by omega : (k : Int) < chs.length)
      obtain ⟨ga, of, Av, nn, D, mm, rfl, _, hcell, hsl, hby⟩ := RdCh.at_ (hch.fr0 (hf.tr hfr)) hlt
      have HD := Lib.hid (drop_consC chs k hlt)
      generalize chs[k] = x at *
      obtain ⟨oop, gone, ob⟩ := x
      simp only at hcell hsl hby
      have hall := addr5 _ _ _ hcell
      clear hcell
      have hfA : Fr No wr (wr.alloc (.cells #[.int .i64 oop, .bool gone, .int .i64 ob.cls, .slice Av ob.slots.length nn, .slice D ob.bytes.length mm] 104)) := (Fr.refl No wr).alloc _
      have hcc : ChC (wr.alloc (.cells #[.int .i64 oop, .bool gone, .int .i64 ob.cls, .slice Av ob.slots.length nn, .slice D ob.bytes.length mm] 104)) S [.int .i64 oop, .bool gone, .int .i64 ob.cls, .slice Av ob.slots.length nn, .slice D ob.bytes.length mm] ⟨oop, gone, ob⟩ := ChC.keep ⟨Av, nn, D, mm, rfl, hsl, hby⟩ hfA (fun _ _ hn => hn)
      have hnew := Blk.new wr 104 #[.int .i64 oop, .bool gone, .int .i64 ob.cls, .slice Av ob.slots.length nn, .slice D ob.bytes.length mm]
      cases hl : decide (last < oop) with
      | false =>
        have HN := Lib.hid (chsRight_no1 (c := ⟨oop, gone, ob⟩) (r := chs.drop (k + 1)) hl)
        have el : decide (oop ≤ last) = true := by simp at hl ⊢; omega
        clear hl
        go_wp2_with (first
          | (refine wpList_ldA ag_chp rfl _ rfl ⟨ga, of + k * 5, none⟩ [.int .i64 oop, .bool gone, .int .i64 ob.cls, .slice Av ob.slots.length nn, .slice D ob.bytes.length mm] rfl rfl hall ?_)
          | fail)
        go_ret
        exact ⟨ret_bool (by rw [H.out, HC.out, HD.out, HN.out]), hf.tr (hfr.tr hfA)⟩
      | true =>
        have el : decide (oop ≤ last) = false := by simp at hl ⊢; omega
        have HL := Lib.hid hl
        clear hl
        have hoop := oop_calls oop
        cases ho : oopB oop with
        | false =>
          rw [ho] at hoop
          have HN := Lib.hid (chsRight_no2 (last := last) (c := ⟨oop, gone, ob⟩) (r := chs.drop (k + 1)) ho)
          clear ho
          go_wp2_with (first
            | (refine wpList_ldA ag_chp rfl _ rfl ⟨ga, of + k * 5, none⟩ [.int .i64 oop, .bool gone, .int .i64 ob.cls, .slice Av ob.slots.length nn, .slice D ob.bytes.length mm] rfl rfl hall ?_)
            | fail)
          refine (hoop _).mono ?_
          rintro e _ ⟨rfl, rfl⟩
          go_wp2
          go_ret
          exact ⟨ret_bool (by rw [H.out, HC.out, HD.out, HN.out]), hf.tr (hfr.tr hfA)⟩
        | true =>
          rw [ho] at hoop
          have HO := Lib.hid ho
          clear ho
          go_wp2_with (first
            | (refine wpList_ldA ag_chp rfl _ rfl ⟨ga, of + k * 5, none⟩ [.int .i64 oop, .bool gone, .int .i64 ob.cls, .slice Av ob.slots.length nn, .slice D ob.bytes.length mm] rfl rfl hall ?_)
            | fail)
          refine (hoop _).mono ?_
          rintro e _ ⟨rfl, rfl⟩
          have hnall := hnew.all
          go_wp2_with (first
            | (refine wpList_ldA ag_chp rfl _ rfl ⟨wr.heap.size, 0, none⟩ [.int .i64 oop, .bool gone, .int .i64 ob.cls, .slice Av ob.slots.length nn, .slice D ob.bytes.length mm] rfl rfl hnall ?_)
            | fail)
          refine (chright_calls S _ _ _ hcc).mono ?_
          rintro e w4 ⟨rfl, hf4⟩
          have hnew4 := hnew.fr0 hf4
          (have z0 := hnew4.cell 0; have z1 := hnew4.cell 1; have z2 := hnew4.cell 2; have z3 := hnew4.cell 3; have z4 := hnew4.cell 4; have zf0 := hnew4.frozen 0; have zf1 := hnew4.frozen 1; have zf2 := hnew4.frozen 2; have zf3 := hnew4.frozen 3; have zf4 := hnew4.frozen 4; simp only [List.getElem?_toArray, List.getElem?_cons_zero, List.getElem?_cons_succ] at z0 z1 z2 z3 z4)
          cases hc : rightC ⟨oop, gone, ob⟩ with
          | false =>
            have HN := Lib.hid (chsRight_no3 (last := last) (r := chs.drop (k + 1)) hc)
            clear hc
            go_wp2
            go_ret
            exact ⟨ret_bool (by rw [H.out, HC.out, HD.out, HN.out]), hf.tr (hfr.tr (hfA.tr hf4))⟩
          | true =>
            have HN := Lib.hid (chsRight_yes (r := chs.drop (k + 1)) HL.out HO.out hc)
            clear hc
            go_wp2
            go_roundw
            case rel => exact ⟨k + 1, oop, by omega, by go_num, rfl, Lib.hid (by rw [HC.out, HD.out, HN.out]), hfr.tr (hfA.tr hf4)⟩
            case measure => simp [intOf]; omega
    · obtain rfl : k = chs.length := by omega
      have ek : decide ((chs.length : Int) < chs.length) = false := by simp
      have HE := Lib.hid (show rightR ⟨com, chs⟩ = true by rw [H.out, HC.out, List.drop_length]; rfl)
      go_wp2
      go_ret
      exact ⟨ret_bool HE.out.symm, hf.tr hfr⟩

set_option maxHeartbeats 4000000 in
set_option maxRecDepth 100000 in
theorem refrightr_calls (S : Nat → Prop) (cs : List Value) (r : RecM) (w : World) (h : RecC w S cs r) :
    Calls Try.prog 58 #[.agg cs.toArray] w fun e w' => e = .returned (.bool (rightR r)) ∧ Fr No w w' := by
  obtain ⟨com, chs⟩ := r
  obtain ⟨A, c, rfl, hch⟩ := h
  simp only at hch
  have g1 := plain_i64
  have g2 := plain_lchr
  have g4 := plain_bool
  have g5 := plain_lval
  have g6 := plain_lu8
  have hle := hch.le
  have hf : Fr No w (w.alloc (.cells #[.int .i64 com, .slice A chs.length c] 50)) := (Fr.refl No w).alloc _
  have hbx := Blk.new w 50 #[.int .i64 com, .slice A chs.length c]
  have H : Hid (rightR ⟨com, chs⟩ = (decide (1 ≤ com) && (decide (com ≤ 1099511627776) && (decide (chs.length ≤ 4096) && chsRight 0 chs)))) := Lib.hid rfl
  by_cases h0 : 1 ≤ com
  rotate_left
  · have e0 : decide (com < 1) = true := by simpa using h0
    rw [show decide (1 ≤ com) = false by simpa using h0, Bool.false_and] at H
    clear h0
    go_enter Try.func58, Try.ntmps58
    go_wp2
    go_ret
    exact ⟨ret_bool H.out.symm, hf⟩
  have e0 : decide (com < 1) = false := by simpa using h0
  rw [show decide (1 ≤ com) = true by simpa using h0, Bool.true_and] at H
  clear h0
  by_cases h1 : com ≤ 1099511627776
  rotate_left
  · have e1 : decide (1099511627776 < com) = true := by simpa using h1
    rw [show decide (com ≤ 1099511627776) = false by simpa using h1, Bool.false_and] at H
    clear h1
    go_enter Try.func58, Try.ntmps58
    go_wp2
    go_ret
    exact ⟨ret_bool H.out.symm, hf⟩
  have e1 : decide (1099511627776 < com) = false := by simpa using h1
  rw [show decide (com ≤ 1099511627776) = true by simpa using h1, Bool.true_and] at H
  clear h1
  by_cases h2 : chs.length ≤ 4096
  rotate_left
  · have e2 : decide ((4096 : Int) < chs.length) = true := by simp; omega
    rw [show decide (chs.length ≤ 4096) = false by simpa using h2, Bool.false_and] at H
    clear h2
    go_enter Try.func58, Try.ntmps58
    go_wp2
    go_ret
    exact ⟨ret_bool H.out.symm, hf⟩
  have e2 : decide ((4096 : Int) < chs.length) = false := by simp; omega
  rw [show decide (chs.length ≤ 4096) = true by simpa using h2, Bool.true_and] at H
  go_enter Try.func58, Try.ntmps58
  go_wp2_with fail
  generalize hw1 : w.alloc (.cells #[.int .i64 com, .slice A chs.length c] 50) = w1 at *
  clear hw1
  go_loopw [3] (fun i wr => ∃ (k : Nat) (last : Int), k ≤ chs.length ∧ i = .int .i64 (k : Int) ∧ Hid (0 < k → ∃ h : k - 1 < chs.length, (chs[k - 1]'h).oop = last) ∧ Hid (k = 0 → last = 0) ∧ Hid (chsRight 0 chs = chsRight last (chs.drop k)) ∧ Fr No w1 wr) (fun i _ => chs.length - (intOf i).toNat)
  case atStart => exact ⟨0, 0, by omega, rfl, Lib.hid (fun h => by omega), Lib.hid (fun _ => rfl), Lib.hid rfl, Fr.refl _ _⟩
  case round =>
    obtain ⟨k, last, hk, rfl, HP, HZ, HC, hfr⟩ := hrel
    have hbr := hbx.fr0 hfr
    (have p0 := hbr.cell 0; have p1 := hbr.cell 1; have pf0 := hbr.frozen 0; have pf1 := hbr.frozen 1; simp only [List.getElem?_toArray, List.getElem?_cons_zero, List.getElem?_cons_succ] at p0 p1)
    by_cases hlt : k < chs.length
    · have ek : decide ((k : Int) < chs.length) = true := by simpa using (by omega : (k : Int) < chs.length)
      have hrd := hch.fr0 (hf.tr hfr)
      obtain ⟨ga, of, Av, nn, D, mm, rfl, _, hcell, hsl, hby⟩ := hrd.at_ hlt
      have hprev : 0 < k → wr.cell? ⟨ga, of + (k - 1) * 5, none⟩ = some (.int .i64 last) := fun h0 => by
        obtain ⟨hh, he⟩ := HP.out h0
        obtain ⟨g', o', Av', nn', D', mm', hA', _, hcell', _, _⟩ := hrd.at_ hh
        injection hA' with hA'
        injection hA' with h1 h2
        subst h1 h2
        have := hcell' 0 _ rfl
        rw [he] at this
        exact this
      have HPR := Lib.hid hprev
      have HD := Lib.hid (drop_consC chs k hlt)
      clear hrd hprev
      generalize hxk : chs[k] = x at hcell hsl hby HD
      have HX := Lib.hid (show ∃ h : k + 1 - 1 < chs.length, (chs[k + 1 - 1]'h).oop = x.oop from ⟨by omega, by rw [← hxk]; rfl⟩)
      clear hxk
      obtain ⟨oop, gone, ob⟩ := x
      simp only at hcell hsl hby HX
      have hall := addr5 _ _ _ hcell
      clear hcell
      have hfA : Fr No wr (wr.alloc (.cells #[.int .i64 oop, .bool gone, .int .i64 ob.cls, .slice Av ob.slots.length nn, .slice D ob.bytes.length mm] 71)) := (Fr.refl No wr).alloc _
      have hoc : ObjC (wr.alloc (.cells #[.int .i64 oop, .bool gone, .int .i64 ob.cls, .slice Av ob.slots.length nn, .slice D ob.bytes.length mm] 71)) S [.int .i64 ob.cls, .slice Av ob.slots.length nn, .slice D ob.bytes.length mm] ob := ObjC.fr0 ⟨Av, nn, D, mm, rfl, hsl, hby⟩ hfA
      have hnew := Blk.new wr 71 #[.int .i64 oop, .bool gone, .int .i64 ob.cls, .slice Av ob.slots.length nn, .slice D ob.bytes.length mm]
      have hbA := hbr.fr0 hfA
      have HPA : Hid (0 < k → (wr.alloc (.cells #[.int .i64 oop, .bool gone, .int .i64 ob.cls, .slice Av ob.slots.length nn, .slice D ob.bytes.length mm] 71)).cell? ⟨ga, of + (k - 1) * 5, none⟩ = some (.int .i64 last)) := Lib.hid (fun h0 => hfA.cell_some (HPR.out h0) (fun hn => hn))
      go_upto_region 7 with (first
        | (refine wpList_ldA ag_chr rfl _ rfl ⟨ga, of + k * 5, none⟩ [.int .i64 oop, .bool gone, .int .i64 ob.cls, .slice Av ob.slots.length nn, .slice D ob.bytes.length mm] rfl rfl hall ?_)
        | fail)
      generalize hwA : wr.alloc (.cells #[.int .i64 oop, .bool gone, .int .i64 ob.cls, .slice Av ob.slots.length nn, .slice D ob.bytes.length mm] 71) = wA at *
      clear hwA HPR p0 p1 pf0 pf1
      obtain ⟨good, hgood⟩ : ∃ good, good = (decide (last < oop) && oopB oop) := ⟨_, rfl⟩
      have HG := Lib.hid hgood
      clear hgood
      go_cut [54] (fun s54 wx => s54 = .bool (!good) ∧ Fr No wA wx)
      case first =>
        (have p0 := hbA.cell 0; have p1 := hbA.cell 1; have pf0 := hbA.frozen 0; have pf1 := hbA.frozen 1; simp only [List.getElem?_toArray, List.getElem?_cons_zero, List.getElem?_cons_succ] at p0 p1)
        (have z0 := hnew.cell 0; have z1 := hnew.cell 1; have z2 := hnew.cell 2; have z3 := hnew.cell 3; have z4 := hnew.cell 4; have zf0 := hnew.frozen 0; have zf1 := hnew.frozen 1; have zf2 := hnew.frozen 2; have zf3 := hnew.frozen 3; have zf4 := hnew.frozen 4; simp only [List.getElem?_toArray, List.getElem?_cons_zero, List.getElem?_cons_succ] at z0 z1 z2 z3 z4)
        have ho1 : oopB oop = (decide (1 ≤ oop) && decide (oop ≤ 4096)) := rfl
        rw [ho1] at HG
        clear ho1
        by_cases hA1 : 1 ≤ oop
        rotate_left
        · have ea : decide (oop < 1) = true := by simpa using hA1
          have HGD := Lib.hid (show good = false by rw [HG.out, show decide (1 ≤ oop) = false by simpa using hA1, Bool.false_and, Bool.and_false])
          clear hA1 HG HP HZ HPA
          refine T_begin2 No [] [0, 1, 2, 3, 4, 5, 6, 7, 8, 9, 10, 11, 12, 13, 14, 15, 16, 17, 18, 19, 20, 21, 22, 23] [] (by kernel_rfl) (by kernel_rfl) ?_
          simp only [pickOps, List.filterMap_cons, List.filterMap_nil, List.getElem?_cons_zero, List.getElem?_cons_succ, Act.put]
          repeat (first | (refine T_skip (by rfl) (by rfl) (fun _ _ _ h => h) ?_; try simp only [Act.put, List.setIfInBounds_toArray, List.set_cons_zero, List.set_cons_succ]) | (refine T_pass (by rfl) (by rfl) ?_; try simp only [Act.put, List.setIfInBounds_toArray, List.set_cons_zero, List.set_cons_succ]) | (refine T_load (by assumption) (by rfl) (by rfl) (fun _ _ _ _ h => h) rfl rfl (by assumption) (by first | exact (fun hn => hn) | assumption) ?_; try simp only [Act.put, List.setIfInBounds_toArray, List.set_cons_zero, List.set_cons_succ]) | (refine T_nil (by rfl) (by rfl) (fun _ _ _ _ h => h) rfl rfl ?_; try simp only [Act.put, List.setIfInBounds_toArray, List.set_cons_zero, List.set_cons_succ]) | (refine T_quietN (by rfl) (by rfl) (by rfl) (by rfl) (fun _ _ _ _ h => h) (fun K hK => ?_); go_big_quiet_op; refine hK _ ?_; clear hK K) | (refine T_two (by rfl) (by rfl) (by rfl) (by rfl) (fun _ _ _ _ h => h) (fun K hK => ?_); go_big_quiet_op; refine ⟨_, fun _ _ => rfl, ?_⟩; refine hK _ ?_; clear hK K; try simp only [Act.put, List.setIfInBounds_toArray, List.set_cons_zero, List.set_cons_succ]) | fail)
          refine T_done ?_
          go_wp2_with fail
          go_meet
          case rel => exact ⟨by rw [HGD.out]; rfl, (Fr.refl No wA).drew⟩
        have ea : decide (oop < 1) = false := by simpa using hA1
        by_cases hB1 : oop ≤ 4096
        rotate_left
        · have eb : decide (4096 < oop) = true := by simpa using hB1
          have HGD := Lib.hid (show good = false by rw [HG.out, show decide (oop ≤ 4096) = false by simpa using hB1, Bool.and_false, Bool.and_false])
          clear hA1 hB1 HG HP HZ HPA
          refine T_begin2 No [] [0, 1, 2, 3, 4, 5, 6, 7, 8, 9, 10, 11, 12, 13, 14, 15, 16, 17, 18, 19, 20, 21, 22, 23] [] (by kernel_rfl) (by kernel_rfl) ?_
          simp only [pickOps, List.filterMap_cons, List.filterMap_nil, List.getElem?_cons_zero, List.getElem?_cons_succ, Act.put]
          repeat (first | (refine T_skip (by rfl) (by rfl) (fun _ _ _ h => h) ?_; try simp only [Act.put, List.setIfInBounds_toArray, List.set_cons_zero, List.set_cons_succ]) | (refine T_pass (by rfl) (by rfl) ?_; try simp only [Act.put, List.setIfInBounds_toArray, List.set_cons_zero, List.set_cons_succ]) | (refine T_load (by assumption) (by rfl) (by rfl) (fun _ _ _ _ h => h) rfl rfl (by assumption) (by first | exact (fun hn => hn) | assumption) ?_; try simp only [Act.put, List.setIfInBounds_toArray, List.set_cons_zero, List.set_cons_succ]) | (refine T_nil (by rfl) (by rfl) (fun _ _ _ _ h => h) rfl rfl ?_; try simp only [Act.put, List.setIfInBounds_toArray, List.set_cons_zero, List.set_cons_succ]) | (refine T_quietN (by rfl) (by rfl) (by rfl) (by rfl) (fun _ _ _ _ h => h) (fun K hK => ?_); go_big_quiet_op; refine hK _ ?_; clear hK K) | (refine T_two (by rfl) (by rfl) (by rfl) (by rfl) (fun _ _ _ _ h => h) (fun K hK => ?_); go_big_quiet_op; refine ⟨_, fun _ _ => rfl, ?_⟩; refine hK _ ?_; clear hK K; try simp only [Act.put, List.setIfInBounds_toArray, List.set_cons_zero, List.set_cons_succ]) | fail)
          refine T_done ?_
          go_wp2_with fail
          go_meet
          case rel => exact ⟨by rw [HGD.out]; rfl, (Fr.refl No wA).drew⟩
        have eb : decide (4096 < oop) = false := by simpa using hB1
        rw [show decide (1 ≤ oop) = true by simpa using hA1, show decide (oop ≤ 4096) = true by simpa using hB1] at HG
        rcases Nat.eq_zero_or_pos k with hk0 | hk1
        · have HGD := Lib.hid (show good = true by
            rw [HG.out, HZ.out hk0, show decide ((0 : Int) < oop) = true by simpa using (by omega : (0 : Int) < oop)]; rfl)
          have ez : decide (0 < k) = false := by simp; omega
          have ez2 : decide ((0 : Int) < (k : Int)) = false := by simp; omega
          clear hA1 hB1 HG HP HZ HPA hk0
          refine T_begin2 No [] [0, 1, 2, 3, 4, 5, 6, 7, 8, 9, 10, 11, 12, 13, 14, 15, 16, 17, 18, 19, 20, 21, 22, 23] [] (by kernel_rfl) (by kernel_rfl) ?_
          simp only [pickOps, List.filterMap_cons, List.filterMap_nil, List.getElem?_cons_zero, List.getElem?_cons_succ, Act.put]
          repeat (first | (refine T_skip (by rfl) (by rfl) (fun _ _ _ h => h) ?_; try simp only [Act.put, List.setIfInBounds_toArray, List.set_cons_zero, List.set_cons_succ]) | (refine T_pass (by rfl) (by rfl) ?_; try simp only [Act.put, List.setIfInBounds_toArray, List.set_cons_zero, List.set_cons_succ]) | (refine T_load (by assumption) (by rfl) (by rfl) (fun _ _ _ _ h => h) rfl rfl (by assumption) (by first | exact (fun hn => hn) | assumption) ?_; try simp only [Act.put, List.setIfInBounds_toArray, List.set_cons_zero, List.set_cons_succ]) | (refine T_nil (by rfl) (by rfl) (fun _ _ _ _ h => h) rfl rfl ?_; try simp only [Act.put, List.setIfInBounds_toArray, List.set_cons_zero, List.set_cons_succ]) | (refine T_quietN (by rfl) (by rfl) (by rfl) (by rfl) (fun _ _ _ _ h => h) (fun K hK => ?_); go_big_quiet_op; refine hK _ ?_; clear hK K) | (refine T_two (by rfl) (by rfl) (by rfl) (by rfl) (fun _ _ _ _ h => h) (fun K hK => ?_); go_big_quiet_op; refine ⟨_, fun _ _ => rfl, ?_⟩; refine hK _ ?_; clear hK K; try simp only [Act.put, List.setIfInBounds_toArray, List.set_cons_zero, List.set_cons_succ]) | fail)
          refine T_done ?_
          go_wp2_with fail
          go_meet
          case rel => exact ⟨by rw [HGD.out]; rfl, (Fr.refl No wA).drew⟩
        · have hprev := HPA.out hk1
          have ez : decide (0 < k) = true := by simpa using hk1
          obtain ⟨j, hj⟩ : ∃ j, k = j + 1 := ⟨k - 1, by omega⟩
          subst hj
          simp only [Nat.add_sub_cancel] at hprev
          have ez2 : decide ((0 : Int) < (j : Int) + 1) = true := by first | (simp; done) | (simp; omega)
          have ez3 : decide (0 < j + 1) = true := by simp
          have ej : (j : Int) + 1 - 1 = (j : Int) := by omega
          have hjl : (j : Int) < (chs.length : Int) := by omega
          have hj0 : (0 : Int) ≤ (j : Int) := by omega
          cases hl : decide (last < oop) with
          | false =>
            have el : decide (oop ≤ last) = true := by simp at hl ⊢; omega
            have HGD := Lib.hid (show good = false by rw [HG.out, hl]; rfl)
            clear hA1 hB1 HG HP HZ HPA hl hk1
            refine T_begin2 No [] [0, 1, 2, 3, 4, 5, 6, 7, 8, 9, 10, 11, 12, 13, 14, 15, 16, 17, 18, 19, 20, 21, 22, 23] [] (by kernel_rfl) (by kernel_rfl) ?_
            simp only [pickOps, List.filterMap_cons, List.filterMap_nil, List.getElem?_cons_zero, List.getElem?_cons_succ, Act.put]
            repeat (first | (refine T_skip (by rfl) (by rfl) (fun _ _ _ h => h) ?_; try simp only [Act.put, List.setIfInBounds_toArray, List.set_cons_zero, List.set_cons_succ]) | (refine T_pass (by rfl) (by rfl) ?_; try simp only [Act.put, List.setIfInBounds_toArray, List.set_cons_zero, List.set_cons_succ]) | (refine T_load (by assumption) (by rfl) (by rfl) (fun _ _ _ _ h => h) rfl rfl (by assumption) (by first | exact (fun hn => hn) | assumption) ?_; try simp only [Act.put, List.setIfInBounds_toArray, List.set_cons_zero, List.set_cons_succ]) | (refine T_nil (by rfl) (by rfl) (fun _ _ _ _ h => h) rfl rfl ?_; try simp only [Act.put, List.setIfInBounds_toArray, List.set_cons_zero, List.set_cons_succ]) | (refine T_quietN (by rfl) (by rfl) (by rfl) (by rfl) (fun _ _ _ _ h => h) (fun K hK => ?_); go_big_quiet_op; refine hK _ ?_; clear hK K) | (refine T_two (by rfl) (by rfl) (by rfl) (by rfl) (fun _ _ _ _ h => h) (fun K hK => ?_); go_big_quiet_op; refine ⟨_, fun _ _ => rfl, ?_⟩; refine hK _ ?_; clear hK K; try simp only [Act.put, List.setIfInBounds_toArray, List.set_cons_zero, List.set_cons_succ]) | fail)
            refine T_done ?_
            go_wp2_with fail
            go_meet
            case rel => exact ⟨by rw [HGD.out]; rfl, (Fr.refl No wA).drew⟩
          | true =>
            have el : decide (oop ≤ last) = false := by simp at hl ⊢; omega
            have HGD := Lib.hid (show good = true by rw [HG.out, hl]; rfl)
            clear hA1 hB1 HG HP HZ HPA hl hk1
            refine T_begin2 No [] [0, 1, 2, 3, 4, 5, 6, 7, 8, 9, 10, 11, 12, 13, 14, 15, 16, 17, 18, 19, 20, 21, 22, 23] [] (by kernel_rfl) (by kernel_rfl) ?_
            simp only [pickOps, List.filterMap_cons, List.filterMap_nil, List.getElem?_cons_zero, List.getElem?_cons_succ, Act.put]
            repeat (first | (refine T_skip (by rfl) (by rfl) (fun _ _ _ h => h) ?_; try simp only [Act.put, List.setIfInBounds_toArray, List.set_cons_zero, List.set_cons_succ]) | (refine T_pass (by rfl) (by rfl) ?_; try simp only [Act.put, List.setIfInBounds_toArray, List.set_cons_zero, List.set_cons_succ]) | (refine T_load (by assumption) (by rfl) (by rfl) (fun _ _ _ _ h => h) rfl rfl (by assumption) (by first | exact (fun hn => hn) | assumption) ?_; try simp only [Act.put, List.setIfInBounds_toArray, List.set_cons_zero, List.set_cons_succ]) | (refine T_nil (by rfl) (by rfl) (fun _ _ _ _ h => h) rfl rfl ?_; try simp only [Act.put, List.setIfInBounds_toArray, List.set_cons_zero, List.set_cons_succ]) | (refine T_quietN (by rfl) (by rfl) (by rfl) (by rfl) (fun _ _ _ _ h => h) (fun K hK => ?_); go_big_quiet_op; refine hK _ ?_; clear hK K) | (refine T_two (by rfl) (by rfl) (by rfl) (by rfl) (fun _ _ _ _ h => h) (fun K hK => ?_); go_big_quiet_op; refine ⟨_, fun _ _ => rfl, ?_⟩; refine hK _ ?_; clear hK K; try simp only [Act.put, List.setIfInBounds_toArray, List.set_cons_zero, List.set_cons_succ]) | fail)
            refine T_done ?_
            go_wp2_with fail
            go_meet
            case rel => exact ⟨by rw [HGD.out]; rfl, (Fr.refl No wA).drew⟩
      case rest =>
        obtain ⟨rfl, hfc⟩ := hcut
        have hnewc := hnew.fr0 hfc
        have hocc := hoc.fr0 hfc
        (have z0 := hnewc.cell 0; have z1 := hnewc.cell 1; have z2 := hnewc.cell 2; have z3 := hnewc.cell 3; have z4 := hnewc.cell 4; have zf0 := hnewc.frozen 0; have zf1 := hnewc.frozen 1; have zf2 := hnewc.frozen 2; have zf3 := hnewc.frozen 3; have zf4 := hnewc.frozen 4; simp only [List.getElem?_toArray, List.getElem?_cons_zero, List.getElem?_cons_succ] at z0 z1 z2 z3 z4)
        cases good with
        | false =>
          have HN := Lib.hid (show chsRight last (⟨oop, gone, ob⟩ :: chs.drop (k + 1)) = false by
            have h9 := HG.out.symm
            rw [Bool.and_eq_false_iff] at h9
            rcases h9 with h9 | h9
            · exact chsRight_no1 h9
            · exact chsRight_no2 h9)
          simp only [Bool.not_false]
          go_wp2
          go_ret
          exact ⟨ret_bool (by rw [H.out, HC.out, HD.out, HN.out]), hf.tr (hfr.tr (hfA.tr hfc))⟩
        | true =>
          have h9 := HG.out.symm
          rw [Bool.and_eq_true] at h9
          have HL := Lib.hid h9.1
          have HO := Lib.hid h9.2
          clear h9 HG
          simp only [Bool.not_true]
          cases gone with
          | true =>
            go_wp2_with fail
            refine (refsame_calls S S _ _ ob noObj _ hocc (noObj_c _ S)).mono ?_
            rintro e w4 ⟨rfl, hf4⟩
            have hnew4 := hnewc.fr0 hf4
            clear z0 z1 z2 z3 z4 zf0 zf1 zf2 zf3 zf4
            (have z0 := hnew4.cell 0; have z1 := hnew4.cell 1; have z2 := hnew4.cell 2; have z3 := hnew4.cell 3; have z4 := hnew4.cell 4; have zf0 := hnew4.frozen 0; have zf1 := hnew4.frozen 1; have zf2 := hnew4.frozen 2; have zf3 := hnew4.frozen 3; have zf4 := hnew4.frozen 4; simp only [List.getElem?_toArray, List.getElem?_cons_zero, List.getElem?_cons_succ] at z0 z1 z2 z3 z4)
            cases hc : sameO ob noObj with
            | false =>
              have HN := Lib.hid (chsRight_no3 (last := last) (r := chs.drop (k + 1)) (show rightC ⟨oop, true, ob⟩ = false from hc))
              clear hc
              go_wp2
              go_ret
              exact ⟨ret_bool (by rw [H.out, HC.out, HD.out, HN.out]), hf.tr (hfr.tr (hfA.tr (hfc.tr hf4)))⟩
            | true =>
              have HN := Lib.hid (chsRight_yes (r := chs.drop (k + 1)) HL.out HO.out (show rightC ⟨oop, true, ob⟩ = true from hc))
              clear hc
              go_wp2
              go_roundw
              case rel => exact ⟨k + 1, oop, by omega, by go_num, Lib.hid (fun _ => HX.out), Lib.hid (fun h => by omega), Lib.hid (by rw [HC.out, HD.out, HN.out]), hfr.tr (hfA.tr (hfc.tr hf4))⟩
              case measure => simp [intOf]; omega
          | false =>
            go_wp2_with fail
            refine (refrighto_calls S _ ob _ hocc).mono ?_
            rintro e w4 ⟨rfl, hf4⟩
            cases hc : rightO ob with
            | false =>
              have HN := Lib.hid (chsRight_no3 (last := last) (r := chs.drop (k + 1)) (show rightC ⟨oop, false, ob⟩ = false from hc))
              clear hc
              go_wp2
              go_ret
              exact ⟨ret_bool (by rw [H.out, HC.out, HD.out, HN.out]), hf.tr (hfr.tr (hfA.tr (hfc.tr hf4)))⟩
            | true =>
              have HN := Lib.hid (chsRight_yes (r := chs.drop (k + 1)) HL.out HO.out (show rightC ⟨oop, false, ob⟩ = true from hc))
              clear hc
              go_wp2
              go_roundw
              case rel => exact ⟨k + 1, oop, by omega, by go_num, Lib.hid (fun _ => HX.out), Lib.hid (fun h => by omega), Lib.hid (by rw [HC.out, HD.out, HN.out]), hfr.tr (hfA.tr (hfc.tr hf4))⟩
              case measure => simp [intOf]; omega
    · obtain rfl : k = chs.length := by omega
      have ek : decide ((chs.length : Int) < chs.length) = false := by simp
      have HE := Lib.hid (show rightR ⟨com, chs⟩ = true by rw [H.out, HC.out, List.drop_length]; rfl)
      go_wp2
      go_ret
      exact ⟨ret_bool HE.out.symm, hf.tr hfr⟩
end Go.Proofs.Ytoajigghkjnffaa
