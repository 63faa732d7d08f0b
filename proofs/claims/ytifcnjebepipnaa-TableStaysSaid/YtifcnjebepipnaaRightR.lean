/- Which records can be kept: value's RightRecord, and the reference's. No condition. -/
import Derived.Test.YtifcnjebepipnaaCh
import Derived.Test.YtifcnjebepipnaaSame
import Derived.Deep.CutBlock
import Derived.Deep.DeepCutAuto
namespace Go.Proofs.Ytifcnjebepipnaa
set_option linter.unusedVariables false
set_option linter.unusedSimpArgs false
open Go.RowKit

theorem ag_chp : AggOf Try.prog 62 5 := ⟨⟨_, Try.underlying62, rfl⟩, by kernel_rfl⟩
theorem ag_chr : AggOf Try.prog 67 5 := ⟨⟨_, Try.underlying67, rfl⟩, by kernel_rfl⟩
theorem ag_recp : AggOf Try.prog 29 2 := ⟨⟨_, Try.underlying29, rfl⟩, by kernel_rfl⟩
theorem ag_recr : AggOf Try.prog 33 2 := ⟨⟨_, Try.underlying33, rfl⟩, by kernel_rfl⟩
theorem plain_lchp : ∀ w, (isAgg 27).run Try.prog w = .ok false w := plain_of Try.underlying27 rfl
theorem plain_lchr : ∀ w, (isAgg 31).run Try.prog w = .ok false w := plain_of Try.underlying31 rfl
theorem noObj_c (w : World) (S : Nat → Prop) : ObjC w S [.int .i64 0, .slice none 0 0, .slice none 0 0] noObj := ⟨none, 0, none, 0, rfl, Rd.nil_, Rd.nil_⟩
theorem rightC_gone (o : Int) (ob : ObjM) : rightC ⟨o, true, ob⟩ = sameO ob noObj := rfl
theorem rightC_here (o : Int) (ob : ObjM) : rightC ⟨o, false, ob⟩ = rightO ob := rfl
set_option maxHeartbeats 1000000 in
set_option maxRecDepth 100000 in
theorem chright_calls (S : Nat → Prop) (cs : List Value) (c : ChM) (w : World) (h : ChC w S cs c) :
    Calls Try.prog 38 #[.agg cs.toArray] w fun e w' => e = .returned (.bool (rightC c)) ∧ Fr No w w' := by
  obtain ⟨oop, gone, ob⟩ := c
  obtain ⟨Av, nn, D, mm, rfl, hs, hb⟩ := h
  simp only at hs hb
  have g1 := plain_i64
  have g2 := plain_lval
  have g3 := plain_lu8
  have g4 := plain_bool
  have hf : Fr No w (w.alloc (.cells #[.int .i64 oop, .bool gone, .int .i64 ob.cls, .slice Av ob.slots.length nn, .slice D ob.bytes.length mm] 62)) := (Fr.refl No w).alloc _
  have hoc : ObjC (w.alloc (.cells #[.int .i64 oop, .bool gone, .int .i64 ob.cls, .slice Av ob.slots.length nn, .slice D ob.bytes.length mm] 62)) S [.int .i64 ob.cls, .slice Av ob.slots.length nn, .slice D ob.bytes.length mm] ob := ObjC.fr0 ⟨Av, nn, D, mm, rfl, hs, hb⟩ hf
  cases gone with
  | true =>
    have H := Lib.hid (rightC_gone oop ob)
    go_enter Try.func38, Try.ntmps38
    go_wp2_with fail
    refine (vsame_calls S S _ _ ob noObj _ hoc (noObj_c _ S)).mono ?_
    rintro e w2 ⟨rfl, hf2⟩
    go_wp2
    go_ret
    exact ⟨ret_bool H.out.symm, hf.tr hf2⟩
  | false =>
    have H := Lib.hid (rightC_here oop ob)
    go_enter Try.func38, Try.ntmps38
    go_wp2_with fail
    refine (righto_calls S _ ob _ hoc).mono ?_
    rintro e w2 ⟨rfl, hf2⟩
    go_wp2
    go_ret
    exact ⟨ret_bool H.out.symm, hf.tr hf2⟩
theorem chsRight_no1 {last : Int} {c : ChM} {r : List ChM} (h : decide (last < c.oop) = false) : chsRight last (c :: r) = false := by rw [chsRight, h, Bool.false_and]
theorem chsRight_no2 {last : Int} {c : ChM} {r : List ChM} (h : oopB c.oop = false) : chsRight last (c :: r) = false := by rw [chsRight, h, Bool.false_and, Bool.and_false]
theorem chsRight_no3 {last : Int} {c : ChM} {r : List ChM} (h : rightC c = false) : chsRight last (c :: r) = false := by rw [chsRight, h, Bool.false_and, Bool.and_false, Bool.and_false]
theorem chsRight_yes {last : Int} {c : ChM} {r : List ChM} (h1 : decide (last < c.oop) = true) (h2 : oopB c.oop = true) (h3 : rightC c = true) : chsRight last (c :: r) = chsRight c.oop r := by rw [chsRight, h1, h2, h3, Bool.true_and, Bool.true_and, Bool.true_and]
theorem drop_consC (l : List ChM) (k : Nat) (h : k < l.length) : l.drop k = l[k] :: l.drop (k + 1) := List.drop_eq_getElem_cons h

set_option maxHeartbeats 4000000 in
set_option maxRecDepth 100000 in
theorem vrightr_calls (S : Nat → Prop) (cs : List Value) (r : RecM) (w : World) (h : RecC w S cs r) :
    Calls Try.prog 24 #[.agg cs.toArray] w fun e w' => e = .returned (.bool (rightR r)) ∧ Fr No w w' := by
  obtain ⟨com, chs⟩ := r
  obtain ⟨A, c, rfl, hch⟩ := h
  simp only at hch
  have g1 := plain_i64
  have g2 := plain_lchp
  have g4 := plain_bool
  have g5 := plain_lval
  have g6 := plain_lu8
  have hle := hch.le
  have hf : Fr No w (w.alloc (.cells #[.int .i64 com, .slice A chs.length c] 29)) := (Fr.refl No w).alloc _
  have hbx := Blk.new w 29 #[.int .i64 com, .slice A chs.length c]
  have H : Hid (rightR ⟨com, chs⟩ = (decide (1 ≤ com) && (decide (com ≤ 1099511627776) && (decide (chs.length ≤ 4096) && chsRight 0 chs)))) := Lib.hid rfl
  by_cases h0 : 1 ≤ com
  rotate_left
  · have e0 : decide (com < 1) = true := by simpa using h0
    rw [show decide (1 ≤ com) = false by simpa using h0, Bool.false_and] at H
    clear h0
    go_enter Try.func24, Try.ntmps24
    go_wp2
    go_ret
    exact ⟨ret_bool H.out.symm, hf⟩
  have e0 : decide (com < 1) = false := by simpa using h0
  rw [show decide (1 ≤ com) = true by simpa using h0, Bool.true_and] at H
  clear h0
  by_cases h1 : com ≤ 1099511627776
  rotate_left
  · have e1 : decide (1099511627776 < com) = true := by simpa using h1
    rw [show decide (com ≤ 1099511627776) = false by simpa using h1, Bool.false_and] at H
    clear h1
    go_enter Try.func24, Try.ntmps24
    go_wp2
    go_ret
    exact ⟨ret_bool H.out.symm, hf⟩
  have e1 : decide (1099511627776 < com) = false := by simpa using h1
  rw [show decide (com ≤ 1099511627776) = true by simpa using h1, Bool.true_and] at H
  clear h1
  by_cases h2 : chs.length ≤ 4096
  rotate_left
  · have e2 : decide ((4096 : Int) < chs.length) = true := by simp; omega
    rw [show decide (chs.length ≤ 4096) = false by simpa using h2, Bool.false_and] at H
    clear h2
    go_enter Try.func24, Try.ntmps24
    go_wp2
    go_ret
    exact ⟨ret_bool H.out.symm, hf⟩
  have e2 : decide ((4096 : Int) < chs.length) = false := by simp; omega
  rw [show decide (chs.length ≤ 4096) = true by simpa using h2, Bool.true_and] at H
  go_enter Try.func24, Try.ntmps24
  go_wp2_with fail
  generalize hw1 : w.alloc (.cells #[.int .i64 com, .slice A chs.length c] 29) = w1 at *
  clear hw1
  go_loopw [3, 23] (fun la i wr => ∃ (k : Nat) (last : Int), k ≤ chs.length ∧ i = .int .i64 (k : Int) ∧ la = .int .i64 last ∧ Hid (chsRight 0 chs = chsRight last (chs.drop k)) ∧ Fr No w1 wr) (fun _ i _ => chs.length - (intOf i).toNat)
  case atStart => exact ⟨0, 0, by omega, rfl, rfl, Lib.hid rfl, Fr.refl _ _⟩
  case round =>
    obtain ⟨k, last, hk, rfl, rfl, HC, hfr⟩ := hrel
    by_cases hlt : k < chs.length
    · have ek : decide ((k : Int) < chs.length) = true := by simpa using (by omega : (k : Int) < chs.length)
      obtain ⟨ga, of, Av, nn, D, mm, rfl, _, hcell, hsl, hby⟩ := RdCh.at_ (hch.fr0 (hf.tr hfr)) hlt
      have HD := Lib.hid (drop_consC chs k hlt)
      generalize chs[k] = x at *
      obtain ⟨oop, gone, ob⟩ := x
      simp only at hcell hsl hby
      have hall := addr5 _ _ _ hcell
      clear hcell
      have hfA : Fr No wr (wr.alloc (.cells #[.int .i64 oop, .bool gone, .int .i64 ob.cls, .slice Av ob.slots.length nn, .slice D ob.bytes.length mm] 62)) := (Fr.refl No wr).alloc _
      have hcc : ChC (wr.alloc (.cells #[.int .i64 oop, .bool gone, .int .i64 ob.cls, .slice Av ob.slots.length nn, .slice D ob.bytes.length mm] 62)) S [.int .i64 oop, .bool gone, .int .i64 ob.cls, .slice Av ob.slots.length nn, .slice D ob.bytes.length mm] ⟨oop, gone, ob⟩ := ChC.keep ⟨Av, nn, D, mm, rfl, hsl, hby⟩ hfA (fun _ _ hn => hn)
      have hnew := Blk.new wr 62 #[.int .i64 oop, .bool gone, .int .i64 ob.cls, .slice Av ob.slots.length nn, .slice D ob.bytes.length mm]
      cases hl : decide (last < oop) with
      | false =>
        have HN := Lib.hid (chsRight_no1 (c := ⟨oop, gone, ob⟩) (r := chs.drop (k + 1)) hl)
        have el : decide (oop ≤ last) = true := by simp at hl ⊢; omega
        clear hl
        go_wp2_with (first
          | (refine wpList_ldA ag_chp rfl _ rfl ⟨ga, of + k * 5, none⟩ [.int .i64 oop, .bool gone, .int .i64 ob.cls, .slice Av ob.slots.length nn, .slice D ob.bytes.length mm] rfl rfl hall ?_)
          | fail)
        go_ret
        exact ⟨ret_bool (by rw [H.out, HC.out, HD.out, HN.out]), hf.tr (hfr.tr hfA)⟩
      | true =>
        have el : decide (oop ≤ last) = false := by simp at hl ⊢; omega
        have HL := Lib.hid hl
        clear hl
        have hoop := oop_calls oop
        cases ho : oopB oop with
        | false =>
          rw [ho] at hoop
          have HN := Lib.hid (chsRight_no2 (last := last) (c := ⟨oop, gone, ob⟩) (r := chs.drop (k + 1)) ho)
          clear ho
          go_wp2_with (first
            | (refine wpList_ldA ag_chp rfl _ rfl ⟨ga, of + k * 5, none⟩ [.int .i64 oop, .bool gone, .int .i64 ob.cls, .slice Av ob.slots.length nn, .slice D ob.bytes.length mm] rfl rfl hall ?_)
            | fail)
          refine (hoop _).mono ?_
          rintro e _ ⟨rfl, rfl⟩
          go_wp2
          go_ret
          exact ⟨ret_bool (by rw [H.out, HC.out, HD.out, HN.out]), hf.tr (hfr.tr hfA)⟩
        | true =>
          rw [ho] at hoop
          have HO := Lib.hid ho
          clear ho
          go_wp2_with (first
            | (refine wpList_ldA ag_chp rfl _ rfl ⟨ga, of + k * 5, none⟩ [.int .i64 oop, .bool gone, .int .i64 ob.cls, .slice Av ob.slots.length nn, .slice D ob.bytes.length mm] rfl rfl hall ?_)
            | fail)
          refine (hoop _).mono ?_
          rintro e _ ⟨rfl, rfl⟩
          have hnall := hnew.all
          go_wp2_with (first
            | (refine wpList_ldA ag_chp rfl _ rfl ⟨wr.heap.size, 0, none⟩ [.int .i64 oop, .bool gone, .int .i64 ob.cls, .slice Av ob.slots.length nn, .slice D ob.bytes.length mm] rfl rfl hnall ?_)
            | fail)
          refine (chright_calls S _ _ _ hcc).mono ?_
          rintro e w4 ⟨rfl, hf4⟩
          have hnew4 := hnew.fr0 hf4
          (have z0 := hnew4.cell 0; have z1 := hnew4.cell 1; have z2 := hnew4.cell 2; have z3 := hnew4.cell 3; have z4 := hnew4.cell 4; have zf0 := hnew4.frozen 0; have zf1 := hnew4.frozen 1; have zf2 := hnew4.frozen 2; have zf3 := hnew4.frozen 3; have zf4 := hnew4.frozen 4; simp only [List.getElem?_toArray, List.getElem?_cons_zero, List.getElem?_cons_succ] at z0 z1 z2 z3 z4)
          cases hc : rightC ⟨oop, gone, ob⟩ with
          | false =>
            have HN := Lib.hid (chsRight_no3 (last := last) (r := chs.drop (k + 1)) hc)
            clear hc
            go_wp2
            go_ret
            exact ⟨ret_bool (by rw [H.out, HC.out, HD.out, HN.out]), hf.tr (hfr.tr (hfA.tr hf4))⟩
          | true =>
            have HN := Lib.hid (chsRight_yes (r := chs.drop (k + 1)) HL.out HO.out hc)
            clear hc
            go_wp2
            go_roundw
            case rel => exact ⟨k + 1, oop, by omega, by go_num, rfl, Lib.hid (by rw [HC.out, HD.out, HN.out]), hfr.tr (hfA.tr hf4)⟩
            case measure => simp [intOf]; omega
    · obtain rfl : k = chs.length := by omega
      have ek : decide ((chs.length : Int) < chs.length) = false := by simp
      have HE := Lib.hid (show rightR ⟨com, chs⟩ = true by rw [H.out, HC.out, List.drop_length]; rfl)
      go_wp2
      go_ret
      exact ⟨ret_bool HE.out.symm, hf.tr hfr⟩

end Go.Proofs.Ytifcnjebepipnaa
