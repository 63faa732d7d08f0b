/- An object that is read, by the reference's scanner. No condition. -/
import Derived.Test.YtfgkioigbnlkkaaObj
namespace Go.Proofs.Ytfgkioigbnlkkaa
set_option linter.unusedVariables false
set_option linter.unusedSimpArgs false
open Go.RowKit

set_option maxHeartbeats 1000000 in
set_option maxRecDepth 100000 in
theorem refstext_calls (S : Nat → Prop) (g : Nat) (s : St) (w : World) (h : ScanAt 72 w S g s) :
    Calls Try.prog 63 #[.pointer (some ⟨g, 0, none⟩)] w fun e w' => ∃ v, e = .returned v ∧ w'.ownsRow w.heap.size 5 1 v (textO s).1.length (U8 (textO s).1) ∧ ScanAt 72 w' S g (textO s).2 ∧ Fr (fun b => b = g) w w' := by
  have hgl := h.lt
  have hSn := h.not
  replace h := h.down
  obtain ⟨A, l, c, hb, hr, hc, hcm, hs, hS⟩ := h
  have g1 := plain_of Try.underlying4 rfl
  have g2 := plain_of Try.underlying23 rfl
  (have q0 := hb.cell 0; have q1 := hb.cell 1; have qf0 := hb.frozen 0; have qf1 := hb.frozen 1; simp only [List.getElem?_toArray, List.getElem?_cons_zero, List.getElem?_cons_succ] at q0 q1)
  have hle := hr.le
  have hru := refreadtext_calls _ A c l w hr hc hcm
  have hrlen := readT_len l
  obtain ⟨⟨t, k, er⟩, hq⟩ : ∃ p, readT l = p := ⟨_, rfl⟩
  rw [hq] at hru hrlen
  have HT := Lib.hid hq
  clear hq
  cases s with
  | none =>
    simp only [Option.isNone_none] at q1 hb
    clear hs
    go_enter Try.func63, Try.ntmps63
    go_wp2_with fail
    refine hru.mono ?_
    rintro e w1 ⟨v, rfl, hown, hf⟩
    have hb1 := hb.fr0 hf
    clear q0 q1 qf0 qf1
    (have q0 := hb1.cell 0; have q1 := hb1.cell 1; have qf0 := hb1.frozen 0; have qf1 := hb1.frozen 1; simp only [List.getElem?_toArray, List.getElem?_cons_zero, List.getElem?_cons_succ] at q0 q1)
    go_wp2
    go_ret
    exact ⟨_, rfl, World.ownsRow_nil _ _ _ _, ScanAt.up ⟨A, l, c, hb1.put 1 _, Rd.set (Rd.fr0 hr hf) hS _, hc, hcm, (fun l' h => by cases h), hS⟩ hSn, (hf.mono (fun _ _ hn => hn.elim)).set1 _ _⟩
  | some l' =>
    simp only [Option.isNone_some] at q1 hb
    obtain rfl : l = l' := (hs l' rfl).symm
    clear hs
    by_cases he : er = 0
    rotate_left
    · have e1 : (er != 0) = true := by simpa using he
      have H := Lib.hid (textO_bad HT.out he)
      clear he
      go_enter Try.func63, Try.ntmps63
      go_wp2_with fail
      refine hru.mono ?_
      rintro e w1 ⟨v, rfl, hown, hf⟩
      have hb1 := hb.fr0 hf
      clear q0 q1 qf0 qf1
      (have q0 := hb1.cell 0; have q1 := hb1.cell 1; have qf0 := hb1.frozen 0; have qf1 := hb1.frozen 1; simp only [List.getElem?_toArray, List.getElem?_cons_zero, List.getElem?_cons_succ] at q0 q1)
      go_wp2
      go_ret
      rw [H.out]
      exact ⟨_, rfl, World.ownsRow_nil _ _ _ _, ScanAt.up ⟨A, l, c, hb1.put 1 _, Rd.set (Rd.fr0 hr hf) hS _, hc, hcm, (fun l' h => by cases h), hS⟩ hSn, (hf.mono (fun _ _ hn => hn.elim)).set1 _ _⟩
    · have e1 : (er != 0) = false := by simpa using he
      subst he
      have hk := readT_used _ _ _ HT.out
      have H := Lib.hid (textO_ok HT.out rfl)
      have hkc : k ≤ c := by omega
      have HC := Lib.hid (RdB.cut hr hc hk)
      by_cases hck : c = k
      · subst hck
        rw [if_pos rfl] at HC
        go_enter Try.func63, Try.ntmps63
        go_wp2_with fail
        refine hru.mono ?_
        rintro e w1 ⟨v, rfl, hown, hf⟩
        have hb1 := hb.fr0 hf
        clear q0 q1 qf0 qf1
        (have q0 := hb1.cell 0; have q1 := hb1.cell 1; have qf0 := hb1.frozen 0; have qf1 := hb1.frozen 1; simp only [List.getElem?_toArray, List.getElem?_cons_zero, List.getElem?_cons_succ] at q0 q1)
        go_wp2
        go_ret
        rw [H.out]
        refine ⟨_, rfl, own_fr hown ((Fr.refl (fun b => b = g) w1).set1 0 _) (fun b hb hT => by have := (hown.lt b hb).1; omega), ScanAt.up ⟨A, l.drop c, 0, ?_, Rd.set (Rd.fr0 HC.out hf) hS _, by simp; omega, by decide, (fun l' h => by injection h with h; exact h.symm), hS⟩ hSn, (hf.mono (fun _ _ hn => hn.elim)).set1 _ _⟩
        rw [List.length_drop, show l.length - c = 0 by omega]
        exact hb1.put 0 _
      · rw [if_neg hck] at HC
        go_enter Try.func63, Try.ntmps63
        go_wp2_with fail
        refine hru.mono ?_
        rintro e w1 ⟨v, rfl, hown, hf⟩
        have hb1 := hb.fr0 hf
        clear q0 q1 qf0 qf1
        (have q0 := hb1.cell 0; have q1 := hb1.cell 1; have qf0 := hb1.frozen 0; have qf1 := hb1.frozen 1; simp only [List.getElem?_toArray, List.getElem?_cons_zero, List.getElem?_cons_succ] at q0 q1)
        go_wp2
        go_ret
        rw [H.out]
        refine ⟨_, rfl, own_fr hown ((Fr.refl (fun b => b = g) w1).set1 0 _) (fun b hb hT => by have := (hown.lt b hb).1; omega), ScanAt.up ⟨A.map (·.add k), l.drop k, c - k, ?_, Rd.set (Rd.fr0 HC.out hf) hS _, by simp; omega, by omega, (fun l' h => by injection h with h; exact h.symm), hS⟩ hSn, (hf.mono (fun _ _ hn => hn.elim)).set1 _ _⟩
        rw [List.length_drop]
        exact hb1.put 0 _
/-- Behind k rounds. -/
def RInv (n : Nat) (s2 : St) (k : Nat) (acc : List VL) (sK : St) : Prop := (sK.isSome = true → valsO n s2 = (acc ++ (valsO (n - k) sK).1, (valsO (n - k) sK).2)) ∧ (sK = none → (valsO n s2).2 = none)
theorem RInv.start {n : Nat} {s2 : St} : RInv n s2 0 [] s2 := ⟨fun _ => by simp, fun h => by subst h; exact valsO_none n⟩
theorem RInv.step {n k : Nat} {s2 : St} {acc : List VL} {l : List UInt8} (h : RInv n s2 k acc (some l)) (hk : k < n) : RInv n s2 (k + 1) (acc ++ [(valO (some l)).1]) (valO (some l)).2 := by
  have h1 := h.1 rfl
  obtain ⟨m, hm⟩ : ∃ m, n - k = m + 1 := ⟨n - k - 1, by omega⟩
  rw [hm] at h1
  have hm2 : n - (k + 1) = m := by omega
  refine ⟨fun hs => ?_, fun hs => ?_⟩
  · obtain ⟨r, hr⟩ := Option.isSome_iff_exists.1 hs
    rw [h1, valsO_go hr, hr, hm2]; simp
  · rw [h1, valsO_stop hs]
theorem RInv.end_ {n k : Nat} {s2 : St} {acc : List VL} {sK : St} (h : RInv n s2 k acc sK) (hk : k = n ∨ sK = none) : (valsO n s2).2 = sK ∧ (sK.isSome = true → acc = (valsO n s2).1) := by
  cases sK with
  | none => exact ⟨h.2 rfl, fun hh => by cases hh⟩
  | some l =>
    rcases hk with rfl | hk
    · have h1 := h.1 rfl
      rw [Nat.sub_self] at h1
      rw [h1]
      exact ⟨rfl, fun _ => by simp [valsO]⟩
    · cases hk
set_option maxHeartbeats 4000000 in
set_option maxRecDepth 100000 in
theorem refobj_calls (S : Nat → Prop) (g : Nat) (s : St) (w : World) (h : ScanAt 72 w S g s) :
    Calls Try.prog 41 #[.pointer (some ⟨g, 0, none⟩)] w fun e w' => ∃ cs, e = .returned (.agg cs.toArray) ∧ ObjRet w' w.heap.size cs (objO s) ∧ ScanAt 72 w' S g (objO s).2 ∧ Fr (fun b => b = g) w w' := by
  have hgl := h.lt
  have hS := h.not
  replace h := h.down
  have g1 := plain_int
  have g2 := plain_i64
  have g4 := plain_lval
  have g5 := plain_lu8
  have g6 := plain_bool
  go_enter Try.func41, Try.ntmps41
  go_wp2_with fail
  refine (refnum_calls _ g 4096 s _ (h.fr0 ((Fr.refl No w).alloc _)) (by decide)).mono ?_
  rintro e w1 ⟨rfl, hs1, hf1⟩
  have hb0 := (Blk.new w 25 #[.int .i64 0, .slice none 0 0, .slice none 0 0]).fr hf1 (by omega)
  have hl0 := hb0.lt
  have hf01 : Fr (fun b => b = g) w w1 := ((Fr.refl No w).alloc _ |>.mono (fun _ _ hn => hn.elim)).trans hf1 (fun _ _ h => h)
  have hle1 := numO_le 4096 s
  obtain ⟨⟨cl, s1⟩, hq⟩ : ∃ p, numO 4096 s = p := ⟨_, rfl⟩
  simp only [hq] at hs1 hle1 ⊢
  have HQ1 := Lib.hid hq
  clear hq
  go_wp2_with fail
  refine (refnum_calls _ g 256 s1 _ (hs1.fr0 ((Fr.refl No w1).alloc _)) (by decide)).mono ?_
  rintro e w2 ⟨rfl, hs2, hf2⟩
  have hb1 := (Blk.new w1 25 #[.int .i64 cl, .slice none 0 0, .slice none 0 0]).fr hf2 (by omega)
  have hl1 := hb1.lt
  have hf02 : Fr (fun b => b = g) w w2 := hf01.trans (((Fr.refl No w1).alloc _ |>.mono (fun _ _ hn => hn.elim)).trans hf2 (fun _ _ h => h)) (fun _ _ h => h)
  replace hb0 := (hb0.alloc (.cells #[.int .i64 cl, .slice none 0 0, .slice none 0 0] 25)).fr hf2 (by omega)
  have hle2 := numO_le 256 s1
  obtain ⟨⟨n, s2⟩, hq⟩ : ∃ p, numO 256 s1 = p := ⟨_, rfl⟩
  simp only [hq] at hs2 hle2 ⊢
  have HQ2 := Lib.hid hq
  clear hq hs1 hf1 hf2 h hf01
  obtain ⟨B0, hB0⟩ : ∃ B0, w.heap.size = B0 := ⟨_, rfl⟩
  obtain ⟨B1, hB1⟩ : ∃ B1, w1.heap.size = B1 := ⟨_, rfl⟩
  have hB01 : B0 < B1 := by omega
  have hgB0 : g < B0 := by omega
  have hs2z := hs2.lt
  have HB0 := Lib.hid hB0
  simp only [hB0, hB1] at hb0 hb1 hl1 hs2 hl0 hgl ⊢
  clear hB0 hB1 hl0 hgl
  go_upto_block 0 with fail
  go_cut [] (fun wx => ∃ (acc : List VL) (A : Option Addr) (c : Nat), acc.length ≤ 256 ∧ ScanAt 72 wx (fun b => S b ∧ b < B0) g (valsO n s2).2 ∧ Hid ((valsO n s2).2.isSome = true → acc = (valsO n s2).1) ∧
      Blk wx B0 25 #[.int .i64 0, .slice none 0 0, .slice none 0 0] ∧ Blk wx B1 25 #[.int .i64 cl, .slice A acc.length c, .slice none 0 0] ∧ wx.ownsRow (B1 + 1) 41 2 (.slice A acc.length c) acc.length (vals acc) ∧ Fr (fun b => b = g) w wx)
  case first =>
    go_wp2_with fail
    go_loopw [5] (fun i wr => ∃ (acc : List VL) (A : Option Addr) (c : Nat) (sK : St), acc.length ≤ n ∧ i = .int .u64 (acc.length : Int) ∧ ScanAt 72 wr (fun b => S b ∧ b < B0) g sK ∧ Hid (RInv n s2 acc.length acc sK) ∧
      Blk wr B0 25 #[.int .i64 0, .slice none 0 0, .slice none 0 0] ∧ Blk wr B1 25 #[.int .i64 cl, .slice A acc.length c, .slice none 0 0] ∧ wr.ownsRow (B1 + 1) 41 2 (.slice A acc.length c) acc.length (vals acc) ∧ Fr (fun b => b = g) w wr) (fun i _ => n - (intOf i).toNat)
    case atStart => exact ⟨[], none, 0, s2, by simp, rfl, hs2, Lib.hid RInv.start, hb0, hb1, World.ownsRow_nil _ _ _ _, hf02⟩
    case round =>
      obtain ⟨acc, A, c, sK, hm, rfl, hsK, HV, hb0', hb1', hown, hfr⟩ := hrel
      have hsKc := hsK
      obtain ⟨Ag, lg, cg, hbg, hrg, hcg, hcmg, hhg, hSg⟩ := hsKc
      (have p0 := hbg.cell 0; have p1 := hbg.cell 1; have pf0 := hbg.frozen 0; have pf1 := hbg.frozen 1; simp only [List.getElem?_toArray, List.getElem?_cons_zero, List.getElem?_cons_succ] at p0 p1)
      by_cases hlt : acc.length < n
      rotate_left
      · have ek : decide (acc.length < n) = false := by simpa using hlt
        have hend := HV.out.end_ (.inl (by omega))
        go_wp2
        go_meet
        case rel =>
          exact ⟨acc, A, c, by omega, by rw [hend.1]; exact hsK, Lib.hid (by rw [hend.1]; exact hend.2), hb0', hb1', hown, hfr⟩
      have ek : decide (acc.length < n) = true := by simpa using hlt
      cases sK with
      | none =>
        have hend := HV.out.end_ (.inr rfl)
        simp only [Option.isNone_none] at p1
        go_wp2
        go_meet
        case rel =>
          exact ⟨acc, A, c, by omega, by rw [hend.1]; exact hsK, Lib.hid (by rw [hend.1]; exact hend.2), hb0', hb1', hown, hfr⟩
      | some l =>
        simp only [Option.isNone_some] at p1
        have HST := Lib.hid (HV.out.step hlt)
        have HI := Lib.hid (@valO_int (some l))
        have HF := Lib.hid (@valO_ref (some l))
        have HP := Lib.hid (@valO_plain (some l))
        have hle := oneO_le 4 (some l)
        go_wp2_with fail
        refine (refone_calls _ g 4 (some l) _ hsK (by decide)).mono ?_
        rintro e w3 ⟨rfl, hs3, hf3⟩
        have hb03 := hb0'.fr hf3 (by omega)
        have hb13 := hb1'.fr hf3 (by omega)
        have hown3 := own_fr hown hf3 (fun b hb hT => by have := (hown.lt _ hb).1; omega)
        have hfr3 := hfr.trans hf3 (fun _ _ h => h)
        have hg3 := hs3.lt
        have hl13 := hb13.lt
        clear p0 p1 pf0 pf1 hbg hrg hb0' hb1' hsK hown hfr hf3
        obtain ⟨⟨ch, s1'⟩, hq⟩ : ∃ p, oneO 4 (some l) = p := ⟨_, rfl⟩
        simp only [hq] at hs3 hle HI HF HP ⊢
        clear hq
        by_cases h3 : ch = 3
        · subst h3
          have HVO := Lib.hid (HI.out rfl)
          clear HI HF HP
          go_wp2_with fail
          refine (refnum_calls _ g 18446744073709551615 s1' _ (hs3.fr0 ((Fr.refl No w3).alloc _)) (by decide)).mono ?_
          rintro e w4 ⟨rfl, hs4, hf4⟩
          have hbV := (Blk.new w3 41 #[.int .i64 3, .int .i64 0]).fr hf4 (by omega)
          have hb04 := (hb03.alloc (.cells #[.int .i64 3, .int .i64 0] 41)).fr hf4 (by omega)
          have hb14 := (hb13.alloc (.cells #[.int .i64 3, .int .i64 0] 41)).fr hf4 (by omega)
          have hown4 := own_fr (hown3.alloc (.cells #[.int .i64 3, .int .i64 0] 41)) hf4 (fun b hb hT => by have := (hown3.lt _ hb).1; omega)
          have hfr4 := hfr3.trans (((Fr.refl No w3).alloc _ |>.mono (fun _ _ hn => hn.elim)).trans hf4 (fun _ _ h => h)) (fun _ _ h => h)
          have hlt := numO_lt 18446744073709551615 s1'
          have hle2 := numO_le 18446744073709551615 s1'
          try simp only at HVO
          obtain ⟨⟨x, sN⟩, hq⟩ : ∃ p, numO 18446744073709551615 s1' = p := ⟨_, rfl⟩
          rw [hq] at HVO
          simp only [hq] at hs4 hlt hle2 HVO ⊢
          clear hq
          (have p0 := hbV.cell 0; have p1 := hbV.cell 1; have pf0 := hbV.frozen 0; have pf1 := hbV.frozen 1; simp only [List.getElem?_toArray, List.getElem?_cons_zero, List.getElem?_cons_succ] at p0 p1)
          go_wp2_with fail
          refine (refunfold_calls (x : Int) _ (by omega) (by omega)).mono ?_
          rintro e _ ⟨rfl, rfl⟩
          have hlV := hbV.lt
          have hf44 : Fr (fun b => b = w3.heap.size) w4 (w4.setCell ⟨w3.heap.size, 1, none⟩ (.int .i64 (unfoldZ x))) := (Fr.refl _ w4).set1 1 _
          have hv4 : Blk (w4.setCell ⟨w3.heap.size, 1, none⟩ (.int .i64 (unfoldZ x))) w3.heap.size 41 #[.int .i64 3, .int .i64 (unfoldZ x)] := hbV.put 1 _
          replace hb04 := hb04.fr hf44 (by omega)
          replace hb14 := hb14.fr hf44 (by omega)
          have hlw3 := fun b (hb : (Value.slice A acc.length c).ownBlock = some b) => hown3.lt b hb
          replace hown4 := own_fr hown4 hf44 (fun b hb hT => by have := (hlw3 b hb).2; omega)
          have hsN := hs4.fr hf44 (by omega) (fun b hb => by omega)
          replace hfr4 := hfr4.trans hf44 (fun b hb hT => by have := HB0.out; omega)
          clear hbV hlw3
          go_upto_region 11 with fail
          generalize hw44 : w4.setCell ⟨w3.heap.size, 1, none⟩ (.int .i64 (unfoldZ x)) = w44 at *
          clear hw44
          have hv4' := hv4.all
          have hl14 := hb14.lt
          (have r0 := hb14.cell 0; have r1 := hb14.cell 1; have rf0 := hb14.frozen 0; have rf1 := hb14.frozen 1; simp only [List.getElem?_toArray, List.getElem?_cons_zero, List.getElem?_cons_succ] at r0 r1)
          go_wp2_with (first
            | (refine wpList_ldA ag_val rfl _ rfl ⟨w3.heap.size, 0, none⟩ [.int .i64 3, .int .i64 (unfoldZ x)] rfl rfl hv4' ?_)
            | (refine wpList_app_hid so_val rfl (hown4.alloc _) ((Blk.new _ _ _).rd (size := 2) (n := 1) (by rfl) (by decide)) (by intro u hu; simp at hu; rcases hu with rfl | rfl <;> rfl) (by omega) (by simp; omega) rfl rfl rfl ?_; intro v5 w5 hown5 hg5 hat5; obtain ⟨A5, c5, rfl, hc5, hc5m, _⟩ := own_form hown5; have hb15 := (hb14.alloc (.cells #[.int .i64 3, .int .i64 (unfoldZ x)] 41)).grown hg5 (fun hh => by have := (hown4.lt B1 hh.symm).1; omega); (have z0 := hb15.cell 0; have z1 := hb15.cell 1; have zf0 := hb15.frozen 0; have zf1 := hb15.frozen 1; simp only [List.getElem?_toArray, List.getElem?_cons_zero, List.getElem?_cons_succ] at z0 z1))
            | fail)
          have hb05 := (hb04.alloc (.cells #[.int .i64 3, .int .i64 (unfoldZ x)] 41)).grown hg5 (fun hh => by have := (hown4.lt B0 hh.symm).1; omega)
          have hf45 : Fr (fun b => (Value.slice A acc.length c).ownBlock = some b) w44 w5 := ((Fr.refl _ w44).alloc _).grown hg5 (fun q hq => .inr hq)
          have hlw := fun b (hb : (Value.slice A acc.length c).ownBlock = some b) => (hown4.lt b hb).1
          have hfB : Fr (fun b => b = g) w w5 := (hfr4.alloc _).grown hg5 (fun q hq => .inl (by have := hlw q hq; have := HB0.out; omega))
          go_roundw
          case rel =>
            refine ⟨acc ++ [⟨3, (unfoldZ x)⟩], A5, c5, sN, by simp; omega, by simp, ?_, Lib.hid ?_, hb05.far (by simp; omega) _, ?_, ?_, ?_⟩
            · refine (hsN.fr hf45 (fun hh => by have := hlw g hh; omega) (fun b hb hh => by have := hlw b hh; omega)).fr ((Fr.refl (fun b => b = B1) w5).set1 1 _) (by omega) (fun b hb => by omega)
            · have := HST.out; rw [HVO.out] at this; rw [List.length_append]; exact this
            · have := hb15.put 1 (.slice A5 (acc.length + 1) c5)
              rw [List.length_append]; exact this
            · rw [vals_append, List.length_append]
              exact own_fr hown5 ((Fr.refl (fun b => b = B1) w5).set1 1 _) (fun b hb hh => by have := (hown5.lt b hb).1; omega)
            · exact hfB.set (.inl (by simp; have := HB0.out; omega)) _
          case measure => simp [intOf]; omega
        by_cases h4 : ch = 4
        · subst h4
          have HVO := Lib.hid (HF.out rfl)
          clear HI HF HP
          go_wp2_with fail
          refine (refnum_calls _ g 4096 s1' _ (hs3.fr0 ((Fr.refl No w3).alloc _)) (by decide)).mono ?_
          rintro e w4 ⟨rfl, hs4, hf4⟩
          have hbV := (Blk.new w3 41 #[.int .i64 4, .int .i64 0]).fr hf4 (by omega)
          have hb04 := (hb03.alloc (.cells #[.int .i64 4, .int .i64 0] 41)).fr hf4 (by omega)
          have hb14 := (hb13.alloc (.cells #[.int .i64 4, .int .i64 0] 41)).fr hf4 (by omega)
          have hown4 := own_fr (hown3.alloc (.cells #[.int .i64 4, .int .i64 0] 41)) hf4 (fun b hb hT => by have := (hown3.lt _ hb).1; omega)
          have hfr4 := hfr3.trans (((Fr.refl No w3).alloc _ |>.mono (fun _ _ hn => hn.elim)).trans hf4 (fun _ _ h => h)) (fun _ _ h => h)
          have hlt := numO_lt 4096 s1'
          have hle2 := numO_le 4096 s1'
          try simp only at HVO
          obtain ⟨⟨x, sN⟩, hq⟩ : ∃ p, numO 4096 s1' = p := ⟨_, rfl⟩
          rw [hq] at HVO
          simp only [hq] at hs4 hlt hle2 HVO ⊢
          clear hq
          (have p0 := hbV.cell 0; have p1 := hbV.cell 1; have pf0 := hbV.frozen 0; have pf1 := hbV.frozen 1; simp only [List.getElem?_toArray, List.getElem?_cons_zero, List.getElem?_cons_succ] at p0 p1)
          have hlV := hbV.lt
          have hf44 : Fr (fun b => b = w3.heap.size) w4 (w4.setCell ⟨w3.heap.size, 1, none⟩ (.int .i64 x)) := (Fr.refl _ w4).set1 1 _
          have hv4 : Blk (w4.setCell ⟨w3.heap.size, 1, none⟩ (.int .i64 x)) w3.heap.size 41 #[.int .i64 4, .int .i64 x] := hbV.put 1 _
          replace hb04 := hb04.fr hf44 (by omega)
          replace hb14 := hb14.fr hf44 (by omega)
          have hlw3 := fun b (hb : (Value.slice A acc.length c).ownBlock = some b) => hown3.lt b hb
          replace hown4 := own_fr hown4 hf44 (fun b hb hT => by have := (hlw3 b hb).2; omega)
          have hsN := hs4.fr hf44 (by omega) (fun b hb => by omega)
          replace hfr4 := hfr4.trans hf44 (fun b hb hT => by have := HB0.out; omega)
          clear hbV hlw3
          go_upto_region 11 with fail
          generalize hw44 : w4.setCell ⟨w3.heap.size, 1, none⟩ (.int .i64 x) = w44 at *
          clear hw44
          have hv4' := hv4.all
          have hl14 := hb14.lt
          (have r0 := hb14.cell 0; have r1 := hb14.cell 1; have rf0 := hb14.frozen 0; have rf1 := hb14.frozen 1; simp only [List.getElem?_toArray, List.getElem?_cons_zero, List.getElem?_cons_succ] at r0 r1)
          go_wp2_with (first
            | (refine wpList_ldA ag_val rfl _ rfl ⟨w3.heap.size, 0, none⟩ [.int .i64 4, .int .i64 x] rfl rfl hv4' ?_)
            | (refine wpList_app_hid so_val rfl (hown4.alloc _) ((Blk.new _ _ _).rd (size := 2) (n := 1) (by rfl) (by decide)) (by intro u hu; simp at hu; rcases hu with rfl | rfl <;> rfl) (by omega) (by simp; omega) rfl rfl rfl ?_; intro v5 w5 hown5 hg5 hat5; obtain ⟨A5, c5, rfl, hc5, hc5m, _⟩ := own_form hown5; have hb15 := (hb14.alloc (.cells #[.int .i64 4, .int .i64 x] 41)).grown hg5 (fun hh => by have := (hown4.lt B1 hh.symm).1; omega); (have z0 := hb15.cell 0; have z1 := hb15.cell 1; have zf0 := hb15.frozen 0; have zf1 := hb15.frozen 1; simp only [List.getElem?_toArray, List.getElem?_cons_zero, List.getElem?_cons_succ] at z0 z1))
            | fail)
          have hb05 := (hb04.alloc (.cells #[.int .i64 4, .int .i64 x] 41)).grown hg5 (fun hh => by have := (hown4.lt B0 hh.symm).1; omega)
          have hf45 : Fr (fun b => (Value.slice A acc.length c).ownBlock = some b) w44 w5 := ((Fr.refl _ w44).alloc _).grown hg5 (fun q hq => .inr hq)
          have hlw := fun b (hb : (Value.slice A acc.length c).ownBlock = some b) => (hown4.lt b hb).1
          have hfB : Fr (fun b => b = g) w w5 := (hfr4.alloc _).grown hg5 (fun q hq => .inl (by have := hlw q hq; have := HB0.out; omega))
          go_roundw
          case rel =>
            refine ⟨acc ++ [⟨4, x⟩], A5, c5, sN, by simp; omega, by simp, ?_, Lib.hid ?_, hb05.far (by simp; omega) _, ?_, ?_, ?_⟩
            · refine (hsN.fr hf45 (fun hh => by have := hlw g hh; omega) (fun b hb hh => by have := hlw b hh; omega)).fr ((Fr.refl (fun b => b = B1) w5).set1 1 _) (by omega) (fun b hb => by omega)
            · have := HST.out; rw [HVO.out] at this; rw [List.length_append]; exact this
            · have := hb15.put 1 (.slice A5 (acc.length + 1) c5)
              rw [List.length_append]; exact this
            · rw [vals_append, List.length_append]
              exact own_fr hown5 ((Fr.refl (fun b => b = B1) w5).set1 1 _) (fun b hb hh => by have := (hown5.lt b hb).1; omega)
            · exact hfB.set (.inl (by simp; have := HB0.out; omega)) _
          case measure => simp [intOf]; omega
        · have HVO := Lib.hid (HP.out h3 h4)
          have e3 : ((ch : Int) == 3) = false := by simp; omega
          have e4 : ((ch : Int) == 4) = false := by simp; omega
          clear HI HF HP h3 h4
          obtain ⟨sN, hsN'⟩ : ∃ sN, sN = s1' := ⟨_, rfl⟩
          rw [← hsN'] at HVO hs3
          have hfA : Fr No w3 (w3.alloc (.cells #[.int .i64 ch, .int .i64 0] 41)) := (Fr.refl No w3).alloc _
          have hv4 := Blk.new w3 41 #[.int .i64 ch, .int .i64 0]
          have hb04 := hb03.fr0 hfA
          have hb14 := hb13.fr0 hfA
          have hown4 := own_fr0 hown3 hfA
          have hfr4 := hfr3.alloc (.cells #[.int .i64 ch, .int .i64 0] 41)
          have hsN := hs3.fr0 hfA
          clear hsN'
          go_upto_region 11 with fail
          generalize hw4 : w3.alloc (.cells #[.int .i64 ch, .int .i64 0] 41) = w4 at *
          clear hw4
          have hv4' := hv4.all
          have hl14 := hb14.lt
          (have r0 := hb14.cell 0; have r1 := hb14.cell 1; have rf0 := hb14.frozen 0; have rf1 := hb14.frozen 1; simp only [List.getElem?_toArray, List.getElem?_cons_zero, List.getElem?_cons_succ] at r0 r1)
          go_wp2_with (first
            | (refine wpList_ldA ag_val rfl _ rfl ⟨w3.heap.size, 0, none⟩ [.int .i64 ch, .int .i64 0] rfl rfl hv4' ?_)
            | (refine wpList_app_hid so_val rfl (hown4.alloc _) ((Blk.new _ _ _).rd (size := 2) (n := 1) (by rfl) (by decide)) (by intro u hu; simp at hu; rcases hu with rfl | rfl <;> rfl) (by omega) (by simp; omega) rfl rfl rfl ?_; intro v5 w5 hown5 hg5 hat5; obtain ⟨A5, c5, rfl, hc5, hc5m, _⟩ := own_form hown5; have hb15 := (hb14.alloc (.cells #[.int .i64 ch, .int .i64 0] 41)).grown hg5 (fun hh => by have := (hown4.lt B1 hh.symm).1; omega); (have z0 := hb15.cell 0; have z1 := hb15.cell 1; have zf0 := hb15.frozen 0; have zf1 := hb15.frozen 1; simp only [List.getElem?_toArray, List.getElem?_cons_zero, List.getElem?_cons_succ] at z0 z1))
            | fail)
          have hb05 := (hb04.alloc (.cells #[.int .i64 ch, .int .i64 0] 41)).grown hg5 (fun hh => by have := (hown4.lt B0 hh.symm).1; omega)
          have hf45 : Fr (fun b => (Value.slice A acc.length c).ownBlock = some b) w4 w5 := ((Fr.refl _ w4).alloc _).grown hg5 (fun q hq => .inr hq)
          have hlw := fun b (hb : (Value.slice A acc.length c).ownBlock = some b) => (hown4.lt b hb).1
          have hfB : Fr (fun b => b = g) w w5 := (hfr4.alloc _).grown hg5 (fun q hq => .inl (by have := hlw q hq; have := HB0.out; omega))
          go_roundw
          case rel =>
            refine ⟨acc ++ [⟨ch, 0⟩], A5, c5, sN, by simp; omega, by simp, ?_, Lib.hid ?_, hb05.far (by simp; omega) _, ?_, ?_, ?_⟩
            · refine (hsN.fr hf45 (fun hh => by have := hlw g hh; omega) (fun b hb hh => by have := hlw b hh; omega)).fr ((Fr.refl (fun b => b = B1) w5).set1 1 _) (by omega) (fun b hb => by omega)
            · have := HST.out; rw [HVO.out] at this; rw [List.length_append]; exact this
            · have := hb15.put 1 (.slice A5 (acc.length + 1) c5)
              rw [List.length_append]; exact this
            · rw [vals_append, List.length_append]
              exact own_fr hown5 ((Fr.refl (fun b => b = B1) w5).set1 1 _) (fun b hb hh => by have := (hown5.lt b hb).1; omega)
            · exact hfB.set (.inl (by simp; have := HB0.out; omega)) _
          case measure => simp [intOf]; omega
  case rest =>
    obtain ⟨acc, A, c, hac, hsc, HA, hb0', hb1', hown, hfr⟩ := hcut
    clear hb0 hb1 hs2
    obtain ⟨⟨vs, s3⟩, hq⟩ : ∃ p, valsO n s2 = p := ⟨_, rfl⟩
    simp only [hq] at hsc HA
    have HQ3 := Lib.hid hq
    clear hq
    have hl1' := hb1'.lt
    have hlv := fun b (hb : (Value.slice A acc.length c).ownBlock = some b) => hown.lt b hb
    have HLV := Lib.hid hlv
    clear hlv
    go_wp2_with fail
    refine (refstext_calls _ g s3 _ hsc).mono ?_
    rintro e w5 ⟨v5, rfl, hown5, hs5, hf5⟩
    have hrlen : (textO s3).1.length ≤ 60000 := by
      unfold textO
      split
      · simp
      · split
        · exact readT_len _
        · simp
    obtain ⟨⟨t, s4⟩, hq⟩ : ∃ p, textO s3 = p := ⟨_, rfl⟩
    simp only [hq] at hs5 hown5 hrlen
    have HQ4 := Lib.hid hq
    have HA2 : Hid (s4.isSome = true → acc = vs) := Lib.hid (fun hh => HA.out (by
      cases s3 with
      | none => unfold textO at hq; injection hq with _ hq; subst hq; cases hh
      | some l => rfl))
    clear hq
    obtain ⟨A5, c5, rfl, hc5, hc5m, hA5⟩ := own_form hown5
    have hb05 := hb0'.fr hf5 (by omega)
    have hb15 := hb1'.fr hf5 (by omega)
    have hownv := own_fr hown hf5 (fun b hb hT => by have := (hown.lt b hb).1; omega)
    have hfr5 := hfr.trans hf5 (fun b _ h => h)
    have hz5 := hf5.size
    have hf56 : Fr (fun b => b = B1) w5 (w5.setCell ⟨B1, 2, none⟩ (.slice A5 t.length c5)) := (Fr.refl _ w5).set1 2 _
    have hb16 : Blk (w5.setCell ⟨B1, 2, none⟩ (.slice A5 t.length c5)) B1 25 #[.int .i64 cl, .slice A acc.length c, .slice A5 t.length c5] := hb15.put 2 _
    have hb06 := hb05.fr hf56 (by omega)
    have hs6 := hs5.fr hf56 (by omega) (fun b hb => by omega)
    have hlv := HLV.out
    have hownv6 := own_fr hownv hf56 (fun b hb hT => by have := (hlv b hb).1; omega)
    have hown56 := own_fr hown5 hf56 (fun b hb hT => by have := (hown5.lt b hb).1; omega)
    have hfr6 : Fr (fun b => b = g) w (w5.setCell ⟨B1, 2, none⟩ (.slice A5 t.length c5)) := hfr5.trans hf56 (fun b hb hT => by have := HB0.out; omega)
    (have r0 := hb15.cell 0; have r1 := hb15.cell 1; have r2 := hb15.cell 2; have rf0 := hb15.frozen 0; have rf1 := hb15.frozen 1; have rf2 := hb15.frozen 2; simp only [List.getElem?_toArray, List.getElem?_cons_zero, List.getElem?_cons_succ] at r0 r1 r2)
    go_upto_region 13 with fail
    generalize hw6 : w5.setCell ⟨B1, 2, none⟩ (.slice A5 t.length c5) = w6 at *
    clear hw6 r0 r1 r2 rf0 rf1 rf2
    obtain ⟨_, _, e9, _, _, hAa⟩ := own_form hownv6
    injection e9 with e91 e92 e93
    subst e91 e93
    clear e92
    obtain ⟨Ag, lg, cg, hbg, hrg, hcg, hcmg, hhg, hSg⟩ := hs6
    have hobj : ObjC w6 (fun _ => True) [.int .i64 cl, .slice A acc.length c, .slice A5 t.length c5] ⟨cl, acc, t⟩ := ⟨A, c, A5, c5, rfl, (own_rd hownv6 (by omega)).mono (fun _ _ _ => trivial) (by decide), (own_rd hown56 (by omega)).mono (fun _ _ _ => trivial) (by decide)⟩
    (have p0 := hbg.cell 0; have p1 := hbg.cell 1; have pf0 := hbg.frozen 0; have pf1 := hbg.frozen 1; simp only [List.getElem?_toArray, List.getElem?_cons_zero, List.getElem?_cons_succ] at p0 p1)
    (have r0 := hb16.cell 0; have r1 := hb16.cell 1; have r2 := hb16.cell 2; have rf0 := hb16.frozen 0; have rf1 := hb16.frozen 1; have rf2 := hb16.frozen 2; simp only [List.getElem?_toArray, List.getElem?_cons_zero, List.getElem?_cons_succ] at r0 r1 r2)
    (have q0 := hb06.cell 0; have q1 := hb06.cell 1; have q2 := hb06.cell 2; have qf0 := hb06.frozen 0; have qf1 := hb06.frozen 1; have qf2 := hb06.frozen 2; simp only [List.getElem?_toArray, List.getElem?_cons_zero, List.getElem?_cons_succ] at q0 q1 q2)
    cases s4 with
    | none =>
      simp only [Option.isNone_none] at p1 hbg
      have HE := Lib.hid (objO_none HQ1.out HQ2.out HQ3.out HQ4.out)
      go_wp2_with fail
      have hbz := (((hb06.far (p := ⟨g, 1, none⟩) (by simp; omega) (.bool true)).put 0 (.int .i64 cl)).put 1 (.slice A acc.length c)).put 2 (.slice A5 t.length c5)
      have hbq := (((hbg.put 1 (.bool true)).far (p := ⟨B0, 0, none⟩) (by simp; omega) (.int .i64 cl)).far (p := ⟨B0, 1, none⟩) (by simp; omega) (.slice A acc.length c)).far (p := ⟨B0, 2, none⟩) (by simp; omega) (.slice A5 t.length c5)
      have hfz : Fr (fun b => b = g ∨ b = B0) w6 ((((w6.setCell ⟨g, 1, none⟩ (.bool true)).setCell ⟨B0, 0, none⟩ (.int .i64 cl)).setCell ⟨B0, 1, none⟩ (.slice A acc.length c)).setCell ⟨B0, 2, none⟩ (.slice A5 t.length c5)) := ((((Fr.refl _ w6).set (.inr (.inl rfl)) _).set (.inr (.inr rfl)) _).set (.inr (.inr rfl)) _).set (.inr (.inr rfl)) _
      refine bodyPost_ret (results_blk ag_obj rfl _ _ _ _ _ rfl hbz rfl) rfl ⟨[.int .i64 cl, .slice A acc.length c, .slice A5 t.length c5], rfl, ⟨⟨_, _, _, _, _, _, _, rfl⟩, fun hh => ?_⟩, ?_, hfr6.trans hfz (fun b hb hT => by have := HB0.out; omega)⟩
      · rw [HE.out] at hh; cases hh
      · rw [HE.out]
        exact ScanAt.up ⟨Ag, lg, cg, hbq, Rd.fr hrg hfz (fun b hb hT => by rcases hT with rfl | rfl; exact hSg hb; exact absurd hb.2 (by omega)), hcg, hcmg, (fun l' h => by cases h), hSg⟩ hS
    | some l3 =>
      simp only [Option.isNone_some] at p1 hbg
      obtain rfl : lg = l3 := (hhg l3 rfl).symm
      have hav := HA2.out rfl
      subst hav
      have HE := Lib.hid (objO_some HQ1.out HQ2.out HQ3.out HQ4.out)
      go_wp2_with fail
      refine (refrighto_calls _ _ _ _ hobj).mono ?_
      rintro e w7 ⟨rfl, hf7⟩
      have hbg7 := hbg.fr0 hf7
      have hb17 := hb16.fr0 hf7
      have hb07 := hb06.fr0 hf7
      have hownv7 := own_fr0 hownv6 hf7
      have hown57 := own_fr0 hown56 hf7
      have hr7 := Rd.fr0 hrg hf7
      have hfr7 := hfr6.trans (hf7.mono (fun _ _ hn => hn.elim)) (fun b _ h => h)
      clear p0 p1 pf0 pf1 r0 r1 r2 rf0 rf1 rf2 q0 q1 q2 qf0 qf1 qf2
      (have p0 := hbg7.cell 0; have p1 := hbg7.cell 1; have pf0 := hbg7.frozen 0; have pf1 := hbg7.frozen 1; simp only [List.getElem?_toArray, List.getElem?_cons_zero, List.getElem?_cons_succ] at p0 p1)
      (have r0 := hb17.cell 0; have r1 := hb17.cell 1; have r2 := hb17.cell 2; have rf0 := hb17.frozen 0; have rf1 := hb17.frozen 1; have rf2 := hb17.frozen 2; simp only [List.getElem?_toArray, List.getElem?_cons_zero, List.getElem?_cons_succ] at r0 r1 r2)
      (have q0 := hb07.cell 0; have q1 := hb07.cell 1; have q2 := hb07.cell 2; have qf0 := hb07.frozen 0; have qf1 := hb07.frozen 1; have qf2 := hb07.frozen 2; simp only [List.getElem?_toArray, List.getElem?_cons_zero, List.getElem?_cons_succ] at q0 q1 q2)
      cases hro : rightO ⟨cl, acc, t⟩ with
      | true =>
        rw [hro, if_pos rfl] at HE
        clear hro
        go_wp2_with fail
        have hbz := (((hb07.far (p := ⟨g, 1, none⟩) (by simp; omega) (.bool false)).put 0 (.int .i64 cl)).put 1 (.slice A acc.length c)).put 2 (.slice A5 t.length c5)
        have hbq := (((hbg7.put 1 (.bool false)).far (p := ⟨B0, 0, none⟩) (by simp; omega) (.int .i64 cl)).far (p := ⟨B0, 1, none⟩) (by simp; omega) (.slice A acc.length c)).far (p := ⟨B0, 2, none⟩) (by simp; omega) (.slice A5 t.length c5)
        have hfz : Fr (fun b => b = g ∨ b = B0) w7 ((((w7.setCell ⟨g, 1, none⟩ (.bool false)).setCell ⟨B0, 0, none⟩ (.int .i64 cl)).setCell ⟨B0, 1, none⟩ (.slice A acc.length c)).setCell ⟨B0, 2, none⟩ (.slice A5 t.length c5)) := ((((Fr.refl _ w7).set (.inr (.inl rfl)) _).set (.inr (.inr rfl)) _).set (.inr (.inr rfl)) _).set (.inr (.inr rfl)) _
        refine bodyPost_ret (results_blk ag_obj rfl _ _ _ _ _ rfl hbz rfl) rfl ⟨[.int .i64 cl, .slice A acc.length c, .slice A5 t.length c5], rfl, ⟨⟨_, _, _, _, _, _, _, rfl⟩, fun hh => ?_⟩, ?_, hfr7.trans hfz (fun b hb hT => by have := HB0.out; omega)⟩
        · rw [HE.out, HB0.out]
          exact ⟨A, c, A5, c5, wc.heap.size, rfl, own_down (own_fr hownv7 hfz (fun b hb hT => by have := (hlv b hb).1; omega)) (by omega), fun b hb => (hlv b hb).2, own_fr hown57 hfz (fun b hb hT => by have := (hown57.lt b hb).1; omega), by omega⟩
        · rw [HE.out]
          exact ScanAt.up ⟨Ag, lg, cg, hbq, Rd.fr hr7 hfz (fun b hb hT => by rcases hT with rfl | rfl; exact hSg hb; exact absurd hb.2 (by omega)), hcg, hcmg, (fun l' h => by injection h with h; exact h.symm), hSg⟩ hS
      | false =>
        rw [hro, if_neg (by decide)] at HE
        clear hro
        go_wp2_with fail
        have hbz := (((hb07.far (p := ⟨g, 1, none⟩) (by simp; omega) (.bool true)).put 0 (.int .i64 cl)).put 1 (.slice A acc.length c)).put 2 (.slice A5 t.length c5)
        have hbq := (((hbg7.put 1 (.bool true)).far (p := ⟨B0, 0, none⟩) (by simp; omega) (.int .i64 cl)).far (p := ⟨B0, 1, none⟩) (by simp; omega) (.slice A acc.length c)).far (p := ⟨B0, 2, none⟩) (by simp; omega) (.slice A5 t.length c5)
        have hfz : Fr (fun b => b = g ∨ b = B0) w7 ((((w7.setCell ⟨g, 1, none⟩ (.bool true)).setCell ⟨B0, 0, none⟩ (.int .i64 cl)).setCell ⟨B0, 1, none⟩ (.slice A acc.length c)).setCell ⟨B0, 2, none⟩ (.slice A5 t.length c5)) := ((((Fr.refl _ w7).set (.inr (.inl rfl)) _).set (.inr (.inr rfl)) _).set (.inr (.inr rfl)) _).set (.inr (.inr rfl)) _
        refine bodyPost_ret (results_blk ag_obj rfl _ _ _ _ _ rfl hbz rfl) rfl ⟨[.int .i64 cl, .slice A acc.length c, .slice A5 t.length c5], rfl, ⟨⟨_, _, _, _, _, _, _, rfl⟩, fun hh => ?_⟩, ?_, hfr7.trans hfz (fun b hb hT => by have := HB0.out; omega)⟩
        · rw [HE.out] at hh; cases hh
        · rw [HE.out]
          exact ScanAt.up ⟨Ag, lg, cg, hbq, Rd.fr hr7 hfz (fun b hb hT => by rcases hT with rfl | rfl; exact hSg hb; exact absurd hb.2 (by omega)), hcg, hcmg, (fun l' h => by cases h), hSg⟩ hS
end Go.Proofs.Ytfgkioigbnlkkaa
