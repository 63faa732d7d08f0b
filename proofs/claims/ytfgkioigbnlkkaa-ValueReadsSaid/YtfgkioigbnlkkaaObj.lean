/- An object that is read, by value's scanner. No condition. -/
import Derived.Test.YtfgkioigbnlkkaaVal
import Derived.Test.YtfgkioigbnlkkaaRightO
import Derived.Test.YtfgkioigbnlkkaaOCopy
import Derived.WalkMore
import Derived.Deep.CutBlock
import Derived.Deep.DeepCutAuto
namespace Go.Proofs.Ytfgkioigbnlkkaa
set_option linter.unusedVariables false
set_option linter.unusedSimpArgs false
open Go.RowKit

/-- What an object's call hands back: an object of its own, or, where something was bad, whatever. -/
def ObjRet (w' : World) (B : Nat) (cs : List Value) (r : ObjM × St) : Prop :=
  (∃ n A c k D d j, cs = [.int .i64 n, .slice A c k, .slice D d j]) ∧ (r.2.isSome = true → ObjOwn w' B cs r.1)
theorem valsO_stop {n : Nat} {l : List UInt8} (h : (valO (some l)).2 = none) : valsO (n + 1) (some l) = ([], none) := by
  rw [valsO, h]
theorem valsO_go {n : Nat} {l r : List UInt8} (h : (valO (some l)).2 = some r) : valsO (n + 1) (some l) = ((valO (some l)).1 :: (valsO n (some r)).1, (valsO n (some r)).2) := by
  rw [valsO, h]
theorem objO_none {s s1 s2 s3 : St} {a b : Nat} {c : List VL} {d : List UInt8} (h1 : numO 4096 s = (a, s1)) (h2 : numO 256 s1 = (b, s2)) (h3 : valsO b s2 = (c, s3)) (h4 : textO s3 = (d, none)) : objO s = (⟨0, [], []⟩, none) := by
  unfold objO; rw [h1]; simp only; rw [h2]; simp only; rw [h3]; simp only; rw [h4]
theorem objO_some {s s1 s2 s3 : St} {a b : Nat} {c : List VL} {d l : List UInt8} (h1 : numO 4096 s = (a, s1)) (h2 : numO 256 s1 = (b, s2)) (h3 : valsO b s2 = (c, s3)) (h4 : textO s3 = (d, some l)) : objO s = if rightO ⟨a, c, d⟩ then (⟨a, c, d⟩, some l) else (⟨0, [], []⟩, none) := by
  unfold objO; rw [h1]; simp only; rw [h2]; simp only; rw [h3]; simp only; rw [h4]
theorem textO_bad {l t : List UInt8} {k : Nat} {e : Int} (h : readT l = (t, k, e)) (he : ¬ e = 0) : textO (some l) = ([], none) := by
  unfold textO; simp only [h]; rw [if_neg he]
theorem textO_ok {l t : List UInt8} {k : Nat} {e : Int} (h : readT l = (t, k, e)) (he : e = 0) : textO (some l) = (t, some (l.drop k)) := by
  unfold textO; simp only [h]; rw [if_pos he]
theorem partM_used (l : List UInt8) (k n : Nat) (h : (partM l k n).2.2 = 0) : (partM l k n).2.1 ≤ l.length ∨ (partM l k n).2.1 = k := by
  obtain ⟨h1, h2, h3⟩ := partM_fine l k n h
  rw [h3]; simp only
  rcases Nat.eq_zero_or_pos n with h4 | h4
  · exact .inr (by omega)
  · exact .inl (by omega)
theorem readT_used (l t : List UInt8) (k : Nat) (h : readT l = (t, k, 0)) : k ≤ l.length := by
  by_cases hu : (readU l).2.2 = 0
  · rw [readT_ok l hu] at h
    have := partM_used l (readU l).2.1 (readU l).1 (by rw [h])
    rw [h] at this
    have h2 := readU_used l
    simp only at this
    omega
  · rw [readT_bad l hu] at h
    injection h with _ h; injection h with _ h; exact absurd h hu
set_option maxHeartbeats 4000000 in
set_option maxRecDepth 100000 in
theorem obj_calls (S : Nat → Prop) (g : Nat) (s : St) (w : World) (h : ScanAt 68 w S g s) :
    Calls Try.prog 40 #[.pointer (some ⟨g, 0, none⟩)] w fun e w' => ∃ cs, e = .returned (.agg cs.toArray) ∧ ObjRet w' w.heap.size cs (objO s) ∧ ScanAt 68 w' S g (objO s).2 ∧ Fr (fun b => b = g) w w' := by
  have hgl := h.lt
  have hS := h.not
  replace h := h.down
  have g1 := plain_int
  have g2 := plain_i64
  have g4 := plain_lval
  have g5 := plain_lu8
  have g6 := plain_bool
  go_enter Try.func40, Try.ntmps40
  go_wp2_with fail
  go_step3
  go_wp2_with fail
  refine (num_calls _ g 4096 s _ (h.fr0 ((Fr.refl No w).alloc _)) (by decide)).mono ?_
  rintro e w1 ⟨rfl, hs1, hf1⟩
  have hb0 := (Blk.new w 25 #[.int .i64 0, .slice none 0 0, .slice none 0 0]).fr hf1 (by omega)
  have hl0 := hb0.lt
  have hf01 : Fr (fun b => b = g) w w1 := ((Fr.refl No w).alloc _ |>.mono (fun _ _ hn => hn.elim)).trans hf1 (fun _ _ h => h)
  have hle1 := numO_le 4096 s
  obtain ⟨⟨cl, s1⟩, hq⟩ : ∃ p, numO 4096 s = p := ⟨_, rfl⟩
  simp only [hq] at hs1 hle1 ⊢
  have HQ1 := Lib.hid hq
  clear hq
  go_wp2_with fail
  refine (num_calls _ g 256 s1 _ (hs1.fr0 ((Fr.refl No w1).alloc _)) (by decide)).mono ?_
  rintro e w2 ⟨rfl, hs2, hf2⟩
  have hb1 := (Blk.new w1 25 #[.int .i64 cl, .slice none 0 0, .slice none 0 0]).fr hf2 (by omega)
  have hl1 := hb1.lt
  have hf02 : Fr (fun b => b = g) w w2 := hf01.trans (((Fr.refl No w1).alloc _ |>.mono (fun _ _ hn => hn.elim)).trans hf2 (fun _ _ h => h)) (fun _ _ h => h)
  replace hb0 := (hb0.alloc (.cells #[.int .i64 cl, .slice none 0 0, .slice none 0 0] 25)).fr hf2 (by omega)
  have hle2 := numO_le 256 s1
  have hnn : (numO 256 s1).2 = none → (numO 256 s1).1 = 0 := fun hh => by
    unfold numO at hh ⊢
    split
    · rfl
    · split
      · rename_i l _ hc; simp only at hh; rw [if_pos hc] at hh; cases hh
      · rfl
  obtain ⟨⟨n, s2⟩, hq⟩ : ∃ p, numO 256 s1 = p := ⟨_, rfl⟩
  simp only [hq] at hs2 hle2 hnn ⊢
  have HQ2 := Lib.hid hq
  have HNN := Lib.hid hnn
  clear hq hnn hs1 hf1 hf2 h hf01
  obtain ⟨B0, hB0⟩ : ∃ B0, w.heap.size = B0 := ⟨_, rfl⟩
  obtain ⟨B1, hB1⟩ : ∃ B1, w1.heap.size = B1 := ⟨_, rfl⟩
  have hB01 : B0 < B1 := by omega
  have hgB0 : g < B0 := by omega
  have hs2z := hs2.lt
  have HB0 := Lib.hid hB0
  simp only [hB0, hB1] at hb0 hb1 hl1 hs2 hl0 hgl ⊢
  clear hB0 hB1 hl0 hgl
  go_wp2_with fail
  go_step3
  go_upto_block 0 with fail
  go_cut [] (fun wx => ∃ (acc : List VL) (A : Option Addr) (c : Nat), acc.length ≤ 256 ∧ ScanAt 68 wx (fun b => S b ∧ b < B0) g (valsO n s2).2 ∧ Hid ((valsO n s2).2.isSome = true → acc = (valsO n s2).1) ∧
      Blk wx B0 25 #[.int .i64 0, .slice none 0 0, .slice none 0 0] ∧ Blk wx B1 25 #[.int .i64 cl, .slice A acc.length c, .slice none 0 0] ∧ wx.ownsRow (B1 + 1) 41 2 (.slice A acc.length c) acc.length (vals acc) ∧ Fr (fun b => b = g) w wx)
  case first =>
    go_wp2_with fail
    go_loopw [4] (fun i wr => ∃ (m : Nat) (acc : List VL) (A : Option Addr) (c : Nat) (sK : St), i = .int .u64 (m : Int) ∧ acc.length + m ≤ 256 ∧ ScanAt 68 wr (fun b => S b ∧ b < B0) g sK ∧ Hid (sK = none → m = 0) ∧ Hid (valsO n s2 = (acc ++ (valsO m sK).1, (valsO m sK).2)) ∧
      Blk wr B0 25 #[.int .i64 0, .slice none 0 0, .slice none 0 0] ∧ Blk wr B1 25 #[.int .i64 cl, .slice A acc.length c, .slice none 0 0] ∧ wr.ownsRow (B1 + 1) 41 2 (.slice A acc.length c) acc.length (vals acc) ∧ Fr (fun b => b = g) w wr) (fun i _ => (intOf i).toNat)
    case atStart => exact ⟨n, [], none, 0, s2, rfl, by simpa using hle2, hs2, HNN, Lib.hid (by simp), hb0, hb1, World.ownsRow_nil _ _ _ _, hf02⟩
    case round =>
      obtain ⟨m, acc, A, c, sK, rfl, hm, hsK, HZ, HV, hb0', hb1', hown, hfr⟩ := hrel
      cases m with
      | zero =>
        go_wp2
        go_meet
        case rel =>
          refine ⟨acc, A, c, by omega, ?_, Lib.hid (fun _ => ?_), hb0', hb1', hown, hfr⟩
          · rw [HV.out]; exact hsK
          · rw [HV.out]; simp [valsO]
      | succ m =>
        cases sK with
        | none => have := HZ.out rfl; omega
        | some l =>
        have hm1 : ((m + 1 : Nat) : Int) = (m : Int) + 1 := by omega
        rw [hm1]
        clear hm1
        have HST := Lib.hid (@valsO_stop m l)
        have HGO := Lib.hid (fun r => @valsO_go m l r)
        go_wp2_with fail
        refine (val_calls _ g (some l) _ hsK).mono ?_
        rintro e w3 ⟨rfl, hs3, hf3⟩
        have hb03 := hb0'.fr hf3 (by omega)
        have hb13 := hb1'.fr hf3 (by omega)
        have hown3 := own_fr hown hf3 (fun b hb hT => by have := (hown.lt _ hb).1; omega)
        have hfr3 := hfr.trans hf3 (fun _ _ h => h)
        generalize valO (some l) = q at *
        obtain ⟨v, s3⟩ := q
        simp only at *
        cases s3 with
        | none =>
          have HST' := Lib.hid (HST.out rfl)
          clear HST HGO
          obtain ⟨A3, l3, c3, hbg, hr3, hc3, hcm3, hh3, hS3⟩ := hs3
          simp only [Option.isNone_none] at hbg
          have hbgA := hbg.alloc (.cells #[.int .i64 v.k, .int .i64 v.n] 41)
          (have p0 := hbgA.cell 0; have p1 := hbgA.cell 1; have pf0 := hbgA.frozen 0; have pf1 := hbgA.frozen 1; simp only [List.getElem?_toArray, List.getElem?_cons_zero, List.getElem?_cons_succ] at p0 p1)
          have hsN : ScanAt 68 (w3.alloc (.cells #[.int .i64 v.k, .int .i64 v.n] 41)) (fun b => S b ∧ b < B0) g none := ⟨A3, l3, c3, hbgA, Rd.alloc hr3 _, hc3, hcm3, (fun l' h => by cases h), hS3⟩
          clear hbg hbgA
          go_wp2
          go_meet
          case rel =>
            refine ⟨acc, A, c, by omega, ?_, Lib.hid (fun hh => ?_), hb03.alloc _, hb13.alloc _, own_fr0 hown3 ((Fr.refl No w3).alloc _), hfr3.alloc _⟩
            · rw [HV.out, HST'.out]; exact hsN
            · rw [HV.out, HST'.out] at hh; cases hh
        | some l3 =>
          have HGO' := Lib.hid (HGO.out l3 rfl)
          clear HST HGO
          have hg3 := hs3.lt
          obtain ⟨A3, l3', c3, hbg, hr3, hc3, hcm3, hh3, hS3⟩ := hs3
          obtain rfl := hh3 l3 rfl
          simp only [Option.isNone_some] at hbg
          have hfA : Fr No w3 (w3.alloc (.cells #[.int .i64 v.k, .int .i64 v.n] 41)) := (Fr.refl No w3).alloc _
          have hv4 := Blk.new w3 41 #[.int .i64 v.k, .int .i64 v.n]
          have hbgA := hbg.fr0 hfA
          have hb04 := hb03.fr0 hfA
          have hb14 := hb13.fr0 hfA
          have hown4 := own_fr0 hown3 hfA
          have hfr4 := hfr3.alloc (.cells #[.int .i64 v.k, .int .i64 v.n] 41)
          have hsN : ScanAt 68 (w3.alloc (.cells #[.int .i64 v.k, .int .i64 v.n] 41)) (fun b => S b ∧ b < B0) g (some l3) := ⟨A3, l3, c3, hbgA, Rd.alloc hr3 _, hc3, hcm3, (fun l' h => by injection h with h; exact h.symm), hS3⟩
          (have p0 := hbgA.cell 0; have p1 := hbgA.cell 1; have pf0 := hbgA.frozen 0; have pf1 := hbgA.frozen 1; simp only [List.getElem?_toArray, List.getElem?_cons_zero, List.getElem?_cons_succ] at p0 p1)
          clear hbg hbgA hr3
          go_upto_region 7 with fail
          generalize hw4 : w3.alloc (.cells #[.int .i64 v.k, .int .i64 v.n] 41) = w4 at *
          clear hw4
          have hv4' := hv4.all
          have hl14 := hb14.lt
          have q1 := hb14.cell 1
          simp only [List.getElem?_toArray, List.getElem?_cons_zero, List.getElem?_cons_succ] at q1
          go_wp2_with (first
            | (refine wpList_ldA ag_val rfl _ rfl ⟨w3.heap.size, 0, none⟩ [.int .i64 v.k, .int .i64 v.n] rfl rfl hv4' ?_)
            | (refine wpList_app_hid so_val rfl (hown4.alloc _) ((Blk.new _ _ _).rd (size := 2) (n := 1) (by rfl) (by decide)) (by intro u hu; simp at hu; rcases hu with rfl | rfl <;> rfl) (by omega) (by simp; omega) rfl rfl rfl ?_; intro v5 w5 hown5 hg5 hat5; obtain ⟨A5, c5, rfl, hc5, hc5m, _⟩ := own_form hown5; have hb15 := (hb14.alloc (.cells #[.int .i64 v.k, .int .i64 v.n] 41)).grown hg5 (fun hh => by have := (hown4.lt B1 hh.symm).1; omega); (have z0 := hb15.cell 0; have z1 := hb15.cell 1; have zf0 := hb15.frozen 0; have zf1 := hb15.frozen 1; simp only [List.getElem?_toArray, List.getElem?_cons_zero, List.getElem?_cons_succ] at z0 z1))
            | fail)
          have hb05 := (hb04.alloc (.cells #[.int .i64 v.k, .int .i64 v.n] 41)).grown hg5 (fun hh => by have := (hown4.lt B0 hh.symm).1; omega)
          have hf45 : Fr (fun b => (Value.slice A acc.length c).ownBlock = some b) w4 w5 := ((Fr.refl _ w4).alloc _).grown hg5 (fun q hq => .inr hq)
          have hlw := fun b (hb : (Value.slice A acc.length c).ownBlock = some b) => (hown4.lt b hb).1
          have hfB : Fr (fun b => b = g) w w5 := (hfr4.alloc _).grown hg5 (fun q hq => .inl (by have := hlw q hq; have := HB0.out; omega))
          go_roundw
          case rel =>
            refine ⟨m, acc ++ [v], A5, c5, some l3, by go_num, by simp; omega, ?_, Lib.hid (fun hh => by cases hh), Lib.hid ?_, hb05.far (by simp; omega) _, ?_, ?_, ?_⟩
            · refine (hsN.fr hf45 (fun hh => by have := hlw g hh; omega) (fun b hb hh => by have := hlw b hh; omega)).fr ((Fr.refl (fun b => b = B1) w5).set1 1 _) (by omega) (fun b hb => by omega)
            · rw [HV.out, HGO'.out]; simp
            · have := hb15.put 1 (.slice A5 (acc.length + 1) c5)
              rw [List.length_append]; exact this
            · rw [vals_append, List.length_append]
              exact own_fr hown5 ((Fr.refl (fun b => b = B1) w5).set1 1 _) (fun b hb hh => by have := (hown5.lt b hb).1; omega)
            · exact hfB.set (.inl (by simp; have := HB0.out; omega)) _
          case measure => simp [intOf]
  case rest =>
    obtain ⟨acc, A, c, hac, hsc, HA, hb0', hb1', hown, hfr⟩ := hcut
    clear hb0 hb1 hs2
    obtain ⟨⟨vs, s3⟩, hq⟩ : ∃ p, valsO n s2 = p := ⟨_, rfl⟩
    simp only [hq] at hsc HA
    have HQ3 := Lib.hid hq
    clear hq HNN
    have hgl := hsc.lt
    have hl1' := hb1'.lt
    obtain ⟨Ag, lg, cg, hbg, hrg, hcg, hcmg, hhg, hSg⟩ := hsc
    (have p0 := hbg.cell 0; have p1 := hbg.cell 1; have pf0 := hbg.frozen 0; have pf1 := hbg.frozen 1; simp only [List.getElem?_toArray, List.getElem?_cons_zero, List.getElem?_cons_succ] at p0 p1)
    have hrl := hrg.le
    have hru := readtext_calls _ Ag cg lg wc hrg hcg hcmg
    have hrlen := readT_len lg
    obtain ⟨⟨t, k, er⟩, hq⟩ : ∃ p, readT lg = p := ⟨_, rfl⟩
    rw [hq] at hru hrlen
    have HT := Lib.hid hq
    clear hq
    go_wp2_with fail
    refine hru.mono ?_
    rintro e w5 ⟨v5, rfl, hown5, hf5⟩
    simp only at hown5 hrlen ⊢
    obtain ⟨A5, c5, rfl, hc5, hc5m, hA5⟩ := own_form hown5
    have hbg5 := hbg.fr0 hf5
    have hb05 := hb0'.fr0 hf5
    have hb15 := hb1'.fr0 hf5
    have hr5 := Rd.fr0 hrg hf5
    have hownv := own_fr0 hown hf5
    have hfr5 := hfr.trans (hf5.mono (fun _ _ hn => hn.elim)) (fun b _ h => h)
    have hz5 := hf5.size
    have hlv := fun b (hb : (Value.slice A acc.length c).ownBlock = some b) => hown.lt b hb
    have HLV := Lib.hid hlv
    clear hlv hbg hb0' hb1' hrg hown hfr hf5 p0 p1 pf0 pf1
    (have p0 := hbg5.cell 0; have p1 := hbg5.cell 1; have pf0 := hbg5.frozen 0; have pf1 := hbg5.frozen 1; simp only [List.getElem?_toArray, List.getElem?_cons_zero, List.getElem?_cons_succ] at p0 p1)
    (have q0 := hb05.cell 0; have q1 := hb05.cell 1; have q2 := hb05.cell 2; have qf0 := hb05.frozen 0; have qf1 := hb05.frozen 1; have qf2 := hb05.frozen 2; simp only [List.getElem?_toArray, List.getElem?_cons_zero, List.getElem?_cons_succ] at q0 q1 q2)
    (have r0 := hb15.cell 0; have r1 := hb15.cell 1; have r2 := hb15.cell 2; have rf0 := hb15.frozen 0; have rf1 := hb15.frozen 1; have rf2 := hb15.frozen 2; simp only [List.getElem?_toArray, List.getElem?_cons_zero, List.getElem?_cons_succ] at r0 r1 r2)
    cases s3 with
    | none =>
      simp only [Option.isNone_none] at p1 hbg5
      have HE := Lib.hid (objO_none HQ1.out HQ2.out HQ3.out rfl)
      go_wp2_with fail
      rw [Exit.noGoto_ret]
      have hbz := ((((hb05.far (p := ⟨g, 1, none⟩) (by simp; omega) (.bool true)).far (p := ⟨g, 1, none⟩) (by simp; omega) (.bool true)).put 0 (.int .i64 cl)).put 1 (.slice A acc.length c)).put 2 (.slice none 0 0)
      have hbq := ((((hbg5.put 1 (.bool true)).put 1 (.bool true)).far (p := ⟨B0, 0, none⟩) (by simp; omega) (.int .i64 cl)).far (p := ⟨B0, 1, none⟩) (by simp; omega) (.slice A acc.length c)).far (p := ⟨B0, 2, none⟩) (by simp; omega) (.slice none 0 0)
      have hfz : Fr (fun b => b = g ∨ b = B0) w5 (((((w5.setCell ⟨g, 1, none⟩ (.bool true)).setCell ⟨g, 1, none⟩ (.bool true)).setCell ⟨B0, 0, none⟩ (.int .i64 cl)).setCell ⟨B0, 1, none⟩ (.slice A acc.length c)).setCell ⟨B0, 2, none⟩ (.slice none 0 0)) := (((((Fr.refl _ w5).set (.inr (.inl rfl)) _).set (.inr (.inl rfl)) _).set (.inr (.inr rfl)) _).set (.inr (.inr rfl)) _).set (.inr (.inr rfl)) _
      refine bodyPost_ret (results_blk ag_obj rfl _ _ _ _ _ rfl hbz rfl) rfl ⟨[.int .i64 cl, .slice A acc.length c, .slice none 0 0], rfl, ⟨⟨_, _, _, _, _, _, _, rfl⟩, fun hh => ?_⟩, ?_, hfr5.trans hfz (fun b hb hT => by have := HB0.out; omega)⟩
      · rw [HE.out] at hh; cases hh
      · rw [HE.out]
        exact ScanAt.up ⟨Ag, lg, cg, hbq, Rd.fr hr5 hfz (fun b hb hT => by rcases hT with rfl | rfl; exact hSg hb; exact absurd hb.2 (by omega)), hcg, hcmg, (fun l' h => by cases h), hSg⟩ hS
    | some l3 =>
      simp only [Option.isNone_some] at p1 hbg5
      obtain rfl : lg = l3 := (hhg l3 rfl).symm
      clear hhg
      replace HA := Lib.hid (HA.out rfl)
      by_cases he : er = 0
      rotate_left
      · have HE := Lib.hid (objO_none HQ1.out HQ2.out HQ3.out (textO_bad HT.out he))
        have e1 : (er != 0) = true := by simpa using he
        clear he
        go_wp2_with fail
        rw [Exit.noGoto_ret]
        have hbz := ((((hb05.far (p := ⟨g, 1, none⟩) (by simp; omega) (.bool true)).far (p := ⟨g, 1, none⟩) (by simp; omega) (.bool true)).put 0 (.int .i64 cl)).put 1 (.slice A acc.length c)).put 2 (.slice none 0 0)
        have hbq := ((((hbg5.put 1 (.bool true)).put 1 (.bool true)).far (p := ⟨B0, 0, none⟩) (by simp; omega) (.int .i64 cl)).far (p := ⟨B0, 1, none⟩) (by simp; omega) (.slice A acc.length c)).far (p := ⟨B0, 2, none⟩) (by simp; omega) (.slice none 0 0)
        have hfz : Fr (fun b => b = g ∨ b = B0) w5 (((((w5.setCell ⟨g, 1, none⟩ (.bool true)).setCell ⟨g, 1, none⟩ (.bool true)).setCell ⟨B0, 0, none⟩ (.int .i64 cl)).setCell ⟨B0, 1, none⟩ (.slice A acc.length c)).setCell ⟨B0, 2, none⟩ (.slice none 0 0)) := (((((Fr.refl _ w5).set (.inr (.inl rfl)) _).set (.inr (.inl rfl)) _).set (.inr (.inr rfl)) _).set (.inr (.inr rfl)) _).set (.inr (.inr rfl)) _
        refine bodyPost_ret (results_blk ag_obj rfl _ _ _ _ _ rfl hbz rfl) rfl ⟨[.int .i64 cl, .slice A acc.length c, .slice none 0 0], rfl, ⟨⟨_, _, _, _, _, _, _, rfl⟩, fun hh => ?_⟩, ?_, hfr5.trans hfz (fun b hb hT => by have := HB0.out; omega)⟩
        · rw [HE.out] at hh; cases hh
        · rw [HE.out]
          exact ScanAt.up ⟨Ag, lg, cg, hbq, Rd.fr hr5 hfz (fun b hb hT => by rcases hT with rfl | rfl; exact hSg hb; exact absurd hb.2 (by omega)), hcg, hcmg, (fun l' h => by cases h), hSg⟩ hS
      · have e1 : (er != 0) = false := by simpa using he
        subst he
        have hk := readT_used _ _ _ HT.out
        have HE := Lib.hid (objO_some HQ1.out HQ2.out HQ3.out (textO_ok HT.out rfl))
        have HC := Lib.hid (RdB.cut (Rd.set hr5 (p := ⟨g, 1, none⟩) hSg (.bool false)) hcg hk)
        have hbgF : Blk (w5.setCell ⟨g, 1, none⟩ (.bool false)) g 68 #[.slice Ag lg.length cg, .bool false] := hbg5.put 1 (.bool false)
        have hb0F := hb05.far (p := ⟨g, 1, none⟩) (by simp; omega) (.bool false)
        have hb1F := hb15.far (p := ⟨g, 1, none⟩) (by simp; omega) (.bool false)
        have hzF : (w5.setCell ⟨g, 1, none⟩ (.bool false)).heap.size = w5.heap.size := by simp
        have hkc : k ≤ cg := by omega
        have hfF : Fr (fun b => b = g) w5 (w5.setCell ⟨g, 1, none⟩ (.bool false)) := (Fr.refl _ w5).set1 1 _
        have hav := HA.out
        subst hav
        clear HA
        by_cases hck : cg = k
        · rw [if_pos hck] at HC
          subst hck
          go_wp2_with fail
          generalize hwF : w5.setCell ⟨g, 1, none⟩ (.bool false) = wF at *
          clear hwF p0 p1 pf0 pf1 q0 q1 q2 qf0 qf1 qf2 r0 r1 r2 rf0 rf1 rf2
          (have p0 := hbgF.cell 0; have p1 := hbgF.cell 1; have pf0 := hbgF.frozen 0; have pf1 := hbgF.frozen 1; simp only [List.getElem?_toArray, List.getElem?_cons_zero, List.getElem?_cons_succ] at p0 p1)
          (have r0 := hb1F.cell 0; have r1 := hb1F.cell 1; have r2 := hb1F.cell 2; have rf0 := hb1F.frozen 0; have rf1 := hb1F.frozen 1; have rf2 := hb1F.frozen 2; simp only [List.getElem?_toArray, List.getElem?_cons_zero, List.getElem?_cons_succ] at r0 r1 r2)
          have hnB : ¬ (g = B1) := by omega
          refine T_begin2 (fun b => b = B1) [12] [0, 1, 2, 3, 4, 5, 6, 7, 8, 9, 10, 11, 12] [9, 12] (by kernel_rfl) (by kernel_rfl) ?_
          simp only [pickOps, List.filterMap_cons, List.filterMap_nil, List.getElem?_cons_zero, List.getElem?_cons_succ, Act.put]
          repeat (first | (refine T_skip (by rfl) (by rfl) (fun _ _ _ h => h) ?_; try simp only [Act.put, List.setIfInBounds_toArray, List.set_cons_zero, List.set_cons_succ]) | (refine T_pass (by rfl) (by rfl) ?_; try simp only [Act.put, List.setIfInBounds_toArray, List.set_cons_zero, List.set_cons_succ]) | (refine T_load (by assumption) (by rfl) (by rfl) (fun _ _ _ _ h => h) rfl rfl (by assumption) (by first | exact (fun hn => hn) | assumption) ?_; try simp only [Act.put, List.setIfInBounds_toArray, List.set_cons_zero, List.set_cons_succ]) | (refine T_nil (by rfl) (by rfl) (fun _ _ _ _ h => h) rfl rfl ?_; try simp only [Act.put, List.setIfInBounds_toArray, List.set_cons_zero, List.set_cons_succ]) | (refine T_quietN (by rfl) (by rfl) (by rfl) (by rfl) (fun _ _ _ _ h => h) (fun K hK => ?_); go_big_quiet_op; refine hK _ ?_; clear hK K) | (refine T_two (by rfl) (by rfl) (by rfl) (by rfl) (fun _ _ _ _ h => h) (fun K hK => ?_); go_big_quiet_op; refine ⟨_, fun _ _ => rfl, ?_⟩; refine hK _ ?_; clear hK K; try simp only [Act.put, List.setIfInBounds_toArray, List.set_cons_zero, List.set_cons_succ]) | fail)
          refine T_call (by rfl) (by rfl) (fun K hK => ?_)
          go_wp2_with fail
          refine hK.out _ _ (((Fr.refl (fun b => b = B1) wF).set1 2 _).drew.drewL) ?_
          clear hK K
          try simp only [Act.put, List.setIfInBounds_toArray, List.set_cons_zero, List.set_cons_succ]
          repeat (first | (refine T_skip (by rfl) (by rfl) (fun _ _ _ h => h) ?_; try simp only [Act.put, List.setIfInBounds_toArray, List.set_cons_zero, List.set_cons_succ]) | (refine T_pass (by rfl) (by rfl) ?_; try simp only [Act.put, List.setIfInBounds_toArray, List.set_cons_zero, List.set_cons_succ]) | (refine T_load (by assumption) (by rfl) (by rfl) (fun _ _ _ _ h => h) rfl rfl (by assumption) (by first | exact (fun hn => hn) | assumption) ?_; try simp only [Act.put, List.setIfInBounds_toArray, List.set_cons_zero, List.set_cons_succ]) | (refine T_nil (by rfl) (by rfl) (fun _ _ _ _ h => h) rfl rfl ?_; try simp only [Act.put, List.setIfInBounds_toArray, List.set_cons_zero, List.set_cons_succ]) | (refine T_quietN (by rfl) (by rfl) (by rfl) (by rfl) (fun _ _ _ _ h => h) (fun K hK => ?_); go_big_quiet_op; refine hK _ ?_; clear hK K) | (refine T_two (by rfl) (by rfl) (by rfl) (by rfl) (fun _ _ _ _ h => h) (fun K hK => ?_); go_big_quiet_op; refine ⟨_, fun _ _ => rfl, ?_⟩; refine hK _ ?_; clear hK K; try simp only [Act.put, List.setIfInBounds_toArray, List.set_cons_zero, List.set_cons_succ]) | fail)
          refine T_turn No [] (by rfl) (by rfl) (by rfl) (fun K hK => ?_)
          go_wp2_with fail
          refine hK.out _ _ ?_
          clear hK K
          try simp only [Act.put, List.setIfInBounds_toArray, List.set_cons_zero, List.set_cons_succ]
          refine T_done ?_
          have hb16 := ((hb1F.put 2 (.slice A5 t.length c5)).far (p := ⟨g, 0, none⟩) (by simp; omega) (.slice Ag 0 0)).drew
          have hbg6 := ((hbgF.far (p := ⟨B1, 2, none⟩) (by simp; omega) (.slice A5 t.length c5)).put 0 (.slice Ag 0 0)).drew
          have hf6 : Fr (fun b => b = B1 ∨ b = g) wF ((wF.setCell ⟨B1, 2, none⟩ (.slice A5 t.length c5)).setCell ⟨g, 0, none⟩ (.slice Ag 0 0)).drew := (((Fr.refl _ wF).set (.inr (.inl rfl)) _).set (.inr (.inr rfl)) _).drew
          generalize hw6 : ((wF.setCell ⟨B1, 2, none⟩ (.slice A5 t.length c5)).setCell ⟨g, 0, none⟩ (.slice Ag 0 0)).drew = w6 at *
          clear hw6 p0 p1 pf0 pf1 r0 r1 r2 rf0 rf1 rf2
          replace hb16 : Blk w6 B1 25 #[.int .i64 cl, .slice A acc.length c, .slice A5 t.length c5] := hb16
          replace hbg6 : Blk w6 g 68 #[.slice Ag 0 0, .bool false] := hbg6
          have hb06 := hb0F.fr hf6 (by omega)
          have hlv := HLV.out
          have hf56 : Fr (fun b => b = B1 ∨ b = g) w5 w6 := (hfF.mono (fun b _ h => .inr h)).trans hf6 (fun b _ h => h)
          have hownv6 := own_fr hownv hf56 (fun b hb hT => by have := (hlv b hb).1; omega)
          have hown56 := own_fr hown5 hf56 (fun b hb hT => by have := (hown5.lt b hb).1; omega)
          have hr6 := Rd.fr HC.out hf6 (fun b hb hT => by rcases hT with rfl | rfl; exact absurd hb.2 (by omega); exact hSg hb)
          have hfr6 : Fr (fun b => b = g) w w6 := hfr5.trans hf56 (fun b hb hT => by have := HB0.out; omega)
          obtain ⟨_, _, e9, _, _, hA⟩ := own_form hownv6
          injection e9 with e91 e92 e93
          subst e91 e93
          have hobj : ObjC w6 (fun _ => True) [.int .i64 cl, .slice A acc.length c, .slice A5 t.length c5] ⟨cl, acc, t⟩ := ⟨A, c, A5, c5, rfl, (own_rd hownv6 (by omega)).mono (fun _ _ _ => trivial) (by decide), (own_rd hown56 (by omega)).mono (fun _ _ _ => trivial) (by decide)⟩
          clear e92
          (have p0 := hbg6.cell 0; have p1 := hbg6.cell 1; have pf0 := hbg6.frozen 0; have pf1 := hbg6.frozen 1; simp only [List.getElem?_toArray, List.getElem?_cons_zero, List.getElem?_cons_succ] at p0 p1)
          (have r0 := hb16.cell 0; have r1 := hb16.cell 1; have r2 := hb16.cell 2; have rf0 := hb16.frozen 0; have rf1 := hb16.frozen 1; have rf2 := hb16.frozen 2; simp only [List.getElem?_toArray, List.getElem?_cons_zero, List.getElem?_cons_succ] at r0 r1 r2)
          go_wp2_with fail
          refine (righto_calls _ _ _ _ hobj).mono ?_
          rintro e w7 ⟨rfl, hf7⟩
          have hbg7 := hbg6.fr0 hf7
          have hb17 := hb16.fr0 hf7
          have hb07 := hb06.fr0 hf7
          have hownv7 := own_fr0 hownv6 hf7
          have hown57 := own_fr0 hown56 hf7
          have hr7 := Rd.fr0 hr6 hf7
          have hfr7 := hfr6.trans (hf7.mono (fun _ _ hn => hn.elim)) (fun b _ h => h)
          clear p0 p1 pf0 pf1 r0 r1 r2 rf0 rf1 rf2
          (have p0 := hbg7.cell 0; have p1 := hbg7.cell 1; have pf0 := hbg7.frozen 0; have pf1 := hbg7.frozen 1; simp only [List.getElem?_toArray, List.getElem?_cons_zero, List.getElem?_cons_succ] at p0 p1)
          (have r0 := hb17.cell 0; have r1 := hb17.cell 1; have r2 := hb17.cell 2; have rf0 := hb17.frozen 0; have rf1 := hb17.frozen 1; have rf2 := hb17.frozen 2; simp only [List.getElem?_toArray, List.getElem?_cons_zero, List.getElem?_cons_succ] at r0 r1 r2)
          (have q0 := hb07.cell 0; have q1 := hb07.cell 1; have q2 := hb07.cell 2; have qf0 := hb07.frozen 0; have qf1 := hb07.frozen 1; have qf2 := hb07.frozen 2; simp only [List.getElem?_toArray, List.getElem?_cons_zero, List.getElem?_cons_succ] at q0 q1 q2)
          cases hro : rightO ⟨cl, acc, t⟩ with
          | true =>
            rw [hro, if_pos rfl] at HE
            clear hro
            go_wp2_with fail
            rw [Exit.noGoto_ret]
            have hbz := (((hb07.far (p := ⟨g, 1, none⟩) (by simp; omega) (.bool false)).put 0 (.int .i64 cl)).put 1 (.slice A acc.length c)).put 2 (.slice A5 t.length c5)
            have hbq := (((hbg7.put 1 (.bool false)).far (p := ⟨B0, 0, none⟩) (by simp; omega) (.int .i64 cl)).far (p := ⟨B0, 1, none⟩) (by simp; omega) (.slice A acc.length c)).far (p := ⟨B0, 2, none⟩) (by simp; omega) (.slice A5 t.length c5)
            have hfz : Fr (fun b => b = g ∨ b = B0) w7 ((((w7.setCell ⟨g, 1, none⟩ (.bool false)).setCell ⟨B0, 0, none⟩ (.int .i64 cl)).setCell ⟨B0, 1, none⟩ (.slice A acc.length c)).setCell ⟨B0, 2, none⟩ (.slice A5 t.length c5)) := ((((Fr.refl _ w7).set (.inr (.inl rfl)) _).set (.inr (.inr rfl)) _).set (.inr (.inr rfl)) _).set (.inr (.inr rfl)) _
            refine bodyPost_ret (results_blk ag_obj rfl _ _ _ _ _ rfl hbz rfl) rfl ⟨[.int .i64 cl, .slice A acc.length c, .slice A5 t.length c5], rfl, ⟨⟨_, _, _, _, _, _, _, rfl⟩, fun hh => ?_⟩, ?_, hfr7.trans hfz (fun b hb hT => by have := HB0.out; omega)⟩
            · rw [HE.out, HB0.out]
              exact ⟨A, c, A5, c5, wc.heap.size, rfl, own_down (own_fr hownv7 hfz (fun b hb hT => by have := (hlv b hb).1; omega)) (by omega), fun b hb => (hlv b hb).2, own_fr hown57 hfz (fun b hb hT => by have := (hown57.lt b hb).1; omega), by omega⟩
            · rw [HE.out]
              exact ScanAt.up ⟨Ag, lg.drop cg, 0, by rw [List.length_drop, show lg.length - cg = 0 by omega]; exact hbq, Rd.fr hr7 hfz (fun b hb hT => by rcases hT with rfl | rfl; exact hSg hb; exact absurd hb.2 (by omega)), by rw [List.length_drop]; omega, by first | omega | decide, (fun l' h => by injection h with h; exact h.symm), hSg⟩ hS
          | false =>
            rw [hro, if_neg (by decide)] at HE
            clear hro
            go_wp2_with fail
            rw [Exit.noGoto_ret]
            have hbz := (((hb07.far (p := ⟨g, 1, none⟩) (by simp; omega) (.bool true)).put 0 (.int .i64 cl)).put 1 (.slice A acc.length c)).put 2 (.slice A5 t.length c5)
            have hbq := (((hbg7.put 1 (.bool true)).far (p := ⟨B0, 0, none⟩) (by simp; omega) (.int .i64 cl)).far (p := ⟨B0, 1, none⟩) (by simp; omega) (.slice A acc.length c)).far (p := ⟨B0, 2, none⟩) (by simp; omega) (.slice A5 t.length c5)
            have hfz : Fr (fun b => b = g ∨ b = B0) w7 ((((w7.setCell ⟨g, 1, none⟩ (.bool true)).setCell ⟨B0, 0, none⟩ (.int .i64 cl)).setCell ⟨B0, 1, none⟩ (.slice A acc.length c)).setCell ⟨B0, 2, none⟩ (.slice A5 t.length c5)) := ((((Fr.refl _ w7).set (.inr (.inl rfl)) _).set (.inr (.inr rfl)) _).set (.inr (.inr rfl)) _).set (.inr (.inr rfl)) _
            refine bodyPost_ret (results_blk ag_obj rfl _ _ _ _ _ rfl hbz rfl) rfl ⟨[.int .i64 cl, .slice A acc.length c, .slice A5 t.length c5], rfl, ⟨⟨_, _, _, _, _, _, _, rfl⟩, fun hh => ?_⟩, ?_, hfr7.trans hfz (fun b hb hT => by have := HB0.out; omega)⟩
            · rw [HE.out] at hh; cases hh
            · rw [HE.out]
              exact ScanAt.up ⟨Ag, lg.drop cg, 0, by rw [List.length_drop, show lg.length - cg = 0 by omega]; exact hbq, Rd.fr hr7 hfz (fun b hb hT => by rcases hT with rfl | rfl; exact hSg hb; exact absurd hb.2 (by omega)), by rw [List.length_drop]; omega, by first | omega | decide, (fun l' h => by cases h), hSg⟩ hS
        · rw [if_neg hck] at HC
          go_wp2_with fail
          generalize hwF : w5.setCell ⟨g, 1, none⟩ (.bool false) = wF at *
          clear hwF p0 p1 pf0 pf1 q0 q1 q2 qf0 qf1 qf2 r0 r1 r2 rf0 rf1 rf2
          (have p0 := hbgF.cell 0; have p1 := hbgF.cell 1; have pf0 := hbgF.frozen 0; have pf1 := hbgF.frozen 1; simp only [List.getElem?_toArray, List.getElem?_cons_zero, List.getElem?_cons_succ] at p0 p1)
          (have r0 := hb1F.cell 0; have r1 := hb1F.cell 1; have r2 := hb1F.cell 2; have rf0 := hb1F.frozen 0; have rf1 := hb1F.frozen 1; have rf2 := hb1F.frozen 2; simp only [List.getElem?_toArray, List.getElem?_cons_zero, List.getElem?_cons_succ] at r0 r1 r2)
          have hnB : ¬ (g = B1) := by omega
          refine T_begin2 (fun b => b = B1) [12] [0, 1, 2, 3, 4, 5, 6, 7, 8, 9, 10, 11, 12] [9, 12] (by kernel_rfl) (by kernel_rfl) ?_
          simp only [pickOps, List.filterMap_cons, List.filterMap_nil, List.getElem?_cons_zero, List.getElem?_cons_succ, Act.put]
          repeat (first | (refine T_skip (by rfl) (by rfl) (fun _ _ _ h => h) ?_; try simp only [Act.put, List.setIfInBounds_toArray, List.set_cons_zero, List.set_cons_succ]) | (refine T_pass (by rfl) (by rfl) ?_; try simp only [Act.put, List.setIfInBounds_toArray, List.set_cons_zero, List.set_cons_succ]) | (refine T_load (by assumption) (by rfl) (by rfl) (fun _ _ _ _ h => h) rfl rfl (by assumption) (by first | exact (fun hn => hn) | assumption) ?_; try simp only [Act.put, List.setIfInBounds_toArray, List.set_cons_zero, List.set_cons_succ]) | (refine T_nil (by rfl) (by rfl) (fun _ _ _ _ h => h) rfl rfl ?_; try simp only [Act.put, List.setIfInBounds_toArray, List.set_cons_zero, List.set_cons_succ]) | (refine T_quietN (by rfl) (by rfl) (by rfl) (by rfl) (fun _ _ _ _ h => h) (fun K hK => ?_); go_big_quiet_op; refine hK _ ?_; clear hK K) | (refine T_two (by rfl) (by rfl) (by rfl) (by rfl) (fun _ _ _ _ h => h) (fun K hK => ?_); go_big_quiet_op; refine ⟨_, fun _ _ => rfl, ?_⟩; refine hK _ ?_; clear hK K; try simp only [Act.put, List.setIfInBounds_toArray, List.set_cons_zero, List.set_cons_succ]) | fail)
          refine T_call (by rfl) (by rfl) (fun K hK => ?_)
          go_wp2_with fail
          refine hK.out _ _ (((Fr.refl (fun b => b = B1) wF).set1 2 _).drew.drewL) ?_
          clear hK K
          try simp only [Act.put, List.setIfInBounds_toArray, List.set_cons_zero, List.set_cons_succ]
          repeat (first | (refine T_skip (by rfl) (by rfl) (fun _ _ _ h => h) ?_; try simp only [Act.put, List.setIfInBounds_toArray, List.set_cons_zero, List.set_cons_succ]) | (refine T_pass (by rfl) (by rfl) ?_; try simp only [Act.put, List.setIfInBounds_toArray, List.set_cons_zero, List.set_cons_succ]) | (refine T_load (by assumption) (by rfl) (by rfl) (fun _ _ _ _ h => h) rfl rfl (by assumption) (by first | exact (fun hn => hn) | assumption) ?_; try simp only [Act.put, List.setIfInBounds_toArray, List.set_cons_zero, List.set_cons_succ]) | (refine T_nil (by rfl) (by rfl) (fun _ _ _ _ h => h) rfl rfl ?_; try simp only [Act.put, List.setIfInBounds_toArray, List.set_cons_zero, List.set_cons_succ]) | (refine T_quietN (by rfl) (by rfl) (by rfl) (by rfl) (fun _ _ _ _ h => h) (fun K hK => ?_); go_big_quiet_op; refine hK _ ?_; clear hK K) | (refine T_two (by rfl) (by rfl) (by rfl) (by rfl) (fun _ _ _ _ h => h) (fun K hK => ?_); go_big_quiet_op; refine ⟨_, fun _ _ => rfl, ?_⟩; refine hK _ ?_; clear hK K; try simp only [Act.put, List.setIfInBounds_toArray, List.set_cons_zero, List.set_cons_succ]) | fail)
          refine T_turn No [] (by rfl) (by rfl) (by rfl) (fun K hK => ?_)
          go_wp2_with fail
          refine hK.out _ _ ?_
          clear hK K
          try simp only [Act.put, List.setIfInBounds_toArray, List.set_cons_zero, List.set_cons_succ]
          refine T_done ?_
          have hb16 := ((hb1F.put 2 (.slice A5 t.length c5)).far (p := ⟨g, 0, none⟩) (by simp; omega) (.slice (Ag.map (·.add k)) (lg.length - k) (cg - k))).drew
          have hbg6 := ((hbgF.far (p := ⟨B1, 2, none⟩) (by simp; omega) (.slice A5 t.length c5)).put 0 (.slice (Ag.map (·.add k)) (lg.length - k) (cg - k))).drew
          have hf6 : Fr (fun b => b = B1 ∨ b = g) wF ((wF.setCell ⟨B1, 2, none⟩ (.slice A5 t.length c5)).setCell ⟨g, 0, none⟩ (.slice (Ag.map (·.add k)) (lg.length - k) (cg - k))).drew := (((Fr.refl _ wF).set (.inr (.inl rfl)) _).set (.inr (.inr rfl)) _).drew
          generalize hw6 : ((wF.setCell ⟨B1, 2, none⟩ (.slice A5 t.length c5)).setCell ⟨g, 0, none⟩ (.slice (Ag.map (·.add k)) (lg.length - k) (cg - k))).drew = w6 at *
          clear hw6 p0 p1 pf0 pf1 r0 r1 r2 rf0 rf1 rf2
          replace hb16 : Blk w6 B1 25 #[.int .i64 cl, .slice A acc.length c, .slice A5 t.length c5] := hb16
          replace hbg6 : Blk w6 g 68 #[.slice (Ag.map (·.add k)) (lg.length - k) (cg - k), .bool false] := hbg6
          have hb06 := hb0F.fr hf6 (by omega)
          have hlv := HLV.out
          have hf56 : Fr (fun b => b = B1 ∨ b = g) w5 w6 := (hfF.mono (fun b _ h => .inr h)).trans hf6 (fun b _ h => h)
          have hownv6 := own_fr hownv hf56 (fun b hb hT => by have := (hlv b hb).1; omega)
          have hown56 := own_fr hown5 hf56 (fun b hb hT => by have := (hown5.lt b hb).1; omega)
          have hr6 := Rd.fr HC.out hf6 (fun b hb hT => by rcases hT with rfl | rfl; exact absurd hb.2 (by omega); exact hSg hb)
          have hfr6 : Fr (fun b => b = g) w w6 := hfr5.trans hf56 (fun b hb hT => by have := HB0.out; omega)
          obtain ⟨_, _, e9, _, _, hA⟩ := own_form hownv6
          injection e9 with e91 e92 e93
          subst e91 e93
          have hobj : ObjC w6 (fun _ => True) [.int .i64 cl, .slice A acc.length c, .slice A5 t.length c5] ⟨cl, acc, t⟩ := ⟨A, c, A5, c5, rfl, (own_rd hownv6 (by omega)).mono (fun _ _ _ => trivial) (by decide), (own_rd hown56 (by omega)).mono (fun _ _ _ => trivial) (by decide)⟩
          clear e92
          (have p0 := hbg6.cell 0; have p1 := hbg6.cell 1; have pf0 := hbg6.frozen 0; have pf1 := hbg6.frozen 1; simp only [List.getElem?_toArray, List.getElem?_cons_zero, List.getElem?_cons_succ] at p0 p1)
          (have r0 := hb16.cell 0; have r1 := hb16.cell 1; have r2 := hb16.cell 2; have rf0 := hb16.frozen 0; have rf1 := hb16.frozen 1; have rf2 := hb16.frozen 2; simp only [List.getElem?_toArray, List.getElem?_cons_zero, List.getElem?_cons_succ] at r0 r1 r2)
          go_wp2_with fail
          refine (righto_calls _ _ _ _ hobj).mono ?_
          rintro e w7 ⟨rfl, hf7⟩
          have hbg7 := hbg6.fr0 hf7
          have hb17 := hb16.fr0 hf7
          have hb07 := hb06.fr0 hf7
          have hownv7 := own_fr0 hownv6 hf7
          have hown57 := own_fr0 hown56 hf7
          have hr7 := Rd.fr0 hr6 hf7
          have hfr7 := hfr6.trans (hf7.mono (fun _ _ hn => hn.elim)) (fun b _ h => h)
          clear p0 p1 pf0 pf1 r0 r1 r2 rf0 rf1 rf2
          (have p0 := hbg7.cell 0; have p1 := hbg7.cell 1; have pf0 := hbg7.frozen 0; have pf1 := hbg7.frozen 1; simp only [List.getElem?_toArray, List.getElem?_cons_zero, List.getElem?_cons_succ] at p0 p1)
          (have r0 := hb17.cell 0; have r1 := hb17.cell 1; have r2 := hb17.cell 2; have rf0 := hb17.frozen 0; have rf1 := hb17.frozen 1; have rf2 := hb17.frozen 2; simp only [List.getElem?_toArray, List.getElem?_cons_zero, List.getElem?_cons_succ] at r0 r1 r2)
          (have q0 := hb07.cell 0; have q1 := hb07.cell 1; have q2 := hb07.cell 2; have qf0 := hb07.frozen 0; have qf1 := hb07.frozen 1; have qf2 := hb07.frozen 2; simp only [List.getElem?_toArray, List.getElem?_cons_zero, List.getElem?_cons_succ] at q0 q1 q2)
          cases hro : rightO ⟨cl, acc, t⟩ with
          | true =>
            rw [hro, if_pos rfl] at HE
            clear hro
            go_wp2_with fail
            rw [Exit.noGoto_ret]
            have hbz := (((hb07.far (p := ⟨g, 1, none⟩) (by simp; omega) (.bool false)).put 0 (.int .i64 cl)).put 1 (.slice A acc.length c)).put 2 (.slice A5 t.length c5)
            have hbq := (((hbg7.put 1 (.bool false)).far (p := ⟨B0, 0, none⟩) (by simp; omega) (.int .i64 cl)).far (p := ⟨B0, 1, none⟩) (by simp; omega) (.slice A acc.length c)).far (p := ⟨B0, 2, none⟩) (by simp; omega) (.slice A5 t.length c5)
            have hfz : Fr (fun b => b = g ∨ b = B0) w7 ((((w7.setCell ⟨g, 1, none⟩ (.bool false)).setCell ⟨B0, 0, none⟩ (.int .i64 cl)).setCell ⟨B0, 1, none⟩ (.slice A acc.length c)).setCell ⟨B0, 2, none⟩ (.slice A5 t.length c5)) := ((((Fr.refl _ w7).set (.inr (.inl rfl)) _).set (.inr (.inr rfl)) _).set (.inr (.inr rfl)) _).set (.inr (.inr rfl)) _
            refine bodyPost_ret (results_blk ag_obj rfl _ _ _ _ _ rfl hbz rfl) rfl ⟨[.int .i64 cl, .slice A acc.length c, .slice A5 t.length c5], rfl, ⟨⟨_, _, _, _, _, _, _, rfl⟩, fun hh => ?_⟩, ?_, hfr7.trans hfz (fun b hb hT => by have := HB0.out; omega)⟩
            · rw [HE.out, HB0.out]
              exact ⟨A, c, A5, c5, wc.heap.size, rfl, own_down (own_fr hownv7 hfz (fun b hb hT => by have := (hlv b hb).1; omega)) (by omega), fun b hb => (hlv b hb).2, own_fr hown57 hfz (fun b hb hT => by have := (hown57.lt b hb).1; omega), by omega⟩
            · rw [HE.out]
              exact ScanAt.up ⟨(Ag.map (·.add k)), lg.drop k, (cg - k), by rw [List.length_drop]; exact hbq, Rd.fr hr7 hfz (fun b hb hT => by rcases hT with rfl | rfl; exact hSg hb; exact absurd hb.2 (by omega)), by rw [List.length_drop]; omega, by first | omega | decide, (fun l' h => by injection h with h; exact h.symm), hSg⟩ hS
          | false =>
            rw [hro, if_neg (by decide)] at HE
            clear hro
            go_wp2_with fail
            rw [Exit.noGoto_ret]
            have hbz := (((hb07.far (p := ⟨g, 1, none⟩) (by simp; omega) (.bool true)).put 0 (.int .i64 cl)).put 1 (.slice A acc.length c)).put 2 (.slice A5 t.length c5)
            have hbq := (((hbg7.put 1 (.bool true)).far (p := ⟨B0, 0, none⟩) (by simp; omega) (.int .i64 cl)).far (p := ⟨B0, 1, none⟩) (by simp; omega) (.slice A acc.length c)).far (p := ⟨B0, 2, none⟩) (by simp; omega) (.slice A5 t.length c5)
            have hfz : Fr (fun b => b = g ∨ b = B0) w7 ((((w7.setCell ⟨g, 1, none⟩ (.bool true)).setCell ⟨B0, 0, none⟩ (.int .i64 cl)).setCell ⟨B0, 1, none⟩ (.slice A acc.length c)).setCell ⟨B0, 2, none⟩ (.slice A5 t.length c5)) := ((((Fr.refl _ w7).set (.inr (.inl rfl)) _).set (.inr (.inr rfl)) _).set (.inr (.inr rfl)) _).set (.inr (.inr rfl)) _
            refine bodyPost_ret (results_blk ag_obj rfl _ _ _ _ _ rfl hbz rfl) rfl ⟨[.int .i64 cl, .slice A acc.length c, .slice A5 t.length c5], rfl, ⟨⟨_, _, _, _, _, _, _, rfl⟩, fun hh => ?_⟩, ?_, hfr7.trans hfz (fun b hb hT => by have := HB0.out; omega)⟩
            · rw [HE.out] at hh; cases hh
            · rw [HE.out]
              exact ScanAt.up ⟨(Ag.map (·.add k)), lg.drop k, (cg - k), by rw [List.length_drop]; exact hbq, Rd.fr hr7 hfz (fun b hb hT => by rcases hT with rfl | rfl; exact hSg hb; exact absurd hb.2 (by omega)), by rw [List.length_drop]; omega, by first | omega | decide, (fun l' h => by cases h), hSg⟩ hS
end Go.Proofs.Ytfgkioigbnlkkaa
