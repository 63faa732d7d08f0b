/- lapidarylaw11.TableStays: what stands behind a commit stays. -/
import Derived.Test.YtifcnjebepipnaaTPlain
import Derived.Test.YtifcnjebepipnaaISame11
namespace Go.Proofs.Ytifcnjebepipnaa
set_option linter.unusedVariables false
set_option linter.unusedSimpArgs false
open Go.RowKit

set_option maxHeartbeats 8000000 in
set_option maxRecDepth 100000 in
theorem law_TableStays (W : World) (a0 : Option Addr) (cap0 : Nat) (l : List RecM) (hl : RdRec W (fun b => b < W.heap.size) a0 l) (ok : ∀ r ∈ l, RecOk r) (xk : Int) (wk : (Lit.int .i64 xk).wf = true) (a2 : Option Addr) (cap2 : Nat) (m : List RecM) (hm : RdRec W (fun b => b < W.heap.size) a2 m) (ok2 : ∀ r ∈ m, RecOk r) (xo : Int) (wo : (Lit.int .i64 xo).wf = true) :
    Calls Try.prog 3 #[.slice a0 l.length cap0, .int .i64 xk, .slice a2 m.length cap2, .int .i64 xo] W fun e w' => e = .returned (.bool true) ∧ Fr No W w' := by
  have hll := hl.le
  have hml := hm.le
  have HOKL := Lib.hid ok
  have HOKM := Lib.hid ok2
  clear ok ok2
  go_enter Try.func3, Try.ntmps3
  go_wp2_with fail
  refine (tnew_calls W).mono ?_
  rintro e w1 ⟨p, rfl, hT1, hf1⟩
  have hz1 := hf1.size
  generalize hTT : (fun b => W.heap.size ≤ b ∧ b < w1.heap.size) = T1 at *
  have hTd1 : ∀ b, T1 b → W.heap.size ≤ b := fun b hb => by rw [← hTT] at hb; exact hb.1
  clear hTT
  go_upto_block 0 with fail
  go_cut [10] (fun s13 wx => ∃ (T' O' : Nat → Prop), TabAt wx T' O' p (applyAll tab0 (l.take 20)) ∧ (∀ b, T' b → T1 b ∨ w1.heap.size ≤ b) ∧ (∀ b, O' b → No b ∨ w1.heap.size ≤ b) ∧ Fr T1 w1 wx)
  case first =>
    go_wp2_with fail
    go_loopw [10] (fun i wr => ∃ (k : Nat) (T' O' : Nat → Prop), k ≤ l.length ∧ k ≤ 20 ∧ i = .int .i64 (k : Int) ∧ TabAt wr T' O' p (applyAll tab0 (l.take k)) ∧ (∀ b, T' b → T1 b ∨ w1.heap.size ≤ b) ∧ (∀ b, O' b → No b ∨ w1.heap.size ≤ b) ∧ Fr T1 w1 wr) (fun i _ => l.length - (intOf i).toNat)
    case atStart => exact ⟨0, T1, No, by omega, by omega, rfl, hT1, fun b hb => .inl hb, fun b hb => .inl hb, Fr.refl _ _⟩
    case round =>
      obtain ⟨k, T', O', hk, hk2, rfl, hT, hTd, hOd, hf⟩ := hrel
      have hFW : Fr No W wr := hf1.trans hf (fun b hb hT => by have := hTd1 b hT; omega)
      by_cases hlt : k < l.length
      · have ek : decide ((k : Int) < l.length) = true := by simpa using (by omega : (k : Int) < l.length)
        by_cases h20 : k < 20
        · have ek2 : decide ((k : Int) < 20) = true := by simpa using (by omega : (k : Int) < 20)
          have hok := HOKL.out _ (List.getElem_mem hlt)
          obtain ⟨g, o, cs, rfl, hcs, hcell, hcl⟩ := (hl.fr0 hFW).at_ hlt
          have HT := Lib.hid (show applyAll tab0 (l.take (k + 1)) = (applyM (applyAll tab0 (l.take k)) l[k]).1 by rw [take_snocR l k hlt, applyAll_snoc])
          have hnk := applyAll_n (l.take k) tab0
          have hn0 : tab0.n ≤ 81920 := (Nat.zero_le _)
          have hlk : (l.take k).length ≤ k := by rw [List.length_take]; omega
          generalize l[k] = r at *
          generalize applyAll tab0 (l.take k) = tk at *
          have hzr := hf.size
          have hzF := hf1.size
          go_wp2_with (first
            | (refine wpList_ldA ag_recr rfl _ rfl ⟨g, o + k * 2, none⟩ cs rfl hcl hcell ?_)
            | fail)
          refine (given11_calls (fun b => b < W.heap.size) cs r _ hcs hok).mono ?_
          rintro e w3 ⟨cs3, rfl, hr3, hf3⟩
          have hT3 := hT.fr0 hf3
          have hTl := hT.lt
          have hz3 := hf3.size
          go_wp2_with fail
          refine (tapply_calls w3 T' O' _ p tk cs3 r hT3 hr3 (fun b hb hTb => by have := hTl.1 b hTb; omega) (by omega)).mono ?_
          rintro e w4 ⟨rfl, T4, O4, hT4, hq4, ho4, hf4⟩
          go_wp2_with fail
          go_roundw
          case rel =>
            refine ⟨k + 1, T4, O4, by omega, by omega, by go_num, by rw [HT.out]; exact hT4, fun b hb => ?_, fun b hb => ?_, (hf.trans hf3 (fun _ _ hn => hn.elim)).trans hf4 (fun b hb hT => ?_)⟩
            · rcases hq4 b hb with h | h
              · exact hTd b h
              · exact .inr (by omega)
            · rcases ho4 b hb with h | h
              · exact hOd b h
              · exact .inr (by omega)
            · rcases hTd b hT with h | h
              · exact h
              · omega
          case measure => simp [intOf]; omega
        · have ek2 : decide ((k : Int) < 20) = false := by simp; omega
          obtain rfl : k = 20 := by omega
          go_wp2_with fail
          go_meet
          case rel => exact ⟨T', O', hT, hTd, hOd, hf⟩
      · obtain rfl : k = l.length := by omega
        have ek : decide ((l.length : Int) < l.length) = false := by simp
        have hTk : TabAt wr T' O' p (applyAll tab0 (l.take 20)) := by
          rw [List.take_of_length_le (by omega)]
          rw [List.take_length] at hT
          exact hT
        go_wp2_with fail
        go_meet
        case rel => exact ⟨T', O', hTk, hTd, hOd, hf⟩
  case rest =>
    obtain ⟨Ta, Oa, hTa, hqa, hoa, hfa⟩ := hcut
    obtain ⟨wa, hwa⟩ : ∃ wa, wa = wc := ⟨_, rfl⟩
    subst hwa
    have hna : (applyAll tab0 (l.take 20)).n ≤ 81920 := by
      have h1 := applyAll_n (l.take 20) tab0
      have h2 : (l.take 20).length ≤ 20 := by rw [List.length_take]; omega
      have h3 : tab0.n = 0 := rfl
      omega
    have hoka : TabOk (applyAll tab0 (l.take 20)) := applyAll_ok _ _ tab0_ok0
    have hfl : (applyAll tab0 (l.take 20)).first ≤ (applyAll tab0 (l.take 20)).last := by
      obtain ⟨h1, h2⟩ := applyAll_first (l.take 20) tab0
      rw [h1]; exact h2
    generalize applyAll tab0 (l.take 20) = t at *
    have hlowa : ∀ b, Ta b → W.heap.size ≤ b := fun b hb => by
      rcases hqa b hb with h | h
      · exact hTd1 b h
      · omega
    have hFa : Fr No W wa := hf1.trans hfa (fun b hb hT => by have := hTd1 b hT; omega)
    have hTla := hTa.lt
    have hza := hFa.size
    clear hfa hqa hoa
    obtain ⟨mb, wb0, hbk⟩ := hTa.blk
    go_wp2_with fail
    refine (tlast_calls wa p t.first t.last _ _ hbk).mono ?_
    rintro e w2 ⟨rfl, hw2⟩
    have hw2 := hw2.symm
    subst hw2
    by_cases hk : xk.tmod 2 = 0
    · have ek : (xk.tmod 2 == 0) = true := by simpa using hk
      clear hk
      have hcf : t.first ≤ t.first := Int.le_refl _
      have hcl : t.first ≤ t.last := hfl
      go_wp2_with fail
      refine (tfirst_calls wa p t.first t.last _ _ hbk).mono ?_
      rintro e w2 ⟨rfl, hw2⟩
      have hw2 := hw2.symm
      subst hw2
      have hsm := atM_small0 hoka t.first xo
      go_wp2_with fail
      refine (tat_calls wa Ta Oa p t t.first xo hTa hoka (by omega) wo).mono ?_
      rintro e w4 ⟨cs4, rfl, hown4, hf4⟩
      obtain ⟨A4, c4, D4, d4, rfl⟩ := hown4.lit6
      obtain ⟨R4, hR4⟩ : ∃ R4, R4 = atM t t.first xo := ⟨_, rfl⟩
      rw [← hR4] at hown4 hsm ⊢
      have HR4 := Lib.hid hR4
      clear hR4
      have hf45 : Fr No w4 (w4.alloc (.cells #[.int .i64 R4.1.cls, .slice A4 R4.1.slots.length c4, .slice D4 R4.1.bytes.length d4] tObj)) := (Fr.refl No w4).alloc _
      have hb5 := Blk.new w4 tObj #[.int .i64 R4.1.cls, .slice A4 R4.1.slots.length c4, .slice D4 R4.1.bytes.length d4]
      have hz4 := hf4.size
      have hown5 := hown4.fr hf45 (fun _ _ hn => hn)
      have hg45 := hf4.tr hf45
      go_wp2_with fail
      refine (oops_calls _ Ta Oa p t t.first (hTa.fr0 hg45) hoka (by omega)).mono ?_
      rintro e w6 ⟨x1, ks, rfl, ho6, hr6, hf6, hkl⟩
      obtain ⟨B1, e1, rfl, _⟩ := hr6.rd (by omega)
      have HO6 := Lib.hid ho6
      clear ho6
      have hg6 := hg45.tr hf6
      have hb5 := hb5.fr0 hf6
      have hown5 := hown5.fr hf6 (fun _ _ hn => hn)
      have hTa := hTa.fr0 hg6
      have hF6 := hFa.tr hg6
      have hz45 := hf45.size
      have hz6 := hf6.size
      have hm6 := hm.fr0 hF6
      go_upto_block 2 with fail
      go_cut [15] (fun s13 wx => ∃ (T' O' : Nat → Prop), TabAt wx T' O' p (applyAll t (m.take 20)) ∧ (∀ b, T' b → Ta b ∨ w6.heap.size ≤ b) ∧ (∀ b, O' b → Oa b ∨ w6.heap.size ≤ b) ∧ Fr Ta w6 wx)
      case first =>
        go_wp2_with fail
        go_loopw [15] (fun i wr => ∃ (k : Nat) (T' O' : Nat → Prop), k ≤ m.length ∧ k ≤ 20 ∧ i = .int .i64 (k : Int) ∧ TabAt wr T' O' p (applyAll t (m.take k)) ∧ (∀ b, T' b → Ta b ∨ w6.heap.size ≤ b) ∧ (∀ b, O' b → Oa b ∨ w6.heap.size ≤ b) ∧ Fr Ta w6 wr) (fun i _ => m.length - (intOf i).toNat)
        case atStart => exact ⟨0, Ta, Oa, by omega, by omega, rfl, hTa, fun b hb => .inl hb, fun b hb => .inl hb, Fr.refl _ _⟩
        case round =>
          obtain ⟨k, T', O', hk, hk2, rfl, hT, hTd, hOd, hf⟩ := hrel
          have hFW : Fr No W wr := hF6.trans hf (fun b hb hT => by have := hlowa b hT; omega)
          by_cases hlt : k < m.length
          · have ek : decide ((k : Int) < m.length) = true := by simpa using (by omega : (k : Int) < m.length)
            by_cases h20 : k < 20
            · have ek2 : decide ((k : Int) < 20) = true := by simpa using (by omega : (k : Int) < 20)
              have hok := HOKM.out _ (List.getElem_mem hlt)
              obtain ⟨g, o, cs, rfl, hcs, hcell, hcl⟩ := (hm.fr0 hFW).at_ hlt
              have HT := Lib.hid (show applyAll t (m.take (k + 1)) = (applyM (applyAll t (m.take k)) m[k]).1 by rw [take_snocR m k hlt, applyAll_snoc])
              have hnk := applyAll_n (m.take k) t
              have hn0 : t.n ≤ 81920 := hna
              have hlk : (m.take k).length ≤ k := by rw [List.length_take]; omega
              generalize m[k] = r at *
              generalize applyAll t (m.take k) = tk at *
              have hzr := hf.size
              have hzF := hF6.size
              go_wp2_with (first
                | (refine wpList_ldA ag_recr rfl _ rfl ⟨g, o + k * 2, none⟩ cs rfl hcl hcell ?_)
                | fail)
              refine (given11_calls (fun b => b < W.heap.size) cs r _ hcs hok).mono ?_
              rintro e w3 ⟨cs3, rfl, hr3, hf3⟩
              have hT3 := hT.fr0 hf3
              have hTl := hT.lt
              have hz3 := hf3.size
              go_wp2_with fail
              refine (tapply_calls w3 T' O' _ p tk cs3 r hT3 hr3 (fun b hb hTb => by have := hTl.1 b hTb; omega) (by omega)).mono ?_
              rintro e w4 ⟨rfl, T4, O4, hT4, hq4, ho4, hf4⟩
              go_wp2_with fail
              go_roundw
              case rel =>
                refine ⟨k + 1, T4, O4, by omega, by omega, by go_num, by rw [HT.out]; exact hT4, fun b hb => ?_, fun b hb => ?_, (hf.trans hf3 (fun _ _ hn => hn.elim)).trans hf4 (fun b hb hT => ?_)⟩
                · rcases hq4 b hb with h | h
                  · exact hTd b h
                  · exact .inr (by omega)
                · rcases ho4 b hb with h | h
                  · exact hOd b h
                  · exact .inr (by omega)
                · rcases hTd b hT with h | h
                  · exact h
                  · omega
              case measure => simp [intOf]; omega
            · have ek2 : decide ((k : Int) < 20) = false := by simp; omega
              obtain rfl : k = 20 := by omega
              go_wp2_with fail
              go_meet
              case rel => exact ⟨T', O', hT, hTd, hOd, hf⟩
          · obtain rfl : k = m.length := by omega
            have ek : decide ((m.length : Int) < m.length) = false := by simp
            have hTk : TabAt wr T' O' p (applyAll t (m.take 20)) := by
              rw [List.take_of_length_le (by omega)]
              rw [List.take_length] at hT
              exact hT
            go_wp2_with fail
            go_meet
            case rel => exact ⟨T', O', hTk, hTd, hOd, hf⟩
      case rest =>
        obtain ⟨Tb, Ob, hTb, hqb, hob, hfb⟩ := hcut
        obtain ⟨wb, hwb⟩ : ∃ wb, wb = wc := ⟨_, rfl⟩
        subst hwb
        have hnb : (applyAll t (m.take 20)).n ≤ 1000000 := by
          have h1 := applyAll_n (m.take 20) t
          have h2 : (m.take 20).length ≤ 20 := by rw [List.length_take]; omega
          omega
        have hokb : TabOk (applyAll t (m.take 20)) := applyAll_ok _ _ hoka
        have HAT := Lib.hid (stays_at (m.take 20) t hcf hcl)
        have HOO := Lib.hid (fun ks h => stays_oops (m.take 20) t hcf hcl (ks := ks) h)
        generalize applyAll t (m.take 20) = u at *
        have hFb : Fr No W wb := hF6.trans hfb (fun b hb hT => by have := hlowa b hT; omega)
        have k1 := hb5.fr hfb (fun hT => by have := hTla.1 _ hT; omega)
        have hown6 := hown5.fr hfb (fun b hb hT => by have := hTla.1 b hT; omega)
        have hr6 := IRow.fr hr6 hfb (fun b hb hT => by have := hTla.1 b hT; omega)
        have hzb := hfb.size
        clear hfb hqb hob hTa hb5 hown5
        go_wp2_with fail
        refine (tat_calls wb Tb Ob p u t.first xo hTb hokb hnb wo).mono ?_
        rw [HAT.out, ← HR4.out]
        rintro e wA ⟨csA, rfl, hownA, hfA⟩
        obtain ⟨AA, cA, DA, dA, rfl⟩ := hownA.lit6
        have hfAB : Fr No wA (wA.alloc (.cells #[.int .i64 R4.1.cls, .slice AA R4.1.slots.length cA, .slice DA R4.1.bytes.length dA] tObj)) := (Fr.refl No wA).alloc _
        have hbB := Blk.new wA tObj #[.int .i64 R4.1.cls, .slice AA R4.1.slots.length cA, .slice DA R4.1.bytes.length dA]
        have hownB := hownA.fr hfAB (fun _ _ hn => hn)
        have hgB := hfA.tr hfAB
        have k1 := (k1.fr0 hgB).all
        have k2 := hbB.all
        have hc1 := (hown6.fr hgB (fun _ _ hn => hn)).rd (by omega) (by omega)
        have hc2 := hownB.rd (by omega) (by omega)
        have HSO := Lib.hid (sameO_self R4.1)
        have ebe : (R4.2 == R4.2) = true := by simp
        go_wp2_with (first
          | (refine wpList_ldA ag_obj rfl _ rfl ⟨w4.heap.size, 0, none⟩ [.int .i64 R4.1.cls, .slice A4 R4.1.slots.length c4, .slice D4 R4.1.bytes.length d4] rfl rfl k1 ?_)
          | (refine wpList_ldA ag_obj rfl _ rfl ⟨wA.heap.size, 0, none⟩ [.int .i64 R4.1.cls, .slice AA R4.1.slots.length cA, .slice DA R4.1.bytes.length dA] rfl rfl k2 ?_)
          | fail)
        refine (refsame_calls _ _ _ _ R4.1 R4.1 _ hc1 hc2).mono ?_
        rw [HSO.out]
        rintro e wE ⟨rfl, hfE⟩
        have hgE := hgB.tr hfE
        go_wp2_with fail
        refine (oops_calls wE Tb Ob p u t.first (hTb.fr0 hgE) hokb hnb).mono ?_
        rintro e wG ⟨x3, ks3, rfl, ho3, hr3, hfG, _⟩
        have eks := (HOO.out ks3 ho3).unique HO6.out
        subst eks
        obtain ⟨B3, e3, rfl, hd3⟩ := hr3.rd (by omega)
        obtain ⟨B1', e1', hq1, hd1⟩ := (hr6.fr0 (hgE.tr hfG)).rd (by omega)
        injection hq1 with hq1 _ hq2
        subst hq1 hq2
        go_wp2_with fail
        refine (isame_self _ _ B1 B3 e1 e3 ks3 wG hd1 hd3).mono ?_
        rintro e wH ⟨rfl, hfH⟩
        go_wp2_with fail
        refine (known11_calls _).mono ?_
        rintro e wz ⟨rfl, hfz⟩
        go_wp2
        go_ret
        exact ⟨rfl, (hFb.tr ((hgE.tr hfG).tr hfH)).tr hfz⟩
    · have ek : (xk.tmod 2 == 0) = false := by simpa using hk
      clear hk
      have hcf : t.first ≤ t.last := hfl
      have hcl : t.last ≤ t.last := Int.le_refl _
      have hsm := atM_small0 hoka t.last xo
      go_wp2_with fail
      refine (tat_calls wa Ta Oa p t t.last xo hTa hoka (by omega) wo).mono ?_
      rintro e w4 ⟨cs4, rfl, hown4, hf4⟩
      obtain ⟨A4, c4, D4, d4, rfl⟩ := hown4.lit6
      obtain ⟨R4, hR4⟩ : ∃ R4, R4 = atM t t.last xo := ⟨_, rfl⟩
      rw [← hR4] at hown4 hsm ⊢
      have HR4 := Lib.hid hR4
      clear hR4
      have hf45 : Fr No w4 (w4.alloc (.cells #[.int .i64 R4.1.cls, .slice A4 R4.1.slots.length c4, .slice D4 R4.1.bytes.length d4] tObj)) := (Fr.refl No w4).alloc _
      have hb5 := Blk.new w4 tObj #[.int .i64 R4.1.cls, .slice A4 R4.1.slots.length c4, .slice D4 R4.1.bytes.length d4]
      have hz4 := hf4.size
      have hown5 := hown4.fr hf45 (fun _ _ hn => hn)
      have hg45 := hf4.tr hf45
      go_wp2_with fail
      refine (oops_calls _ Ta Oa p t t.last (hTa.fr0 hg45) hoka (by omega)).mono ?_
      rintro e w6 ⟨x1, ks, rfl, ho6, hr6, hf6, hkl⟩
      obtain ⟨B1, e1, rfl, _⟩ := hr6.rd (by omega)
      have HO6 := Lib.hid ho6
      clear ho6
      have hg6 := hg45.tr hf6
      have hb5 := hb5.fr0 hf6
      have hown5 := hown5.fr hf6 (fun _ _ hn => hn)
      have hTa := hTa.fr0 hg6
      have hF6 := hFa.tr hg6
      have hz45 := hf45.size
      have hz6 := hf6.size
      have hm6 := hm.fr0 hF6
      go_upto_block 2 with fail
      go_cut [15] (fun s13 wx => ∃ (T' O' : Nat → Prop), TabAt wx T' O' p (applyAll t (m.take 20)) ∧ (∀ b, T' b → Ta b ∨ w6.heap.size ≤ b) ∧ (∀ b, O' b → Oa b ∨ w6.heap.size ≤ b) ∧ Fr Ta w6 wx)
      case first =>
        go_wp2_with fail
        go_loopw [15] (fun i wr => ∃ (k : Nat) (T' O' : Nat → Prop), k ≤ m.length ∧ k ≤ 20 ∧ i = .int .i64 (k : Int) ∧ TabAt wr T' O' p (applyAll t (m.take k)) ∧ (∀ b, T' b → Ta b ∨ w6.heap.size ≤ b) ∧ (∀ b, O' b → Oa b ∨ w6.heap.size ≤ b) ∧ Fr Ta w6 wr) (fun i _ => m.length - (intOf i).toNat)
        case atStart => exact ⟨0, Ta, Oa, by omega, by omega, rfl, hTa, fun b hb => .inl hb, fun b hb => .inl hb, Fr.refl _ _⟩
        case round =>
          obtain ⟨k, T', O', hk, hk2, rfl, hT, hTd, hOd, hf⟩ := hrel
          have hFW : Fr No W wr := hF6.trans hf (fun b hb hT => by have := hlowa b hT; omega)
          by_cases hlt : k < m.length
          · have ek : decide ((k : Int) < m.length) = true := by simpa using (by omega : (k : Int) < m.length)
            by_cases h20 : k < 20
            · have ek2 : decide ((k : Int) < 20) = true := by simpa using (by omega : (k : Int) < 20)
              have hok := HOKM.out _ (List.getElem_mem hlt)
              obtain ⟨g, o, cs, rfl, hcs, hcell, hcl⟩ := (hm.fr0 hFW).at_ hlt
              have HT := Lib.hid (show applyAll t (m.take (k + 1)) = (applyM (applyAll t (m.take k)) m[k]).1 by rw [take_snocR m k hlt, applyAll_snoc])
              have hnk := applyAll_n (m.take k) t
              have hn0 : t.n ≤ 81920 := hna
              have hlk : (m.take k).length ≤ k := by rw [List.length_take]; omega
              generalize m[k] = r at *
              generalize applyAll t (m.take k) = tk at *
              have hzr := hf.size
              have hzF := hF6.size
              go_wp2_with (first
                | (refine wpList_ldA ag_recr rfl _ rfl ⟨g, o + k * 2, none⟩ cs rfl hcl hcell ?_)
                | fail)
              refine (given11_calls (fun b => b < W.heap.size) cs r _ hcs hok).mono ?_
              rintro e w3 ⟨cs3, rfl, hr3, hf3⟩
              have hT3 := hT.fr0 hf3
              have hTl := hT.lt
              have hz3 := hf3.size
              go_wp2_with fail
              refine (tapply_calls w3 T' O' _ p tk cs3 r hT3 hr3 (fun b hb hTb => by have := hTl.1 b hTb; omega) (by omega)).mono ?_
              rintro e w4 ⟨rfl, T4, O4, hT4, hq4, ho4, hf4⟩
              go_wp2_with fail
              go_roundw
              case rel =>
                refine ⟨k + 1, T4, O4, by omega, by omega, by go_num, by rw [HT.out]; exact hT4, fun b hb => ?_, fun b hb => ?_, (hf.trans hf3 (fun _ _ hn => hn.elim)).trans hf4 (fun b hb hT => ?_)⟩
                · rcases hq4 b hb with h | h
                  · exact hTd b h
                  · exact .inr (by omega)
                · rcases ho4 b hb with h | h
                  · exact hOd b h
                  · exact .inr (by omega)
                · rcases hTd b hT with h | h
                  · exact h
                  · omega
              case measure => simp [intOf]; omega
            · have ek2 : decide ((k : Int) < 20) = false := by simp; omega
              obtain rfl : k = 20 := by omega
              go_wp2_with fail
              go_meet
              case rel => exact ⟨T', O', hT, hTd, hOd, hf⟩
          · obtain rfl : k = m.length := by omega
            have ek : decide ((m.length : Int) < m.length) = false := by simp
            have hTk : TabAt wr T' O' p (applyAll t (m.take 20)) := by
              rw [List.take_of_length_le (by omega)]
              rw [List.take_length] at hT
              exact hT
            go_wp2_with fail
            go_meet
            case rel => exact ⟨T', O', hTk, hTd, hOd, hf⟩
      case rest =>
        obtain ⟨Tb, Ob, hTb, hqb, hob, hfb⟩ := hcut
        obtain ⟨wb, hwb⟩ : ∃ wb, wb = wc := ⟨_, rfl⟩
        subst hwb
        have hnb : (applyAll t (m.take 20)).n ≤ 1000000 := by
          have h1 := applyAll_n (m.take 20) t
          have h2 : (m.take 20).length ≤ 20 := by rw [List.length_take]; omega
          omega
        have hokb : TabOk (applyAll t (m.take 20)) := applyAll_ok _ _ hoka
        have HAT := Lib.hid (stays_at (m.take 20) t hcf hcl)
        have HOO := Lib.hid (fun ks h => stays_oops (m.take 20) t hcf hcl (ks := ks) h)
        generalize applyAll t (m.take 20) = u at *
        have hFb : Fr No W wb := hF6.trans hfb (fun b hb hT => by have := hlowa b hT; omega)
        have k1 := hb5.fr hfb (fun hT => by have := hTla.1 _ hT; omega)
        have hown6 := hown5.fr hfb (fun b hb hT => by have := hTla.1 b hT; omega)
        have hr6 := IRow.fr hr6 hfb (fun b hb hT => by have := hTla.1 b hT; omega)
        have hzb := hfb.size
        clear hfb hqb hob hTa hb5 hown5
        go_wp2_with fail
        refine (tat_calls wb Tb Ob p u t.last xo hTb hokb hnb wo).mono ?_
        rw [HAT.out, ← HR4.out]
        rintro e wA ⟨csA, rfl, hownA, hfA⟩
        obtain ⟨AA, cA, DA, dA, rfl⟩ := hownA.lit6
        have hfAB : Fr No wA (wA.alloc (.cells #[.int .i64 R4.1.cls, .slice AA R4.1.slots.length cA, .slice DA R4.1.bytes.length dA] tObj)) := (Fr.refl No wA).alloc _
        have hbB := Blk.new wA tObj #[.int .i64 R4.1.cls, .slice AA R4.1.slots.length cA, .slice DA R4.1.bytes.length dA]
        have hownB := hownA.fr hfAB (fun _ _ hn => hn)
        have hgB := hfA.tr hfAB
        have k1 := (k1.fr0 hgB).all
        have k2 := hbB.all
        have hc1 := (hown6.fr hgB (fun _ _ hn => hn)).rd (by omega) (by omega)
        have hc2 := hownB.rd (by omega) (by omega)
        have HSO := Lib.hid (sameO_self R4.1)
        have ebe : (R4.2 == R4.2) = true := by simp
        go_wp2_with (first
          | (refine wpList_ldA ag_obj rfl _ rfl ⟨w4.heap.size, 0, none⟩ [.int .i64 R4.1.cls, .slice A4 R4.1.slots.length c4, .slice D4 R4.1.bytes.length d4] rfl rfl k1 ?_)
          | (refine wpList_ldA ag_obj rfl _ rfl ⟨wA.heap.size, 0, none⟩ [.int .i64 R4.1.cls, .slice AA R4.1.slots.length cA, .slice DA R4.1.bytes.length dA] rfl rfl k2 ?_)
          | fail)
        refine (refsame_calls _ _ _ _ R4.1 R4.1 _ hc1 hc2).mono ?_
        rw [HSO.out]
        rintro e wE ⟨rfl, hfE⟩
        have hgE := hgB.tr hfE
        go_wp2_with fail
        refine (oops_calls wE Tb Ob p u t.last (hTb.fr0 hgE) hokb hnb).mono ?_
        rintro e wG ⟨x3, ks3, rfl, ho3, hr3, hfG, _⟩
        have eks := (HOO.out ks3 ho3).unique HO6.out
        subst eks
        obtain ⟨B3, e3, rfl, hd3⟩ := hr3.rd (by omega)
        obtain ⟨B1', e1', hq1, hd1⟩ := (hr6.fr0 (hgE.tr hfG)).rd (by omega)
        injection hq1 with hq1 _ hq2
        subst hq1 hq2
        go_wp2_with fail
        refine (isame_self _ _ B1 B3 e1 e3 ks3 wG hd1 hd3).mono ?_
        rintro e wH ⟨rfl, hfH⟩
        go_wp2_with fail
        refine (known11_calls _).mono ?_
        rintro e wz ⟨rfl, hfz⟩
        go_wp2
        go_ret
        exact ⟨rfl, (hFb.tr ((hgE.tr hfG).tr hfH)).tr hfz⟩
end Go.Proofs.Ytifcnjebepipnaa
