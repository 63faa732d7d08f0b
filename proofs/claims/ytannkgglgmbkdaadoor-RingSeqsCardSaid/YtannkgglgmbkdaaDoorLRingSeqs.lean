/- RingSeqs: the walk. No condition. -/
import Derived.Test.YtannkgglgmbkdaaDoorNPSeqs
import Derived.Test.YtannkgglgmbkdaaDoorLintO
import Derived.Test.YtannkgglgmbkdaaDoorCount
namespace Go.Proofs.YtannkgglgmbkdaaDoor
set_option linter.unusedVariables false
set_option linter.unusedSimpArgs false
open Go.RowKit
theorem half300 : halfN 300 = 149 := by decide
set_option maxHeartbeats 8000000 in
set_option maxRecDepth 100000 in
theorem law_RingSeqs (W : World) (a : Option Addr) (cap : Nat) (l : List Int) (hl : RdI W (fun b => b < W.heap.size) a l) (wf : Wf l) :
    Calls Tryd.prog 4 #[.slice a l.length cap] W fun e w' => e = .returned (.bool true) ∧ Fr No W w' := by
  have hll := hl.2.1
  go_enter Tryd.func4, Tryd.ntmps4
  go_wp2_with fail
  refine (device_calls 300 (by decide) (by decide) _).mono ?_
  rintro e w1 ⟨H, R, rfl, hd1, hf1⟩
  obtain ⟨d1, hq1, hfm, d2, hq2, hnow2, hop⟩ := start_calls0 300 (by decide) (by decide) w1 _ H hd1
  go_wp2_with fail
  refine hfm.mono ?_
  rintro e w2 ⟨rfl, hd2, hf2⟩
  have hz1 := hf1.size
  have hz2 := hf2.size
  have hF2 : Fr No W w2 := hf1.trans hf2 (fun b hb h => by omega)
  replace hd2 : DiskAt w2 (fun b => W.heap.size ≤ b) H d1 := hd2.mono (fun b _ hb => hb.elim id (fun h => by omega))
  go_wp2_with fail
  refine (hop _ _ hd2).mono ?_
  rintro e w3 ⟨L, M, v, cs, rfl, ⟨hle, hlt, hlN, hlog, hdisk, hown, hownN, hcells, hf3⟩⟩
  have hF3 : Fr No W w3 := hF2.trans hf3 (fun b hb h => by omega)
  have hz3 := hf3.size
  replace hdisk : DiskAt w3 (fun b => W.heap.size ≤ b ∧ b ≠ L) H d2 := hdisk.mono (fun b _ hb => by rcases hb with hb | hb <;> exact ⟨by omega, by omega⟩)
  have hLW : W.heap.size ≤ L := by omega
  have hL3 : L < w3.heap.size := by omega
  obtain ⟨A3, c3, rfl, _, _, _⟩ := own_form hown
  have hdev : Dev d2 2 [] := ⟨hq2, Nat.le_refl _, True.intro, by simp [placed], by rw [hnow2]; rfl⟩
  clear hfm hop hd1 hd2 hf1 hf2 hf3 hown hownN hcells hF2 hle hlt hlN hq1 hq2 hnow2 hz1 hz2 hz3
  have hroom : ∀ (w' : World) (X : Nat → Prop) (L' : Nat) (d : DiskM) (h : HeadM) (sq : Int) (q : Nat), Quiet d 300 → LogAt w' L' H ⟨h, sq, q, false⟩ → DiskAt w' X H d → q ≤ 149 → Calls Tryd.prog 17 #[.pointer (some ⟨L', 0, none⟩)] w' fun e w'' => e = .returned (.int .i64 ((149 - q : Nat) : Int)) ∧ Fr No w' w'' := fun w' X L' d h sq q hq hl hd hqm => by
    have := room_calls w' X L' H _ d hl hd (by rw [hq.2.2.2]; decide) (by rw [hq.2.2.2, half300]; exact hqm)
    rw [hq.2.2.2, half300] at this
    exact this
  go_wp2_with fail
  go_loopw [5, 8] (fun s5 s8 wr => ∃ (i n q L : Nat) (ps : List (Int × List UInt8)) (d : DiskM), s5 = .pointer (some ⟨L, 0, none⟩) ∧ s8 = .int .i64 (i : Int) ∧ i ≤ 20 ∧ i ≤ l.length ∧ Hid (ps.length = i) ∧ Hid (q = (placed 1 ps).length) ∧ q ≤ 6 * i ∧ n ≤ 2 + i ∧ Hid (Dev d n ps) ∧
    LogAt wr L H ⟨kH n, 1 + (i : Int), q, false⟩ ∧ DiskAt wr (fun b => W.heap.size ≤ b ∧ b ≠ L) H d ∧ Fr No W wr ∧ L < wr.heap.size ∧ W.heap.size ≤ L) (fun _ s8 _ => 20 - (intOf s8).toNat)
  case atStart => exact ⟨0, 2, 0, L, [], d2, rfl, rfl, by omega, by omega, Lib.hid rfl, Lib.hid rfl, by omega, by omega, Lib.hid hdev, hlog, hdisk, hF3, hL3, hLW⟩
  case round =>
    clear hlog hdisk hF3 hL3 hLW hdev
    rename_i Lold _ _ _
    obtain ⟨i, n, q, L, ps, d, rfl, rfl, hi20, hil, HPS, HQ, hq6, hn, HDV, hlg, hdd, hF, hLr, hLW⟩ := hrel
    by_cases hlt : i < l.length
    · have e1 : decide ((i : Int) < (l.length : Int)) = true := by simp; omega
      by_cases h20 : i < 20
      · have e2 : decide ((i : Int) < 20) = true := by simp; omega
        obtain ⟨ad, u, hA, _, hu, hcell⟩ := Rd.at_ (show Rd W (fun b => b < W.heap.size) 1 a l.length (I64 l) from hl) hlt
        subst hA
        have hx : u = .int .i64 l[i] := by
          rw [I64, List.getElem?_map, List.getElem?_eq_getElem hlt] at hu
          simpa using hu.symm
        subst hx
        have hxr : -9223372036854775808 ≤ l[i] ∧ l[i] ≤ 9223372036854775807 := by simpa [Lit.wf, IntKind.min, IntKind.max, IntKind.signed, IntKind.bits] using wf _ (List.getElem_mem hlt)
        have hcr := hF.cell_some hcell (fun hn => hn)
        clear hu
        have HCW := Lib.hid hcell
        clear hcell
        generalize l[i] = x at *
        have hc1 := count_calls x 600 wr hxr.1 hxr.2 (by decide) (by decide)
        have hr1 := countZ_range x 600 (by decide)
        obtain ⟨b, hb⟩ : ∃ b : Nat, countZ x 600 = (b : Int) := ⟨(countZ x 600).toNat, by omega⟩
        rw [hb] at hc1 hr1
        obtain ⟨S, hS⟩ : ∃ S, S = 1 + b := ⟨_, rfl⟩
        have HS := Lib.hid (show (1 : Int) + (b : Int) = (S : Int) by omega)
        have hS1 : 1 ≤ S := by omega
        have hS6 : S ≤ 600 := by omega
        obtain ⟨sq, hsq⟩ : ∃ sq : Int, sq = 1 + (i : Int) := ⟨_, rfl⟩
        have HSQ := Lib.hid hsq
        have hsq1 : 1 ≤ sq := by omega
        have hsq2 : sq ≤ 21 := by omega
        have hq149 : q ≤ 149 := by omega
        rw [← hsq] at hlg
        obtain ⟨r, hrr⟩ : ∃ r, r = 149 - q := ⟨_, rfl⟩
        have HR := Lib.hid hrr
        have hr0 := hroom wr _ L d (kH n) sq q HDV.out.1 hlg hdd hq149
        rw [← hrr] at hr0
        clear hb hS hsq hrr
        go_wp2_with fail
        refine hc1.mono ?_
        rintro e wy ⟨rfl, hwy⟩
        subst hwy
        go_upto_region 11 with fail
        rw [HS.out]
        clear hc1 hr1 hxr
        go_wp2_with fail
        refine (seq_calls _ L H _ hlg).mono ?_
        rintro e wy ⟨rfl, hwy⟩
        replace hwy := hwy.symm
        subst hwy
        go_wp2_with fail
        refine hr0.mono ?_
        rintro e w5 ⟨rfl, hf5⟩
        have hlg5 := hlg.fr0 hf5
        have hdd5 := hdd.fr0 hf5
        have hF5 := hF.tr hf5
        have hL5 : L < w5.heap.size := Nat.lt_of_lt_of_le hLr hf5.size
        clear hlg hdd hF hLr hf5 hr0 hcr
        go_wp2_with fail
        refine (text_calls S 3 w5 (by omega)).mono ?_
        rintro e w7 ⟨rfl, hb7, hf7⟩
        obtain ⟨k, hk⟩ : ∃ k, k = recN S := ⟨_, rfl⟩
        have hk6 : k ≤ 6 := by rw [hk]; unfold recN; omega
        have hqk : q + k ≤ 149 := by omega
        obtain ⟨d8, hs8, hdv8, hpl8⟩ := HDV.out.appends (r := List.replicate S 3) (by rw [List.length_replicate]; exact ⟨hS1, by omega⟩) (by rw [List.length_replicate, ← HQ.out, ← hk]; exact hqk)
        rw [← HQ.out, HPS.out, ← HSQ.out] at hs8
        rw [← HQ.out, List.length_replicate, ← hk] at hpl8
        have hF7 := hF5.tr hf7
        have hsz7 := hF7.size
        have hL7 : L < w7.heap.size := Nat.lt_of_lt_of_le hL5 hf7.size
        have hn2 := HDV.out.2.1
        have hap := append_calls w7 _ L H ⟨kH n, sq, q, false⟩ d d8 (some ⟨w5.heap.size, 0, none⟩) S (List.replicate S 3) 0 (hlg5.fr0 hf7) rfl (fun h => h.2 rfl) (hdd5.fr0 hf7) (by rw [HDV.out.1.2.2.2]; decide) rfl (by decide) (text_rd hb7 (by omega)) (by rw [List.length_replicate]; exact hS1) (by rw [List.length_replicate]; omega) (by rw [List.length_replicate]; exact Nat.le_refl _) (by have : maxLen = 9223372036854775807 := rfl; omega) (by rw [List.length_replicate, HDV.out.1.2.2.2, half300, ← hk]; exact hqk) ⟨hsq1, by show sq < 1099511627776; omega⟩ (by rw [HDV.out.1.2.2.1]; simp) (by rw [HDV.out.1.2.1]; omega) hs8
        rw [List.length_replicate, ← hk] at hap
        have HPL := Lib.hid hpl8
        have HDV8 := Lib.hid hdv8
        have HK := Lib.hid hk
        clear hlg5 hdd5 hF5 hL5 hb7 hf7 hs8 hdv8 hpl8 hk HDV
        go_wp2_with fail
        refine hap.mono ?_
        rintro e w8 ⟨rfl, hlg8, hd8, hf8⟩
        have hF8 : Fr No W w8 := hF7.trans hf8 (fun b hb h => by rcases h with h | h <;> omega)
        have hdd8 : DiskAt w8 (fun b => W.heap.size ≤ b ∧ b ≠ L) H d8 := hd8.mono (fun b _ hb => by
          rcases hb with hb | hb
          · exact hb.1
          · exact ⟨by omega, by omega⟩)
        have hL8 : L < w8.heap.size := Nat.lt_of_lt_of_le hL7 hf8.size
        have hlg8' : LogAt w8 L H ⟨kH n, sq + 1, q + k, false⟩ := hlg8
        clear hap hd8 hf8 hF7 hsz7 hL7 hlg8
        have hsqw : sq + 1 ≤ 9223372036854775807 := by omega
        have hq8 : Quiet d8 300 := HDV8.out.1
        go_wp2_with fail
        refine (seq_calls _ L H _ hlg8').mono ?_
        rintro e wy ⟨rfl, hwy⟩
        replace hwy := hwy.symm
        subst hwy
        have hr8 := hroom w8 _ L d8 (kH n) (sq + 1) (q + k) hq8 hlg8' hdd8 hqk
        obtain ⟨r8, hrr8⟩ : ∃ r8, r8 = 149 - (q + k) := ⟨_, rfl⟩
        rw [← hrr8] at hr8
        have er : ((r8 : Int) != wrap64 ((r : Int) - (k : Int))) = false := by
          have h1 : (r8 : Int) = (r : Int) - k := by have := HR.out; omega
          have h2 : wrap64 ((r : Int) - (k : Int)) = (r : Int) - k := by unfold wrap64; have := HR.out; omega
          rw [h2, h1]; simp
        have HR8 := Lib.hid hrr8
        clear hrr8
        go_wp2_with fail
        refine hr8.mono ?_
        rintro e w9 ⟨rfl, hf9⟩
        have hlg9 := hlg8'.fr0 hf9
        have hdd9 := hdd8.fr0 hf9
        have hF9 := hF8.tr hf9
        have hL9 : L < w9.heap.size := Nat.lt_of_lt_of_le hL8 hf9.size
        clear hlg8' hdd8 hF8 hL8 hf9 hr8
        go_wp2_with fail
        refine (sectors_calls (S : Int) w9).mono ?_
        rintro e wy ⟨rfl, hwy⟩
        replace hwy := hwy.symm
        subst hwy
        rw [sectorsM_recN hS1 (by omega), ← HK.out]
        have hcr := hF9.cell_some HCW.out (fun hn => hn)
        have hps8 : (ps ++ [((n : Int), List.replicate S 3)]).length = i + 1 := by rw [List.length_append, HPS.out]; rfl
        have hsq8 : sq + 1 = 1 + ((i + 1 : Nat) : Int) := by have := HSQ.out; omega
        have HPS8 := Lib.hid hps8
        have HSQ8 := Lib.hid hsq8
        clear hps8 hsq8
        by_cases hx3 : x.tmod 3 = 0
        · have e3 : (x.tmod 3 == 0) = true := by rw [beq_iff_eq]; exact hx3
          clear hx3
          go_wp2_with fail
          have hlc : Calls Tryd.prog 20 #[.pointer (some ⟨L, 0, none⟩)] w9 fun e w' => e = .returned (.int .i64 (n : Int)) ∧ w' = w9 := life_calls _ L H _ hlg9
          refine hlc.mono ?_
          rintro e wy ⟨rfl, hwy⟩
          replace hwy := hwy.symm
          subst hwy
          obtain ⟨dx, hlx, hdx⟩ := HDV8.out.lays
          have hnow8 := HDV8.out.2.2.2.2
          have hop := open_calls w9 _ H d8 dx (heads n).1 (heads n).2 (kH n) 0 _ _ _ hdd9 (by rw [hq8.2.2.2]; decide) hq8.1 (by rw [hq8.2.2.1]; simp) (by rw [hq8.2.1]; omega) (by rw [hnow8]; rfl) (by rw [hnow8]; rfl) (newest_heads n (by omega) (by omega)) rfl (by decide) ⟨by show (1 : Int) ≤ n; omega, by show (n : Int) < 1099511627776; omega⟩ ⟨by show (1 : Int) ≤ 1; decide, by show (1 : Int) ≤ 1099511627776; decide⟩ (HDV8.out.opens (by omega) (by rw [HPS8.out]; omega)) (by rw [HPS8.out]; omega) hlx
          rw [HPL.out, HPS8.out, ← HSQ8.out] at hop
          have hsz9 := hF9.size
          have HDX := Lib.hid hdx
          clear hlx hdx hnow8
          go_wp2_with fail
          refine hop.mono ?_
          rintro e wa ⟨L2, N2, v2, cs2, rfl, ⟨hle2, hlt2, hlN2, hlog2, hdisk2, hown2, hownN2, hcells2, hf2⟩⟩
          have hFa : Fr No W wa := hF9.trans hf2 (fun b hb h => by omega)
          have hlgo := hlg9.fr hf2 (fun h => h.2 rfl)
          have hlog2' : LogAt wa L2 H ⟨kH (n + 1 : Nat), sq + 1, q + k, false⟩ := hlog2
          have hdisk2' : DiskAt wa (fun b => W.heap.size ≤ b ∧ b ≠ L2) H dx := hdisk2.mono (fun b _ hb => by
            rcases hb with ⟨h1, h2⟩ | hb
            · exact ⟨h1.1, by omega⟩
            · exact ⟨by omega, by omega⟩)
          obtain ⟨A2, c2, rfl, hc2, hc2m, _⟩ := own_form hown2
          have hlen : (List.map (fun p : Int × List UInt8 => p.2) (ps ++ [((n : Int), List.replicate S 3)])).length = i + 1 := by rw [List.length_map, HPS8.out]
          rw [hlen]
          have hL2 : L2 < wa.heap.size := by omega
          have hW2 : W.heap.size ≤ L2 := by omega
          clear hop hlog2 hdisk2 hown2 hownN2 hcells2 hf2 hlg9 hdd9 hF9 hL9 hcr hc2 hlen
          go_wp2_with fail
          refine (seq_calls _ L2 H _ hlog2').mono ?_
          rintro e wy ⟨rfl, hwy⟩
          replace hwy := hwy.symm
          subst hwy
          go_wp2_with fail
          refine (seq_calls _ L H _ hlgo).mono ?_
          rintro e wy ⟨rfl, hwy⟩
          replace hwy := hwy.symm
          subst hwy
          have hra := hroom wa _ L2 dx _ (sq + 1) (q + k) HDX.out.1 hlog2' hdisk2' hqk
          rw [← HR8.out] at hra
          go_wp2_with fail
          refine hra.mono ?_
          rintro e wb ⟨rfl, hfb⟩
          have hlog3 := hlog2'.fr0 hfb
          have hdisk3 := hdisk2'.fr0 hfb
          have hlgo3 := hlgo.fr0 hfb
          have hF3 := hFa.tr hfb
          have hL3 : L2 < wb.heap.size := Nat.lt_of_lt_of_le hL2 hfb.size
          clear hlog2' hdisk2' hlgo hFa hL2 hfb hra
          have hrb := hroom wb _ L dx _ (sq + 1) (q + k) HDX.out.1 hlgo3 hdisk3 hqk
          rw [← HR8.out] at hrb
          go_wp2_with fail
          refine hrb.mono ?_
          rintro e wd ⟨rfl, hfd⟩
          have hlog4 := hlog3.fr0 hfd
          have hdisk4 := hdisk3.fr0 hfd
          have hlgo4 := hlgo3.fr0 hfd
          have hF4 := hF3.tr hfd
          have hL4 : L2 < wd.heap.size := Nat.lt_of_lt_of_le hL3 hfd.size
          clear hlog3 hdisk3 hlgo3 hF3 hL3 hfd hrb
          have hlc2 : Calls Tryd.prog 20 #[.pointer (some ⟨L2, 0, none⟩)] wd fun e w' => e = .returned (.int .i64 ((n : Int) + 1)) ∧ w' = wd := by
            have := life_calls _ L2 H _ hlog4
            rw [show (LogM.mk (kH ((n + 1 : Nat) : Int)) (sq + 1) (q + k) false).h.life = (n : Int) + 1 by show ((n + 1 : Nat) : Int) = _; omega] at this
            exact this
          have hnb : (n : Int) + 1 ≤ 9223372036854775807 := by omega
          go_wp2_with fail
          refine hlc2.mono ?_
          rintro e wy ⟨rfl, hwy⟩
          replace hwy := hwy.symm
          subst hwy
          have hsn := HSQ.out
          have ef1 : (((i + 1 : Nat) : Int) != sq + 1 - 1) = false := by rw [show sq + 1 - 1 = ((i + 1 : Nat) : Int) by omega]; simp
          have ef2 : (((i + 1 : Nat) : Int) != sq) = false := by rw [show sq = ((i + 1 : Nat) : Int) by omega]; simp
          have ef3 : (((i + 1 : Nat) : Int) != wrap64 (sq + 1 - 1)) = false := by rw [show wrap64 (sq + 1 - 1) = ((i + 1 : Nat) : Int) by unfold wrap64; omega]; simp
          have ef4 : ((i : Int) + 1 != sq) = false := by rw [show sq = (i : Int) + 1 by omega]; simp
          have ef5 : ((i : Int) + 1 != sq + 1 - 1) = false := by rw [show sq + 1 - 1 = (i : Int) + 1 by omega]; simp
          clear hsn
          go_wp2_with fail
          refine (seq_calls _ L H _ hlgo4).mono ?_
          rintro e wy ⟨rfl, hwy⟩
          replace hwy := hwy.symm
          subst hwy
          go_wp2_with fail
          go_roundw
          case rel => exact ⟨i + 1, n + 1, q + k, L2, ps ++ [((n : Int), List.replicate S 3)], dx, rfl, by go_num, by omega, by omega, HPS8, Lib.hid HPL.out.symm, by omega, by omega, HDX, HSQ8.out ▸ hlog4, hdisk4, hF4, hL4, hW2⟩
          case measure => simp [intOf]; omega
        · have e3 : (x.tmod 3 == 0) = false := by rw [beq_eq_false_iff_ne]; exact hx3
          clear hx3
          go_wp2_with fail
          go_roundw
          case rel => exact ⟨i + 1, n, q + k, L, ps ++ [((n : Int), List.replicate S 3)], d8, rfl, by go_num, by omega, by omega, HPS8, Lib.hid HPL.out.symm, by omega, by omega, HDV8, HSQ8.out ▸ hlg9, hdd9, hF9, hL9, hLW⟩
          case measure => simp [intOf]; omega
      · have e2 : decide ((i : Int) < 20) = false := by simp; omega
        go_wp2_with fail
        refine (known_calls _).mono ?_
        rintro e wz ⟨rfl, hfz⟩
        go_wp2_with fail
        go_ret
        exact ⟨rfl, hF.tr hfz⟩
    · have e1 : decide ((i : Int) < (l.length : Int)) = false := by simp; omega
      go_wp2_with fail
      refine (known_calls _).mono ?_
      rintro e wz ⟨rfl, hfz⟩
      go_wp2_with fail
      go_ret
      exact ⟨rfl, hF.tr hfz⟩
end Go.Proofs.YtannkgglgmbkdaaDoor
