/- disk.Disk.Crash. No condition but size. -/
import Derived.Test.YtannkgglgmbkdaaDoorDFlush
namespace Go.Proofs.YtannkgglgmbkdaaDoor
set_option linter.unusedVariables false
set_option linter.unusedSimpArgs false
open Go.RowKit

/-- What is safe behind a crash. -/
def crashS : List Sec → List (Nat × Sec) → List Bool → List Sec
  | S, [], _ => S
  | S, p :: ps, ks => crashS (if ks.headD false = true then S.set p.1 p.2 else S) ps ks.tail
def crashM (d : DiskM) (ks : List Bool) : DiskM := ⟨crashS d.safe d.way ks, crashS d.safe d.way ks, [], false, 0⟩
theorem ways_len {l : List (Nat × Sec)} (h : ∀ p ∈ l, p.2.length = 128) : (ways l).length = l.length * 129 := by
  induction l with
  | nil => rfl
  | cons p l ih =>
    have : ways (p :: l) = way1 p ++ ways l := rfl
    rw [this, List.length_append, ih (fun x hx => h x (by simp [hx])), way1_len (k := p.1) (h p (by simp)), List.length_cons]; omega
theorem ways_at {l : List (Nat × Sec)} (h : ∀ p ∈ l, p.2.length = 128) {i : Nat} (hi : i < l.length) (j : Nat) (u : Value) (hu : (way1 l[i])[j]? = some u) : (ways l)[i * 129 + j]? = some u := by
  have hj := (List.getElem?_eq_some_iff.1 hu).1
  have e : l = l.take i ++ (l[i] :: l.drop (i + 1)) := by rw [← List.drop_eq_getElem_cons hi, List.take_append_drop]
  have e2 : ways l = ways (l.take i) ++ (way1 l[i] ++ ways (l.drop (i + 1))) := by
    conv => lhs; rw [e]
    rw [ways_append]; rfl
  have hl : (ways (l.take i)).length = i * 129 := by rw [ways_len (fun p hp => h p (List.mem_of_mem_take hp)), List.length_take, Nat.min_eq_left (by omega)]
  rw [e2, List.getElem?_append_right (by omega), hl, show i * 129 + j - i * 129 = j by omega, List.getElem?_append_left hj]
  exact hu
theorem crashS_step (S : List Sec) (l : List (Nat × Sec)) (ks : List Bool) {i : Nat} (hi : i < l.length) : crashS S (l.drop i) (ks.drop i) = crashS (if ks.getD i false = true then S.set l[i].1 l[i].2 else S) (l.drop (i + 1)) (ks.drop (i + 1)) := by
  rw [List.drop_eq_getElem_cons hi, crashS, List.tail_drop]
  have : (ks.drop i).headD false = ks.getD i false := by
    rw [List.headD_eq_head?_getD, List.head?_drop, List.getD_eq_getElem?_getD]
  rw [this]
def BLs (ks : List Bool) : List Value := ks.map Value.bool

set_option maxHeartbeats 8000000 in
set_option maxRecDepth 100000 in
theorem crash_calls (w : World) (X S : Nat → Prop) (H : Nat) (d : DiskM) (ks : List Bool) (B : Option Addr) (cb : Nat) (h : DiskAt w X H d) (hks : Rd w S 1 B ks.length (BLs ks)) (hS : ∀ b, S b → ¬ X b) (hway : d.way.length ≤ 100000) :
    Calls Tryd.prog 24 #[.pointer (some ⟨H, 0, none⟩), .slice B ks.length cb] w fun e w' => e = .returned (.tuple #[]) ∧ Left w X X H (crashM d ks) w' := by
  obtain ⟨gs, cs, gn, cn, A, c, hP⟩ := h
  obtain ⟨hb, hsafe, hnow, hown, hne, hv, hX, hlen, hmax, hwf⟩ := id hP
  have hksl := hks.le
  have g1 := plain_int
  have g3 := plain_lsec
  have q2 := hb.cell 2
  simp only [List.getElem?_toArray, List.getElem?_cons_zero, List.getElem?_cons_succ] at q2
  have hneHs : ¬ (H = gs) := fun e => hne.2.1 e.symm
  have hneHn : ¬ (H = gn) := fun e => hne.2.2 e.symm
  have hSs : ∀ b, S b → ¬ (b = gs) := fun b hb e => hS b hb (e ▸ hX.2.1)
  have HV := Lib.hid hv
  have HW := Lib.hid hwf
  have HLEN := Lib.hid hlen
  have HSs := Lib.hid hSs
  clear hv hwf hlen hSs hS
  go_enter Tryd.func24, Tryd.ntmps24
  go_wp2_with fail
  go_loopw [13] (fun i wr => ∃ (k : Nat) (L : List Sec), k ≤ d.way.length ∧ i = .int .i64 (k : Int) ∧ SecAt wr gs cs L ∧ Hid (L.length = d.safe.length) ∧ Hid (crashS d.safe d.way ks = crashS L (d.way.drop k) (ks.drop k)) ∧ Fr (fun b => b = gs) w wr) (fun i _ => d.way.length - (intOf i).toNat)
  case atStart => exact ⟨0, d.safe, by omega, rfl, hsafe, Lib.hid rfl, Lib.hid rfl, Fr.refl _ _⟩
  case round =>
    obtain ⟨k, L, hk, rfl, hL, HL, HC, hf⟩ := hrel
    by_cases hlt : k < d.way.length
    · have ek : decide ((k : Int) < d.way.length) = true := by simpa using (by omega : (k : Int) < d.way.length)
      obtain ⟨gw, capw, hvA, _, hglt⟩ := hown.form (by omega)
      have hA : A = some ⟨gw, 0, none⟩ := by injection hvA
      subst hA
      have hgw := HV.out gw rfl
      obtain ⟨wf1, wf2⟩ := HW.out _ (List.getElem_mem hlt)
      have hcw : ∀ j u, (way1 d.way[k])[j]? = some u → wr.cell? ((⟨gw, k * 129, none⟩ : Addr).add j) = some u := fun j u hu => by
        have h1 := (hown.cells (g := gw) rfl) _ _ (ways_at (fun p hp => (HW.out p hp).2) hlt j u hu)
        have e : (⟨gw, k * 129, none⟩ : Addr).add j = (⟨gw, 0, none⟩ : Addr).add (k * 129 + j) := by rw [add_plain]; unfold Addr.add; split <;> simp_all
        rw [e]
        exact hf.cell_some h1 (by rw [block_of_add]; exact hgw.2.1)
      have hst := crashS_step L d.way ks hlt
      have hcc := HC.out.trans hst
      have HCC := Lib.hid hcc
      have HCW := Lib.hid hcw
      clear hst hcc hcw hvA
      generalize d.way[k] = p at *
      obtain ⟨pk, s⟩ := p
      have hls : s.length = 128 := wf2
      have hpk : pk < d.now.length := wf1
      have hw129 : (way1 (pk, s)).length = 129 := way1_len hls
      have HW129 := Lib.hid hw129
      clear wf1 wf2 hw129
      by_cases hkeep : k < ks.length
      · have ekk : decide ((k : Int) < ks.length) = true := by simpa using (by omega : (k : Int) < ks.length)
        obtain ⟨ad, u, rfl, hSad, hu, hkc⟩ := Rd.at_ (hks.fr hf HSs.out) hkeep
        have hu2 : (BLs ks)[k]? = some (.bool ks[k]) := by simp [BLs, hkeep]
        obtain rfl : Value.bool ks[k] = u := Option.some.inj (hu2.symm.trans hu)
        have hgd : ks.getD k false = ks[k] := by rw [List.getD_eq_getElem?_getD, List.getElem?_eq_getElem hkeep]; rfl
        clear hu hu2
        generalize ks[k] = bk at *
        cases bk with
        | false =>
          have HG := Lib.hid hgd
          clear hgd
          go_wp2_with (first
            | (refine wpList_ldA ag_wrote rfl _ rfl ⟨gw, k * 129, none⟩ (way1 (pk, s)) rfl HW129.out HCW.out ?_)
            | (refine wpList_allocA zero_wrote rfl rfl ?_; have hb0 := Blk.new wr 90 (way1 (0, zsec)).toArray)
            | (refine wpList_stA ag_wrote.info rfl _ _ rfl wr.heap.size 0 _ _ (way1 (pk, s)) _ rfl rfl rfl HW129.out (way1_one _) hb0 (by rw [List.size_toArray, way1_len zsec_len]; decide) ?_; intro w1 hb1 hg1 hz1; rw [splice_all _ _ (by rw [List.size_toArray, way1_len zsec_len, HW129.out])] at hb1; have hf1 : Fr No wr w1 := ((Fr.refl No wr).alloc _).grown hg1 (fun q hq => by injection hq with hq; exact .inl (by omega)); have hkc1 := hf1.cell_some hkc (fun hn => hn))
            | fail)
          go_roundw
          case rel => exact ⟨k + 1, L, by omega, by go_num, hL.fr hf1 (fun hn => hn), HL, Lib.hid (by rw [HCC.out, HG.out]; rfl), hf.trans hf1 (fun _ _ hn => hn.elim)⟩
          case measure => simp [intOf]; omega
        | true =>
          have HG := Lib.hid hgd
          clear hgd
          go_wp2_with (first
            | (refine wpList_ldA ag_wrote rfl _ rfl ⟨gw, k * 129, none⟩ (way1 (pk, s)) rfl HW129.out HCW.out ?_)
            | (refine wpList_allocA zero_wrote rfl rfl ?_; have hb0 := Blk.new wr 90 (way1 (0, zsec)).toArray)
            | (refine wpList_stA ag_wrote.info rfl _ _ rfl wr.heap.size 0 _ _ (way1 (pk, s)) _ rfl rfl rfl HW129.out (way1_one _) hb0 (by rw [List.size_toArray, way1_len zsec_len]; decide) ?_; intro w1 hb1 hg1 hz1; rw [splice_all _ _ (by rw [List.size_toArray, way1_len zsec_len, HW129.out])] at hb1; have hf1 : Fr No wr w1 := ((Fr.refl No wr).alloc _).grown hg1 (fun q hq => by injection hq with hq; exact .inl (by omega)); have hkc1 := hf1.cell_some hkc (fun hn => hn))
            | fail)
          have hL1 := hL.fr hf1 (fun hn => hn)
          obtain ⟨_, hcs, _, cur, hbs, hcz, _⟩ := id hL1
          have hbH : Blk wr H 87 _ := hb.fr hf hneHs
          have q0 := (hbH.fr0 hf1).cell 0
          have p0 : w1.cell? ⟨wr.heap.size, 0, none⟩ = some (.int .i64 (pk : Int)) := hb1.cell 0
          have hcs1 : ∀ j u, (U8 s)[j]? = some u → w1.cell? ((⟨wr.heap.size, 1, none⟩ : Addr).add j) = some u := hb1.cells 1 (U8 s) (fun j u hu => by
            rw [List.getElem?_toArray, Nat.add_comm]; exact hu)
          simp only [List.getElem?_toArray, List.getElem?_cons_zero, List.getElem?_cons_succ] at q0
          have hls2 : (U8 s).length = 128 := by rw [U8_length, hls]
          have hneB : ¬ (wr.heap.size = gs) := by have := hL.lt; omega
          have hpL : pk < d.safe.length := by have := HLEN.out; omega
          have hLl : pk < L.length := by have := HL.out; omega
          have hsm : d.safe.length ≤ 4096 := by have := HLEN.out; omega
          (refine T_begin (fun b => b = gs) [0, 1, 2, 3, 4, 5, 6, 7, 8, 9] [9] (by kernel_rfl) (by kernel_rfl) ?_; simp only [pickOps, List.filterMap_cons, List.filterMap_nil, List.getElem?_cons_zero, List.getElem?_cons_succ, Act.put])
          repeat (first | (refine T_skip (by rfl) (by rfl) (fun _ _ _ h => h) ?_; try simp only [Act.put, List.setIfInBounds_toArray, List.set_cons_zero, List.set_cons_succ]) | (refine T_pass (by rfl) (by rfl) ?_; try simp only [Act.put, List.setIfInBounds_toArray, List.set_cons_zero, List.set_cons_succ]) | (refine T_load (by assumption) (by rfl) (by rfl) (fun _ _ _ _ h => h) rfl rfl (by assumption) (by first | exact (fun hn => hn) | assumption) ?_; try simp only [Act.put, List.setIfInBounds_toArray, List.set_cons_zero, List.set_cons_succ]) | (refine T_nil (by rfl) (by rfl) (fun _ _ _ _ h => h) rfl rfl ?_; try simp only [Act.put, List.setIfInBounds_toArray, List.set_cons_zero, List.set_cons_succ]) | (refine T_quietN (by rfl) (by rfl) (by rfl) (by rfl) (fun _ _ _ _ h => h) (fun K hK => ?_); go_big_quiet_op; refine hK _ ?_; clear hK K) | (refine T_two (by rfl) (by rfl) (by rfl) (by rfl) (fun _ _ _ _ h => h) (fun K hK => ?_); go_big_quiet_op; refine ⟨_, fun _ _ => rfl, ?_⟩; refine hK _ ?_; clear hK K; try simp only [Act.put, List.setIfInBounds_toArray, List.set_cons_zero, List.set_cons_succ]) | fail)
          refine T_loadA (cs := U8 s) ag_sec (by rfl) (by rfl) (fun _ _ _ _ h => h) rfl rfl hls2 hcs1 hneB ?_
          try simp only [Act.put, List.setIfInBounds_toArray, List.set_cons_zero, List.set_cons_succ]
          repeat (first | (refine T_skip (by rfl) (by rfl) (fun _ _ _ h => h) ?_; try simp only [Act.put, List.setIfInBounds_toArray, List.set_cons_zero, List.set_cons_succ]) | (refine T_pass (by rfl) (by rfl) ?_; try simp only [Act.put, List.setIfInBounds_toArray, List.set_cons_zero, List.set_cons_succ]) | (refine T_load (by assumption) (by rfl) (by rfl) (fun _ _ _ _ h => h) rfl rfl (by assumption) (by first | exact (fun hn => hn) | assumption) ?_; try simp only [Act.put, List.setIfInBounds_toArray, List.set_cons_zero, List.set_cons_succ]) | (refine T_nil (by rfl) (by rfl) (fun _ _ _ _ h => h) rfl rfl ?_; try simp only [Act.put, List.setIfInBounds_toArray, List.set_cons_zero, List.set_cons_succ]) | (refine T_quietN (by rfl) (by rfl) (by rfl) (by rfl) (fun _ _ _ _ h => h) (fun K hK => ?_); go_big_quiet_op; refine hK _ ?_; clear hK K) | (refine T_two (by rfl) (by rfl) (by rfl) (by rfl) (fun _ _ _ _ h => h) (fun K hK => ?_); go_big_quiet_op; refine ⟨_, fun _ _ => rfl, ?_⟩; refine hK _ ?_; clear hK K; try simp only [Act.put, List.setIfInBounds_toArray, List.set_cons_zero, List.set_cons_succ]) | fail)
          refine T_call (by rfl) (by rfl) (fun K hK => ?_)
          refine wp_stA ag_sec.info _ _ rfl gs (pk * 128) _ cur (U8 s) _ rfl rfl rfl hls2 (U8_one s) hbs (by rw [hcz]; omega) ?_
          intro w3 hb3 hg3 hz3
          refine hK.out _ _ ((Fr.refl _ _).grown hg3 (fun q hq => by injection hq with hq; exact .inr hq.symm)) ?_
          clear hK K
          try simp only [Act.put, List.setIfInBounds_toArray, List.set_cons_zero, List.set_cons_succ]
          refine T_done ?_
          have hf13 : Fr (fun b => b = gs) w1 w3 := ((Fr.refl (fun b => b = gs) w1).drew).grown hg3 (fun q hq => by injection hq with hq; exact .inr hq.symm)
          go_wp2
          go_roundw
          case rel => exact ⟨k + 1, L.set pk s, by omega, by go_num, SecAt.put hL1 hLl hls hbs hb3, Lib.hid (by rw [List.length_set]; exact HL.out), Lib.hid (by rw [HCC.out, HG.out]; rfl), (hf.trans hf1 (fun _ _ hn => hn.elim)).trans hf13 (fun _ _ hb => hb)⟩
          case measure => simp [intOf]; omega
      · have ekk : decide (k < ks.length) = false := by simpa using hkeep
        have hgd : ks.getD k false = false := by rw [List.getD_eq_getElem?_getD, List.getElem?_eq_none (by omega)]; rfl
        have HG := Lib.hid hgd
        clear hgd
        go_wp2_with (first
          | (refine wpList_ldA ag_wrote rfl _ rfl ⟨gw, k * 129, none⟩ (way1 (pk, s)) rfl HW129.out HCW.out ?_)
          | (refine wpList_allocA zero_wrote rfl rfl ?_; have hb0 := Blk.new wr 90 (way1 (0, zsec)).toArray)
          | (refine wpList_stA ag_wrote.info rfl _ _ rfl wr.heap.size 0 _ _ (way1 (pk, s)) _ rfl rfl rfl HW129.out (way1_one _) hb0 (by rw [List.size_toArray, way1_len zsec_len]; decide) ?_; intro w1 hb1 hg1 hz1; rw [splice_all _ _ (by rw [List.size_toArray, way1_len zsec_len, HW129.out])] at hb1; have hf1 : Fr No wr w1 := ((Fr.refl No wr).alloc _).grown hg1 (fun q hq => by injection hq with hq; exact .inl (by omega)))
          | fail)
        go_roundw
        case rel => exact ⟨k + 1, L, by omega, by go_num, hL.fr hf1 (fun hn => hn), HL, Lib.hid (by rw [HCC.out, HG.out]; rfl), hf.trans hf1 (fun _ _ hn => hn.elim)⟩
        case measure => simp [intOf]; omega
    · obtain rfl : k = d.way.length := by omega
      have ek : decide ((d.way.length : Int) < d.way.length) = false := by simp
      have HCE := Lib.hid (show crashS d.safe d.way ks = L by have := HC.out; rw [List.drop_length] at this; exact this)
      clear ek
      have hP1 := hP.saved hf HL.out hL
      obtain ⟨hbH, _, hnow1, _⟩ := id hP1
      have q0 := hbH.cell 0
      have q1 := hbH.cell 1
      simp only [List.getElem?_toArray, List.getElem?_cons_zero, List.getElem?_cons_succ] at q0 q1
      have hnow2 : SecAt wr gn cn d.now := hnow1
      obtain ⟨_, hcn, _, cur, hbn, hcz, _⟩ := id hnow2
      have hsm : d.safe.length ≤ 4096 := by have := HLEN.out; omega
      have hrd := hL.rd (by have := HL.out; omega)
      rw [HL.out] at hrd
      rw [HL.out] at q0
      have HLL := Lib.hid hL.1
      have ek : decide ((d.way.length : Int) < d.way.length) = false := by simp
      go_wp2_with fail
      (refine T_begin (fun b => b = gn) [0, 1, 2, 3, 4, 5, 6, 7, 8] [8] (by kernel_rfl) (by kernel_rfl) ?_; simp only [pickOps, List.filterMap_cons, List.filterMap_nil, List.getElem?_cons_zero, List.getElem?_cons_succ, Act.put])
      repeat (first | (refine T_skip (by rfl) (by rfl) (fun _ _ _ h => h) ?_; try simp only [Act.put, List.setIfInBounds_toArray, List.set_cons_zero, List.set_cons_succ]) | (refine T_pass (by rfl) (by rfl) ?_; try simp only [Act.put, List.setIfInBounds_toArray, List.set_cons_zero, List.set_cons_succ]) | (refine T_load (by assumption) (by rfl) (by rfl) (fun _ _ _ _ h => h) rfl rfl (by assumption) (by first | exact (fun hn => hn) | assumption) ?_; try simp only [Act.put, List.setIfInBounds_toArray, List.set_cons_zero, List.set_cons_succ]) | (refine T_nil (by rfl) (by rfl) (fun _ _ _ _ h => h) rfl rfl ?_; try simp only [Act.put, List.setIfInBounds_toArray, List.set_cons_zero, List.set_cons_succ]) | (refine T_quietN (by rfl) (by rfl) (by rfl) (by rfl) (fun _ _ _ _ h => h) (fun K hK => ?_); go_big_quiet_op; refine hK _ ?_; clear hK K) | (refine T_two (by rfl) (by rfl) (by rfl) (by rfl) (fun _ _ _ _ h => h) (fun K hK => ?_); go_big_quiet_op; refine ⟨_, fun _ _ => rfl, ?_⟩; refine hK _ ?_; clear hK K; try simp only [Act.put, List.setIfInBounds_toArray, List.set_cons_zero, List.set_cons_succ]) | fail)
      refine T_call (by rfl) (by rfl) (fun K hK => ?_)
      refine wp_copyA so_sec rfl hbn (hrd.drew) (secs_one _) rfl rfl (by have := HLEN.out; rw [hcz]; omega) ?_
      intro w3 hb3 hg3 hz3
      refine hK.out _ _ ((Fr.refl _ _).grown hg3 (fun q hq => by injection hq with hq; exact .inr hq.symm)) ?_
      clear hK K
      try simp only [Act.put, List.setIfInBounds_toArray, List.set_cons_zero, List.set_cons_succ]
      refine T_done ?_
      rw [List.take_of_length_le (by rw [secs_len HLL.out, HL.out]; have := HLEN.out; omega)] at hb3
      have hf3 : Fr (fun b => b = gn) wr w3 := ((Fr.refl (fun b => b = gn) wr).drew).grown hg3 (fun q hq => by injection hq with hq; exact .inr hq.symm)
      have hll : L.length = d.now.length := HL.out.trans HLEN.out
      have HLn := Lib.hid hll
      clear hll hrd
      have hP3 := hP1.turn hf3 HLn.out (hnow2.over hbn HLL.out HLn.out hb3)
      have hb3H := hP3.1
      have q32 := hb3H.cell 2
      have z32 := hb3H.frozen 2
      have q33 := hb3H.cell 3
      have z33 := hb3H.frozen 3
      have q34 := hb3H.cell 4
      have z34 := hb3H.frozen 4
      simp only [List.getElem?_toArray, List.getElem?_cons_zero, List.getElem?_cons_succ] at q32 q33 q34
      go_wp2
      go_end0
      have hset : Fr (fun b => b = H) w3 (((w3.setCell ⟨H, 2, none⟩ (.slice none 0 0)).setCell ⟨H, 3, none⟩ (.bool false)).setCell ⟨H, 4, none⟩ (.int .i64 0)) := (((Fr.refl (fun b => b = H) w3).set (.inr rfl) _).set (p := ⟨H, 3, none⟩) (.inr rfl) _).set (p := ⟨H, 4, none⟩) (.inr rfl) _
      have hfin : crashM d ks = ⟨L, L, [], false, 0⟩ := by unfold crashM; rw [HCE.out]
      rw [hfin]
      refine ⟨rfl, ⟨gs, cs, gn, cn, none, 0, ?_⟩, ((hf.mono (T := X) (fun b _ hb2 => by subst hb2; exact hX.2.1)).trans (hf3.mono (T := X) (fun b _ hb2 => by subst hb2; exact hX.2.2)) (fun _ _ hb => hb)).trans (hset.mono (T := X) (fun b _ hb2 => by subst hb2; exact hX.1)) (fun _ _ hb => hb)⟩
      obtain ⟨_, h1, h2, _, _, _, _, h7, h8, _⟩ := hP3
      exact ⟨((hb3H.put 2 _).put 3 _).put 4 _, h1.fr hset hne.2.1, h2.fr hset hne.2.2, World.ownsRow_nil _ _ _ _, hne, fun b hb => by simp [Value.ownBlock] at hb, hX, rfl, h8, fun p hp => by cases hp⟩
end Go.Proofs.YtannkgglgmbkdaaDoor
