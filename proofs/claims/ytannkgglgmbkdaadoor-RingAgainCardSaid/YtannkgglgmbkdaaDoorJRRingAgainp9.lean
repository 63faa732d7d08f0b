/- law04.play: the walk. No condition. RingAgain: the walk. No condition. -/
import Derived.Test.YtannkgglgmbkdaaDoorJRRingAgainp8
import Derived.Test.YtannkgglgmbkdaaDoorJRRingAgainp1
namespace Go.Proofs.YtannkgglgmbkdaaDoor
set_option linter.unusedVariables false
set_option linter.unusedSimpArgs false
open Go.RowKit

abbrev tStory : TypeId := 51
theorem near_form (n : Nat) (hn : 4 ≤ n) (now : List Sec) (h : now = zsec :: headB (kH 1) :: List.replicate (n - 2) zsec) : Near now n (kH 1) 0 [] := by
  have hl : now.length = n := by rw [h]; simp; omega
  have i1 : HeadIn (kH 1) := kH_in (by decide)
  have hz : ∀ hf s, s ∈ restOf now hf → s = zsec := by
    intro hf s hs
    unfold restOf at hs
    have h1 := List.mem_of_mem_take hs
    rw [h, show 2 + hf * halfN (zsec :: headB (kH 1) :: List.replicate (n - 2) zsec).length = (hf * halfN (zsec :: headB (kH 1) :: List.replicate (n - 2) zsec).length) + 1 + 1 by omega, List.drop_succ_cons, List.drop_succ_cons] at h1
    exact List.eq_of_mem_replicate (List.mem_of_mem_drop h1)
  refine ⟨hl, ⟨i1, by rw [h]; rfl, zsec, by rw [h]; rfl, fun _ => by decide +kernel⟩, rfl, by decide, ⟨restOf now 0, rfl, fun s hs => .inl ?_⟩, by decide, True.intro, fun x _ s hs => ?_⟩
  · rw [hz 0 s hs, zsec_life]; decide
  · rw [hz _ s hs, zsec_life]; decide
theorem form_ready (n : Nat) (h4 : 4 ≤ n) (hm : n ≤ 4096) (w : World) (X : Nat → Prop) (H : Nat) (hd : DiskAt w X H (zeroM n)) :
    ∃ d1, Quiet d1 n ∧ d1.safe = d1.now ∧ Near d1.now n (kH 1) 0 [] ∧ Calls Tryd.prog 13 #[.pointer (some ⟨H, 0, none⟩)] w (fun e w' => e = .returned (.int .i64 0) ∧ Left w X (Wid X w) H d1 w') := by
  obtain ⟨d1, f1, q1, n1⟩ := format_quiet n h4
  obtain ⟨d2, g1, _, _, g4⟩ := safely_quiet (zero_quiet n) 0 [zsec, headB (kH 1)]
  have e : d1 = d2 := by
    have : (d1, true) = (d2, true) := f1.symm.trans g1
    injection this
  refine ⟨d1, q1, by rw [e]; exact g4, near_form n h4 _ n1, ?_⟩
  have hl : (zeroM n).now.length = n := (zero_quiet n).2.2.2
  have := format_calls w X H _ hd (by rw [hl]; exact h4) (by show ([] : List (Nat × Sec)).length ≤ 50000; simp) (by show 0 ≤ 1000000; omega)
  rw [f1] at this
  exact this
/-- How a round's turn has come out. -/
def TurnR (W w : World) (n j ST H L : Nat) (f : Int) (v1 v2 : Value) : Prop :=
  ∃ X d h hf ps, (f = 0 ∧ Good W w n (j + 2) ST H L X d h hf ps ∧ SureAt w X L ST v2 (ps.map (·.2))) ∨ (f = 4 ∧ Good W w n (j + 2) ST H L X d h hf ps ∧ SureAt w X L ST v1 (ps.map (·.2))) ∨ (f = 14 ∧ Bad W w n (j + 1) ST H X d h hf ps ∧ SureAt w X L ST v1 (ps.map (·.2)))
theorem DoneR.turn {W w : World} {n j ST H L : Nat} {X : Nat → Prop} {h h' : HeadM} {hf hf' : Nat} {ps ps' : List (Int × List UInt8)} {f : Int} {X' : Nat → Prop} {d' : DiskM} {w' : World} (hD : DoneR W w n (j + 1) ST H L X h h' hf hf' ps ps' f X' d' w') {v1 v2 : Value} (h1 : SureAt w X L ST v1 (ps.map (·.2))) (h2 : SureAt w X L ST v2 (ps'.map (·.2))) : TurnR W w' n j ST H L f v1 v2 := by
  have hFR : Fr (fun b => X b ∨ b = L ∨ b = ST) w w' := hD.fr.mono (fun b _ hb => hb.elim .inl (fun e => .inr (.inl e)))
  rcases hD.out with ⟨rfl, g⟩ | ⟨rfl, g⟩ | ⟨rfl, g⟩
  · exact ⟨X', d', h', hf', ps', .inl ⟨rfl, g, h2.step hFR hD.sub (.inl rfl)⟩⟩
  · exact ⟨X', d', h, hf, ps, .inr (.inl ⟨rfl, g.up (by omega), h1.step hFR hD.sub (.inl rfl)⟩)⟩
  · exact ⟨X', d', h, hf, ps, .inr (.inr ⟨rfl, g, h1.step hFR hD.sub (.inl rfl)⟩)⟩
theorem Good.failing {W w w' : World} {n i ST H L : Nat} {X : Nat → Prop} {d : DiskM} {h : HeadM} {hf : Nat} {ps : List (Int × List UInt8)} {m : Nat} (g : Good W w n i ST H L X d h hf ps) (hd : DiskAt w' X H { d with left := m }) (hfr : Fr X w w') (hm : m ≤ 13) : Good W w' n i ST H L X { d with left := m } h hf ps := by
  have hz := hfr.size
  obtain ⟨c1, c2, c3, c4, _⟩ := g.calm
  exact ⟨Blk.fr g.log hfr g.nL, hd, ⟨c1, c2, c3, c4, hm⟩, g.stand, fun b hb => by have := g.inX b hb; omega, g.nL, g.nS, g.ne, g.geL, g.geS, by have := g.ltL; omega, by have := g.ltS; omega, g.fr.trans hfr (fun b hb e => by have := (g.inX b e).1; omega), g.life, g.seq, g.fit⟩
theorem SureAt.fr0 {w w' : World} {X : Nat → Prop} {L ST : Nat} {v : Value} {recs : List (List UInt8)} (h : SureAt w X L ST v recs) (hf : Fr (fun b => b = ST) w w') : SureAt w' X L ST v recs :=
  h.step (hf.mono (fun b _ hb => .inr (.inr hb))) (fun b hb => .inl hb) (.inl rfl)
/-- A list and one record more, both in memory. -/
theorem SureAt.more {w w4 : World} {X : Nat → Prop} {L ST : Nat} {recs : List (List UInt8)} {l : List UInt8} {cs : List Value} {Av : Option Addr} {cv : Nat} (hrc : RecCells w (fun b => (¬ X b ∧ b ≠ L ∧ b ≠ ST) ∧ b < w.heap.size) recs cs) (hl : RdB w (fun b => (¬ X b ∧ b ≠ L ∧ b ≠ ST) ∧ b < w.heap.size) Av l)
    {S : Nat → Prop} (hf : Fr S w w4) (hS : ∀ b, S b → b = ST ∨ w.heap.size ≤ b) {v : Value} (hown : w4.ownsRow w.heap.size 40 1 v (recs.length + 1) (cs ++ [Value.slice Av l.length cv])) (hX : ∀ b, X b → b < w.heap.size) (hLT : L < w.heap.size ∧ ST < w.heap.size) (hn : recs.length ≤ 100000) :
    SureAt w4 X L ST v (recs ++ [l]) := by
  obtain ⟨A, c, rfl, _, _, hA⟩ := own_form hown
  have hlen : (recs ++ [l]).length = recs.length + 1 := by simp
  refine ⟨A, c, _, by rw [hlen], ?_, ((hrc.snoc hl (c := cv)).fr hf (fun b hb hs => (hS b hs).elim (fun e => hb.1.2.2 e) (fun h => by omega))).mono (fun b _ hb => hb.1)⟩
  rw [hlen]
  refine (own_rd hown (by omega)).mono (fun b _ hx => ?_) (by decide)
  have := (hown.lt b ((hA b).2 hx)).1
  exact ⟨fun h => by have := hX b h; omega, by omega, by omega⟩
set_option maxHeartbeats 16000000 in
set_option maxRecDepth 100000 in
theorem play_calls (W : World) (n : Nat) (hn : 8 ≤ n ∧ n ≤ 48) (A : Option Addr) (c : Nat) (acts : List ActM) (hac : RdAct W (fun b => b < W.heap.size) A acts) (hok : ∀ a ∈ acts, ActOk a) :
    Calls Tryd.prog 22 #[.int .i64 (n : Int), .slice A acts.length c] W fun e w' => ∃ ST H L X d h hf ps v1 v2, e = .returned (.pointer (some ⟨ST, 0, none⟩)) ∧ Blk w' ST tStory #[.pointer (some ⟨H, 0, none⟩), v1, v2] ∧ Good W w' n 31 ST H L X d h hf ps ∧ SureAt w' X L ST v1 (ps.map (·.2)) := by
  have hal := hac.le
  have g1 : ∀ w, (isAgg 3).run Tryd.prog w = .ok false w := plain_of Tryd.underlying3 rfl
  have g2 : ∀ w, (isAgg 5).run Tryd.prog w = .ok false w := plain_of Tryd.underlying5 rfl
  have g3 : ∀ w, (isAgg 33).run Tryd.prog w = .ok false w := plain_of Tryd.underlying33 rfl
  have g4 : ∀ w, (isAgg 49).run Tryd.prog w = .ok false w := plain_of Tryd.underlying49 rfl
  have HOK := Lib.hid hok
  have hn1 : 1 ≤ n := by omega
  clear hok
  go_enter Tryd.func22, Tryd.ntmps22
  go_wp2_with fail
  refine (device_calls n hn1 (by omega) _).mono ?_
  rintro e w1 ⟨H, R, rfl, hd1, hf1⟩
  obtain ⟨d1, hq1, hs1, hne1, hfm⟩ := form_ready n (by omega) (by omega) w1 _ H hd1
  go_wp2_with fail
  refine hfm.mono ?_
  rintro e w2 ⟨rfl, hd2, hf2⟩
  have hz1 := hf1.size
  have hz2 := hf2.size
  have hF2 : Fr No W w2 := hf1.trans hf2 (fun b hb h => by omega)
  replace hd2 : DiskAt w2 (fun b => W.heap.size ≤ b ∧ b < w2.heap.size) H d1 := hd2.mono (fun b hb hx => ⟨hx.elim id (fun h => by omega), hb⟩)
  clear hfm hd1 hf1 hf2
  go_upto_region 5 with fail
  have hbS := Blk.new w2 tStory #[.pointer (some ⟨H, 0, none⟩), .slice none 0 0, .slice none 0 0]
  have hfS : Fr No w2 (w2.alloc (.cells #[.pointer (some ⟨H, 0, none⟩), .slice none 0 0, .slice none 0 0] tStory)) := (Fr.refl No w2).alloc _
  have hR0 : Ready W (w2.alloc (.cells #[.pointer (some ⟨H, 0, none⟩), .slice none 0 0, .slice none 0 0] tStory)) n 0 w2.heap.size H (fun b => W.heap.size ≤ b ∧ b < w2.heap.size) d1 (kH 1) 0 [] :=
    ⟨hd2.fr0 hfS, hq1, hs1, hne1, fun b hb => ⟨hb.1, by have := hfS.size; omega⟩, fun hb => by omega, by omega, hbS.lt, hF2.tr hfS, by decide, by decide, by simp [placed]⟩
  obtain ⟨ST, hST⟩ : ∃ ST, ST = w2.heap.size := ⟨_, rfl⟩
  rw [← hST] at hbS hR0 ⊢
  generalize (w2.alloc (.cells #[.pointer (some ⟨H, 0, none⟩), .slice none 0 0, .slice none 0 0] tStory)) = w3 at *
  have hnS := hR0.nS
  have hop := open_ready W w3 n 0 ST H _ d1 (kH 1) 0 [] hR0 hn (by omega)
  clear hd2 hq1 hs1 hne1 hfS hF2 hST hR0 hz1 hz2
  go_wp2_with fail
  refine hop.mono ?_
  rintro e w4 ⟨L, v, X, d, rfl, hG, hSu, hLge, hXs, hf4, _⟩
  obtain ⟨A4, c4, cs4, rfl, _, _⟩ := hSu
  have hSu0 : SureAt w4 X L ST (.slice none 0 0) [] := ⟨none, 0, [], rfl, ⟨rfl, by simp, fun h => absurd h (by decide)⟩, ⟨rfl, fun i l h => by simp at h⟩⟩
  have hbS4 := hbS.fr hf4 hnS
  clear hop hbS hf4 hXs hnS hLge
  go_wp2_with fail
  go_loopw [8, 11] (fun s8 s11 wr => ∃ (j L : Nat) (X : Nat → Prop) (d : DiskM) (h : HeadM) (hf : Nat) (ps : List (Int × List UInt8)) (A1 : Option Addr) (n1 c1 : Nat) (A2 : Option Addr) (n2 c2 : Nat), s8 = .pointer (some ⟨L, 0, none⟩) ∧ s11 = .int .i64 (j : Int) ∧ j ≤ acts.length ∧ j ≤ 30 ∧
    Blk wr ST tStory #[.pointer (some ⟨H, 0, none⟩), .slice A1 n1 c1, .slice A2 n2 c2] ∧ Good W wr n (j + 1) ST H L X d h hf ps ∧ SureAt wr X L ST (.slice A1 n1 c1) (ps.map (·.2))) (fun _ s11 _ => 30 - (intOf s11).toNat)
  case atStart => exact ⟨0, L, X, d, _, 0, [], none, 0, 0, none, 0, 0, rfl, rfl, by omega, by omega, hbS4, hG, hSu0⟩
  case round =>
    clear hG hbS4 hSu0
    obtain ⟨j, L, X, d, h, hf, ps, A1, n1, c1, A2, n2, c2, rfl, rfl, hjl, hj30, hbS, hG, hSu⟩ := hrel
    have hWS := hG.geS
    have hltS := hG.ltS
    by_cases hlt : j < acts.length
    · have e1 : decide ((j : Int) < (acts.length : Int)) = true := by simp; omega
      by_cases h30 : j < 30
      · have e2 : decide ((j : Int) < 30) = true := by simp; omega
        have hokk := HOK.out _ (List.getElem_mem hlt)
        obtain ⟨g, o, cs, rfl, _, hcs, hcellW⟩ := hac.at_ hlt
        have hcell : ∀ i u, cs[i]? = some u → wr.cell? ((⟨g, o + j * 5, none⟩ : Addr).add i) = some u := fun i u hu => hG.fr.cell_some (hcellW i u hu) (fun hn => hn)
        clear hcellW
        generalize acts[j] = x at *
        have hcl := hcs.len
        obtain ⟨B, cb, rfl, rB⟩ := hcs
        obtain ⟨kd, xn, xk, xc, ks⟩ := x
        obtain ⟨ok1, ok2, ok3⟩ := hokk
        simp only [I64R] at ok1 ok2 ok3 rB hcell hcl ⊢
        have hb0 := Blk.new wr tAct #[.int .i64 0, .int .i64 0, .int .i64 0, .int .u8 0, .slice none 0 0]
        have hone : ∀ u ∈ [Value.int .i64 kd, .int .i64 xn, .int .i64 xk, .int .u8 (xc.toNat : Int), .slice B ks.length cb], u.oneCell' = true := by intro u hu; simp at hu; rcases hu with rfl | rfl | rfl | rfl | rfl <;> rfl
        go_upto_region 12 with (first
          | (refine wpList_ldA ag_act rfl _ rfl ⟨g, o + j * 5, none⟩ _ rfl hcl hcell ?_)
          | (refine wpList_allocA (show (Tryd.prog.info? tAct).bind (·.zero) = some (.agg #[.int .i64 0, .int .i64 0, .int .i64 0, .int .u8 0, .slice none 0 0]) by kernel_rfl) rfl rfl ?_)
          | (refine wpList_stA ag_act.info rfl _ _ rfl wr.heap.size 0 _ _ [.int .i64 kd, .int .i64 xn, .int .i64 xk, .int .u8 (xc.toNat : Int), .slice B ks.length cb] _ rfl rfl rfl rfl hone hb0 (Nat.le_refl 5) ?_; intro wa hbA hgA hzA)
          | fail)
        rw [splice_all _ _ (by rfl)] at hbA
        have hfA : Fr No wr wa := ((Fr.refl No wr).alloc _).grown hgA (fun q hq => by injection hq with hq; exact .inl (by omega))
        try simp only [Act.put, List.setIfInBounds_toArray, List.set_cons_zero, List.set_cons_succ]
        have hGa := hG.fr1 (hfA.mono (fun _ _ hn => hn.elim))
        have hSa := hSu.fr0 (hfA.mono (fun _ _ hn => hn.elim))
        have hbSa := hbS.fr0 hfA
        obtain ⟨ga, hga⟩ : ∃ ga, ga = wr.heap.size := ⟨_, rfl⟩
        have hgX : ¬ X ga := fun hx => by have := (hG.inX ga hx).2; omega
        have hgL : ga ≠ L := by have := hG.ltL; omega
        have hgS : ga ≠ ST := by omega
        rw [← hga] at hbA ⊢
        have hza : ga < wa.heap.size := hbA.lt
        clear hga hcell hcl hfA hG hSu hbS hone hb0 hgA hzA
        have hc1 := count_calls xn 400 wa ok2.1 ok2.2 (by decide) (by decide)
        have hr1 := countZ_range xn 400 (by decide)
        obtain ⟨kn, hkn⟩ : ∃ b : Nat, countZ xn 400 = (b : Int) := ⟨(countZ xn 400).toNat, by omega⟩
        rw [hkn] at hc1 hr1
        obtain ⟨k, hk⟩ : ∃ k, k = 1 + kn := ⟨_, rfl⟩
        have HK := Lib.hid (show (1 : Int) + (kn : Int) = (k : Int) by omega)
        have hk1 : 1 ≤ k := by omega
        have hk4 : k ≤ 400 := by omega
        clear hkn hk
        (have a0 := hbA.cell 0; have a1 := hbA.cell 1; have a2 := hbA.cell 2; have a3 := hbA.cell 3; have a4 := hbA.cell 4; have af0 := hbA.frozen 0; have af1 := hbA.frozen 1; have af2 := hbA.frozen 2; have af3 := hbA.frozen 3; have af4 := hbA.frozen 4; simp only [List.getElem?_toArray, List.getElem?_cons_zero, List.getElem?_cons_succ] at a0 a1 a2 a3 a4)
        (have s0 := hbSa.cell 0; have s1 := hbSa.cell 1; have s2 := hbSa.cell 2; have sf0 := hbSa.frozen 0; have sf1 := hbSa.frozen 1; have sf2 := hbSa.frozen 2; simp only [List.getElem?_toArray, List.getElem?_cons_zero, List.getElem?_cons_succ] at s0 s1 s2)
        go_wp2_with fail
        refine hc1.mono ?_
        rintro e wy ⟨rfl, hwy⟩
        subst hwy
        go_upto_region 13 with fail
        rw [HK.out]
        clear hc1 hr1
        go_upto_region 14 with fail
        have hb5 : Blk (wa.setCell ⟨ST, 2, none⟩ (.slice A1 n1 c1)) ST tStory #[.pointer (some ⟨H, 0, none⟩), .slice A1 n1 c1, .slice A1 n1 c1] := hbSa.put 2 _
        have hfL : Fr (fun b => b = ST) wa (wa.setCell ⟨ST, 2, none⟩ (.slice A1 n1 c1)) := (Fr.refl (fun b => b = ST) wa).set (p := ⟨ST, 2, none⟩) (.inr rfl) _
        have hG5 := hGa.fr1 hfL
        have hS5 := hSa.fr0 hfL
        have hbA5 := hbA.fr hfL hgS
        clear a0 a1 a2 a3 a4 af0 af1 af2 af3 af4 s0 s1 s2 sf0 sf1 sf2 hGa hSa hbSa hbA hza hfL
        generalize wa.setCell ⟨ST, 2, none⟩ (.slice A1 n1 c1) = w5 at *
        (have a0 := hbA5.cell 0; have a1 := hbA5.cell 1; have a2 := hbA5.cell 2; have a3 := hbA5.cell 3; have a4 := hbA5.cell 4; have af0 := hbA5.frozen 0; have af1 := hbA5.frozen 1; have af2 := hbA5.frozen 2; have af3 := hbA5.frozen 3; have af4 := hbA5.frozen 4; simp only [List.getElem?_toArray, List.getElem?_cons_zero, List.getElem?_cons_succ] at a0 a1 a2 a3 a4)
        (have s0 := hb5.cell 0; have s1 := hb5.cell 1; have s2 := hb5.cell 2; have sf0 := hb5.frozen 0; have sf1 := hb5.frozen 1; have sf2 := hb5.frozen 2; simp only [List.getElem?_toArray, List.getElem?_cons_zero, List.getElem?_cons_succ] at s0 s1 s2)
        go_upto_block 2 with fail
        go_cut [8, 9, 10, 14, 15, 110, 146, 165] (fun s8 s9 s10 s14 s15 s110 s146 s165 wx => ∃ (f : Int) (L' : Nat) (A2 : Option Addr) (n2 c2 : Nat), s8 = .pointer (some ⟨L', 0, none⟩) ∧ s14 = .int .i64 f ∧ TurnR W wx n j ST H L' f (.slice A1 n1 c1) (.slice A2 n2 c2) ∧
          Blk wx ST tStory #[.pointer (some ⟨H, 0, none⟩), .slice A1 n1 c1, .slice A2 n2 c2] ∧ Blk wx ga tAct #[.int .i64 kd, .int .i64 xn, .int .i64 xk, .int .u8 (xc.toNat : Int), .slice B ks.length cb])
        case first =>
          by_cases hkd : kd = 0 ∨ kd = 1 ∨ kd = 2
          · rcases hkd with rfl | rfl | rfl
            all_goals
              as_aux_lemma =>
                obtain ⟨Ax, cx, cs1, hv, hrd, hrc⟩ := id hS5
                injection hv with hv1 hv2 hv3
                subst hv1 hv3
                have hrd1 : Rd w5 (fun b => ¬ X b ∧ b ≠ L ∧ b ≠ ST) 1 A1 n1 cs1 := by rw [hv2]; exact hrd
                have hps : ps.length ≤ 1000 := by have h1 := hG5.seq; have h2 := hG5.stand.heads.1.2.2.1.1; omega
                have hn1 : n1 ≤ 1000 := by rw [hv2, List.length_map]; exact hps
                have HV2 := Lib.hid hv2
                have hone1 := hrc.one
                have HRC := Lib.hid hrc
                have hinX := hG5.inX
                have hltS5 := hG5.ltS
                have hltL5 := hG5.ltL
                clear hv2 hrd hrc hps
                go_wp2_with fail
                refine (text_calls k xc _ (by omega)).mono ?_
                rintro e w6 ⟨rfl, hb6, hf6⟩
                obtain ⟨gt, hgt⟩ : ∃ gt, gt = w5.heap.size := ⟨_, rfl⟩
                rw [← hgt] at hb6 ⊢
                have hgt6 : gt < w6.heap.size := hb6.lt
                have hgt5 : w5.heap.size ≤ gt := by omega
                clear hgt
                have hb56 := hb5.fr0 hf6
                clear a0 a1 a2 a3 a4 af0 af1 af2 af3 af4 s0 s1 s2 sf0 sf1 sf2
                (have s0 := hb56.cell 0; have s1 := hb56.cell 1; have s2 := hb56.cell 2; have sf0 := hb56.frozen 0; have sf1 := hb56.frozen 1; have sf2 := hb56.frozen 2; simp only [List.getElem?_toArray, List.getElem?_cons_zero, List.getElem?_cons_succ] at s0 s1 s2)
                go_upto_region 27 with fail
                have hb7 : Blk (w6.setCell ⟨ST, 2, none⟩ (.slice none 0 0)) ST tStory #[.pointer (some ⟨H, 0, none⟩), .slice A1 n1 c1, .slice none 0 0] := hb56.put 2 _
                have hf7 : Fr (fun b => b = ST) w5 (w6.setCell ⟨ST, 2, none⟩ (.slice none 0 0)) := (hf6.mono (T := fun b => b = ST) (fun _ _ hn => hn.elim)).set (p := ⟨ST, 2, none⟩) (.inr rfl) _
                have hf67 : Fr (fun b => b = ST) w6 (w6.setCell ⟨ST, 2, none⟩ (.slice none 0 0)) := (Fr.refl (fun b => b = ST) w6).set (p := ⟨ST, 2, none⟩) (.inr rfl) _
                have hz7 : (w6.setCell ⟨ST, 2, none⟩ (.slice none 0 0)).heap.size ≤ w6.heap.size ∧ w6.heap.size ≤ (w6.setCell ⟨ST, 2, none⟩ (.slice none 0 0)).heap.size := by simp
                clear s0 s1 s2 sf0 sf1 sf2 hb56
                generalize w6.setCell ⟨ST, 2, none⟩ (.slice none 0 0) = w7 at *
                go_wp2_with fail
                refine T_begin2 No [12] [0, 1, 2, 3, 4, 5, 6, 7, 8, 9, 10, 11, 12] [9, 12] (by kernel_rfl) (by kernel_rfl) ?_
                simp only [pickOps, List.filterMap_cons, List.filterMap_nil, List.getElem?_cons_zero, List.getElem?_cons_succ, Act.put]
                have hb8 := hb7.drew
                have hf8 : Fr (fun b => b = ST) w5 w7.drew := hf7.drew
                have hf68 : Fr (fun b => b = ST) w6 w7.drew := hf67.drew
                have hz8 : w7.drew.heap.size ≤ w6.heap.size ∧ w6.heap.size ≤ w7.drew.heap.size := hz7
                clear hb7 hf7 hf67 hz7
                generalize w7.drew = w8 at *
                have hrd8 : Rd w8 (fun b => ¬ X b ∧ b ≠ L ∧ b ≠ ST) 1 A1 n1 cs1 := hrd1.fr hf8 (fun b hb e => hb.2.2 e)
                have hrc8 : RecCells w8 (fun b => (¬ X b ∧ b ≠ L ∧ b ≠ ST) ∧ b < w8.heap.size) (ps.map (·.2)) cs1 := (HRC.out.fr hf8 (fun b hb e => hb.2.2 e)).mono (fun b hb hx => ⟨hx, hb⟩)
                have htx8 : RdB w8 (fun b => (¬ X b ∧ b ≠ L ∧ b ≠ ST) ∧ b < w8.heap.size) (some ⟨gt, 0, none⟩) (List.replicate k xc) := by
                  have h1 := hb6.rd (size := 1) (n := k) (by simp [U8_length]) (by omega)
                  have h2 := (h1.fr hf68 (fun b hb e => by omega)).mono (T := fun b => (¬ X b ∧ b ≠ L ∧ b ≠ ST) ∧ b < w8.heap.size) (fun b hb hx => ⟨⟨fun hX => by have := (hinX b hX).2; omega, by omega, by omega⟩, hb⟩) (by decide)
                  unfold RdB
                  rw [List.length_replicate]
                  exact h2
                have HRC8 := Lib.hid hrc8
                have HTX8 := Lib.hid htx8
                clear HRC hrc8 htx8 hrd1
                (have s0 := hb8.cell 0; have s1 := hb8.cell 1; have s2 := hb8.cell 2; have sf0 := hb8.frozen 0; have sf1 := hb8.frozen 1; have sf2 := hb8.frozen 2; simp only [List.getElem?_toArray, List.getElem?_cons_zero, List.getElem?_cons_succ] at s0 s1 s2)
                repeat (first | (refine T_skip (by rfl) (by rfl) (fun _ _ _ h => h) ?_; try simp only [Act.put, List.setIfInBounds_toArray, List.set_cons_zero, List.set_cons_succ]) | (refine T_pass (by rfl) (by rfl) ?_; try simp only [Act.put, List.setIfInBounds_toArray, List.set_cons_zero, List.set_cons_succ]) | (refine T_load (by assumption) (by rfl) (by rfl) (fun _ _ _ _ h => h) rfl rfl (by assumption) (by first | exact (fun hn => hn) | assumption) ?_; try simp only [Act.put, List.setIfInBounds_toArray, List.set_cons_zero, List.set_cons_succ]) | (refine T_nil (by rfl) (by rfl) (fun _ _ _ _ h => h) rfl rfl ?_; try simp only [Act.put, List.setIfInBounds_toArray, List.set_cons_zero, List.set_cons_succ]) | (refine T_quietN (by rfl) (by rfl) (by rfl) (by rfl) (fun _ _ _ _ h => h) (fun K hK => ?_); go_big_quiet_op; refine hK _ ?_; clear hK K) | (refine T_two (by rfl) (by rfl) (by rfl) (by rfl) (fun _ _ _ _ h => h) (fun K hK => ?_); go_big_quiet_op; refine ⟨_, fun _ _ => rfl, ?_⟩; refine hK _ ?_; clear hK K; try simp only [Act.put, List.setIfInBounds_toArray, List.set_cons_zero, List.set_cons_succ]) | fail)
                refine T_call (by rfl) (by rfl) (fun K hK => ?_)
                refine wp_app_at so_lb (base := w8.heap.size) (World.ownsRow_nil _ _ _ _) hrd8 hone1 (by omega) (Nat.le_refl _) rfl rfl rfl ?_
                intro v9 w9 hown9 hg9 hat9
                rw [Nat.zero_add, List.nil_append] at hown9
                obtain ⟨A9, c9, rfl, hc9, hc9m, hA9⟩ := own_form hown9
                have hf89 : Fr No w8 w9 := (Fr.refl No w8).grown hg9 (fun q hq => by cases hq)
                refine hK.out _ _ hf89 ?_
                clear hK K
                try simp only [Act.put, List.setIfInBounds_toArray, List.set_cons_zero, List.set_cons_succ]
                have hb9 := hb8.fr0 hf89
                clear s0 s1 s2 sf0 sf1 sf2 hb8 hrd8 hg9 hat9
                (have s0 := hb9.cell 0; have s1 := hb9.cell 1; have s2 := hb9.cell 2; have sf0 := hb9.frozen 0; have sf1 := hb9.frozen 1; have sf2 := hb9.frozen 2; simp only [List.getElem?_toArray, List.getElem?_cons_zero, List.getElem?_cons_succ] at s0 s1 s2)
                repeat (first | (refine T_skip (by rfl) (by rfl) (fun _ _ _ h => h) ?_; try simp only [Act.put, List.setIfInBounds_toArray, List.set_cons_zero, List.set_cons_succ]) | (refine T_pass (by rfl) (by rfl) ?_; try simp only [Act.put, List.setIfInBounds_toArray, List.set_cons_zero, List.set_cons_succ]) | (refine T_load (by assumption) (by rfl) (by rfl) (fun _ _ _ _ h => h) rfl rfl (by assumption) (by first | exact (fun hn => hn) | assumption) ?_; try simp only [Act.put, List.setIfInBounds_toArray, List.set_cons_zero, List.set_cons_succ]) | (refine T_nil (by rfl) (by rfl) (fun _ _ _ _ h => h) rfl rfl ?_; try simp only [Act.put, List.setIfInBounds_toArray, List.set_cons_zero, List.set_cons_succ]) | (refine T_quietN (by rfl) (by rfl) (by rfl) (by rfl) (fun _ _ _ _ h => h) (fun K hK => ?_); go_big_quiet_op; refine hK _ ?_; clear hK K) | (refine T_two (by rfl) (by rfl) (by rfl) (by rfl) (fun _ _ _ _ h => h) (fun K hK => ?_); go_big_quiet_op; refine ⟨_, fun _ _ => rfl, ?_⟩; refine hK _ ?_; clear hK K; try simp only [Act.put, List.setIfInBounds_toArray, List.set_cons_zero, List.set_cons_succ]) | fail)
                refine T_turn No [] (by rfl) (by rfl) (by rfl) (fun K hK => ?_)
                go_wp2_with fail
                refine hK.out _ _ ?_
                clear hK K
                try simp only [Act.put, List.setIfInBounds_toArray, List.set_cons_zero, List.set_cons_succ]
                refine T_done ?_
                have hb10 : Blk (w9.setCell ⟨ST, 2, none⟩ (.slice A9 n1 c9)) ST tStory #[.pointer (some ⟨H, 0, none⟩), .slice A1 n1 c1, .slice A9 n1 c9] := hb9.put 2 _
                have hf10 : Fr (fun b => b = ST) w8 (w9.setCell ⟨ST, 2, none⟩ (.slice A9 n1 c9)) := (hf89.mono (T := fun b => b = ST) (fun _ _ hn => hn.elim)).set (p := ⟨ST, 2, none⟩) (.inr rfl) _
                have hfx : Fr (fun b => b = ST) w9 (w9.setCell ⟨ST, 2, none⟩ (.slice A9 n1 c9)) := (Fr.refl (fun b => b = ST) w9).set (p := ⟨ST, 2, none⟩) (.inr rfl) _
                have hown10 := own_fr hown9 hfx (fun b hb e => by have := (hown9.lt b hb).1; omega)
                clear s0 s1 s2 sf0 sf1 sf2 hb9 hfx hown9 hf89
                generalize w9.setCell ⟨ST, 2, none⟩ (.slice A9 n1 c9) = w10 at *
                (have s0 := hb10.cell 0; have s1 := hb10.cell 1; have s2 := hb10.cell 2; have sf0 := hb10.frozen 0; have sf1 := hb10.frozen 1; have sf2 := hb10.frozen 2; simp only [List.getElem?_toArray, List.getElem?_cons_zero, List.getElem?_cons_succ] at s0 s1 s2)
                have hz10 := hf10.size
                have hneA : ∀ b, (Value.slice A9 n1 c9).ownBlock = some b → w8.heap.size ≤ b := fun b hb => (hown10.lt b hb).1
                have hfa10 : ∀ cell, Fr No w10 (w10.alloc cell) := fun cell => (Fr.refl No w10).alloc _
                go_upto_region 29 with (first
                  | (at_builtin; refine wpList_app_at so_lb (own_fr0 hown10 (hfa10 _)) ((Blk.new w10 40 #[.slice (some ⟨gt, 0, none⟩) k k]).rd (size := 1) (n := 1) (by rfl) (by decide)) (by intro u hu; simp at hu; subst hu; rfl) (by omega) (by simp; omega) rfl rfl rfl rfl ?_; intro v11 w11 hown11 hg11 hat11; obtain ⟨A11, c11, rfl, hc11, hc11m, hA11⟩ := own_form hown11; have hb11 := (hb10.alloc (.cells #[.slice (some ⟨gt, 0, none⟩) k k] 40)).grown hg11 (fun e => by have := hneA _ e.symm; omega); clear s0 s1 s2 sf0 sf1 sf2; (have s0 := hb11.cell 0; have s1 := hb11.cell 1; have s2 := hb11.cell 2; have sf0 := hb11.frozen 0; have sf1 := hb11.frozen 1; have sf2 := hb11.frozen 2; simp only [List.getElem?_toArray, List.getElem?_cons_zero, List.getElem?_cons_succ] at s0 s1 s2))
                  | fail)
                have hb12 : Blk (w11.setCell ⟨ST, 2, none⟩ (.slice A11 (n1 + 1) c11)) ST tStory #[.pointer (some ⟨H, 0, none⟩), .slice A1 n1 c1, .slice A11 (n1 + 1) c11] := hb11.put 2 _
                have hf811 : Fr (fun b => b = ST) w8 w11 := (hf10.alloc _).grown hg11 (fun q hq => .inl (hneA q hq))
                have hf12 : Fr (fun b => b = ST) w8 (w11.setCell ⟨ST, 2, none⟩ (.slice A11 (n1 + 1) c11)) := hf811.set (p := ⟨ST, 2, none⟩) (.inr rfl) _
                have hfx : Fr (fun b => b = ST) w11 (w11.setCell ⟨ST, 2, none⟩ (.slice A11 (n1 + 1) c11)) := (Fr.refl (fun b => b = ST) w11).set (p := ⟨ST, 2, none⟩) (.inr rfl) _
                have hown12 := own_fr hown11 hfx (fun b hb e => by have := (hown11.lt b hb).1; omega)
                clear s0 s1 s2 sf0 sf1 sf2 hb11 hfx hown11 hg11 hat11 hf811 hb10 hf10 hown10 hneA hfa10
                generalize w11.setCell ⟨ST, 2, none⟩ (.slice A11 (n1 + 1) c11) = w12 at *
                have hf512 : Fr (fun b => b = ST) w5 w12 := hf8.trans hf12 (fun b _ hb => hb)
                have hG12 := hG5.fr1 hf512
                have hS12 := hS5.fr0 hf512
                have hA12 := hbA5.fr hf512 hgS
                have hMe : (ps ++ [(h.life, List.replicate k xc)]).map (·.2) = ps.map (·.2) ++ [List.replicate k xc] := by rw [List.map_append]; rfl
                have hltw : L < w8.heap.size ∧ ST < w8.heap.size := ⟨by omega, by omega⟩
                have hXw : ∀ b, X b → b < w8.heap.size := fun b hb => by have := (hinX b hb).2; omega
                have hrl12 : (ps.map (·.2)).length ≤ 100000 := by have h1 := HV2.out; omega
                have hM12 : SureAt w12 X L ST (.slice A11 (n1 + 1) c11) ((ps ++ [(h.life, List.replicate k xc)]).map (·.2)) := by
                  rw [hMe]
                  have h2 := HRC8.out
                  have h3 := HTX8.out
                  have h4 := HV2.out
                  generalize ps.map (·.2) = rr at h2 h4 hrl12 ⊢
                  obtain ⟨tx, htx⟩ : ∃ tx, tx = List.replicate k xc := ⟨_, rfl⟩
                  have htl : tx.length = k := by rw [htx, List.length_replicate]
                  rw [← htx] at h3 ⊢
                  rw [← htl, h4] at hown12
                  rw [h4]
                  exact SureAt.more h2 h3 hf12 (fun b hb => .inl hb) hown12 hXw hltw hrl12
                have htx12 : RdB w12 (fun _ => True) (some ⟨gt, 0, none⟩) (List.replicate k xc) := (Rd.fr HTX8.out hf12 (fun b hb e => hb.1.2.2 e)).mono (fun _ _ _ => trivial) (by decide)
                have hap := append_good W w12 n (j + 1) ST H L X d h hf ps hG12 hn (by omega) (some ⟨gt, 0, none⟩) k (List.replicate k xc) htx12 (by rw [List.length_replicate]; exact hk1) (by rw [List.length_replicate]; omega) (by rw [List.length_replicate]; exact Nat.le_refl _) (by have : maxLen = 9223372036854775807 := rfl; omega)
                rw [List.length_replicate] at hap
                clear HRC8 HTX8 htx12 hown12 hf8 hf68 hf512 hf12
                go_wp2_with fail
                refine hap.mono ?_
                rintro e w13 ⟨f, X', d', rfl, hD⟩
                have hb13 := hb12.fr hD.fr (fun hx => hx.elim hG12.nS (fun e => hG12.ne e.symm))
                go_wp2_with fail
                go_meet
                case rel => exact ⟨f, L, A11, n1 + 1, c11, rfl, rfl, hD.turn hS12 hM12, hb13, hA12.fr hD.fr (fun hx => hx.elim hgX hgL)⟩
          · by_cases h3 : kd = 3
            · as_aux_lemma =>
                subst h3
                have hr6 := countZ_range xk 6 (by decide)
                obtain ⟨kk, hkk⟩ : ∃ b : Nat, countZ xk 6 = (b : Int) := ⟨(countZ xk 6).toNat, by omega⟩
                have hc6 : ∀ w', Calls Tryd.prog 15 #[.int .i64 xk, .int .i64 6] w' fun e w'' => e = .returned (.int .i64 (kk : Int)) ∧ w' = w'' := fun w' => by
                  have := count_calls xk 6 w' ok3.1 ok3.2 (by decide) (by decide)
                  rw [hkk] at this
                  exact this
                have hkk5 : kk ≤ 5 := by omega
                have hinX := hG5.inX
                have hltS5 := hG5.ltS
                have hltL5 := hG5.ltL
                clear hkk hr6
                go_wp2_with fail
                refine T_begin2 No [10] [0, 1, 2, 4, 5, 6, 3, 7, 8, 9, 10] [3, 7, 10] (by kernel_rfl) (by kernel_rfl) ?_
                simp only [pickOps, List.filterMap_cons, List.filterMap_nil, List.getElem?_cons_zero, List.getElem?_cons_succ, Act.put]
                have hb6 := hb5.drew
                have hA6 := hbA5.drew
                have hf6 : Fr No w5 w5.drew := (Fr.refl No w5).drew
                clear a0 a1 a2 a3 a4 af0 af1 af2 af3 af4 s0 s1 s2 sf0 sf1 sf2
                generalize w5.drew = w6 at *
                have hz6 := hf6.size
                (have a0 := hA6.cell 0; have a1 := hA6.cell 1; have a2 := hA6.cell 2; have a3 := hA6.cell 3; have a4 := hA6.cell 4; have af0 := hA6.frozen 0; have af1 := hA6.frozen 1; have af2 := hA6.frozen 2; have af3 := hA6.frozen 3; have af4 := hA6.frozen 4; simp only [List.getElem?_toArray, List.getElem?_cons_zero, List.getElem?_cons_succ] at a0 a1 a2 a3 a4)
                (have s0 := hb6.cell 0; have s1 := hb6.cell 1; have s2 := hb6.cell 2; have sf0 := hb6.frozen 0; have sf1 := hb6.frozen 1; have sf2 := hb6.frozen 2; simp only [List.getElem?_toArray, List.getElem?_cons_zero, List.getElem?_cons_succ] at s0 s1 s2)
                repeat (first | (refine T_skip (by rfl) (by rfl) (fun _ _ _ h => h) ?_; try simp only [Act.put, List.setIfInBounds_toArray, List.set_cons_zero, List.set_cons_succ]) | (refine T_pass (by rfl) (by rfl) ?_; try simp only [Act.put, List.setIfInBounds_toArray, List.set_cons_zero, List.set_cons_succ]) | (refine T_load (by assumption) (by rfl) (by rfl) (fun _ _ _ _ h => h) rfl rfl (by assumption) (by first | exact (fun hn => hn) | assumption) ?_; try simp only [Act.put, List.setIfInBounds_toArray, List.set_cons_zero, List.set_cons_succ]) | (refine T_nil (by rfl) (by rfl) (fun _ _ _ _ h => h) rfl rfl ?_; try simp only [Act.put, List.setIfInBounds_toArray, List.set_cons_zero, List.set_cons_succ]) | (refine T_quietN (by rfl) (by rfl) (by rfl) (by rfl) (fun _ _ _ _ h => h) (fun K hK => ?_); go_big_quiet_op; refine hK _ ?_; clear hK K) | (refine T_two (by rfl) (by rfl) (by rfl) (by rfl) (fun _ _ _ _ h => h) (fun K hK => ?_); go_big_quiet_op; refine ⟨_, fun _ _ => rfl, ?_⟩; refine hK _ ?_; clear hK K; try simp only [Act.put, List.setIfInBounds_toArray, List.set_cons_zero, List.set_cons_succ]) | fail)
                (refine T_call (by rfl) (by rfl) (fun K hK => ?_); go_wp2_with fail)
                refine (hc6 _).mono ?_
                rintro e wy ⟨rfl, hwy⟩
                subst hwy
                go_wp2_with fail
                (refine hK.out _ _ ((Fr.refl _ _)) ?_; clear hK K; try simp only [Act.put, List.setIfInBounds_toArray, List.set_cons_zero, List.set_cons_succ])
                repeat (first | (refine T_skip (by rfl) (by rfl) (fun _ _ _ h => h) ?_; try simp only [Act.put, List.setIfInBounds_toArray, List.set_cons_zero, List.set_cons_succ]) | (refine T_pass (by rfl) (by rfl) ?_; try simp only [Act.put, List.setIfInBounds_toArray, List.set_cons_zero, List.set_cons_succ]) | (refine T_load (by assumption) (by rfl) (by rfl) (fun _ _ _ _ h => h) rfl rfl (by assumption) (by first | exact (fun hn => hn) | assumption) ?_; try simp only [Act.put, List.setIfInBounds_toArray, List.set_cons_zero, List.set_cons_succ]) | (refine T_nil (by rfl) (by rfl) (fun _ _ _ _ h => h) rfl rfl ?_; try simp only [Act.put, List.setIfInBounds_toArray, List.set_cons_zero, List.set_cons_succ]) | (refine T_quietN (by rfl) (by rfl) (by rfl) (by rfl) (fun _ _ _ _ h => h) (fun K hK => ?_); go_big_quiet_op; refine hK _ ?_; clear hK K) | (refine T_two (by rfl) (by rfl) (by rfl) (by rfl) (fun _ _ _ _ h => h) (fun K hK => ?_); go_big_quiet_op; refine ⟨_, fun _ _ => rfl, ?_⟩; refine hK _ ?_; clear hK K; try simp only [Act.put, List.setIfInBounds_toArray, List.set_cons_zero, List.set_cons_succ]) | fail)
                (refine T_call (by rfl) (by rfl) (fun K hK => ?_); go_wp2_with fail)
                refine (some_calls kk k xc _ (by omega) (by omega)).mono ?_
                rintro e w8 ⟨v8, cs8, he8, hL8⟩
                have hrs1 := someL_in (k := kk) (n := k) (c := xc) hk1 (by omega) (by omega)
                have hrs2 := someL_len kk k xc
                generalize someL kk k xc = rs at *
                obtain ⟨A8, c8, rfl, _, _, hA8⟩ := own_form hL8.own
                obtain ⟨m, hm⟩ : ∃ m, m = rs.length := ⟨_, rfl⟩
                rw [← hm] at he8
                subst he8
                have HM := Lib.hid hm
                have HL8 := Lib.hid hL8
                have HR1 := Lib.hid hrs1
                have hm5 : m ≤ 5 := by omega
                have hf68 := hL8.fr
                clear hm hL8 hrs1 hrs2
                go_wp2_with fail
                (refine hK.out _ _ (hf68) ?_; clear hK K; try simp only [Act.put, List.setIfInBounds_toArray, List.set_cons_zero, List.set_cons_succ])
                have hb8 := hb6.fr0 hf68
                have hA8b := hA6.fr0 hf68
                clear a0 a1 a2 a3 a4 af0 af1 af2 af3 af4 s0 s1 s2 sf0 sf1 sf2 hb6 hA6
                (have s0 := hb8.cell 0; have s1 := hb8.cell 1; have s2 := hb8.cell 2; have sf0 := hb8.frozen 0; have sf1 := hb8.frozen 1; have sf2 := hb8.frozen 2; simp only [List.getElem?_toArray, List.getElem?_cons_zero, List.getElem?_cons_succ] at s0 s1 s2)
                repeat (first | (refine T_skip (by rfl) (by rfl) (fun _ _ _ h => h) ?_; try simp only [Act.put, List.setIfInBounds_toArray, List.set_cons_zero, List.set_cons_succ]) | (refine T_pass (by rfl) (by rfl) ?_; try simp only [Act.put, List.setIfInBounds_toArray, List.set_cons_zero, List.set_cons_succ]) | (refine T_load (by assumption) (by rfl) (by rfl) (fun _ _ _ _ h => h) rfl rfl (by assumption) (by first | exact (fun hn => hn) | assumption) ?_; try simp only [Act.put, List.setIfInBounds_toArray, List.set_cons_zero, List.set_cons_succ]) | (refine T_nil (by rfl) (by rfl) (fun _ _ _ _ h => h) rfl rfl ?_; try simp only [Act.put, List.setIfInBounds_toArray, List.set_cons_zero, List.set_cons_succ]) | (refine T_quietN (by rfl) (by rfl) (by rfl) (by rfl) (fun _ _ _ _ h => h) (fun K hK => ?_); go_big_quiet_op; refine hK _ ?_; clear hK K) | (refine T_two (by rfl) (by rfl) (by rfl) (by rfl) (fun _ _ _ _ h => h) (fun K hK => ?_); go_big_quiet_op; refine ⟨_, fun _ _ => rfl, ?_⟩; refine hK _ ?_; clear hK K; try simp only [Act.put, List.setIfInBounds_toArray, List.set_cons_zero, List.set_cons_succ]) | fail)
                refine T_turn No [] (by rfl) (by rfl) (by rfl) (fun K hK => ?_)
                go_wp2_with fail
                refine hK.out _ _ ?_
                clear hK K
                try simp only [Act.put, List.setIfInBounds_toArray, List.set_cons_zero, List.set_cons_succ]
                refine T_done ?_
                have hb9 : Blk (w8.setCell ⟨ST, 2, none⟩ (.slice A8 m c8)) ST tStory #[.pointer (some ⟨H, 0, none⟩), .slice A1 n1 c1, .slice A8 m c8] := hb8.put 2 _
                have hf9 : Fr (fun b => b = ST) w8 (w8.setCell ⟨ST, 2, none⟩ (.slice A8 m c8)) := (Fr.refl (fun b => b = ST) w8).set (p := ⟨ST, 2, none⟩) (.inr rfl) _
                have hA9 := hA8b.fr hf9 hgS
                clear s0 s1 s2 sf0 sf1 sf2 hb8 hA8b
                generalize w8.setCell ⟨ST, 2, none⟩ (.slice A8 m c8) = w9 at *
                (have s0 := hb9.cell 0; have s1 := hb9.cell 1; have s2 := hb9.cell 2; have sf0 := hb9.frozen 0; have sf1 := hb9.frozen 1; have sf2 := hb9.frozen 2; simp only [List.getElem?_toArray, List.getElem?_cons_zero, List.getElem?_cons_succ] at s0 s1 s2)
                have hz68 := hf68.size
                have hz89 := hf9.size
                have hown9 := own_fr HL8.out.own hf9 (fun b hb e => by have := (HL8.out.own.lt b hb).1; omega)
                have hrd9 := own_rd hown9 (by rw [← HM.out]; omega)
                have hrc9 := HL8.out.cells.fr hf9 (fun b hb e => by have := hb.1.1; omega)
                have hle := lents_calls _ A8 c8 rs cs8 w9 hrd9 (hrc9.mono (fun _ _ _ => trivial)) (fun r hr => (HR1.out r hr).2) (by rw [← HM.out]; omega)
                rw [← HM.out] at hle
                have HLE := Lib.hid hle
                have HRC9 := Lib.hid hrc9
                have HRD9 := Lib.hid hrd9
                have HOW9 := Lib.hid hown9
                clear hle hrc9 hrd9 hown9
                go_wp2_with fail
                refine HLE.out.mono ?_
                rintro e w10 ⟨v10, cs10, he10, hL10⟩
                obtain ⟨A10, c10, rfl, _, _, hA10⟩ := own_form hL10.own
                rw [← HM.out] at he10
                subst he10
                have hz910 := hL10.fr.size
                have hf510 : Fr (fun b => b = ST) w5 w10 := (((hf6.tr hf68).mono (T := fun b => b = ST) (fun _ _ hn => hn.elim)).trans hf9 (fun b _ hb => hb)).trans hL10.fr (fun _ _ hn => hn.elim)
                have hG10 := hG5.fr1 hf510
                have hS10 := hS5.fr0 hf510
                have hb10 := hb9.fr0 hL10.fr
                have hA10b := hA9.fr0 hL10.fr
                have hM10 : SureAt w10 X L ST (.slice A8 m c8) ((aged (h.life + 1) rs).map (·.2)) := by
                  rw [aged_snd, HM.out]
                  refine ⟨A8, c8, cs8, rfl, ((HRD9.out.fr0 hL10.fr).mono (fun b hb hx => ?_) (by decide)), (HRC9.out.fr hL10.fr (fun _ _ hn => hn)).mono (fun b hb hx => ?_)⟩
                  · have h1 := (HOW9.out.lt b ((hA8 b).2 hx)).1
                    exact ⟨fun hX => by have := (hinX b hX).2; omega, by omega, by omega⟩
                  · have h1 := hx.1.1
                    exact ⟨fun hX => by have := (hinX b hX).2; omega, by omega, by omega⟩
                have hrw := rewrite_good W w10 n (j + 1) ST H L X d h hf ps hG10 hn (by omega) A10 c10 rs cs10 ((own_rd hL10.own (by rw [← HM.out]; omega)).mono (fun b hb hx => by
                    have h1 := (hL10.own.lt b ((hA10 b).2 hx)).1
                    exact ⟨fun hX => by have := (hinX b hX).2; omega, by omega, hb⟩) (by decide)) (hL10.cells.mono (fun b hb hx => by
                    have h1 := hx.1.1
                    exact ⟨fun hX => by have := (hinX b hX).2; omega, by omega, hb⟩)) hL10.cap HR1.out (by rw [← HM.out]; omega)
                rw [← HM.out] at hrw
                have HRW := Lib.hid hrw
                clear hrw HLE HRC9 HRD9 HOW9 HL8 hL10 s0 s1 s2 sf0 sf1 sf2
                go_wp2_with fail
                refine HRW.out.mono ?_
                rintro e w13 ⟨f, X', d', rfl, hD⟩
                have hb13 := hb10.fr hD.fr (fun hx => hx.elim hG10.nS (fun e => hG10.ne e.symm))
                go_wp2_with fail
                go_meet
                case rel => exact ⟨f, L, A8, m, c8, rfl, rfl, hD.turn hS10 hM10, hb13, hA10b.fr hD.fr (fun hx => hx.elim hgX hgL)⟩
            · by_cases h4 : kd = 4
              · as_aux_lemma =>
                  subst h4
                  have hr6 := countZ_range xk 12 (by decide)
                  obtain ⟨kk, hkk⟩ : ∃ b : Nat, countZ xk 12 = (b : Int) := ⟨(countZ xk 12).toNat, by omega⟩
                  have hc6 : ∀ w', Calls Tryd.prog 15 #[.int .i64 xk, .int .i64 12] w' fun e w'' => e = .returned (.int .i64 (kk : Int)) ∧ w' = w'' := fun w' => by
                    have := count_calls xk 12 w' ok3.1 ok3.2 (by decide) (by decide)
                    rw [hkk] at this
                    exact this
                  obtain ⟨m, hm⟩ : ∃ m, m = 1 + kk := ⟨_, rfl⟩
                  have HM := Lib.hid (show (1 : Int) + (kk : Int) = (m : Int) by omega)
                  have hm12 : m ≤ 13 := by omega
                  have hkk11 : kk ≤ 11 := by omega
                  clear hkk hr6 hm
                  go_wp2_with fail
                  refine (hc6 _).mono ?_
                  rintro e wy ⟨rfl, hwy⟩
                  subst hwy
                  go_wp2_with fail
                  try rw [HM.out]
                  refine (fail_calls w5 X H d m (by omega) hG5.disk).mono ?_
                  rintro e w6 ⟨rfl, hd6, hf6⟩
                  have hG6 := hG5.failing hd6 hf6 hm12
                  have hS6 := hS5.step (w' := w6) (X' := X) (L' := L) (hf6.mono (fun b _ hb => .inl hb)) (fun b hb => .inl hb) (.inl rfl)
                  have hb6 := hb5.fr hf6 hG5.nS
                  have hA6 := hbA5.fr hf6 hgX
                  go_wp2_with fail
                  go_meet
                  case rel => exact ⟨0, L, A1, n1, c1, rfl, rfl, ⟨X, _, h, hf, ps, .inl ⟨rfl, hG6.up (by omega), hS6⟩⟩, hb6, hA6⟩
              · as_aux_lemma =>
                  have k0 : (kd == 0) = false := by rw [beq_eq_false_iff_ne]; exact fun e => hkd (.inl e)
                  have k1 : (kd == 1) = false := by rw [beq_eq_false_iff_ne]; exact fun e => hkd (.inr (.inl e))
                  have k2 : (kd == 2) = false := by rw [beq_eq_false_iff_ne]; exact fun e => hkd (.inr (.inr e))
                  have k3 : (kd == 3) = false := by rw [beq_eq_false_iff_ne]; exact h3
                  have k4 : (kd == 4) = false := by rw [beq_eq_false_iff_ne]; exact h4
                  go_wp2_with fail
                  refine (crash_bad W w5 n (j + 1) ST H X d h hf ps hG5.bad ks B cb rB).mono ?_
                  rintro e w6 ⟨rfl, hR6, hf6⟩
                  have hb6 := hb5.fr hf6 hG5.nS
                  have hA6 := hbA5.fr hf6 hgX
                  have hS6 := hS5.step (w' := w6) (X' := X) (L' := L) (hf6.mono (fun b _ hb => .inl hb)) (fun b hb => .inl hb) (.inl rfl)
                  clear a0 a1 a2 a3 a4 af0 af1 af2 af3 af4 s0 s1 s2 sf0 sf1 sf2
                  (have s0 := hb6.cell 0; have s1 := hb6.cell 1; have s2 := hb6.cell 2; have sf0 := hb6.frozen 0; have sf1 := hb6.frozen 1; have sf2 := hb6.frozen 2; simp only [List.getElem?_toArray, List.getElem?_cons_zero, List.getElem?_cons_succ] at s0 s1 s2)
                  go_upto_region 18 with fail
                  have hb7 : Blk (w6.setCell ⟨ST, 2, none⟩ (.slice none 0 0)) ST tStory #[.pointer (some ⟨H, 0, none⟩), .slice A1 n1 c1, .slice none 0 0] := hb6.put 2 _
                  have hf7 : Fr (fun b => b = ST) w6 (w6.setCell ⟨ST, 2, none⟩ (.slice none 0 0)) := (Fr.refl (fun b => b = ST) w6).set (p := ⟨ST, 2, none⟩) (.inr rfl) _
                  have hR7 := hR6.fr1 hf7
                  have hA7 := hA6.fr hf7 hgS
                  have hS7 := hS6.fr0 hf7
                  clear s0 s1 s2 sf0 sf1 sf2 hb6 hA6 hR6 hS6 hf7
                  generalize w6.setCell ⟨ST, 2, none⟩ (.slice none 0 0) = w7 at *
                  have hop := open_ready W w7 n (j + 1) ST H X _ h hf ps hR7 hn (by omega)
                  go_wp2_with fail
                  refine hop.mono ?_
                  rintro e w8 ⟨L8, v8, X8, d8, he8, hG8, hSu8, hLge, hXs, hf8, _⟩
                  have hS8 := hS7.step (w' := w8) (X' := X8) (L' := L8) (hf8.mono (fun b _ hb => .inl hb)) hXs (.inr hLge)
                  have hb8 := hb7.fr hf8 hG5.nS
                  have hA8 := hA7.fr hf8 hgX
                  obtain ⟨A8, c8, cs8, rfl, hrd8, hrc8⟩ := hSu8
                  obtain ⟨Ax, cx, cs1, hv, hrd1, hrc1⟩ := id hS8
                  injection hv with hv1 hv2 hv3
                  subst hv1 hv3
                  have hsame := rsame_calls w8 _ _ A8 A1 c8 c1 (ps.map (·.2)) cs8 cs1 hrd8 hrd1 (hrc8.mono (fun _ _ _ => trivial)) (hrc1.mono (fun _ _ _ => trivial))
                  rw [← hv2] at he8 hsame
                  subst he8
                  have HSM := Lib.hid hsame
                  clear hsame hv2 hrd8 hrc8 hrd1 hrc1 hop hS7 hR7 hb7 hA7 hf8
                  (have s0 := hb8.cell 0; have s1 := hb8.cell 1; have s2 := hb8.cell 2; have sf0 := hb8.frozen 0; have sf1 := hb8.frozen 1; have sf2 := hb8.frozen 2; simp only [List.getElem?_toArray, List.getElem?_cons_zero, List.getElem?_cons_succ] at s0 s1 s2)
                  go_wp2_with fail
                  refine HSM.out.mono ?_
                  rintro e w9 ⟨rfl, hf9⟩
                  have hb9 := hb8.fr0 hf9
                  have hA9 := hA8.fr0 hf9
                  have hG9 := hG8.fr1 (hf9.mono (fun _ _ hn => hn.elim))
                  have hS9 := hS8.fr0 (hf9.mono (fun _ _ hn => hn.elim))
                  clear s0 s1 s2 sf0 sf1 sf2 hb8 hA8 hG8 hS8 HSM
                  (have s0 := hb9.cell 0; have s1 := hb9.cell 1; have s2 := hb9.cell 2; have sf0 := hb9.frozen 0; have sf1 := hb9.frozen 1; have sf2 := hb9.frozen 2; simp only [List.getElem?_toArray, List.getElem?_cons_zero, List.getElem?_cons_succ] at s0 s1 s2)
                  go_wp2_with fail
                  have hb10 : Blk (w9.setCell ⟨ST, 2, none⟩ (.slice A1 n1 c1)) ST tStory #[.pointer (some ⟨H, 0, none⟩), .slice A1 n1 c1, .slice A1 n1 c1] := hb9.put 2 _
                  have hf10 : Fr (fun b => b = ST) w9 (w9.setCell ⟨ST, 2, none⟩ (.slice A1 n1 c1)) := (Fr.refl (fun b => b = ST) w9).set (p := ⟨ST, 2, none⟩) (.inr rfl) _
                  go_meet
                  case rel => exact ⟨0, L8, A1, n1, c1, rfl, rfl, ⟨X8, _, _, hf, ps, .inl ⟨rfl, hG9.fr1 hf10, hS9.fr0 hf10⟩⟩, hb10, hA9.fr hf10 hgS⟩
        case rest =>
          as_aux_lemma =>
            obtain ⟨f, L6, A6, n6, c6, rfl, rfl, hT, hb6, hA6⟩ := hcut
            clear a0 a1 a2 a3 a4 af0 af1 af2 af3 af4 s0 s1 s2 sf0 sf1 sf2 hb5 hbA5 hG5 hS5
            obtain ⟨X6, d6, h6, hf6, ps6, hT⟩ := hT
            (have s0 := hb6.cell 0; have s1 := hb6.cell 1; have s2 := hb6.cell 2; have sf0 := hb6.frozen 0; have sf1 := hb6.frozen 1; have sf2 := hb6.frozen 2; simp only [List.getElem?_toArray, List.getElem?_cons_zero, List.getElem?_cons_succ] at s0 s1 s2)
            (have a0 := hA6.cell 0; have a1 := hA6.cell 1; have a2 := hA6.cell 2; have a3 := hA6.cell 3; have a4 := hA6.cell 4; have af0 := hA6.frozen 0; have af1 := hA6.frozen 1; have af2 := hA6.frozen 2; have af3 := hA6.frozen 3; have af4 := hA6.frozen 4; simp only [List.getElem?_toArray, List.getElem?_cons_zero, List.getElem?_cons_succ] at a0 a1 a2 a3 a4)
            rcases hT with ⟨rfl, hG6, hS6⟩ | ⟨rfl, hG6, hS6⟩ | ⟨rfl, hB6, hS6⟩
            · go_wp2_with fail
              have hb7 : Blk (wc.setCell ⟨ST, 1, none⟩ (.slice A6 n6 c6)) ST tStory #[.pointer (some ⟨H, 0, none⟩), .slice A6 n6 c6, .slice A6 n6 c6] := hb6.put 1 _
              have hf7 : Fr (fun b => b = ST) wc (wc.setCell ⟨ST, 1, none⟩ (.slice A6 n6 c6)) := (Fr.refl (fun b => b = ST) wc).set (p := ⟨ST, 1, none⟩) (.inr rfl) _
              go_roundw
              case rel => exact ⟨j + 1, L6, X6, d6, h6, hf6, ps6, A6, n6, c6, A6, n6, c6, rfl, by go_num, by omega, by omega, hb7, hG6.fr1 hf7, hS6.fr0 hf7⟩
              case measure => simp [intOf]; omega
            · go_wp2_with fail
              go_roundw
              case rel => exact ⟨j + 1, L6, X6, d6, h6, hf6, ps6, A1, n1, c1, A6, n6, c6, rfl, by go_num, by omega, by omega, hb6, hG6, hS6⟩
              case measure => simp [intOf]; omega
            · go_wp2_with fail
              refine (crash_bad W wc n (j + 1) ST H X6 d6 h6 hf6 ps6 hB6 ks B cb rB).mono ?_
              rintro e w7 ⟨rfl, hR7, hf7⟩
              have hb7 := hb6.fr hf7 hB6.nS
              have hS7 := hS6.step (w' := w7) (X' := X6) (L' := L6) (hf7.mono (fun b _ hb => .inl hb)) (fun b hb => .inl hb) (.inl rfl)
              clear a0 a1 a2 a3 a4 af0 af1 af2 af3 af4 s0 s1 s2 sf0 sf1 sf2 hb6 hA6
              (have s0 := hb7.cell 0; have s1 := hb7.cell 1; have s2 := hb7.cell 2; have sf0 := hb7.frozen 0; have sf1 := hb7.frozen 1; have sf2 := hb7.frozen 2; simp only [List.getElem?_toArray, List.getElem?_cons_zero, List.getElem?_cons_succ] at s0 s1 s2)
              have hop := open_ready W w7 n (j + 1) ST H X6 _ h6 hf6 ps6 hR7 hn (by omega)
              go_wp2_with fail
              refine hop.mono ?_
              rintro e w8 ⟨L8, v8, X8, d8, he8, hG8, hSu8, hLge, hXs, hf8, _⟩
              have hS8 := hS7.step (w' := w8) (X' := X8) (L' := L8) (hf8.mono (fun b _ hb => .inl hb)) hXs (.inr hLge)
              have hb8 := hb7.fr hf8 hB6.nS
              obtain ⟨A8, c8, cs8, rfl, hrd8, hrc8⟩ := id hSu8
              obtain ⟨Ax, cx, cs1, hv, hrd1, hrc1⟩ := id hS8
              injection hv with hv1 hv2 hv3
              subst hv1 hv3
              have hsame := rsame_calls w8 _ _ A8 A1 c8 c1 (ps6.map (·.2)) cs8 cs1 hrd8 hrd1 (hrc8.mono (fun _ _ _ => trivial)) (hrc1.mono (fun _ _ _ => trivial))
              rw [← hv2] at he8 hsame hSu8
              subst he8
              have HSM := Lib.hid hsame
              clear s0 s1 s2 sf0 sf1 sf2 hsame hv2 hrd8 hrc8 hrd1 hrc1 hop hS7 hR7 hb7 hf8
              (have s0 := hb8.cell 0; have s1 := hb8.cell 1; have s2 := hb8.cell 2; have sf0 := hb8.frozen 0; have sf1 := hb8.frozen 1; have sf2 := hb8.frozen 2; simp only [List.getElem?_toArray, List.getElem?_cons_zero, List.getElem?_cons_succ] at s0 s1 s2)
              go_wp2_with fail
              refine HSM.out.mono ?_
              rintro e w9 ⟨rfl, hf9⟩
              have hb9 := hb8.fr0 hf9
              have hG9 := hG8.fr1 (hf9.mono (fun _ _ hn => hn.elim))
              have hS9 := hSu8.fr0 (hf9.mono (fun _ _ hn => hn.elim))
              clear s0 s1 s2 sf0 sf1 sf2 hb8 hG8 hS8 HSM hSu8
              (have s0 := hb9.cell 0; have s1 := hb9.cell 1; have s2 := hb9.cell 2; have sf0 := hb9.frozen 0; have sf1 := hb9.frozen 1; have sf2 := hb9.frozen 2; simp only [List.getElem?_toArray, List.getElem?_cons_zero, List.getElem?_cons_succ] at s0 s1 s2)
              go_wp2_with fail
              have hb10 : Blk (w9.setCell ⟨ST, 1, none⟩ (.slice A8 n1 c8)) ST tStory #[.pointer (some ⟨H, 0, none⟩), .slice A8 n1 c8, .slice A6 n6 c6] := hb9.put 1 _
              have hf10 : Fr (fun b => b = ST) w9 (w9.setCell ⟨ST, 1, none⟩ (.slice A8 n1 c8)) := (Fr.refl (fun b => b = ST) w9).set (p := ⟨ST, 1, none⟩) (.inr rfl) _
              go_roundw
              case rel => exact ⟨j + 1, L8, X8, d8, _, hf6, ps6, A8, n1, c8, A6, n6, c6, rfl, by go_num, by omega, by omega, hb10, hG9.fr1 hf10, hS9.fr0 hf10⟩
              case measure => simp [intOf]; omega
      · as_aux_lemma =>
          have e2 : decide ((j : Int) < 30) = false := by simp; omega
          (have s0 := hbS.cell 0; have s1 := hbS.cell 1; have s2 := hbS.cell 2; have sf0 := hbS.frozen 0; have sf1 := hbS.frozen 1; have sf2 := hbS.frozen 2; simp only [List.getElem?_toArray, List.getElem?_cons_zero, List.getElem?_cons_succ] at s0 s1 s2)
          go_wp2_with fail
          have hb7 : Blk (wr.setCell ⟨ST, 2, none⟩ (.slice A1 n1 c1)) ST tStory #[.pointer (some ⟨H, 0, none⟩), .slice A1 n1 c1, .slice A1 n1 c1] := hbS.put 2 _
          have hf7 : Fr (fun b => b = ST) wr (wr.setCell ⟨ST, 2, none⟩ (.slice A1 n1 c1)) := (Fr.refl (fun b => b = ST) wr).set (p := ⟨ST, 2, none⟩) (.inr rfl) _
          go_ret
          exact ⟨ST, H, L, X, d, h, hf, ps, _, _, rfl, hb7, (hG.fr1 hf7).up (by omega), hSu.fr0 hf7⟩
    · as_aux_lemma =>
        have e1 : decide ((j : Int) < (acts.length : Int)) = false := by simp; omega
        (have s0 := hbS.cell 0; have s1 := hbS.cell 1; have s2 := hbS.cell 2; have sf0 := hbS.frozen 0; have sf1 := hbS.frozen 1; have sf2 := hbS.frozen 2; simp only [List.getElem?_toArray, List.getElem?_cons_zero, List.getElem?_cons_succ] at s0 s1 s2)
        go_wp2_with fail
        have hb7 : Blk (wr.setCell ⟨ST, 2, none⟩ (.slice A1 n1 c1)) ST tStory #[.pointer (some ⟨H, 0, none⟩), .slice A1 n1 c1, .slice A1 n1 c1] := hbS.put 2 _
        have hf7 : Fr (fun b => b = ST) wr (wr.setCell ⟨ST, 2, none⟩ (.slice A1 n1 c1)) := (Fr.refl (fun b => b = ST) wr).set (p := ⟨ST, 2, none⟩) (.inr rfl) _
        go_ret
        exact ⟨ST, H, L, X, d, h, hf, ps, _, _, rfl, hb7, (hG.fr1 hf7).up (by omega), hSu.fr0 hf7⟩
end Go.Proofs.YtannkgglgmbkdaaDoor
namespace Go.Proofs.YtannkgglgmbkdaaDoor
set_option linter.unusedVariables false
set_option linter.unusedSimpArgs false
open Go.RowKit
set_option maxHeartbeats 4000000 in
set_option maxRecDepth 100000 in
theorem law_RingAgain (W : World) (n : Int) (hn : (Lit.int .i64 n).wf = true) (a : Option Addr) (cap : Nat) (l : List ActM) (hl : RdAct W (fun b => b < W.heap.size) a l) (ok : ∀ x ∈ l, ActOk x) (B : Option Addr) (cb : Nat) (ks : List Bool) (hks : Rd W (fun b => b < W.heap.size) 1 B ks.length (BLs ks)) :
    Calls Tryd.prog 7 #[.int .i64 n, .slice a l.length cap, .slice B ks.length cb] W fun e w' => e = .returned (.bool true) ∧ Fr No W w' := by
  have hn' : -9223372036854775808 ≤ n ∧ n ≤ 9223372036854775807 := by simpa [Lit.wf, IntKind.min, IntKind.max, IntKind.signed, IntKind.bits] using hn
  have hc1 := count_calls n 40 W hn'.1 hn'.2 (by decide) (by decide)
  have hr1 := countZ_range n 40 (by decide)
  obtain ⟨x, hx⟩ : ∃ x : Nat, countZ n 40 = (x : Int) := ⟨(countZ n 40).toNat, by omega⟩
  rw [hx] at hc1 hr1
  obtain ⟨N, hN⟩ : ∃ N, N = 8 + x := ⟨_, rfl⟩
  have HN := Lib.hid (show (8 : Int) + (x : Int) = (N : Int) by omega)
  have hN8 : 8 ≤ N ∧ N ≤ 48 := by omega
  have hx40 : x ≤ 40 := by omega
  have hpl := play_calls W N hN8 a cap l hl ok
  have HPL := Lib.hid hpl
  clear hx hN hr1 hpl
  go_enter Tryd.func7, Tryd.ntmps7
  go_wp2_with fail
  refine hc1.mono ?_
  rintro e wy ⟨rfl, hwy⟩
  subst hwy
  go_wp2_with fail
  try rw [HN.out]
  refine HPL.out.mono ?_
  rintro e w1 ⟨ST, H, L, X, d, h, hf, ps, v1, v2, rfl, hb, hG, hS⟩
  obtain ⟨A1, c1, cs0, rfl, _, _⟩ := id hS
  obtain ⟨n1, hn1⟩ : ∃ n1, n1 = (ps.map (·.2)).length := ⟨_, rfl⟩
  rw [← hn1] at hb hS
  have HN1 := Lib.hid hn1
  clear HPL hc1 hn1
  (have s0 := hb.cell 0; have s1 := hb.cell 1; have s2 := hb.cell 2; have sf0 := hb.frozen 0; have sf1 := hb.frozen 1; have sf2 := hb.frozen 2; simp only [List.getElem?_toArray, List.getElem?_cons_zero, List.getElem?_cons_succ] at s0 s1 s2)
  go_wp2_with fail
  refine (fail_calls w1 X H d 0 (by decide) hG.disk).mono ?_
  rintro e w2 ⟨rfl, hd2, hf2⟩
  have hG2 := hG.failing hd2 hf2 (by decide)
  have hS2 := hS.step (w' := w2) (X' := X) (L' := L) (hf2.mono (fun b _ hb => .inl hb)) (fun b hb => .inl hb) (.inl rfl)
  have hb2 := hb.fr hf2 hG.nS
  clear s0 s1 s2 sf0 sf1 sf2 hb hG hS hd2 hf2
  (have s0 := hb2.cell 0; have s1 := hb2.cell 1; have s2 := hb2.cell 2; have sf0 := hb2.frozen 0; have sf1 := hb2.frozen 1; have sf2 := hb2.frozen 2; simp only [List.getElem?_toArray, List.getElem?_cons_zero, List.getElem?_cons_succ] at s0 s1 s2)
  go_wp2_with fail
  refine (crash_bad W w2 N 31 ST H X _ h hf ps hG2.bad ks B cb hks).mono ?_
  rintro e w3 ⟨rfl, hR3, hf3⟩
  have hb3 := hb2.fr hf3 hG2.nS
  have hS3 := hS2.step (w' := w3) (X' := X) (L' := L) (hf3.mono (fun b _ hb => .inl hb)) (fun b hb => .inl hb) (.inl rfl)
  clear s0 s1 s2 sf0 sf1 sf2 hb2 hG2 hS2 hf3
  go_wp2_with fail
  go_loopw [8] (fun s8 wr => ∃ (i L : Nat) (X : Nat → Prop) (d : DiskM) (h : HeadM), s8 = .int .i64 (i : Int) ∧ i ≤ 3 ∧ Ready W wr N (31 + i) ST H X d h hf ps ∧ Blk wr ST tStory #[.pointer (some ⟨H, 0, none⟩), .slice A1 n1 c1, v2] ∧ SureAt wr X L ST (.slice A1 n1 c1) (ps.map (·.2))) (fun s8 _ => 3 - (intOf s8).toNat)
  case atStart => exact ⟨0, L, X, _, h, rfl, by omega, hR3, hb3, hS3⟩
  case round =>
    clear hR3 hb3 hS3
    obtain ⟨i, L, X, d, h, rfl, hi3, hR, hb, hS⟩ := hrel
    by_cases hlt : i < 3
    · have e1 : decide ((i : Int) < 3) = true := by simp; omega
      (have s0 := hb.cell 0; have s1 := hb.cell 1; have s2 := hb.cell 2; have sf0 := hb.frozen 0; have sf1 := hb.frozen 1; have sf2 := hb.frozen 2; simp only [List.getElem?_toArray, List.getElem?_cons_zero, List.getElem?_cons_succ] at s0 s1 s2)
      have hop := open_ready W wr N (31 + i) ST H X d h hf ps hR hN8 (by omega)
      go_wp2_with fail
      refine hop.mono ?_
      rintro e w8 ⟨L8, v8, X8, d8, he8, hG8, hSu8, hLge, hXs, hf8, _⟩
      have hS8 := hS.step (w' := w8) (X' := X8) (L' := L8) (hf8.mono (fun b _ hb => .inl hb)) hXs (.inr hLge)
      have hb8 := hb.fr hf8 hR.nS
      obtain ⟨A8, c8, cs8, rfl, hrd8, hrc8⟩ := hSu8
      obtain ⟨Ax, cx, cs1, hv, hrd1, hrc1⟩ := id hS8
      injection hv with hv1 hv2 hv3
      subst hv1 hv3
      have hsame := rsame_calls w8 _ _ A8 A1 c8 c1 (ps.map (·.2)) cs8 cs1 hrd8 hrd1 (hrc8.mono (fun _ _ _ => trivial)) (hrc1.mono (fun _ _ _ => trivial))
      rw [← hv2] at he8 hsame
      subst he8
      have HSM := Lib.hid hsame
      clear s0 s1 s2 sf0 sf1 sf2 hsame hv2 hrd8 hrc8 hrd1 hrc1 hop hS hR hb hf8
      (have s0 := hb8.cell 0; have s1 := hb8.cell 1; have s2 := hb8.cell 2; have sf0 := hb8.frozen 0; have sf1 := hb8.frozen 1; have sf2 := hb8.frozen 2; simp only [List.getElem?_toArray, List.getElem?_cons_zero, List.getElem?_cons_succ] at s0 s1 s2)
      go_wp2_with fail
      refine HSM.out.mono ?_
      rintro e w9 ⟨rfl, hf9⟩
      have hb9 := hb8.fr0 hf9
      have hG9 := hG8.fr1 (hf9.mono (fun _ _ hn => hn.elim))
      have hS9 := hS8.fr0 (hf9.mono (fun _ _ hn => hn.elim))
      clear s0 s1 s2 sf0 sf1 sf2 hb8 hG8 hS8 HSM
      (have s0 := hb9.cell 0; have s1 := hb9.cell 1; have s2 := hb9.cell 2; have sf0 := hb9.frozen 0; have sf1 := hb9.frozen 1; have sf2 := hb9.frozen 2; simp only [List.getElem?_toArray, List.getElem?_cons_zero, List.getElem?_cons_succ] at s0 s1 s2)
      go_wp2_with fail
      refine (crash_bad W w9 N (31 + i + 1) ST H X8 d8 _ hf ps hG9.bad ks B cb hks).mono ?_
      rintro e w10 ⟨rfl, hR10, hf10⟩
      have hb10 := hb9.fr hf10 hG9.nS
      have hS10 := hS9.step (w' := w10) (X' := X8) (L' := L8) (hf10.mono (fun b _ hb => .inl hb)) (fun b hb => .inl hb) (.inl rfl)
      clear s0 s1 s2 sf0 sf1 sf2
      go_wp2_with fail
      go_roundw
      case rel => exact ⟨i + 1, L8, X8, _, _, by go_num, by omega, hR10, hb10, hS10⟩
      case measure => simp [intOf]; omega
    · have e1 : decide ((i : Int) < 3) = false := by simp; omega
      go_wp2_with fail
      refine (known_calls _).mono ?_
      rintro e wz ⟨rfl, hfz⟩
      go_wp2_with fail
      go_ret
      exact ⟨rfl, hR.fr.tr hfz⟩
end Go.Proofs.YtannkgglgmbkdaaDoor
