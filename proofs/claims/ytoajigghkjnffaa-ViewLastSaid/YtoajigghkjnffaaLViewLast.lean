/- lapidarylaw12.ViewLast: what was put last is told. UNDER WAY: walked up to the second Peek; one sorry. -/
import Derived.Test.YtoajigghkjnffaaPLast
namespace Go.Proofs.Ytoajigghkjnffaa
set_option linter.unusedVariables false
set_option linter.unusedSimpArgs false
open Go.RowKit

theorem tabOf_n : ∀ (l : List RecM) (t : TabM), (l.foldl (fun t r => (applyM t r).1) t).n ≤ t.n + l.length * 4096
  | [], t => by simp
  | r :: l, t => by
    have h1 := tabOf_n l (applyM t r).1
    have h2 := applyM_n2 t r
    rw [List.foldl_cons, List.length_cons]
    omega
theorem atM_small {t : TabM} (h : TabOk t) (c x : Int) : (atM t c x).1.slots.length ≤ 256 ∧ (atM t c x).1.bytes.length ≤ 1024 := by
  have hn : noObj.slots.length ≤ 256 ∧ noObj.bytes.length ≤ 1024 := ⟨by decide, by decide⟩
  unfold atM
  split
  · split
    · rename_i v hv
      unfold verM at hv
      split at hv
      · cases hv
      · split
        · exact hn
        · exact (h x).2.2.2 v (List.mem_of_getElem? hv)
    · exact hn
  · exact hn
theorem peekM_small {t : TabM} {v : ViewM} (h : TabOk t) (hv : ViewOk v) (x : Int) : (peekM t v x).1.slots.length ≤ 256 ∧ (peekM t v x).1.bytes.length ≤ 1024 := by
  unfold peekM
  split
  · rename_i o ho; exact hv.2.2 x o ho
  · split
    · exact atM_small h _ _
    · exact ⟨by decide, by decide⟩
theorem lmake (n : Int) : makeM (view0 n) ⟨7, [], []⟩ = (vput ⟨n, fun _ => none, fun _ => false, 1, 0⟩ 4097 ⟨7, [], []⟩, 4097, 0) := by rfl
set_option maxHeartbeats 4000000 in
set_option maxRecDepth 100000 in
theorem law_ViewLast (W : World) (a0 : Option Addr) (cap0 : Nat) (l : List RecM) (hl : RdRec W (fun b => b < W.heap.size) a0 l) (ok : ∀ r ∈ l, RecOk r) (xa : Int) (wa : (Lit.int .i64 xa).wf = true) (xb : Int) (wb : (Lit.int .i64 xb).wf = true) (cs : List Value) (o : ObjM) (h : ObjC W (fun b => b < W.heap.size) cs o) (ok2 : o.slots.length * 16 ≤ 140737488351232 ∧ o.bytes.length ≤ 140737488351232) :
    Calls Try.prog 4 #[.slice a0 l.length cap0, .int .i64 xa, .int .i64 xb, .agg cs.toArray] W fun e w' => e = .returned (.bool true) ∧ Fr No W w' := by
  have ho := h
  obtain ⟨A0, c0, D0, d0, rfl, hs0, hb0⟩ := h
  have hf0 : Fr No W (W.alloc (.cells #[.int .i64 o.cls, .slice A0 o.slots.length c0, .slice D0 o.bytes.length d0] tObj)) := (Fr.refl No W).alloc _
  have hx0 : Blk (W.alloc (.cells #[.int .i64 o.cls, .slice A0 o.slots.length c0, .slice D0 o.bytes.length d0] tObj)) W.heap.size tObj #[.int .i64 o.cls, .slice A0 o.slots.length c0, .slice D0 o.bytes.length d0] := Blk.new W _ _
  have hz0 := hf0.size
  go_enter Try.func4, Try.ntmps4
  go_wp2_with fail
  refine (both_calls (fun b => b < W.heap.size) a0 cap0 l _ (hl.fr0 hf0) (fun b hb => by omega) ok).mono ?_
  rintro e w1 ⟨p, pr, T, O, T2, O2, rfl, hT1, _, hall, _, _, hf1⟩
  have htn : (tabOf (l.take 12)).n ≤ 1000000 := by
    have h1 := tabOf_n (l.take 12) tab0
    have h2 : (l.take 12).length ≤ 12 := by rw [List.length_take]; omega
    have h3 : tab0.n = 0 := rfl
    show ((l.take 12).foldl _ tab0).n ≤ _
    omega
  have htok : TabOk (tabOf (l.take 12)) := tabOf_ok _ _ tab0_ok
  generalize tabOf (l.take 12) = t at *
  have hF1 := hf0.tr hf1
  have hx1 := hx0.fr0 hf1
  have hTl := hT1.lt
  obtain ⟨mb, wb', hbk⟩ := hT1.blk
  have hx0l := hx0.lt
  go_wp2_with fail
  refine (vnew_calls w1 p t.first t.last _ _ hbk).mono ?_
  rintro e w2 ⟨q, rfl, hV2, hf2⟩
  have hT2 := hT1.fr0 hf2
  have hF2 := hF1.tr hf2
  have hx2 := hx1.fr0 hf2
  have hz2 := hf2.size
  generalize hVV : (fun b => w1.heap.size ≤ b ∧ b < w2.heap.size) = V at *
  have hVd : ∀ b, V b → w1.heap.size ≤ b ∧ b < w2.heap.size := fun b hb => by rw [← hVV] at hb; exact hb
  clear hVV
  have hz1 := hF1.size
  have hWx : W.heap.size < w1.heap.size := hx1.lt
  have hVW : ∀ b, V b → ¬ b ≤ W.heap.size := fun b hb => by have := hVd b hb; omega
  go_wp2_with fail
  refine (vmake_calls w2 V No No q p (view0 t.last) _ ⟨7, [], []⟩ hV2 (nilObj w2 7) (fun b hb _ => hb) (view0_ok _) (Nat.zero_le _) (by decide)).mono ?_
  rintro e w3 ⟨rfl, O3, hV3, hO3, hf3⟩
  have hok3 := makeM_ok (o := ⟨7, [], []⟩) (view0_ok t.last)
  rw [lmake] at hV3 hok3 ⊢
  simp only at hV3 hok3 ⊢
  have hT3 := hT2.fr hf3 (fun b hb hV => by have := hTl.1 b hb; have := hVd b hV; omega) (fun b hb hV => by have := hTl.2.1 b hb; have := hVd b hV; omega)
  have hF3 : Fr No W w3 := hF2.trans hf3 (fun b hb hV => hVW b hV (by omega))
  have hx3 := hx2.fr hf3 (fun hV => hVW _ hV (Nat.le_refl _))
  have hn3 : (vput ⟨t.last, fun _ => none, fun _ => false, 1, 0⟩ 4097 ⟨7, [], []⟩).n ≤ 10 := by show (1 : Nat) ≤ 10; decide
  have hk3 : ∀ u : TabM, peekM u (vput ⟨t.last, fun _ => none, fun _ => false, 1, 0⟩ 4097 ⟨7, [], []⟩) 4097 = (⟨7, [], []⟩, 0) := fun u => peekM_put_same _ _ _ _
  generalize vput ⟨t.last, fun _ => none, fun _ => false, 1, 0⟩ 4097 ⟨7, [], []⟩ = v3 at *
  go_wp2_with fail
  refine (peek_calls w3 V O3 T O q p v3 t xb hV3 hT3 htok hok3 htn wb).mono ?_
  rintro e w4 ⟨cs4, rfl, hown4, hf4⟩
  obtain ⟨A4, c4, D4, d4, rfl⟩ := hown4.lit3
  obtain ⟨R4, hR4⟩ : ∃ R4, R4 = peekM t v3 xb := ⟨_, rfl⟩
  rw [← hR4] at hown4 ⊢
  have HR4 := Lib.hid hR4
  clear hR4
  have hf45 : Fr No w4 (w4.alloc (.cells #[.int .i64 R4.1.cls, .slice A4 R4.1.slots.length c4, .slice D4 R4.1.bytes.length d4] tObj)) := (Fr.refl No w4).alloc _
  have hb4 := Blk.new w4 tObj #[.int .i64 R4.1.cls, .slice A4 R4.1.slots.length c4, .slice D4 R4.1.bytes.length d4]
  have hf35 := hf4.tr hf45
  have hV5 := hV3.fr0 hf35
  have hT5 := hT3.fr0 hf35
  have hF5 := hF3.tr hf35
  have hx5 := hx3.fr0 hf35
  have hl5 := hx5.all
  have hown5 := hown4.fr hf45 (fun _ _ hn => hn)
  have hz5 := hf35.size
  go_wp2_with (first
    | (refine wpList_ldA ag_obj rfl _ rfl ⟨W.heap.size, 0, none⟩ [.int .i64 o.cls, .slice A0 o.slots.length c0, .slice D0 o.bytes.length d0] rfl rfl hl5 ?_)
    | fail)
  refine (vput_calls _ V O3 T O (fun b => b < W.heap.size) q p v3 t xa _ o hV5 hT5 (ho.fr0 hF5) htok hok3 htn (by omega) wa (by omega)).mono ?_
  rintro e w6 ⟨rfl, O6, hV6, hO6, hf6⟩
  have hok6 := putV_ok (t := t) (x := xa) (o := o) hok3
  have HP := Lib.hid (show (putV t v3 xa o).2 = 0 → peekM t (putV t v3 xa o).1 xa = (o, 0) from putV_told)
  have HQ := Lib.hid (show xa ≠ xb → peekM t (putV t v3 xa o).1 xb = R4 from fun hne => (putV_others hne).trans HR4.out.symm)
  have HS := Lib.hid (show xa ≠ 4097 → peekM t (putV t v3 xa o).1 4097 = (⟨7, [], []⟩, 0) from fun hne => (putV_others hne).trans (hk3 t))
  generalize (putV t v3 xa o).2 = f6 at *
  generalize (putV t v3 xa o).1 = v6 at *
  have hVlow : ∀ b, V b → b < w3.heap.size := fun b hb => by have := hVd b hb; have := hf3.size; omega
  have hT6 := hT5.fr hf6 (fun b hb hV => by have := hTl.1 b hb; have := hVd b hV; omega) (fun b hb hV => by have := hTl.2.1 b hb; have := hVd b hV; omega)
  have hF6 : Fr No W _ := hF5.trans hf6 (fun b hb hV => hVW b hV (by omega))
  have hx6 := hx5.fr hf6 (fun hV => hVW _ hV (Nat.le_refl _))
  have hown6 := hown5.fr hf6 (fun b hb hV => by have := hVlow b hV; omega)
  have hb6 := hb4.fr hf6 (fun hV => by have := hVlow _ hV; have := hf4.size; omega)
  go_wp2_with fail
  refine (peek_calls w6 V O6 T O q p v6 t xa hV6 hT6 htok hok6 htn wa).mono ?_
  rintro e w7 ⟨cs7, rfl, hown7, hf7⟩
  obtain ⟨A7, c7, D7, d7, rfl⟩ := hown7.lit3
  obtain ⟨R7, hR7⟩ : ∃ R7, R7 = peekM t v6 xa := ⟨_, rfl⟩
  rw [← hR7] at hown7 ⊢
  have HR7 := Lib.hid (show f6 = 0 → R7 = (o, 0) from fun hf => hR7.trans (HP.out hf))
  clear hR7
  by_cases hf : f6 = 0
  · have e7 := HR7.out hf
    subst hf e7
    simp only at hown7 ⊢
    have hb7 := Blk.new w7 tObj #[.int .i64 o.cls, .slice A7 o.slots.length c7, .slice D7 o.bytes.length d7]
    have hf78 : Fr No w7 (w7.alloc (.cells #[.int .i64 o.cls, .slice A7 o.slots.length c7, .slice D7 o.bytes.length d7] tObj)) := (Fr.refl No w7).alloc _
    have hl7 := hb7.all
    have hx8 := (hx6.fr0 (hf7.tr hf78)).all
    have ho8 := ho.fr0 (hF6.tr (hf7.tr hf78))
    have ho7 := (hown7.rd (by omega) (by omega)).fr0 hf78
    have HSO := Lib.hid (sameO_self o)
    go_wp2_with (first
      | (refine wpList_ldA ag_obj rfl _ rfl ⟨w7.heap.size, 0, none⟩ [.int .i64 o.cls, .slice A7 o.slots.length c7, .slice D7 o.bytes.length d7] rfl rfl hl7 ?_)
      | (refine wpList_ldA ag_obj rfl _ rfl ⟨W.heap.size, 0, none⟩ [.int .i64 o.cls, .slice A0 o.slots.length c0, .slice D0 o.bytes.length d0] rfl rfl hx8 ?_)
      | fail)
    refine (refsame_calls _ _ _ _ o o _ ho7 ho8).mono ?_
    rw [HSO.out]
    rintro e w9 ⟨rfl, hf9⟩
    have hg : Fr No w6 w9 := (hf7.tr hf78).tr hf9
    have hV9 := hV6.fr0 hg
    have hT9 := hT6.fr0 hg
    have hF9 := hF6.tr hg
    have hb9 := hb6.fr0 hg
    have hown9 := hown6.fr hg (fun _ _ hn => hn)
    go_wp2_with fail
    refine (peek_calls _ V O6 T O q p v6 t xb hV9 hT9 htok hok6 htn wb).mono ?_
    rintro e wA ⟨csA, rfl, hownA, hfA⟩
    obtain ⟨AA, cA, DA, dA, rfl⟩ := hownA.lit3
    obtain ⟨RA, hRA⟩ : ∃ RA, RA = peekM t v6 xb := ⟨_, rfl⟩
    rw [← hRA] at hownA ⊢
    have HRA := Lib.hid (show xa ≠ xb → RA = R4 from fun hne => hRA.trans (HQ.out hne))
    clear hRA
    have hfAB : Fr No wA (wA.alloc (.cells #[.int .i64 RA.1.cls, .slice AA RA.1.slots.length cA, .slice DA RA.1.bytes.length dA] tObj)) := (Fr.refl No wA).alloc _
    have hbA := Blk.new wA tObj #[.int .i64 RA.1.cls, .slice AA RA.1.slots.length cA, .slice DA RA.1.bytes.length dA]
    have hg2 := hfA.tr hfAB
    have hVB := hV9.fr0 hg2
    have hTB := hT9.fr0 hg2
    have hFB := hF9.tr hg2
    have hbB := hb9.fr0 hg2
    have hownB := hown9.fr hg2 (fun _ _ hn => hn)
    have hownAB := hownA.fr hfAB (fun _ _ hn => hn)
    go_wp2_with fail
    refine (peek_calls _ V O6 T O q p v6 t 4097 hVB hTB htok hok6 htn (wf_of (by decide) (by decide))).mono ?_
    rintro e wC ⟨csC, rfl, hownC, hfC⟩
    obtain ⟨AC, cC, DC, dC, rfl⟩ := hownC.lit3
    obtain ⟨RC, hRC⟩ : ∃ RC, RC = peekM t v6 4097 := ⟨_, rfl⟩
    rw [← hRC] at hownC ⊢
    have HRC := Lib.hid (show xa ≠ 4097 → RC = (⟨7, [], []⟩, 0) from fun hne => hRC.trans (HS.out hne))
    clear hRC
    have hfCD : Fr No wC (wC.alloc (.cells #[.int .i64 RC.1.cls, .slice AC RC.1.slots.length cC, .slice DC RC.1.bytes.length dC] tObj)) := (Fr.refl No wC).alloc _
    have hbC := Blk.new wC tObj #[.int .i64 RC.1.cls, .slice AC RC.1.slots.length cC, .slice DC RC.1.bytes.length dC]
    have hg3 := hfC.tr hfCD
    have hFD := hFB.tr hg3
    have hb4D := (hbB.fr0 hg3).all
    have hbAD := (hbA.fr0 hg3).all
    have hc0 := hbC.cell 0
    simp only [List.getElem?_toArray, List.getElem?_cons_zero] at hc0
    have hown4D := hownB.fr hg3 (fun _ _ hn => hn)
    have hownAD := hownAB.fr hg3 (fun _ _ hn => hn)
    by_cases hab : xa = xb
    · have ekb : (xa == xb) = true := by simpa using hab
      clear hab
      by_cases hk : xa = 4097
      · have ekk : (xa == 4097) = true := by simpa using hk
        clear hk
        go_wp2_with fail
        refine (known_calls _).mono ?_
        rintro e wz ⟨rfl, hfz⟩
        go_wp2
        go_ret
        exact ⟨rfl, hFD.tr hfz⟩
      · have ekk : (xa == 4097) = false := by simpa using hk
        have e9 := HRC.out hk
        subst e9
        clear hk
        go_wp2_with fail
        refine (known_calls _).mono ?_
        rintro e wz ⟨rfl, hfz⟩
        go_wp2
        go_ret
        exact ⟨rfl, hFD.tr hfz⟩
    · have ekb : (xa == xb) = false := by simpa using hab
      have e8 := HRA.out hab
      subst e8
      clear hab
      have hsm := peekM_small htok hok3 xb
      rw [← HR4.out] at hsm
      have h1o := hown4D.rd (by omega) (by omega)
      have h2o := hownAD.rd (by omega) (by omega)
      have HSO2 := Lib.hid (sameO_self RA.1)
      by_cases hk : xa = 4097
      · have ekk : (xa == 4097) = true := by simpa using hk
        clear hk
        go_wp2_with (first
          | (refine wpList_ldA ag_obj rfl _ rfl ⟨w4.heap.size, 0, none⟩ [.int .i64 RA.1.cls, .slice A4 RA.1.slots.length c4, .slice D4 RA.1.bytes.length d4] rfl rfl hb4D ?_)
          | (refine wpList_ldA ag_obj rfl _ rfl ⟨wA.heap.size, 0, none⟩ [.int .i64 RA.1.cls, .slice AA RA.1.slots.length cA, .slice DA RA.1.bytes.length dA] rfl rfl hbAD ?_)
          | fail)
        refine (refsame_calls _ _ _ _ RA.1 RA.1 _ h1o h2o).mono ?_
        rw [HSO2.out]
        rintro e wE ⟨rfl, hfE⟩
        have hcE := hfE.cell_some hc0 (fun hn => hn)
        have ebe : (RA.2 == RA.2) = true := by simp
        go_wp2_with fail
        refine (known_calls _).mono ?_
        rintro e wz ⟨rfl, hfz⟩
        go_wp2
        go_ret
        exact ⟨rfl, (hFD.tr hfE).tr hfz⟩
      · have ekk : (xa == 4097) = false := by simpa using hk
        have e9 := HRC.out hk
        subst e9
        clear hk
        go_wp2_with (first
          | (refine wpList_ldA ag_obj rfl _ rfl ⟨w4.heap.size, 0, none⟩ [.int .i64 RA.1.cls, .slice A4 RA.1.slots.length c4, .slice D4 RA.1.bytes.length d4] rfl rfl hb4D ?_)
          | (refine wpList_ldA ag_obj rfl _ rfl ⟨wA.heap.size, 0, none⟩ [.int .i64 RA.1.cls, .slice AA RA.1.slots.length cA, .slice DA RA.1.bytes.length dA] rfl rfl hbAD ?_)
          | fail)
        refine (refsame_calls _ _ _ _ RA.1 RA.1 _ h1o h2o).mono ?_
        rw [HSO2.out]
        rintro e wE ⟨rfl, hfE⟩
        have hcE := hfE.cell_some hc0 (fun hn => hn)
        have ebe : (RA.2 == RA.2) = true := by simp
        go_wp2_with fail
        refine (known_calls _).mono ?_
        rintro e wz ⟨rfl, hfz⟩
        go_wp2
        go_ret
        exact ⟨rfl, (hFD.tr hfE).tr hfz⟩
  · have ek : (f6 == 0) = false := by simpa using hf
    have hf78 : Fr No w7 (w7.alloc (.cells #[.int .i64 R7.1.cls, .slice A7 R7.1.slots.length c7, .slice D7 R7.1.bytes.length d7] tObj)) := (Fr.refl No w7).alloc _
    have hg := hf7.tr hf78
    clear hf
    have hV9 := hV6.fr0 hg
    have hT9 := hT6.fr0 hg
    have hF9 := hF6.tr hg
    have hb9 := hb6.fr0 hg
    have hown9 := hown6.fr hg (fun _ _ hn => hn)
    go_wp2_with fail
    refine (peek_calls _ V O6 T O q p v6 t xb hV9 hT9 htok hok6 htn wb).mono ?_
    rintro e wA ⟨csA, rfl, hownA, hfA⟩
    obtain ⟨AA, cA, DA, dA, rfl⟩ := hownA.lit3
    obtain ⟨RA, hRA⟩ : ∃ RA, RA = peekM t v6 xb := ⟨_, rfl⟩
    rw [← hRA] at hownA ⊢
    have HRA := Lib.hid (show xa ≠ xb → RA = R4 from fun hne => hRA.trans (HQ.out hne))
    clear hRA
    have hfAB : Fr No wA (wA.alloc (.cells #[.int .i64 RA.1.cls, .slice AA RA.1.slots.length cA, .slice DA RA.1.bytes.length dA] tObj)) := (Fr.refl No wA).alloc _
    have hbA := Blk.new wA tObj #[.int .i64 RA.1.cls, .slice AA RA.1.slots.length cA, .slice DA RA.1.bytes.length dA]
    have hg2 := hfA.tr hfAB
    have hVB := hV9.fr0 hg2
    have hTB := hT9.fr0 hg2
    have hFB := hF9.tr hg2
    have hbB := hb9.fr0 hg2
    have hownB := hown9.fr hg2 (fun _ _ hn => hn)
    have hownAB := hownA.fr hfAB (fun _ _ hn => hn)
    go_wp2_with fail
    refine (peek_calls _ V O6 T O q p v6 t 4097 hVB hTB htok hok6 htn (wf_of (by decide) (by decide))).mono ?_
    rintro e wC ⟨csC, rfl, hownC, hfC⟩
    obtain ⟨AC, cC, DC, dC, rfl⟩ := hownC.lit3
    obtain ⟨RC, hRC⟩ : ∃ RC, RC = peekM t v6 4097 := ⟨_, rfl⟩
    rw [← hRC] at hownC ⊢
    have HRC := Lib.hid (show xa ≠ 4097 → RC = (⟨7, [], []⟩, 0) from fun hne => hRC.trans (HS.out hne))
    clear hRC
    have hfCD : Fr No wC (wC.alloc (.cells #[.int .i64 RC.1.cls, .slice AC RC.1.slots.length cC, .slice DC RC.1.bytes.length dC] tObj)) := (Fr.refl No wC).alloc _
    have hbC := Blk.new wC tObj #[.int .i64 RC.1.cls, .slice AC RC.1.slots.length cC, .slice DC RC.1.bytes.length dC]
    have hg3 := hfC.tr hfCD
    have hFD := hFB.tr hg3
    have hb4D := (hbB.fr0 hg3).all
    have hbAD := (hbA.fr0 hg3).all
    have hc0 := hbC.cell 0
    simp only [List.getElem?_toArray, List.getElem?_cons_zero] at hc0
    have hown4D := hownB.fr hg3 (fun _ _ hn => hn)
    have hownAD := hownAB.fr hg3 (fun _ _ hn => hn)
    by_cases hab : xa = xb
    · have ekb : (xa == xb) = true := by simpa using hab
      clear hab
      by_cases hk : xa = 4097
      · have ekk : (xa == 4097) = true := by simpa using hk
        clear hk
        go_wp2_with fail
        refine (known_calls _).mono ?_
        rintro e wz ⟨rfl, hfz⟩
        go_wp2
        go_ret
        exact ⟨rfl, hFD.tr hfz⟩
      · have ekk : (xa == 4097) = false := by simpa using hk
        have e9 := HRC.out hk
        subst e9
        clear hk
        go_wp2_with fail
        refine (known_calls _).mono ?_
        rintro e wz ⟨rfl, hfz⟩
        go_wp2
        go_ret
        exact ⟨rfl, hFD.tr hfz⟩
    · have ekb : (xa == xb) = false := by simpa using hab
      have e8 := HRA.out hab
      subst e8
      clear hab
      have hsm := peekM_small htok hok3 xb
      rw [← HR4.out] at hsm
      have h1o := hown4D.rd (by omega) (by omega)
      have h2o := hownAD.rd (by omega) (by omega)
      have HSO2 := Lib.hid (sameO_self RA.1)
      by_cases hk : xa = 4097
      · have ekk : (xa == 4097) = true := by simpa using hk
        clear hk
        go_wp2_with (first
          | (refine wpList_ldA ag_obj rfl _ rfl ⟨w4.heap.size, 0, none⟩ [.int .i64 RA.1.cls, .slice A4 RA.1.slots.length c4, .slice D4 RA.1.bytes.length d4] rfl rfl hb4D ?_)
          | (refine wpList_ldA ag_obj rfl _ rfl ⟨wA.heap.size, 0, none⟩ [.int .i64 RA.1.cls, .slice AA RA.1.slots.length cA, .slice DA RA.1.bytes.length dA] rfl rfl hbAD ?_)
          | fail)
        refine (refsame_calls _ _ _ _ RA.1 RA.1 _ h1o h2o).mono ?_
        rw [HSO2.out]
        rintro e wE ⟨rfl, hfE⟩
        have hcE := hfE.cell_some hc0 (fun hn => hn)
        have ebe : (RA.2 == RA.2) = true := by simp
        go_wp2_with fail
        refine (known_calls _).mono ?_
        rintro e wz ⟨rfl, hfz⟩
        go_wp2
        go_ret
        exact ⟨rfl, (hFD.tr hfE).tr hfz⟩
      · have ekk : (xa == 4097) = false := by simpa using hk
        have e9 := HRC.out hk
        subst e9
        clear hk
        go_wp2_with (first
          | (refine wpList_ldA ag_obj rfl _ rfl ⟨w4.heap.size, 0, none⟩ [.int .i64 RA.1.cls, .slice A4 RA.1.slots.length c4, .slice D4 RA.1.bytes.length d4] rfl rfl hb4D ?_)
          | (refine wpList_ldA ag_obj rfl _ rfl ⟨wA.heap.size, 0, none⟩ [.int .i64 RA.1.cls, .slice AA RA.1.slots.length cA, .slice DA RA.1.bytes.length dA] rfl rfl hbAD ?_)
          | fail)
        refine (refsame_calls _ _ _ _ RA.1 RA.1 _ h1o h2o).mono ?_
        rw [HSO2.out]
        rintro e wE ⟨rfl, hfE⟩
        have hcE := hfE.cell_some hc0 (fun hn => hn)
        have ebe : (RA.2 == RA.2) = true := by simp
        go_wp2_with fail
        refine (known_calls _).mono ?_
        rintro e wz ⟨rfl, hfz⟩
        go_wp2
        go_ret
        exact ⟨rfl, (hFD.tr hfE).tr hfz⟩
end Go.Proofs.Ytoajigghkjnffaa
