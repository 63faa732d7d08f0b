/- lapidarylaw12.ViewAlone: whatever one view does, another one of the same table, and the table, see nothing of it. -/
import Derived.Test.YtoajigghkjnffaaPLast
import Derived.Test.YtoajigghkjnffaaViewSets
import Derived.Test.YtoajigghkjnffaaSpoil12
import Derived.Test.YtoajigghkjnffaaAct12
import Derived.Test.YtoajigghkjnffaaPAt
namespace Go.Proofs.Ytoajigghkjnffaa
set_option linter.unusedVariables false
set_option linter.unusedSimpArgs false
open Go.RowKit

theorem tabOf_n0 : ∀ (l : List RecM) (t : TabM), (l.foldl (fun t r => (applyM t r).1) t).n ≤ t.n + l.length * 4096
  | [], t => by simp
  | r :: l, t => by
    have h1 := tabOf_n0 l (applyM t r).1
    have h2 := applyM_n2 t r
    rw [List.foldl_cons, List.length_cons]
    omega
theorem rtabOf_len : ∀ (l : List RecM) (t : RTabM), (l.foldl (fun t r => (rapplyM t r).1) t).l.length ≤ t.l.length + l.length
  | [], t => by simp
  | r :: l, t => by
    have h1 := rtabOf_len l (rapplyM t r).1
    have h2 := (rapplyM_n t r).2
    rw [List.foldl_cons, List.length_cons]
    omega
theorem vput_n {t : TabM} {v : ViewM} {x : Int} {o : ObjM} : (putV t v x o).1.n ≤ v.n + 1 := by
  unfold putV vput; split
  · split
    · exact Nat.le_refl _
    · exact Nat.le_succ _
  · exact Nat.le_succ _
theorem makeM_n {v : ViewM} {o : ObjM} : (makeM v o).1.n ≤ v.n + 1 := by
  unfold makeM vput; split
  · split
    · exact Nat.le_succ _
    · exact Nat.le_refl _
  · exact Nat.le_succ _
theorem readM_n {v : ViewM} {x : Int} : (readM v x).n ≤ v.n + 1 := by
  unfold readM; split
  · exact Nat.le_refl _
  · exact Nat.le_succ _
theorem peekM_small0 {t : TabM} {v : ViewM} (h : TabOk t) (hv : ViewOk v) (x : Int) : (peekM t v x).1.slots.length ≤ 256 ∧ (peekM t v x).1.bytes.length ≤ 1024 := by
  have hn : noObj.slots.length ≤ 256 ∧ noObj.bytes.length ≤ 1024 := ⟨by decide, by decide⟩
  have ha : ∀ c, (atM t c x).1.slots.length ≤ 256 ∧ (atM t c x).1.bytes.length ≤ 1024 := fun c => by
    unfold atM
    split
    · split
      · rename_i u hu
        unfold verM at hu
        split at hu
        · cases hu
        · split
          · exact hn
          · exact (h x).2.2.2 u (List.mem_of_getElem? hu)
      · exact hn
    · exact hn
  unfold peekM
  split
  · rename_i o ho; exact hv.2.2 x o ho
  · split
    · exact ha _
    · exact hn
theorem IRow.none_ {w : World} {base : Nat} {v : Value} (h : IRow w base v []) : ∃ A c, v = .slice A 0 c := by
  obtain ⟨A, c, e, _⟩ := h.rd (by decide)
  exact ⟨A, c, e⟩
set_option maxHeartbeats 4000000 in
set_option maxRecDepth 100000 in
theorem law_ViewAlone (W : World) (a0 : Option Addr) (cap0 : Nat) (l : List RecM) (hl : RdRec W (fun b => b < W.heap.size) a0 l) (ok : ∀ r ∈ l, RecOk r) (a1 : Option Addr) (cap1 : Nat) (ac : List ActM) (has : RdAct W (fun b => b < W.heap.size) a1 ac) (oka : ∀ a ∈ ac, ActOk a) (xa : Int) (wa : (Lit.int .i64 xa).wf = true) :
    Calls Try.prog 5 #[.slice a0 l.length cap0, .slice a1 ac.length cap1, .int .i64 xa] W fun e w' => e = .returned (.bool true) ∧ Fr No W w' := by
  have hasl := has.le
  go_enter Try.func5, Try.ntmps5
  go_wp2_with fail
  refine (both_calls (fun b => b < W.heap.size) a0 cap0 l _ hl (fun b hb => by omega) ok).mono ?_
  rintro e w1 ⟨p, u, T, O, T2, O2, rfl, hT1, hR1, hall, hd1, hd2, hf1⟩
  have htn : (tabOf (l.take 12)).n ≤ 1000000 := by
    have h1 := tabOf_n0 (l.take 12) tab0
    have h2 : (l.take 12).length ≤ 12 := by rw [List.length_take]; omega
    have h3 : tab0.n = 0 := rfl
    show ((l.take 12).foldl _ tab0).n ≤ _
    omega
  have hrn : (rtabOf (l.take 12)).l.length ≤ 1000000 := by
    have h1 := rtabOf_len (l.take 12) rtab0
    have h2 : (l.take 12).length ≤ 12 := by rw [List.length_take]; omega
    have h3 : rtab0.l.length = 0 := rfl
    show ((l.take 12).foldl _ rtab0).l.length ≤ _
    omega
  have htok : TabOk (tabOf (l.take 12)) := tabOf_ok _ _ tab0_ok
  have hrel0 := RelT.of (l.take 12)
  have hrs := hrel0.small
  have HAT := Lib.hid (at_same hrel0)
  have hlast := hrel0.last
  generalize tabOf (l.take 12) = t at *
  generalize rtabOf (l.take 12) = rt at *
  have HLAST := Lib.hid hlast
  have HRS := Lib.hid hrs
  clear hrel0 hlast hrs
  have hTl := hT1.lt
  have hRl := hR1.lt
  have hlow : ∀ b, T b ∨ O b ∨ T2 b ∨ O2 b → b < w1.heap.size := fun b hb => by
    rcases hb with hb | hb | hb | hb
    · exact hTl.1 b hb
    · exact hTl.2.1 b hb
    · exact hRl.1 b hb
    · exact hRl.2.1 b hb
  obtain ⟨mb, wb', hbk⟩ := hT1.blk
  obtain ⟨mb1, mb2, mb3, hrbk⟩ : ∃ m1 m2 m3, Blk w1 u 58 #[.int .i64 rt.fr, .int .i64 rt.en, m1, m2, m3] := by
    obtain ⟨_, _, _, hP⟩ := hR1; exact ⟨_, _, _, hP.blk⟩
  have hz1 := hf1.size
  go_wp2_with fail
  refine (vnew_calls w1 p t.first t.last _ _ hbk).mono ?_
  rintro e w2 ⟨q1, rfl, hV2, hf2⟩
  have hz2 := hf2.size
  generalize hVV : (fun b => w1.heap.size ≤ b ∧ b < w2.heap.size) = V1 at *
  have hVd : ∀ b, V1 b → w1.heap.size ≤ b ∧ b < w2.heap.size := fun b hb => by rw [← hVV] at hb; exact hb
  clear hVV
  have hbk2 := hbk.fr0 hf2
  go_wp2_with fail
  refine (vnew_calls w2 p t.first t.last _ _ hbk2).mono ?_
  rintro e w3 ⟨q2, rfl, hU3, hf3⟩
  have hz3 := hf3.size
  generalize hVV : (fun b => w2.heap.size ≤ b ∧ b < w3.heap.size) = V2 at *
  have hUd : ∀ b, V2 b → w2.heap.size ≤ b ∧ b < w3.heap.size := fun b hb => by rw [← hVV] at hb; exact hb
  clear hVV
  have hV3 := hV2.fr0 hf3
  have hF3 := (hf1.tr hf2).tr hf3
  have hT3 := hT1.fr0 (hf2.tr hf3)
  go_wp2_with fail
  refine (peek_calls w3 V2 No T O q2 p (view0 t.last) t xa hU3 hT3 htok (view0_ok _) htn wa).mono ?_
  rintro e w4 ⟨cs4, rfl, hown4, hf4⟩
  have hsm := peekM_small0 htok (view0_ok t.last) xa
  obtain ⟨A4, c4, D4, d4, rfl⟩ := hown4.lit3
  obtain ⟨R4, hR4⟩ : ∃ R4, R4 = peekM t (view0 t.last) xa := ⟨_, rfl⟩
  rw [← hR4] at hown4 hsm ⊢
  have HR4 := Lib.hid hR4
  clear hR4
  have hf45 : Fr No w4 (w4.alloc (.cells #[.int .i64 R4.1.cls, .slice A4 R4.1.slots.length c4, .slice D4 R4.1.bytes.length d4] tObj)) := (Fr.refl No w4).alloc _
  have hb5 := Blk.new w4 tObj #[.int .i64 R4.1.cls, .slice A4 R4.1.slots.length c4, .slice D4 R4.1.bytes.length d4]
  have hz4 := hf4.size
  have hown5 := hown4.fr hf45 (fun _ _ hn => hn)
  go_upto_block 0 with fail
  generalize hw5 : w4.alloc (.cells #[.int .i64 R4.1.cls, .slice A4 R4.1.slots.length c4, .slice D4 R4.1.bytes.length d4] tObj) = w5 at *
  clear hw5
  have hg35 := hf4.tr hf45
  have hz5 := hf45.size
  have hV5 := hV3.fr0 hg35
  have hU5 := hU3.fr0 hg35
  have hT5 := hT3.fr0 hg35
  have hR5 := hR1.fr0 ((hf2.tr hf3).tr hg35)
  have hbk5 := hbk2.fr0 (hf3.tr hg35)
  have hrbk5 := hrbk.fr0 ((hf2.tr hf3).tr hg35)
  have hF5 := hF3.tr hg35
  have has5 := has.fr0 hF5
  have hpl : p < w1.heap.size := hbk.lt
  have hul : u < w1.heap.size := hrbk.lt
  have HOKA := Lib.hid oka
  clear oka
  go_cut [13] (fun s13 wx => Fr (fun b => w1.heap.size ≤ b ∧ b < w2.heap.size) w5 wx)
  case first =>
    go_wp2_with fail
    go_loopw [13] (fun i wr => ∃ (k : Nat) (v : ViewM) (Q : Nat → Prop), k ≤ ac.length ∧ k ≤ 40 ∧ i = .int .i64 (k : Int) ∧ ViewAt wr V1 Q q1 p v ∧ ViewOk v ∧ v.n ≤ k ∧ (∀ b, Q b → w3.heap.size ≤ b) ∧ Fr (fun b => w1.heap.size ≤ b ∧ b < w2.heap.size) w5 wr) (fun i _ => ac.length - (intOf i).toNat)
    case atStart => exact ⟨0, view0 t.last, No, by omega, by omega, rfl, hV5, view0_ok _, Nat.le_refl _, fun b hb => hb.elim, Fr.refl _ _⟩
    case round =>
      obtain ⟨k, v, Q, hk, hk40, rfl, hV, hvok, hvn, hQ, hf⟩ := hrel
      by_cases hlt : k < ac.length
      · have ek : decide ((k : Int) < ac.length) = true := by simpa using (by omega : (k : Int) < ac.length)
        by_cases h40 : k < 40
        · have ek2 : decide ((k : Int) < 40) = true := by simpa using (by omega : (k : Int) < 40)
          have hokk := HOKA.out _ (List.getElem_mem hlt)
          obtain ⟨g, o, cs, rfl, _, hcs, hcell⟩ := (has5.fr hf (fun b hb hT => by omega)).at_ hlt
          generalize ac[k] = x at *
          obtain ⟨hw1, ⟨hos, hob⟩, _, _, _⟩ := hokk
          have hcl := hcs.len
          obtain ⟨Ax, cx, Dx, dx, Ex, ex, rfl, rs, rb, _⟩ := hcs
          obtain ⟨kd, xo, ob, rc⟩ := x
          simp only at hw1 hos hob rs rb hcell hcl ⊢
          have hzr := hf.size
          have hT := hT5.fr hf (fun b hb hT => by have := hTl.1 b hb; omega) (fun b hb hT => by have := hTl.2.1 b hb; omega)
          have hfa : Fr No wr (wr.alloc (.cells #[.int .i64 kd, .int .i64 xo, .int .i64 ob.cls, .slice Ax ob.slots.length cx, .slice Dx ob.bytes.length dx, .int .i64 rc.commit, .slice Ex rc.chs.length ex] tAct)) := (Fr.refl No wr).alloc _
          have hba := Blk.new wr tAct #[.int .i64 kd, .int .i64 xo, .int .i64 ob.cls, .slice Ax ob.slots.length cx, .slice Dx ob.bytes.length dx, .int .i64 rc.commit, .slice Ex rc.chs.length ex]
          have hco : ObjC wr (fun b => b < W.heap.size) [.int .i64 ob.cls, .slice Ax ob.slots.length cx, .slice Dx ob.bytes.length dx] ob := ⟨Ax, cx, Dx, dx, rfl, rs, rb⟩
          have hob3 : ∀ j u, [Value.int .i64 ob.cls, .slice Ax ob.slots.length cx, .slice Dx ob.bytes.length dx][j]? = some u → (wr.alloc (.cells #[.int .i64 kd, .int .i64 xo, .int .i64 ob.cls, .slice Ax ob.slots.length cx, .slice Dx ob.bytes.length dx, .int .i64 rc.commit, .slice Ex rc.chs.length ex] tAct)).cell? ((⟨wr.heap.size, 2, none⟩ : Addr).add j) = some u := addr5 _ _ _ (fun j u hu => by
            rw [hba.cell (2 + j)]
            match j, hu with
            | 0, hu => exact hu
            | 1, hu => exact hu
            | 2, hu => exact hu
            | j + 3, hu => simp at hu)
          go_upto_region 11 with (first
            | (refine wpList_ldA ag_act rfl _ rfl ⟨g, o + k * 7, none⟩ _ rfl hcl hcell ?_)
            | fail)
          have hVa := hV.fr0 hfa
          have hTa := hT.fr0 hfa
          have hcoa := hco.fr0 hfa
          have hza : wr.heap.size < (wr.alloc (.cells #[.int .i64 kd, .int .i64 xo, .int .i64 ob.cls, .slice Ax ob.slots.length cx, .slice Dx ob.bytes.length dx, .int .i64 rc.commit, .slice Ex rc.chs.length ex] tAct)).heap.size := hba.lt
          have hfa5 := hf.trans hfa (fun _ _ hn => hn.elim)
          obtain ⟨ga, hga⟩ : ∃ ga, ga = wr.heap.size := ⟨_, rfl⟩
          have hga' : wr.heap.size ≤ ga := by omega
          rw [← hga] at hba hob3 hza ⊢
          clear hga
          generalize wr.alloc (.cells #[.int .i64 kd, .int .i64 xo, .int .i64 ob.cls, .slice Ax ob.slots.length cx, .slice Dx ob.bytes.length dx, .int .i64 rc.commit, .slice Ex rc.chs.length ex] tAct) = wa at *
          clear hcell hcl rs rb hT hV hco hfa
          (have y0 := hba.cell 0; have y1 := hba.cell 1; have y2 := hba.cell 2; have y3 := hba.cell 3; have y4 := hba.cell 4; have y5 := hba.cell 5; have y6 := hba.cell 6; have yf0 := hba.frozen 0; have yf1 := hba.frozen 1; have yf2 := hba.frozen 2; have yf3 := hba.frozen 3; have yf4 := hba.frozen 4; have yf5 := hba.frozen 5; have yf6 := hba.frozen 6; simp only [List.getElem?_toArray, List.getElem?_cons_zero, List.getElem?_cons_succ] at y0 y1 y2 y3 y4 y5 y6)
          by_cases h4 : kd = 4
          · subst h4
            go_wp2_with (first
              | (refine wpList_ldA ag_obj rfl _ rfl ⟨ga, 2, none⟩ _ rfl rfl hob3 ?_)
              | fail)
            refine (vput_calls wa V1 Q T O _ q1 p v t xo _ ob hVa hTa hcoa htok hvok htn (by omega) hw1 (by omega)).mono ?_
            rintro e wp ⟨rfl, Q', hVp, hQp, hfp⟩
            go_wp2_with fail
            go_roundw
            case rel =>
              refine ⟨k + 1, _, Q', by omega, by omega, by go_num, hVp, putV_ok hvok, ?_, fun b hb => ?_, hfa5.trans hfp (fun b hb hT => hVd b hT)⟩
              · have := vput_n (t := t) (v := v) (x := xo) (o := ob); omega
              · rcases hQp b hb with h | h
                · exact hQ b h
                · omega
            case measure => simp [intOf]; omega
          by_cases h5 : kd = 5
          · subst h5
            go_wp2_with (first
              | (refine wpList_ldA ag_obj rfl _ rfl ⟨ga, 2, none⟩ _ rfl rfl hob3 ?_)
              | fail)
            refine (vput_calls wa V1 Q T O _ q1 p v t xo _ ob hVa hTa hcoa htok hvok htn (by omega) hw1 (by omega)).mono ?_
            rintro e wp ⟨rfl, Q', hVp, hQp, hfp⟩
            go_wp2_with fail
            go_roundw
            case rel =>
              refine ⟨k + 1, _, Q', by omega, by omega, by go_num, hVp, putV_ok hvok, ?_, fun b hb => ?_, hfa5.trans hfp (fun b hb hT => hVd b hT)⟩
              · have := vput_n (t := t) (v := v) (x := xo) (o := ob); omega
              · rcases hQp b hb with h | h
                · exact hQ b h
                · omega
            case measure => simp [intOf]; omega
          by_cases h6 : kd = 6
          · subst h6
            go_wp2_with (first
              | (refine wpList_ldA ag_obj rfl _ rfl ⟨ga, 2, none⟩ _ rfl rfl hob3 ?_)
              | fail)
            refine (vput_calls wa V1 Q T O _ q1 p v t xo _ ob hVa hTa hcoa htok hvok htn (by omega) hw1 (by omega)).mono ?_
            rintro e wp ⟨rfl, Q', hVp, hQp, hfp⟩
            go_wp2_with fail
            go_roundw
            case rel =>
              refine ⟨k + 1, _, Q', by omega, by omega, by go_num, hVp, putV_ok hvok, ?_, fun b hb => ?_, hfa5.trans hfp (fun b hb hT => hVd b hT)⟩
              · have := vput_n (t := t) (v := v) (x := xo) (o := ob); omega
              · rcases hQp b hb with h | h
                · exact hQ b h
                · omega
            case measure => simp [intOf]; omega
          by_cases h7 : kd = 7
          · subst h7
            go_wp2_with (first
              | (refine wpList_ldA ag_obj rfl _ rfl ⟨ga, 2, none⟩ _ rfl rfl hob3 ?_)
              | fail)
            refine (vmake_calls wa V1 Q _ q1 p v _ ob hVa hcoa (fun b hb hT => by have := hVd b hT; omega) hvok (by omega) (by omega)).mono ?_
            rintro e wp ⟨rfl, Q', hVp, hQp, hfp⟩
            go_wp2_with fail
            go_roundw
            case rel =>
              refine ⟨k + 1, _, Q', by omega, by omega, by go_num, hVp, makeM_ok hvok, ?_, fun b hb => ?_, hfa5.trans hfp (fun b hb hT => hVd b hT)⟩
              · have := makeM_n (v := v) (o := ob); omega
              · rcases hQp b hb with h | h
                · exact hQ b h
                · omega
            case measure => simp [intOf]; omega
          by_cases h8 : kd = 8
          · subst h8
            go_wp2_with (first
              | (refine wpList_ldA ag_obj rfl _ rfl ⟨ga, 2, none⟩ _ rfl rfl hob3 ?_)
              | fail)
            refine (vmake_calls wa V1 Q _ q1 p v _ ob hVa hcoa (fun b hb hT => by have := hVd b hT; omega) hvok (by omega) (by omega)).mono ?_
            rintro e wp ⟨rfl, Q', hVp, hQp, hfp⟩
            go_wp2_with fail
            go_roundw
            case rel =>
              refine ⟨k + 1, _, Q', by omega, by omega, by go_num, hVp, makeM_ok hvok, ?_, fun b hb => ?_, hfa5.trans hfp (fun b hb hT => hVd b hT)⟩
              · have := makeM_n (v := v) (o := ob); omega
              · rcases hQp b hb with h | h
                · exact hQ b h
                · omega
            case measure => simp [intOf]; omega
          have e4 : (kd == 4) = false := by simpa using h4
          have e5 : (kd == 5) = false := by simpa using h5
          have e6 : (kd == 6) = false := by simpa using h6
          have e7 : (kd == 7) = false := by simpa using h7
          have e8 : (kd == 8) = false := by simpa using h8
          clear h4 h5 h6 h7 h8
          go_wp2_with fail
          refine (get_calls wa V1 Q T O q1 p v t xo hVa hTa (fun b hb => ⟨fun h => by have := hVd b hb; have := hTl.1 b h; omega, fun h => by have := hVd b hb; have := hTl.2.1 b h; omega⟩) htok hvok htn (by omega) hw1).mono ?_
          rintro e wg ⟨csg, rfl, howng, hVg, hfg⟩
          have hVal := hVa.lt
          have hsg := peekM_small0 htok hvok xo
          obtain ⟨Ag, cg, Dg, dg, rfl⟩ := howng.lit3
          generalize peekM t v xo = Rg at *
          have hing := howng.in_
          have hzg := hfg.size
          have hfgh : Fr No wg (wg.alloc (.cells #[.int .i64 Rg.1.cls, .slice Ag Rg.1.slots.length cg, .slice Dg Rg.1.bytes.length dg] tObj)) := (Fr.refl No wg).alloc _
          have hbg := Blk.new wg tObj #[.int .i64 Rg.1.cls, .slice Ag Rg.1.slots.length cg, .slice Dg Rg.1.bytes.length dg]
          have hbgl := hbg.all
          go_wp2_with (first
            | (refine wpList_ldA ag_obj rfl _ rfl ⟨wg.heap.size, 0, none⟩ [.int .i64 Rg.1.cls, .slice Ag Rg.1.slots.length cg, .slice Dg Rg.1.bytes.length dg] rfl rfl hbgl ?_)
            | fail)
          refine (spoilo_calls _ _ Rg.1 _ (hing.fr0 hfgh) (by omega) (by omega)).mono ?_
          rintro e wh ⟨rfl, hfh⟩
          have hfF := ((hfa5.trans hfg (fun b hb hT => hVd b hT)).trans hfgh (fun _ _ hn => hn.elim)).trans hfh (fun b hb hT => by omega)
          have hVh := (hVg.fr0 hfgh).fr hfh (fun b hb hT => by have := hVd b hb; omega) (fun b hb hT => by have := hVal.2.1 b hb; omega)
          go_wp2_with fail
          go_roundw
          case rel =>
            refine ⟨k + 1, _, Q, by omega, by omega, by go_num, hVh, readM_ok hvok, ?_, hQ, hfF⟩
            have := readM_n (v := v) (x := xo); omega
          case measure => simp [intOf]; omega
        · have ek2 : decide ((k : Int) < 40) = false := by simp; omega
          go_wp2_with fail
          go_meet
          case rel => exact hf
      · obtain rfl : k = ac.length := by omega
        have ek : decide ((ac.length : Int) < ac.length) = false := by simp
        go_wp2_with fail
        go_meet
        case rel => exact hf
  case rest =>
    have hTc := hT5.fr hcut (fun b hb hT => by have := hTl.1 b hb; omega) (fun b hb hT => by have := hTl.2.1 b hb; omega)
    have hRc := hR5.fr hcut (fun b hb hT => by have := hRl.1 b hb; omega) (fun b hb hT => by have := hRl.2.1 b hb; omega)
    have hUc := hU5.fr hcut (fun b hb hT => by have := hUd b hb; omega) (fun b hb hT => hb.elim)
    have hbc := hb5.fr hcut (by omega)
    have hownc := hown5.fr hcut (fun b hb hT => by omega)
    have hbkc := hbk5.fr hcut (by omega)
    have hrbkc := hrbk5.fr hcut (by omega)
    have hFc : Fr No W wc := hF5.trans hcut (fun b hb hT => by omega)
    have hzc := hcut.size
    clear hT5 hR5 hU5 hb5 hown5 hbk5 hrbk5 hcut hV5 has5
    go_wp2_with fail
    refine (peek_calls wc V2 No T O q2 p (view0 t.last) t xa hUc hTc htok (view0_ok _) htn wa).mono ?_
    rw [← HR4.out]
    rintro e w6 ⟨cs6, rfl, hown6, hf6⟩
    obtain ⟨A6, c6, D6, d6, rfl⟩ := hown6.lit3
    have hf67 : Fr No w6 (w6.alloc (.cells #[.int .i64 R4.1.cls, .slice A6 R4.1.slots.length c6, .slice D6 R4.1.bytes.length d6] tObj)) := (Fr.refl No w6).alloc _
    have hb7 := Blk.new w6 tObj #[.int .i64 R4.1.cls, .slice A6 R4.1.slots.length c6, .slice D6 R4.1.bytes.length d6]
    have hown7 := hown6.fr hf67 (fun _ _ hn => hn)
    have hg6 := hf6.tr hf67
    have hbk7 := hbkc.fr0 hg6
    have hT7 := hTc.fr0 hg6
    go_wp2_with fail
    refine (tlast_calls _ p t.first t.last _ _ hbk7).mono ?_
    rintro e w7 ⟨rfl, hw7⟩
    have hw7 := hw7.symm
    subst hw7
    go_wp2_with fail
    refine (tat_calls _ T O p t t.last xa hT7 htok htn wa).mono ?_
    rintro e w8 ⟨cs8, rfl, hown8, hf8⟩
    have hsm8 : (atM t t.last xa).1.slots.length ≤ 256 ∧ (atM t t.last xa).1.bytes.length ≤ 1024 := by
      have h1 := peekM_small0 htok (view0_ok t.last) xa
      have h2 : noObj.slots.length ≤ 256 ∧ noObj.bytes.length ≤ 1024 := ⟨by decide, by decide⟩
      unfold atM
      split
      · split
        · rename_i v hv
          unfold verM at hv
          split at hv
          · cases hv
          · split
            · exact h2
            · exact (htok xa).2.2.2 v (List.mem_of_getElem? hv)
        · exact h2
      · exact h2
    obtain ⟨A8, c8, D8, d8, rfl⟩ := hown8.lit3
    obtain ⟨R8, hR8⟩ : ∃ R8, R8 = atM t t.last xa := ⟨_, rfl⟩
    rw [← hR8] at hown8 hsm8 ⊢
    have HR8 := Lib.hid (show ratM rt rt.en xa = R8 by rw [hR8, HAT.out, HLAST.out])
    clear hR8
    have hf89 : Fr No w8 (w8.alloc (.cells #[.int .i64 R8.1.cls, .slice A8 R8.1.slots.length c8, .slice D8 R8.1.bytes.length d8] tObj)) := (Fr.refl No w8).alloc _
    have hb9 := Blk.new w8 tObj #[.int .i64 R8.1.cls, .slice A8 R8.1.slots.length c8, .slice D8 R8.1.bytes.length d8]
    have hown9 := hown8.fr hf89 (fun _ _ hn => hn)
    have hg8 := hf8.tr hf89
    have hg9 := hg6.tr hg8
    have hR9 := hRc.fr0 hg9
    have hrbk9 := hrbkc.fr0 hg9
    (have z0 := hrbk9.cell 0; have z1 := hrbk9.cell 1; have z2 := hrbk9.cell 2; have z3 := hrbk9.cell 3; have z4 := hrbk9.cell 4; have zf0 := hrbk9.frozen 0; have zf1 := hrbk9.frozen 1; have zf2 := hrbk9.frozen 2; have zf3 := hrbk9.frozen 3; have zf4 := hrbk9.frozen 4; simp only [List.getElem?_toArray, List.getElem?_cons_zero, List.getElem?_cons_succ] at z0 z1 z2 z3 z4)
    go_wp2_with fail
    refine (rtat_calls _ T2 O2 u rt rt.en xa hR9 hrn HRS.out).mono ?_
    rw [HR8.out]
    rintro e wA ⟨csA, rfl, hownA, hfA⟩
    obtain ⟨AA, cA, DA, dA, rfl⟩ := hownA.lit3
    have hfAB : Fr No wA (wA.alloc (.cells #[.int .i64 R8.1.cls, .slice AA R8.1.slots.length cA, .slice DA R8.1.bytes.length dA] tObj)) := (Fr.refl No wA).alloc _
    have hbB := Blk.new wA tObj #[.int .i64 R8.1.cls, .slice AA R8.1.slots.length cA, .slice DA R8.1.bytes.length dA]
    have hownB := hownA.fr hfAB (fun _ _ hn => hn)
    have hgA := hfA.tr hfAB
    have hgB := hg9.tr hgA
    have k1 := (hbc.fr0 hgB).all
    have k2 := (hb7.fr0 (hg8.tr hgA)).all
    have k3 := hb9.fr0 hgA
    have hc1 := (hownc.fr hgB (fun _ _ hn => hn)).rd (by omega) (by omega)
    have hc2 := (hown7.fr (hg8.tr hgA) (fun _ _ hn => hn)).rd (by omega) (by omega)
    have hc3 := (hown9.fr hgA (fun _ _ hn => hn)).rd (by omega) (by omega)
    have hc4 := hownB.rd (by omega) (by omega)
    have hUB := hUc.fr0 hgB
    have HSO := Lib.hid (sameO_self R4.1)
    have HSO8 := Lib.hid (sameO_self R8.1)
    have hFB := hFc.tr hgB
    go_wp2_with (first
      | (refine wpList_ldA ag_obj rfl _ rfl ⟨w4.heap.size, 0, none⟩ [.int .i64 R4.1.cls, .slice A4 R4.1.slots.length c4, .slice D4 R4.1.bytes.length d4] rfl rfl k1 ?_)
      | (refine wpList_ldA ag_obj rfl _ rfl ⟨w6.heap.size, 0, none⟩ [.int .i64 R4.1.cls, .slice A6 R4.1.slots.length c6, .slice D6 R4.1.bytes.length d6] rfl rfl k2 ?_)
      | fail)
    refine (refsame_calls _ _ _ _ R4.1 R4.1 _ hc1 hc2).mono ?_
    rw [HSO.out]
    rintro e wE ⟨rfl, hfE⟩
    have k3 := (k3.fr0 hfE).all
    have k4 := (hbB.fr0 hfE).all
    have ebe : (R4.2 == R4.2) = true := by simp
    have ebe8 : (R8.2 == R8.2) = true := by simp
    have hc3 := hc3.keep hfE (fun _ _ hn => hn)
    have hc4 := hc4.keep hfE (fun _ _ hn => hn)
    go_wp2_with (first
      | (refine wpList_ldA ag_obj rfl _ rfl ⟨w8.heap.size, 0, none⟩ [.int .i64 R8.1.cls, .slice A8 R8.1.slots.length c8, .slice D8 R8.1.bytes.length d8] rfl rfl k3 ?_)
      | (refine wpList_ldA ag_obj rfl _ rfl ⟨wA.heap.size, 0, none⟩ [.int .i64 R8.1.cls, .slice AA R8.1.slots.length cA, .slice DA R8.1.bytes.length dA] rfl rfl k4 ?_)
      | fail)
    refine (refsame_calls _ _ _ _ R8.1 R8.1 _ hc3 hc4).mono ?_
    rw [HSO8.out]
    rintro e wF ⟨rfl, hfF⟩
    have hUF := hUB.fr0 (hfE.tr hfF)
    go_wp2_with fail
    refine (reads_calls wF V2 No q2 p (view0 t.last) hUF (Nat.zero_le _)).mono ?_
    rintro e wG ⟨x1, rfl, hr1, hfG⟩
    rw [show upI (view0 t.last).read 1 4096 = [] from upI_none (fun x _ _ => rfl)] at hr1
    obtain ⟨B1, e1, rfl⟩ := hr1.none_
    have hUG := hUF.fr0 hfG
    go_wp2_with fail
    refine (writes_calls wG V2 No q2 p (view0 t.last) hUG (Nat.zero_le _)).mono ?_
    rintro e wH ⟨x2, rfl, hr2, hfH⟩
    rw [show upI (fun x => ((view0 t.last).own x).isSome) 1 4096 = [] from upI_none (fun x _ _ => rfl)] at hr2
    obtain ⟨B2, e2, rfl⟩ := hr2.none_
    have hUH := hUG.fr0 hfH
    go_wp2_with fail
    refine (news_calls wH V2 No q2 p (view0 t.last) hUH (Nat.zero_le _)).mono ?_
    rintro e wI ⟨x3, rfl, hr3, hfI⟩
    rw [show upI (fun x => ((view0 t.last).own x).isSome) 4097 4096 = [] from upI_none (fun x _ _ => rfl)] at hr3
    obtain ⟨B3, e3, rfl⟩ := hr3.none_
    go_wp2_with fail
    refine (known_calls _).mono ?_
    rintro e wz ⟨rfl, hfz⟩
    go_wp2
    go_ret
    exact ⟨rfl, ((((hFB.tr (hfE.tr hfF)).tr hfG).tr hfH).tr hfI).tr hfz⟩
end Go.Proofs.Ytoajigghkjnffaa
