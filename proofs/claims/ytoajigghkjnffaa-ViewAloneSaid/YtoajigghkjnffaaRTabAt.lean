/- The reference's table: asked, find, At. No condition but size. -/
import Derived.Test.YtoajigghkjnffaaRTab
import Derived.Test.YtoajigghkjnffaaBoth
import Derived.Test.YtoajigghkjnffaaTabAt2
namespace Go.Proofs.Ytoajigghkjnffaa
set_option linter.unusedVariables false
set_option linter.unusedSimpArgs false
open Go.RowKit

def findM (l : List ChM) (x : Int) : Option ChM := l.find? (fun d => d.oop == x)
/-- The change that an oop had last, up to a commit. -/
def rlastM (l : List RecM) (c x : Int) : Option ChM := l.foldl (fun o r => if r.commit ≤ c then (findM r.chs x).or o else o) none
theorem rlastM_snoc (l : List RecM) (r : RecM) (c x : Int) : rlastM (l ++ [r]) c x = if r.commit ≤ c then (findM r.chs x).or (rlastM l c x) else rlastM l c x := by
  unfold rlastM; rw [List.foldl_append]; rfl
def ansM (o : Option ChM) : ObjM × Int := match o with | some d => if d.gone = true then (noObj, 25) else (d.obj, 0) | none => (noObj, 25)
def ratM (t : RTabM) (c x : Int) : ObjM × Int :=
  if (decide (t.fr ≤ c) && decide (c ≤ t.en)) = true then ansM ((rlastM t.l c x).or (findM t.base x)) else (noObj, 13)
/-- All objects of it are small. -/
def RSmall (t : RTabM) : Prop := (∀ r ∈ t.l, ∀ d ∈ r.chs, d.obj.slots.length ≤ 256 ∧ d.obj.bytes.length ≤ 1024) ∧ ∀ d ∈ t.base, d.obj.slots.length ≤ 256 ∧ d.obj.bytes.length ≤ 1024

theorem rasked_calls (w : World) (q : Nat) (fr en c : Int) (m1 m2 m3 : Value) (h : Blk w q 58 #[.int .i64 fr, .int .i64 en, m1, m2, m3]) :
    Calls Try.prog 47 #[.pointer (some ⟨q, 0, none⟩), .int .i64 c] w fun e w' => e = .returned (.bool (decide (fr ≤ c) && decide (c ≤ en))) ∧ w = w' := by
  (have p0 := h.cell 0; have p1 := h.cell 1; have p2 := h.cell 2; have p3 := h.cell 3; have p4 := h.cell 4; have pf0 := h.frozen 0; have pf1 := h.frozen 1; have pf2 := h.frozen 2; have pf3 := h.frozen 3; have pf4 := h.frozen 4; simp only [List.getElem?_toArray, List.getElem?_cons_zero, List.getElem?_cons_succ] at p0 p1 p2 p3 p4)
  by_cases h1 : fr ≤ c
  · have e1 : decide (fr ≤ c) = true := by simpa using h1
    have H : Hid ((decide (fr ≤ c) && decide (c ≤ en)) = decide (c ≤ en)) := Lib.hid (by rw [e1, Bool.true_and])
    clear h1
    go_enter Try.func47, Try.ntmps47
    go_wp2
    go_ret
    exact ⟨ret_bool H.out.symm, rfl⟩
  · have e1 : decide (fr ≤ c) = false := by simpa using h1
    have H : Hid ((decide (fr ≤ c) && decide (c ≤ en)) = false) := Lib.hid (by rw [e1, Bool.false_and])
    clear h1
    go_enter Try.func47, Try.ntmps47
    go_wp2
    go_ret
    exact ⟨ret_bool H.out.symm, rfl⟩

def fidxM (l : List ChM) (x : Int) : Int := match l.findIdx? (fun d => d.oop == x) with | some i => (i : Int) | none => -1
theorem fidxM_at {l : List ChM} {x : Int} {k : Nat} (hk : k < l.length) (h : ∀ i, ∀ hi : i < l.length, i < k → (l[i].oop == x) = false) (hx : (l[k].oop == x) = true) : fidxM l x = k := by
  have e : l.findIdx? (fun d => d.oop == x) = some k := by
    rw [List.findIdx?_eq_some_iff_getElem]
    exact ⟨hk, hx, fun j hj => by have := h j (by omega) hj; simp [this]⟩
  unfold fidxM; rw [e]
theorem fidxM_none {l : List ChM} {x : Int} (h : ∀ i, ∀ hi : i < l.length, (l[i].oop == x) = false) : fidxM l x = -1 ∧ findM l x = none := by
  have e : ∀ d ∈ l, (d.oop == x) = false := fun d hd => by
    obtain ⟨i, hi, rfl⟩ := List.getElem_of_mem hd
    exact h i hi
  refine ⟨?_, ?_⟩
  · unfold fidxM
    rw [List.findIdx?_eq_none_iff.2 e]
  · unfold findM
    rw [List.find?_eq_none]
    intro d hd; rw [e d hd]; decide
/-- What find answers. -/
theorem fidxM_cases (l : List ChM) (x : Int) : (fidxM l x = -1 ∧ findM l x = none) ∨ ∃ k, ∃ hk : k < l.length, fidxM l x = k ∧ findM l x = some l[k] := by
  cases h : l.findIdx? (fun d => d.oop == x) with
  | none =>
    refine .inl (fidxM_none fun i hi => ?_)
    exact List.findIdx?_eq_none_iff.1 h _ (List.getElem_mem hi)
  | some k =>
    obtain ⟨hk, h1, h2⟩ := List.findIdx?_eq_some_iff_getElem.1 h
    refine .inr ⟨k, hk, by unfold fidxM; rw [h], ?_⟩
    unfold findM
    rw [List.find?_eq_some_iff_getElem]
    exact ⟨h1, k, hk, rfl, fun j hj => by have := h2 j hj; simpa using this⟩
set_option maxHeartbeats 1000000 in
theorem rfind_calls (S : Nat → Prop) (A : Option Addr) (cap : Nat) (l : List ChM) (x : Int) (w : World) (h : RdCh w S A l) :
    Calls Try.prog 48 #[.slice A l.length cap, .int .i64 x] w fun e w' => e = .returned (.int .i64 (fidxM l x)) ∧ w = w' := by
  have hle := h.le
  go_enter Try.func48, Try.ntmps48
  go_wp2
  go_loop [5] (fun i => ∃ k : Nat, k ≤ l.length ∧ i = .int .i64 k ∧ Hid (∀ i, ∀ hi : i < l.length, i < k → (l[i].oop == x) = false)) (fun i => l.length - (intOf i).toNat)
  case atStart => exact ⟨0, by omega, rfl, Lib.hid (fun i hi h => by omega)⟩
  case round =>
    obtain ⟨k, hk, rfl, HK⟩ := hrel
    by_cases hlt : k < l.length
    · have ek : decide ((k : Int) < l.length) = true := by simpa using (by omega : (k : Int) < l.length)
      obtain ⟨ga, of, Av, nn, D, mm, rfl, _, hcell, _, _⟩ := h.at_ hlt
      have hc0 := hcell 0 _ rfl
      simp only [Nat.add_zero] at hc0
      cases hx : (l[k].oop == x) with
      | true =>
        have H := Lib.hid (fidxM_at hlt HK.out hx)
        generalize l[k] = v at *
        go_wp2
        go_ret
        exact ⟨by rw [H.out]; rfl, rfl⟩
      | false =>
        have HK2 : Hid (∀ i, ∀ hi : i < l.length, i < k + 1 → (l[i].oop == x) = false) := Lib.hid (fun i hi h => by
          rcases Nat.lt_or_ge i k with h1 | h1
          · exact HK.out i hi h1
          · obtain rfl : i = k := by omega
            exact hx)
        generalize l[k] = v at *
        go_wp2
        go_round
        case rel => exact ⟨k + 1, by omega, by go_num, HK2⟩
        case measure => simp [intOf]; omega
    · obtain rfl : k = l.length := by omega
      have ek : decide ((l.length : Int) < l.length) = false := by simp
      have H := Lib.hid (fidxM_none (x := x) (fun i hi => HK.out i hi hi)).1
      go_wp2
      go_ret
      exact ⟨by rw [H.out]; rfl, rfl⟩
theorem RTabP.recs {w : World} {T O : Nat → Prop} {q : Nat} {Bv Lv Wv : Value} {t : RTabM} (h : RTabP w T O q Bv Lv Wv t) (hn : t.l.length ≤ 1000000) : ∃ A c, Lv = .slice A t.l.length c ∧ RdRec w (fun _ => True) A t.l := by
  obtain ⟨xs, hown, hr⟩ := h.lrow
  obtain ⟨A, c, rfl, _, _, _⟩ := own_form hown
  exact ⟨A, c, rfl, xs, (own_rd hown (by omega)).mono (fun _ _ _ => trivial) (by decide), hr.mono (fun _ _ _ => trivial)⟩
theorem chObj {ga n : Nat} {w : World} {v : ChM} {Av D : Option Addr} {nn mm : Nat} (hcell : ∀ j u, [Value.int .i64 v.oop, .bool v.gone, .int .i64 v.obj.cls, .slice Av v.obj.slots.length nn, .slice D v.obj.bytes.length mm][j]? = some u → w.cell? ⟨ga, n + j, none⟩ = some u) :
    ∀ j u, [Value.int .i64 v.obj.cls, .slice Av v.obj.slots.length nn, .slice D v.obj.bytes.length mm][j]? = some u → w.cell? ((⟨ga, n + 2, none⟩ : Addr).add j) = some u := addr5 _ _ _ (fun j u hu => by
  have := hcell (j + 2) u (by simpa using hu)
  rwa [show n + (j + 2) = n + 2 + j by omega] at this)

set_option maxHeartbeats 4000000 in
set_option maxRecDepth 100000 in
theorem rtat_calls (w : World) (T O : Nat → Prop) (q : Nat) (t : RTabM) (c x : Int) (h : RTabAt w T O q t) (hn : t.l.length ≤ 1000000) (hs : RSmall t) :
    Calls Try.prog 25 #[.pointer (some ⟨q, 0, none⟩), .int .i64 c, .int .i64 x] w fun e w' => RetO w w' e (ratM t c x) := by
  obtain ⟨Bv, Lv, Wv, hP⟩ := h
  obtain ⟨fr, en, base, l, wl⟩ := t
  have hf1 : Fr No w (w.alloc (.cells #[.int .i64 0, .slice none 0 0, .slice none 0 0] 27)) := (Fr.refl No w).alloc _
  have hb0 : Blk (w.alloc (.cells #[.int .i64 0, .slice none 0 0, .slice none 0 0] 27)) w.heap.size 27 #[.int .i64 0, .slice none 0 0, .slice none 0 0] := Blk.new w _ _
  have hP1 := hP.fr hf1 (fun _ _ hn => hn) (fun _ _ hn => hn)
  obtain ⟨Al, cl, rfl, hrec⟩ := hP1.recs hn
  obtain ⟨Ab, cb, rfl, hbase⟩ := hP1.base
  have hbk := hP1.blk
  have hqw : q < w.heap.size := hP.blk.lt
  simp only at hbk hn hrec hbase
  obtain ⟨hs1, hs2⟩ := hs
  simp only at hs1 hs2
  (have p0 := hbk.cell 0; have p1 := hbk.cell 1; have p2 := hbk.cell 2; have p3 := hbk.cell 3; have p4 := hbk.cell 4; have pf0 := hbk.frozen 0; have pf1 := hbk.frozen 1; have pf2 := hbk.frozen 2; have pf3 := hbk.frozen 3; have pf4 := hbk.frozen 4; simp only [List.getElem?_toArray, List.getElem?_cons_zero, List.getElem?_cons_succ] at p0 p1 p2 p3 p4)
  have hask := rasked_calls _ q fr en c _ _ _ hbk
  cases ha : (decide (fr ≤ c) && decide (c ≤ en)) with
  | false =>
    have HM : Hid (ratM ⟨fr, en, base, l, wl⟩ c x = (noObj, 13)) := Lib.hid (by unfold ratM; simp only; rw [if_neg (by rw [ha]; decide)])
    rw [ha] at hask
    clear ha hP hP1
    go_enter Try.func25, Try.ntmps25
    go_wp2_with fail
    refine hask.mono ?_
    rintro e _ ⟨rfl, rfl⟩
    go_wp2_with (first
      | (refine wpList_stA ag_obj.info rfl _ _ rfl w.heap.size 0 _ _ [.int .i64 0, .slice none 0 0, .slice none 0 0] _ rfl rfl rfl rfl (by intro u hu; simp at hu; rcases hu with rfl | rfl | rfl <;> rfl) hb0 (by decide) ?_; intro w5 hb5 hg5 hz5)
      | fail)
    rw [splice_all _ _ (by rfl)] at hb5
    refine bodyPost_ret (results_blk2 ag_obj rfl _ _ _ _ _ _ rfl rfl hb5 rfl) rfl ?_
    rw [HM.out]
    have hf5 := hf1.grown hg5 (fun q hq => by injection hq with hq; exact .inl (by omega))
    exact ⟨_, rfl, ObjOwn.none_ _ _ hf5.size, hf5⟩
  | true =>
    have HM : Hid (∀ o, (rlastM l c x).or (findM base x) = o → ratM ⟨fr, en, base, l, wl⟩ c x = ansM o) := Lib.hid (fun o ho => by unfold ratM; simp only; rw [if_pos ha, ho])
    rw [ha] at hask
    have HO1 := Lib.hid hs1
    have HO2 := Lib.hid hs2
    clear ha hP hP1 hs1 hs2
    generalize hw1 : w.alloc (.cells #[.int .i64 0, .slice none 0 0, .slice none 0 0] 27) = w1 at *
    go_enter Try.func25, Try.ntmps25
    go_wp2_with fail
    clear hw1
    refine hask.mono ?_
    rintro e _ ⟨rfl, rfl⟩
    go_wp2_with fail
    go_loopw [8] (fun i wr => ∃ k : Nat, k ≤ l.length ∧ i = .int .i64 ((k : Int) - 1) ∧ Hid (rlastM l c x = rlastM (l.take k) c x) ∧ wr = w1) (fun i _ => ((intOf i) + 1).toNat)
    case atStart => exact ⟨l.length, by omega, rfl, Lib.hid (by rw [List.take_length]), rfl⟩
    case round =>
      obtain ⟨k, hk, rfl, HK, rfl⟩ := hrel
      cases k with
      | zero =>
        have HK' : Hid (rlastM l c x = none) := Lib.hid HK.out
        clear HK
        simp only [Int.natCast_zero, Int.zero_sub]
        go_wp2_with fail
        refine (rfind_calls O Ab cb base x _ hbase).mono ?_
        rintro e _ ⟨rfl, rfl⟩
        rcases fidxM_cases base x with ⟨e1, e2⟩ | ⟨kv, hkv, e1, e2⟩
        · have HA := Lib.hid (HM.out none (by rw [HK'.out, e2]; rfl))
          rw [e1]
          clear e1 e2
          go_wp2_with (first
            | (refine wpList_stA ag_obj.info rfl _ _ rfl w.heap.size 0 _ _ [.int .i64 0, .slice none 0 0, .slice none 0 0] _ rfl rfl rfl rfl (by intro u hu; simp at hu; rcases hu with rfl | rfl | rfl <;> rfl) hb0 (by decide) ?_; intro w5 hb5 hg5 hz5)
            | fail)
          rw [splice_all _ _ (by rfl)] at hb5
          refine bodyPost_ret (results_blk2 ag_obj rfl _ _ _ _ _ _ rfl rfl hb5 rfl) rfl ?_
          rw [HA.out]
          have hf5 := hf1.grown hg5 (fun q hq => by injection hq with hq; exact .inl (by omega))
          exact ⟨_, rfl, ObjOwn.none_ _ _ hf5.size, hf5⟩
        · have HA := Lib.hid (HM.out _ (show (rlastM l c x).or (findM base x) = some base[kv] by rw [HK'.out, e2]; rfl))
          rw [e1]
          clear e1 e2
          have hov := HO2.out _ (List.getElem_mem hkv)
          obtain ⟨gv, ov, Av, nn, D, mm, rfl, _, hcv, hsl, hby⟩ := hbase.at_ hkv
          generalize base[kv] = v at *
          have hc1 := hcv 1 _ rfl
          have ekv : decide ((kv : Int) < base.length) = true := by simpa using (by omega : (kv : Int) < base.length)
          have ekn : decide ((kv : Int) < 0) = false := by simp
          cases hg : v.gone with
          | true =>
            rw [hg] at hc1
            have HA : Hid (ratM ⟨fr, en, base, l, wl⟩ c x = (noObj, 25)) := Lib.hid (HA.out.trans (by unfold ansM; simp only; rw [if_pos hg]))
            clear hcv hg
            go_wp2_with (first
              | (refine wpList_stA ag_obj.info rfl _ _ rfl w.heap.size 0 _ _ [.int .i64 0, .slice none 0 0, .slice none 0 0] _ rfl rfl rfl rfl (by intro u hu; simp at hu; rcases hu with rfl | rfl | rfl <;> rfl) hb0 (by decide) ?_; intro w5 hb5 hg5 hz5)
              | fail)
            rw [splice_all _ _ (by rfl)] at hb5
            refine bodyPost_ret (results_blk2 ag_obj rfl _ _ _ _ _ _ rfl rfl hb5 rfl) rfl ?_
            rw [HA.out]
            have hf5 := hf1.grown hg5 (fun q hq => by injection hq with hq; exact .inl (by omega))
            exact ⟨_, rfl, ObjOwn.none_ _ _ hf5.size, hf5⟩
          | false =>
            rw [hg] at hc1
            have HA : Hid (ratM ⟨fr, en, base, l, wl⟩ c x = (v.obj, 0)) := Lib.hid (HA.out.trans (by unfold ansM; simp only; rw [if_neg (by rw [hg]; decide)]))
            clear hg
            have hobc := chObj hcv
            clear hcv
            go_wp2_with (first
              | (refine wpList_ldA ag_obj rfl _ rfl ⟨gv, ov + kv * 5 + 2, none⟩ _ rfl rfl hobc ?_)
              | fail)
            refine (refcopy_calls (fun _ => True) _ v.obj _ ⟨Av, nn, D, mm, rfl, hsl.mono (fun _ _ _ => trivial) (by decide), hby.mono (fun _ _ _ => trivial) (by decide)⟩ (by have := hov.1; omega)).mono ?_
            rintro e w3 ⟨cs', rfl, hown, hf3⟩
            obtain ⟨A3, c3, D3, d3, M3, rfl, r1, r2, r3, r4⟩ := hown
            have hb3 := hb0.fr0 hf3
            have hzB := hf1.size
            go_wp2_with (first
              | (refine wpList_stA ag_obj.info rfl _ _ rfl w.heap.size 0 _ _ [.int .i64 v.obj.cls, .slice A3 v.obj.slots.length c3, .slice D3 v.obj.bytes.length d3] _ rfl rfl rfl rfl (by intro u hu; simp at hu; rcases hu with rfl | rfl | rfl <;> rfl) hb3 (by decide) ?_; intro w5 hb5 hg5 hz5)
              | fail)
            rw [splice_all _ _ (by rfl)] at hb5
            refine bodyPost_ret (results_blk2 ag_obj rfl _ _ _ _ _ _ rfl rfl hb5 rfl) rfl ?_
            rw [HA.out]
            have hf5 := (hf1.tr hf3).grown hg5 (fun q hq => by injection hq with hq; exact .inl (by omega))
            have hb0l := hb0.lt
            have hf35 : Fr (fun b => b = w.heap.size) w3 w5 := (Fr.refl _ w3).grown hg5 (fun q hq => by injection hq with hq; exact .inr hq.symm)
            exact ⟨_, rfl, ⟨A3, c3, D3, d3, M3, rfl, own_down (own_fr r1 hf35 (fun b hb hT => by have := (r1.lt b hb).1; omega)) hzB, r2, own_fr r3 hf35 (fun b hb hT => by have := (r3.lt b hb).1; omega), by omega⟩, hf5⟩
      | succ m =>
        have hm : m < l.length := by omega
        have em : ((m + 1 : Nat) : Int) - 1 = (m : Int) := by omega
        rw [em]
        have e0 : decide ((0 : Int) ≤ (m : Int)) = true := by simp
        have eml : decide ((m : Int) < l.length) = true := by simpa using (by omega : (m : Int) < l.length)
        obtain ⟨g, o, cs, rfl, hcs, hcell, _⟩ := hrec.at_ hm
        have HT := Lib.hid (show rlastM (l.take (m + 1)) c x = if l[m].commit ≤ c then (findM l[m].chs x).or (rlastM (l.take m) c x) else rlastM (l.take m) c x by rw [take_snocR l m hm, rlastM_snoc])
        have hov' := HO1.out _ (List.getElem_mem hm)
        generalize l[m] = r at *
        obtain ⟨Ar, cr, rfl, hrd⟩ := hcs
        have hr0 : wr.cell? ⟨g, o + m * 2, none⟩ = some (.int .i64 r.commit) := by simpa [Addr.add] using hcell 0 _ rfl
        have hr1 : wr.cell? ⟨g, o + m * 2 + 1, none⟩ = some (.slice Ar r.chs.length cr) := by simpa [Addr.add] using hcell 1 _ rfl
        clear hcell em
        go_wp2_with fail
        refine (rfind_calls _ Ar cr r.chs x _ hrd).mono ?_
        rintro e _ ⟨rfl, rfl⟩
        rcases fidxM_cases r.chs x with ⟨e1, e2⟩ | ⟨kv, hkv, e1, e2⟩
        · rw [e1]
          have HK2 : Hid (rlastM l c x = rlastM (l.take m) c x) := Lib.hid (HK.out.trans (HT.out.trans (by rw [e2]; simp)))
          clear e1 e2
          by_cases hc : r.commit ≤ c
          · have ec : decide (r.commit ≤ c) = true := by simpa using hc
            clear hc
            go_wp2_with fail
            go_roundw
            case rel => exact ⟨m, by omega, by go_num, HK2, trivial⟩
            case measure => simp [intOf]
          · have ec : decide (r.commit ≤ c) = false := by simpa using hc
            clear hc
            go_wp2_with fail
            go_roundw
            case rel => exact ⟨m, by omega, by go_num, HK2, trivial⟩
            case measure => simp [intOf]
        · rw [e1]
          have hle := hrd.le
          by_cases hc : r.commit ≤ c
          · have HA := Lib.hid (HM.out _ (show (rlastM l c x).or (findM base x) = some r.chs[kv] by rw [HK.out, HT.out, if_pos hc, e2]; rfl))
            have ec : decide (r.commit ≤ c) = true := by simpa using hc
            clear hc e1 e2
            have hov := hov' _ (List.getElem_mem hkv)
            obtain ⟨gv, ov, Av, nn, D, mm, rfl, _, hcv, hsl, hby⟩ := hrd.at_ hkv
            generalize r.chs[kv] = v at *
            have hc1 := hcv 1 _ rfl
            have ekv : decide ((kv : Int) < r.chs.length) = true := by simpa using (by omega : (kv : Int) < r.chs.length)
            have ekn : decide ((0 : Int) ≤ (kv : Int)) = true := by simp
            cases hg : v.gone with
            | true =>
              rw [hg] at hc1
              have HA : Hid (ratM ⟨fr, en, base, l, wl⟩ c x = (noObj, 25)) := Lib.hid (HA.out.trans (by unfold ansM; simp only; rw [if_pos hg]))
              clear hcv hg
              go_wp2_with (first
                | (refine wpList_stA ag_obj.info rfl _ _ rfl w.heap.size 0 _ _ [.int .i64 0, .slice none 0 0, .slice none 0 0] _ rfl rfl rfl rfl (by intro u hu; simp at hu; rcases hu with rfl | rfl | rfl <;> rfl) hb0 (by decide) ?_; intro w5 hb5 hg5 hz5)
                | fail)
              rw [splice_all _ _ (by rfl)] at hb5
              refine bodyPost_ret (results_blk2 ag_obj rfl _ _ _ _ _ _ rfl rfl hb5 rfl) rfl ?_
              rw [HA.out]
              have hf5 := hf1.grown hg5 (fun q hq => by injection hq with hq; exact .inl (by omega))
              exact ⟨_, rfl, ObjOwn.none_ _ _ hf5.size, hf5⟩
            | false =>
              rw [hg] at hc1
              have HA : Hid (ratM ⟨fr, en, base, l, wl⟩ c x = (v.obj, 0)) := Lib.hid (HA.out.trans (by unfold ansM; simp only; rw [if_neg (by rw [hg]; decide)]))
              clear hg
              have hobc := chObj hcv
              clear hcv
              go_wp2_with (first
                | (refine wpList_ldA ag_obj rfl _ rfl ⟨gv, ov + kv * 5 + 2, none⟩ _ rfl rfl hobc ?_)
                | fail)
              refine (refcopy_calls (fun _ => True) _ v.obj _ ⟨Av, nn, D, mm, rfl, hsl.mono (fun _ _ _ => trivial) (by decide), hby.mono (fun _ _ _ => trivial) (by decide)⟩ (by have := hov.1; omega)).mono ?_
              rintro e w3 ⟨cs', rfl, hown, hf3⟩
              obtain ⟨A3, c3, D3, d3, M3, rfl, r1, r2, r3, r4⟩ := hown
              have hb3 := hb0.fr0 hf3
              have hzB := hf1.size
              go_wp2_with (first
                | (refine wpList_stA ag_obj.info rfl _ _ rfl w.heap.size 0 _ _ [.int .i64 v.obj.cls, .slice A3 v.obj.slots.length c3, .slice D3 v.obj.bytes.length d3] _ rfl rfl rfl rfl (by intro u hu; simp at hu; rcases hu with rfl | rfl | rfl <;> rfl) hb3 (by decide) ?_; intro w5 hb5 hg5 hz5)
                | fail)
              rw [splice_all _ _ (by rfl)] at hb5
              refine bodyPost_ret (results_blk2 ag_obj rfl _ _ _ _ _ _ rfl rfl hb5 rfl) rfl ?_
              rw [HA.out]
              have hf5 := (hf1.tr hf3).grown hg5 (fun q hq => by injection hq with hq; exact .inl (by omega))
              have hb0l := hb0.lt
              have hf35 : Fr (fun b => b = w.heap.size) w3 w5 := (Fr.refl _ w3).grown hg5 (fun q hq => by injection hq with hq; exact .inr hq.symm)
              exact ⟨_, rfl, ⟨A3, c3, D3, d3, M3, rfl, own_down (own_fr r1 hf35 (fun b hb hT => by have := (r1.lt b hb).1; omega)) hzB, r2, own_fr r3 hf35 (fun b hb hT => by have := (r3.lt b hb).1; omega), by omega⟩, hf5⟩
          · have ec : decide (r.commit ≤ c) = false := by simpa using hc
            have HK2 : Hid (rlastM l c x = rlastM (l.take m) c x) := Lib.hid (HK.out.trans (HT.out.trans (by rw [if_neg hc])))
            clear hc e1 e2
            go_wp2_with fail
            go_roundw
            case rel => exact ⟨m, by omega, by go_num, HK2, trivial⟩
            case measure => simp [intOf]
end Go.Proofs.Ytoajigghkjnffaa
