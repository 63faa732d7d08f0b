/- Copy of a view. No condition. lapidarylaw12.same of two lists of numbers, in full. No condition. lapidarylaw12.ViewCopies: a copy goes on alone. -/
import Derived.Test.YtoajigghkjnffaaJRViewCopiesp6
import Derived.Test.YtoajigghkjnffaaJRViewCopiesp5
import Derived.Test.YtoajigghkjnffaaJRViewCopiesp0
import Derived.Test.YtoajigghkjnffaaJRViewCopiesp1
import Derived.Deep.LoopGhost
namespace Go.Proofs.Ytoajigghkjnffaa
set_option linter.unusedVariables false
set_option linter.unusedSimpArgs false
open Go.RowKit Go.Maps Go.Shelf

theorem cloneO_calls (w : World) (b n : Nat) (f : Int → Option Value) (h : MapV w b n f) :
    Calls Try.prog 53 #[.map (some b)] w fun e w' => e = .returned (.map (some w.heap.size)) ∧ MapV w' w.heap.size n f ∧ Fr No w w' := by
  obtain ⟨D, ho, hf⟩ := h
  refine (AnyW.maps_Clone_owns cloneO 2 hR b n D w ho).mono ?_
  rintro e w' ⟨he, h1, _, hb⟩
  exact ⟨he, ⟨D, h1, hf⟩, Fr.of_below hb⟩
theorem cloneR_calls (w : World) (b n : Nat) (f : Int → Option Value) (h : MapV w b n f) :
    Calls Try.prog 54 #[.map (some b)] w fun e w' => e = .returned (.map (some w.heap.size)) ∧ MapV w' w.heap.size n f ∧ Fr No w w' := by
  obtain ⟨D, ho, hf⟩ := h
  refine (AnyW.maps_Clone_owns cloneR 2 hR b n D w ho).mono ?_
  rintro e w' ⟨he, h1, _, hb⟩
  exact ⟨he, ⟨D, h1, hf⟩, Fr.of_below hb⟩
set_option maxHeartbeats 2000000 in
set_option maxRecDepth 100000 in
theorem vcopy_calls (w : World) (V O : Nat → Prop) (q p : Nat) (v : ViewM) (h : ViewAt w V O q p v) :
    Calls Try.prog 30 #[.pointer (some ⟨q, 0, none⟩)] w fun e w' => ∃ q', e = .returned (.pointer (some ⟨q', 0, none⟩)) ∧ ViewAt w' (fun b => w.heap.size ≤ b ∧ b < w'.heap.size) O q' p v ∧ Fr No w w' := by
  obtain ⟨ob, rb, f, g, hP⟩ := h
  have hb := hP.blk
  (have y0 := hb.cell 0; have y1 := hb.cell 1; have y2 := hb.cell 2; have y3 := hb.cell 3; have y4 := hb.cell 4; have yf0 := hb.frozen 0; have yf1 := hb.frozen 1; have yf2 := hb.frozen 2; have yf3 := hb.frozen 3; have yf4 := hb.frozen 4; simp only [List.getElem?_toArray, List.getElem?_cons_zero, List.getElem?_cons_succ] at y0 y1 y2 y3 y4)
  have g1 := plain_i64
  have g2 := plain_mobj
  have g3 := plain_mbool
  have g4 := plain_ptab
  go_enter Try.func30, Try.ntmps30
  go_wp2_with fail
  (refine T_begin No [0, 1, 2, 3, 4, 5, 6, 7, 8, 9, 10, 11, 13, 14, 15, 16, 18, 19, 20, 21, 12, 17, 22, 23, 24] [12, 17, 23] (by kernel_rfl) (by kernel_rfl) ?_; simp only [pickOps, List.filterMap_cons, List.filterMap_nil, List.getElem?_cons_zero, List.getElem?_cons_succ, Act.put])
  repeat (first | (refine T_skip (by rfl) (by rfl) (fun _ _ _ h => h) ?_; try simp only [Act.put, List.setIfInBounds_toArray, List.set_cons_zero, List.set_cons_succ]) | (refine T_pass (by rfl) (by rfl) ?_; try simp only [Act.put, List.setIfInBounds_toArray, List.set_cons_zero, List.set_cons_succ]) | (refine T_load (by assumption) (by rfl) (by rfl) (fun _ _ _ _ h => h) rfl rfl (by assumption) (by first | exact (fun hn => hn) | assumption) ?_; try simp only [Act.put, List.setIfInBounds_toArray, List.set_cons_zero, List.set_cons_succ]) | (refine T_nil (by rfl) (by rfl) (fun _ _ _ _ h => h) rfl rfl ?_; try simp only [Act.put, List.setIfInBounds_toArray, List.set_cons_zero, List.set_cons_succ]) | (refine T_quietN (by rfl) (by rfl) (by rfl) (by rfl) (fun _ _ _ _ h => h) (fun K hK => ?_); go_big_quiet_op; refine hK _ ?_; clear hK K) | (refine T_two (by rfl) (by rfl) (by rfl) (by rfl) (fun _ _ _ _ h => h) (fun K hK => ?_); go_big_quiet_op; refine ⟨_, fun _ _ => rfl, ?_⟩; refine hK _ ?_; clear hK K; try simp only [Act.put, List.setIfInBounds_toArray, List.set_cons_zero, List.set_cons_succ]) | fail)
  refine T_call (by rfl) (by rfl) (fun K hK => ?_)
  go_wp2_with fail
  refine (cloneO_calls _ ob v.n f (hP.own.fr0 ((Fr.refl No w).drew))).mono ?_
  rintro e w1 ⟨rfl, hm1, hf1⟩
  go_wp2_with fail
  (refine hK.out _ _ (hf1) ?_; clear hK K; try simp only [Act.put, List.setIfInBounds_toArray, List.set_cons_zero, List.set_cons_succ])
  refine T_call (by rfl) (by rfl) (fun K hK => ?_)
  go_wp2_with fail
  refine (cloneR_calls _ rb v.n g (hP.rd.fr0 ((Fr.refl No w).drew.tr hf1))).mono ?_
  rintro e w2 ⟨rfl, hm2, hf2⟩
  go_wp2_with fail
  (refine hK.out _ _ (hf2) ?_; clear hK K; try simp only [Act.put, List.setIfInBounds_toArray, List.set_cons_zero, List.set_cons_succ])
  repeat (first | (refine T_skip (by rfl) (by rfl) (fun _ _ _ h => h) ?_; try simp only [Act.put, List.setIfInBounds_toArray, List.set_cons_zero, List.set_cons_succ]) | (refine T_pass (by rfl) (by rfl) ?_; try simp only [Act.put, List.setIfInBounds_toArray, List.set_cons_zero, List.set_cons_succ]) | (refine T_load (by assumption) (by rfl) (by rfl) (fun _ _ _ _ h => h) rfl rfl (by assumption) (by first | exact (fun hn => hn) | assumption) ?_; try simp only [Act.put, List.setIfInBounds_toArray, List.set_cons_zero, List.set_cons_succ]) | (refine T_nil (by rfl) (by rfl) (fun _ _ _ _ h => h) rfl rfl ?_; try simp only [Act.put, List.setIfInBounds_toArray, List.set_cons_zero, List.set_cons_succ]) | (refine T_quietN (by rfl) (by rfl) (by rfl) (by rfl) (fun _ _ _ _ h => h) (fun K hK => ?_); go_big_quiet_op; refine hK _ ?_; clear hK K) | (refine T_two (by rfl) (by rfl) (by rfl) (by rfl) (fun _ _ _ _ h => h) (fun K hK => ?_); go_big_quiet_op; refine ⟨_, fun _ _ => rfl, ?_⟩; refine hK _ ?_; clear hK K; try simp only [Act.put, List.setIfInBounds_toArray, List.set_cons_zero, List.set_cons_succ]) | fail)
  (refine T_call (by rfl) (by rfl) (fun K hK => ?_); go_wp2_with fail)
  (refine hK.out _ _ (((Fr.refl _ _).alloc _)) ?_; clear hK K; try simp only [Act.put, List.setIfInBounds_toArray, List.set_cons_zero, List.set_cons_succ])
  repeat (first | (refine T_skip (by rfl) (by rfl) (fun _ _ _ h => h) ?_; try simp only [Act.put, List.setIfInBounds_toArray, List.set_cons_zero, List.set_cons_succ]) | (refine T_pass (by rfl) (by rfl) ?_; try simp only [Act.put, List.setIfInBounds_toArray, List.set_cons_zero, List.set_cons_succ]) | (refine T_load (by assumption) (by rfl) (by rfl) (fun _ _ _ _ h => h) rfl rfl (by assumption) (by first | exact (fun hn => hn) | assumption) ?_; try simp only [Act.put, List.setIfInBounds_toArray, List.set_cons_zero, List.set_cons_succ]) | (refine T_nil (by rfl) (by rfl) (fun _ _ _ _ h => h) rfl rfl ?_; try simp only [Act.put, List.setIfInBounds_toArray, List.set_cons_zero, List.set_cons_succ]) | (refine T_quietN (by rfl) (by rfl) (by rfl) (by rfl) (fun _ _ _ _ h => h) (fun K hK => ?_); go_big_quiet_op; refine hK _ ?_; clear hK K) | (refine T_two (by rfl) (by rfl) (by rfl) (by rfl) (fun _ _ _ _ h => h) (fun K hK => ?_); go_big_quiet_op; refine ⟨_, fun _ _ => rfl, ?_⟩; refine hK _ ?_; clear hK K; try simp only [Act.put, List.setIfInBounds_toArray, List.set_cons_zero, List.set_cons_succ]) | fail)
  refine T_done ?_
  go_wp2
  go_ret
  have hf0 : Fr No w w.drew := (Fr.refl No w).drew
  have hd0 : w.drew.heap.size = w.heap.size := rfl
  have hf02 : Fr No w w2 := (hf0.tr hf1).tr hf2
  have hz1 := hf1.size
  have hz2 := hf2.size
  have hm1l := hm1.lt
  have hm2l := hm2.lt
  refine ⟨w2.heap.size, rfl, ⟨w.heap.size, w1.heap.size, f, g, ?_⟩, hf02.alloc _⟩
  have hP2 := hP.fr (hf02.alloc (.cells #[.pointer (some ⟨p, 0, none⟩), .int .i64 v.base, .map (some w.heap.size), .map (some w1.heap.size), .int .i64 v.made] 82)) (fun _ _ hn => hn) (fun _ _ hn => hn)
  exact { blk := Blk.newAt rfl
          own := (hm1.fr0 hf2).alloc _
          rd := hm2.alloc _
          objs := hP2.objs
          reads := hP2.reads
          inV := by simp at *; omega
          off := fun b hb => ⟨hb.2, fun hn => by have := hP.offO b hn; omega⟩
          offO := hP2.offO }
end Go.Proofs.Ytoajigghkjnffaa
namespace Go.Proofs.Ytoajigghkjnffaa
set_option linter.unusedVariables false
set_option linter.unusedSimpArgs false
open Go.RowKit

theorem take_eq_succ {a b : List Int} {k : Nat} (h : a.take k = b.take k) (h1 : k < a.length) (h2 : k < b.length) (e : a[k] = b[k]) : a.take (k + 1) = b.take (k + 1) := by
  rw [← List.take_append_getElem h1, ← List.take_append_getElem h2, h, e]
set_option maxHeartbeats 1000000 in
theorem isame_calls (S T : Nat → Prop) (A D : Option Addr) (c d : Nat) (a b : List Int) (w : World) (h : RdI w S A a) (h2 : RdI w T D b) :
    Calls Try.prog 31 #[.slice A a.length c, .slice D b.length d] w fun e w' => e = .returned (.bool (decide (a = b))) ∧ Fr No w w' := by
  have hle := h.le
  have hle2 := h2.le
  have g1 := plain_i64
  by_cases hab : a.length = b.length
  · have HAB := Lib.hid hab
    have el : ((b.length : Int) == b.length) = true := by simp
    go_enter Try.func31, Try.ntmps31
    rw [hab]
    rw [hab] at hle
    clear hab
    go_wp2
    go_loopw [5] (fun i wr => ∃ k : Nat, k ≤ b.length ∧ i = .int .i64 (k : Int) ∧ Hid (a.take k = b.take k) ∧ Fr No w wr) (fun i _ => b.length - (intOf i).toNat)
    case atStart => exact ⟨0, by omega, rfl, Lib.hid (by simp), Fr.refl _ _⟩
    case round =>
      obtain ⟨k, hk, rfl, HK, hf⟩ := hrel
      by_cases hlt : k < b.length
      · have ek : decide ((k : Int) < b.length) = true := by simpa using (by omega : (k : Int) < b.length)
        have hka : k < a.length := by have := HAB.out; omega
        obtain ⟨ad, rfl, _, hc1⟩ := (h.fr0 hf).at_ hka
        obtain ⟨ae, rfl, _, hc2⟩ := (h2.fr0 hf).at_ hlt
        have HS := Lib.hid (take_eq_succ HK.out hka hlt)
        have HN := Lib.hid (show ¬ a[k] = b[k] → decide (a = b) = false from fun hne => by
          simp only [decide_eq_false_iff_not]
          rintro rfl
          exact hne rfl)
        generalize a[k] = x at *
        generalize b[k] = y at *
        go_wp2_with fail
        (refine T_begin No [0, 1, 2, 3, 4, 5, 6, 7, 8] [] (by kernel_rfl) (by kernel_rfl) ?_; simp only [pickOps, List.filterMap_cons, List.filterMap_nil, List.getElem?_cons_zero, List.getElem?_cons_succ, Act.put])
        repeat (first | (refine T_skip (by rfl) (by rfl) (fun _ _ _ h => h) ?_; try simp only [Act.put, List.setIfInBounds_toArray, List.set_cons_zero, List.set_cons_succ]) | (refine T_pass (by rfl) (by rfl) ?_; try simp only [Act.put, List.setIfInBounds_toArray, List.set_cons_zero, List.set_cons_succ]) | (refine T_load (by assumption) (by rfl) (by rfl) (fun _ _ _ _ h => h) rfl rfl (by assumption) (by first | exact (fun hn => hn) | assumption) ?_; try simp only [Act.put, List.setIfInBounds_toArray, List.set_cons_zero, List.set_cons_succ]) | (refine T_nil (by rfl) (by rfl) (fun _ _ _ _ h => h) rfl rfl ?_; try simp only [Act.put, List.setIfInBounds_toArray, List.set_cons_zero, List.set_cons_succ]) | (refine T_quietN (by rfl) (by rfl) (by rfl) (by rfl) (fun _ _ _ _ h => h) (fun K hK => ?_); go_big_quiet_op; refine hK _ ?_; clear hK K) | (refine T_two (by rfl) (by rfl) (by rfl) (by rfl) (fun _ _ _ _ h => h) (fun K hK => ?_); go_big_quiet_op; refine ⟨_, fun _ _ => rfl, ?_⟩; refine hK _ ?_; clear hK K; try simp only [Act.put, List.setIfInBounds_toArray, List.set_cons_zero, List.set_cons_succ]) | fail)
        refine T_done ?_
        by_cases hxy : x = y
        · have HS' := Lib.hid (HS.out hxy)
          subst hxy
          go_wp2
          go_roundw
          case rel => exact ⟨k + 1, by omega, by go_num, HS', hf.drew⟩
          case measure => simp [intOf]; omega
        · have e1 : (x == y) = false := by simpa using hxy
          have HN' := Lib.hid (HN.out hxy)
          clear hxy
          go_wp2
          go_ret
          exact ⟨by rw [HN'.out]; rfl, hf.drew⟩
      · obtain rfl : k = b.length := by omega
        have ek : decide ((b.length : Int) < b.length) = false := by simp
        have HE : Hid (decide (a = b) = true) := Lib.hid (by
          have := HK.out
          rw [List.take_length, ← HAB.out, List.take_length] at this
          simpa using this)
        go_wp2
        go_ret
        exact ⟨by rw [HE.out]; rfl, hf⟩
  · have el : ((a.length : Int) == (b.length : Int)) = false := by simp; omega
    have HE : Hid (decide (a = b) = false) := Lib.hid (by simp only [decide_eq_false_iff_not]; rintro rfl; exact hab rfl)
    clear hab
    go_enter Try.func31, Try.ntmps31
    go_wp2
    go_ret
    exact ⟨by rw [HE.out]; rfl, Fr.refl _ _⟩
theorem isame_self (S T : Nat → Prop) (A D : Option Addr) (c d : Nat) (a : List Int) (w : World) (h : RdI w S A a) (h2 : RdI w T D a) :
    Calls Try.prog 31 #[.slice A a.length c, .slice D a.length d] w fun e w' => e = .returned (.bool true) ∧ Fr No w w' := by
  refine (isame_calls S T A D c d a a w h h2).mono ?_
  rintro e w' ⟨rfl, hf⟩
  exact ⟨by simp, hf⟩
end Go.Proofs.Ytoajigghkjnffaa
namespace Go.Proofs.Ytoajigghkjnffaa
set_option linter.unusedVariables false
set_option linter.unusedSimpArgs false
open Go.RowKit

theorem putV_base {t : TabM} {v : ViewM} {x : Int} {o : ObjM} : (putV t v x o).1.base = v.base := by
  unfold putV vput; split
  · split <;> rfl
  · rfl
theorem makeM_base {v : ViewM} {o : ObjM} : (makeM v o).1.base = v.base := by
  unfold makeM vput; split
  · split <;> rfl
  · rfl
theorem readM_base {v : ViewM} {x : Int} : (readM v x).base = v.base := by
  unfold readM; split <;> rfl
theorem ViewAt.blk {w : World} {V O : Nat → Prop} {q p : Nat} {v : ViewM} (h : ViewAt w V O q p v) : ∃ m1 m2, Blk w q 82 #[.pointer (some ⟨p, 0, none⟩), .int .i64 v.base, m1, m2, .int .i64 v.made] := by
  obtain ⟨ob, rb, f, g, hP⟩ := h
  exact ⟨_, _, hP.blk⟩
set_option maxHeartbeats 8000000 in
set_option maxRecDepth 100000 in
theorem law_ViewCopies (W : World) (a0 : Option Addr) (cap0 : Nat) (l : List RecM) (hl : RdRec W (fun b => b < W.heap.size) a0 l) (ok : ∀ r ∈ l, RecOk r) (a1 : Option Addr) (cap1 : Nat) (ac : List ActM) (hac : RdAct W (fun b => b < W.heap.size) a1 ac) (oka : ∀ a ∈ ac, ActOk a) (a2 : Option Addr) (cap2 : Nat) (bc : List ActM) (hbc : RdAct W (fun b => b < W.heap.size) a2 bc) (okb : ∀ a ∈ bc, ActOk a) (xa : Int) (wa : (Lit.int .i64 xa).wf = true) :
    Calls Try.prog 6 #[.slice a0 l.length cap0, .slice a1 ac.length cap1, .slice a2 bc.length cap2, .int .i64 xa] W fun e w' => e = .returned (.bool true) ∧ Fr No W w' := by
  have hacl := hac.le
  have hbcl := hbc.le
  have g1 := plain_i64
  have g2 := plain_int
  go_enter Try.func6, Try.ntmps6
  go_wp2_with fail
  refine (both_calls (fun b => b < W.heap.size) a0 cap0 l _ hl (fun b hb => by omega) ok).mono ?_
  rintro e w1 ⟨p, u, T, O, T2, O2, rfl, hT1, _, hall, _, _, hf1⟩
  have htn : (tabOf (l.take 12)).n ≤ 1000000 := by
    have h1 := tabOf_n0 (l.take 12) tab0
    have h2 : (l.take 12).length ≤ 12 := by rw [List.length_take]; omega
    have h3 : tab0.n = 0 := rfl
    show ((l.take 12).foldl _ tab0).n ≤ _
    omega
  have htok : TabOk (tabOf (l.take 12)) := tabOf_ok _ _ tab0_ok
  generalize tabOf (l.take 12) = t at *
  have hTl := hT1.lt
  obtain ⟨mb, wb', hbk⟩ := hT1.blk
  have hz1 := hf1.size
  go_wp2_with fail
  refine (vnew_calls w1 p t.first t.last _ _ hbk).mono ?_
  rintro e w2 ⟨q1, rfl, hV2, hf2⟩
  have hz2 := hf2.size
  generalize hVV : (fun b => w1.heap.size ≤ b ∧ b < w2.heap.size) = V1 at *
  have hVd : ∀ b, V1 b → w1.heap.size ≤ b ∧ b < w2.heap.size := fun b hb => by rw [← hVV] at hb; exact hb
  clear hVV
  have hT2 := hT1.fr0 hf2
  have hF2 := hf1.tr hf2
  have hac2 := hac.fr0 hF2
  have HOKA := Lib.hid oka
  have HOKB := Lib.hid okb
  clear oka okb hT1
  go_upto_block 0 with fail
  go_cut [12] (fun s12 wx => ∃ (v : ViewM) (Q : Nat → Prop), ViewAt wx V1 Q q1 p v ∧ ViewOk v ∧ v.n ≤ 60 ∧ (∀ b, Q b → w2.heap.size ≤ b) ∧ Fr (fun b => w1.heap.size ≤ b ∧ b < w2.heap.size) w2 wx)
  case first =>
    go_wp2_with fail
    go_loopw [12] (fun i wr => ∃ (k : Nat) (v : ViewM) (Q : Nat → Prop), k ≤ ac.length ∧ k ≤ 30 ∧ i = .int .i64 (k : Int) ∧ ViewAt wr V1 Q q1 p v ∧ ViewOk v ∧ v.n ≤ 2 * k ∧ (∀ b, Q b → w2.heap.size ≤ b) ∧ Fr (fun b => w1.heap.size ≤ b ∧ b < w2.heap.size) w2 wr) (fun i _ => ac.length - (intOf i).toNat)
    case atStart => exact ⟨0, view0 t.last, No, by omega, by omega, rfl, hV2, view0_ok _, Nat.le_refl _, fun b hb => hb.elim, Fr.refl _ _⟩
    case round =>
      obtain ⟨k, v, Q, hk, hk30, rfl, hV, hvok, hvn, hQ, hf⟩ := hrel
      by_cases hlt : k < ac.length
      · have ek : decide ((k : Int) < ac.length) = true := by simpa using (by omega : (k : Int) < ac.length)
        by_cases h30 : k < 30
        · have ek2 : decide ((k : Int) < 30) = true := by simpa using (by omega : (k : Int) < 30)
          have hokk := HOKA.out _ (List.getElem_mem hlt)
          obtain ⟨g, o, cs, rfl, hgW, hcs, hcell⟩ := (hac2.fr hf (fun b hb hT => by omega)).at_ hlt
          generalize ac[k] = x at *
          obtain ⟨hw1, ⟨hos, hob⟩, _, _, _⟩ := hokk
          obtain ⟨Ax, cx, Dx, dx, Ex, ex, rfl, rs, rb, _⟩ := hcs
          obtain ⟨kd, xo, ob, rc⟩ := x
          simp only at hw1 hos hob rs rb hcell ⊢
          have hT := hT2.fr hf (fun b hb hT => by have := hTl.1 b hb; omega) (fun b hb hT => by have := hTl.2.1 b hb; omega)
          have hzr := hf.size
          have hVs : ∀ b, V1 b → w1.heap.size ≤ b ∧ b < w2.heap.size := hVd
          have hgV : ¬ V1 g := fun h => by have := hVd g h; omega
          have k0 : wr.cell? ⟨g, o + k * 7, none⟩ = some (.int .i64 kd) := by simpa [Addr.add] using hcell 0 _ rfl
          have k1 : wr.cell? ⟨g, o + k * 7 + 1, none⟩ = some (.int .i64 xo) := by simpa [Addr.add] using hcell 1 _ rfl
          have k2 : ∀ j u, [Value.int .i64 ob.cls, .slice Ax ob.slots.length cx, .slice Dx ob.bytes.length dx][j]? = some u → wr.cell? ((⟨g, o + k * 7 + 2, none⟩ : Addr).add j) = some u := addr5 _ _ _ (fun j u hu => by
            have := hcell (2 + j) u (by
              match j, hu with
              | 0, hu => exact hu
              | 1, hu => exact hu
              | 2, hu => exact hu
              | j + 3, hu => simp at hu)
            simpa [Addr.add, Nat.add_assoc] using this)
          have hco : ObjC wr (fun b => b < W.heap.size) [.int .i64 ob.cls, .slice Ax ob.slots.length cx, .slice Dx ob.bytes.length dx] ob := ⟨Ax, cx, Dx, dx, rfl, rs, rb⟩
          have hfd : Fr No wr wr.drew := (Fr.refl No wr).drew
          have hVlt := hV.lt
          have hlx : wr.drew.heap.size = wr.heap.size := rfl
          clear hcell rs rb
          by_cases h6 : kd < 6
          · have e6 : decide (kd < 6) = true := by simpa using h6
            clear h6
            have hk2 := Lib.hid k2
            clear k2
            go_wp2_with fail
            refine T_begin2 No [11] [0, 1, 2, 3, 4, 5, 6, 7, 8, 9, 10, 11] [11] (by kernel_rfl) (by kernel_rfl) ?_
            simp only [pickOps, List.filterMap_cons, List.filterMap_nil, List.getElem?_cons_zero, List.getElem?_cons_succ, Act.put]
            repeat (first | (refine T_skip (by rfl) (by rfl) (fun _ _ _ h => h) ?_; try simp only [Act.put, List.setIfInBounds_toArray, List.set_cons_zero, List.set_cons_succ]) | (refine T_pass (by rfl) (by rfl) ?_; try simp only [Act.put, List.setIfInBounds_toArray, List.set_cons_zero, List.set_cons_succ]) | (refine T_load (by assumption) (by rfl) (by rfl) (fun _ _ _ _ h => h) rfl rfl (by assumption) (by first | exact (fun hn => hn) | assumption) ?_; try simp only [Act.put, List.setIfInBounds_toArray, List.set_cons_zero, List.set_cons_succ]) | (refine T_nil (by rfl) (by rfl) (fun _ _ _ _ h => h) rfl rfl ?_; try simp only [Act.put, List.setIfInBounds_toArray, List.set_cons_zero, List.set_cons_succ]) | (refine T_quietN (by rfl) (by rfl) (by rfl) (by rfl) (fun _ _ _ _ h => h) (fun K hK => ?_); go_big_quiet_op; refine hK _ ?_; clear hK K) | (refine T_two (by rfl) (by rfl) (by rfl) (by rfl) (fun _ _ _ _ h => h) (fun K hK => ?_); go_big_quiet_op; refine ⟨_, fun _ _ => rfl, ?_⟩; refine hK _ ?_; clear hK K; try simp only [Act.put, List.setIfInBounds_toArray, List.set_cons_zero, List.set_cons_succ]) | fail)
            refine T_loadA (cs := [.int .i64 ob.cls, .slice Ax ob.slots.length cx, .slice Dx ob.bytes.length dx]) ag_obj (by rfl) (by rfl) (fun _ _ _ _ h => h) rfl rfl rfl (show ∀ j u, _ → wr.drew.cell? _ = some u from hk2.out) (fun hn => hn) ?_
            try simp only [Act.put, List.setIfInBounds_toArray, List.set_cons_zero, List.set_cons_succ]
            refine T_turn No [] (by rfl) (by rfl) (by rfl) (fun K hK => ?_)
            go_wp2_with fail
            refine (vput_calls wr.drew V1 Q T O _ q1 p v t xo _ ob (hV.fr0 hfd) (hT.fr0 hfd) (hco.fr0 hfd) htok hvok htn (by omega) hw1 (by omega)).mono ?_
            rintro e wp ⟨rfl, QQ, hVp, hQp, hfp⟩
            have hokp := putV_ok (t := t) (x := xo) (o := ob) hvok
            have hnp := vput_n (t := t) (v := v) (x := xo) (o := ob)
            have HB := Lib.hid (putV_base (t := t) (v := v) (x := xo) (o := ob))
            generalize (putV t v xo ob).1 = vp at *
            generalize (putV t v xo ob).2 = ep at *
            go_wp2_with fail
            refine hK.out _ _ ?_
            clear hK K
            refine T_done ?_
            have k1p : wp.cell? ⟨g, o + k * 7 + 1, none⟩ = some (.int .i64 xo) := hfp.cell_some (show wr.drew.cell? _ = _ from k1) hgV
            have hFp0 : Fr V1 wr wp := (hfd.mono (fun _ _ hn => hn.elim)).trans hfp (fun _ _ h => h)
            clear k0 k1 hk2
            go_wp2_with fail
            refine (vread_calls wp V1 QQ q1 p vp xo hVp (by omega) hw1).mono ?_
            rintro e wq ⟨rfl, hVr, hfr⟩
            have hFp : Fr V1 wr wq := hFp0.trans hfr (fun _ _ h => h)
            go_wp2_with fail
            go_roundw
            case rel =>
              refine ⟨k + 1, _, QQ, by omega, by omega, by go_num, hVr, readM_ok hokp, ?_, ?_, hf.trans hFp (fun b hb hT => hVd b hT)⟩
              · have := readM_n (v := vp) (x := xo); omega
              · intro b hb
                rcases hQp b hb with h | h
                · exact hQ b h
                · omega
            case measure => simp [intOf]; omega
          · have e6 : decide (kd < 6) = false := by simpa using h6
            clear h6
            go_wp2_with (first
              | (refine wpList_ldA ag_obj rfl _ rfl ⟨g, o + k * 7 + 2, none⟩ [.int .i64 ob.cls, .slice Ax ob.slots.length cx, .slice Dx ob.bytes.length dx] rfl rfl k2 ?_)
              | fail)
            refine (vmake_calls wr V1 Q _ q1 p v _ ob hV hco (fun b hb hT => by have := hVs b hT; omega) hvok (by omega) (by omega)).mono ?_
            rintro e wp ⟨rfl, QQ, hVp, hQp, hfp⟩
            have hokp := makeM_ok (o := ob) hvok
            have hnp := makeM_n (v := v) (o := ob)
            have HB := Lib.hid (makeM_base (v := v) (o := ob))
            generalize (makeM v ob).1 = vp at *
            have k1p : wp.cell? ⟨g, o + k * 7 + 1, none⟩ = some (.int .i64 xo) := hfp.cell_some k1 hgV
            clear k0 k1 k2
            go_wp2_with fail
            refine (vread_calls wp V1 QQ q1 p vp xo hVp (by omega) hw1).mono ?_
            rintro e wq ⟨rfl, hVr, hfr⟩
            have hFp : Fr V1 wr wq := hfp.trans hfr (fun _ _ h => h)
            go_wp2_with fail
            go_roundw
            case rel =>
              refine ⟨k + 1, _, QQ, by omega, by omega, by go_num, hVr, readM_ok hokp, ?_, ?_, hf.trans hFp (fun b hb hT => hVd b hT)⟩
              · have := readM_n (v := vp) (x := xo); omega
              · intro b hb
                rcases hQp b hb with h | h
                · exact hQ b h
                · omega
            case measure => simp [intOf]; omega
        · have ek2 : decide ((k : Int) < 30) = false := by simp; omega
          go_wp2_with fail
          go_meet
          case rel => exact ⟨v, Q, hV, hvok, by omega, hQ, hf⟩
      · obtain rfl : k = ac.length := by omega
        have ek : decide ((ac.length : Int) < ac.length) = false := by simp
        go_wp2_with fail
        go_meet
        case rel => exact ⟨v, Q, hV, hvok, by omega, hQ, hf⟩
  case rest =>
    obtain ⟨wy, hwy⟩ : ∃ wy, wy = wc := ⟨_, rfl⟩
    subst hwy
    obtain ⟨v, Q, hV, hvok, hvn, hQ, hf⟩ := hcut
    have hT := hT2.fr hf (fun b hb hT => by have := hTl.1 b hb; omega) (fun b hb hT => by have := hTl.2.1 b hb; omega)
    have hFc : Fr No W wy := hF2.trans hf (fun b hb hT => by omega)
    have hQl := hV.lt
    have hzc := hf.size
    clear hT2 hV2 hac2
    go_wp2_with fail
    refine (vcopy_calls wy V1 Q q1 p v hV).mono ?_
    rintro e w3 ⟨q3, rfl, hU3, hf3⟩
    have hz3 := hf3.size
    generalize hVV : (fun b => wy.heap.size ≤ b ∧ b < w3.heap.size) = V3 at *
    have hUd : ∀ b, V3 b → wy.heap.size ≤ b ∧ b < w3.heap.size := fun b hb => by rw [← hVV] at hb; exact hb
    clear hVV
    have hV3 := hV.fr0 hf3
    have hT3 := hT.fr0 hf3
    go_wp2_with fail
    refine (peek_calls w3 V1 Q T O q1 p v t xa hV3 hT3 htok hvok htn wa).mono ?_
    rintro e w4 ⟨cs4, rfl, hown4, hf4⟩
    have hsm := peekM_small0 htok hvok xa
    obtain ⟨A4, c4, D4, d4, rfl⟩ := hown4.lit3
    obtain ⟨R4, hR4⟩ : ∃ R4, R4 = peekM t v xa := ⟨_, rfl⟩
    rw [← hR4] at hown4 hsm ⊢
    have HR4 := Lib.hid hR4
    clear hR4
    have hf45 : Fr No w4 (w4.alloc (.cells #[.int .i64 R4.1.cls, .slice A4 R4.1.slots.length c4, .slice D4 R4.1.bytes.length d4] tObj)) := (Fr.refl No w4).alloc _
    have hb5 := Blk.new w4 tObj #[.int .i64 R4.1.cls, .slice A4 R4.1.slots.length c4, .slice D4 R4.1.bytes.length d4]
    have hz4 := hf4.size
    have hown5 := hown4.fr hf45 (fun _ _ hn => hn)
    have hg35 := hf4.tr hf45
    have hV5 := hV3.fr0 hg35
    go_wp2_with fail
    refine (reads_calls _ V1 Q q1 p v hV5 (by omega)).mono ?_
    rintro e w6 ⟨x1, rfl, hr1, hf6⟩
    obtain ⟨B1, e1, rfl, _⟩ := hr1.rd (by have := upI_len v.read 1 4096; omega)
    have hV6 := hV5.fr0 hf6
    go_wp2_with fail
    refine (news_calls w6 V1 Q q1 p v hV6 (by omega)).mono ?_
    rintro e w7 ⟨x2, rfl, hr2, hf7⟩
    obtain ⟨B2, e2, rfl, _⟩ := hr2.rd (by have := upI_len (fun x => (v.own x).isSome) 4097 4096; omega)
    have hzB := hg35.size
    have hg37 := (hg35.tr hf6).tr hf7
    have hr1 := IRow.fr0 hr1 hf7
    have hb7 := hb5.fr0 (hf6.tr hf7)
    have hown7 := hown5.fr (hf6.tr hf7) (fun _ _ hn => hn)
    have hV7 := hV3.fr0 hg37
    have hU7 := hU3.fr0 hg37
    have hT7 := hT3.fr0 hg37
    have hF7 := (hFc.tr hf3).tr hg37
    have hbc7 := hbc.fr0 hF7
    have hz45 := hf45.size
    have hz6 := hf6.size
    have hz7 := hf7.size
    have hzW := hF2.size
    clear hV5 hV6 hb5 hown5 hV3 hU3 hT3 hT hV hown4
    go_upto_block 2 with fail
    go_cut [18] (fun s18 wx => ∃ (v' : ViewM) (Q' : Nat → Prop), ViewAt wx V3 Q' q3 p v' ∧ v'.base = v.base ∧ Fr (fun b => wy.heap.size ≤ b ∧ b < w3.heap.size) w7 wx)
    case first =>
      go_wp2_with fail
      go_loopw [18] (fun i wr => ∃ (k : Nat) (v' : ViewM) (Q' : Nat → Prop), k ≤ bc.length ∧ k ≤ 30 ∧ i = .int .i64 (k : Int) ∧ ViewAt wr V3 Q' q3 p v' ∧ ViewOk v' ∧ v'.n ≤ 60 + 2 * k ∧ v'.base = v.base ∧ Fr (fun b => wy.heap.size ≤ b ∧ b < w3.heap.size) w7 wr) (fun i _ => bc.length - (intOf i).toNat)
      case atStart => exact ⟨0, v, Q, by omega, by omega, rfl, hU7, hvok, by omega, rfl, Fr.refl _ _⟩
      case round =>
        clear hvn
        obtain ⟨k, v', Q', hk, hk30, rfl, hU, huok, hvn, hbase, hf'⟩ := hrel
        by_cases hlt : k < bc.length
        · have ek : decide ((k : Int) < bc.length) = true := by simpa using (by omega : (k : Int) < bc.length)
          by_cases h30 : k < 30
          · have ek2 : decide ((k : Int) < 30) = true := by simpa using (by omega : (k : Int) < 30)
            have hokk := HOKB.out _ (List.getElem_mem hlt)
            obtain ⟨g, o, cs, rfl, hgW, hcs, hcell⟩ := (hbc7.fr hf' (fun b hb hT => by omega)).at_ hlt
            generalize bc[k] = x at *
            obtain ⟨hw1, ⟨hos, hob⟩, _, _, _⟩ := hokk
            obtain ⟨Ax, cx, Dx, dx, Ex, ex, rfl, rs, rb, _⟩ := hcs
            obtain ⟨kd, xo, ob, rc⟩ := x
            simp only at hw1 hos hob rs rb hcell ⊢
            have hT := hT7.fr hf' (fun b hb hT => by have := hTl.1 b hb; omega) (fun b hb hT => by have := hTl.2.1 b hb; omega)
            have hzr := hf'.size
            have hgV : ¬ V3 g := fun h => by have := hUd g h; omega
            have HBASE := Lib.hid hbase
            clear hbase
            have hVs : ∀ b, V3 b → wy.heap.size ≤ b ∧ b < w3.heap.size := hUd
            have k0 : wr.cell? ⟨g, o + k * 7, none⟩ = some (.int .i64 kd) := by simpa [Addr.add] using hcell 0 _ rfl
            have k1 : wr.cell? ⟨g, o + k * 7 + 1, none⟩ = some (.int .i64 xo) := by simpa [Addr.add] using hcell 1 _ rfl
            have k2 : ∀ j u, [Value.int .i64 ob.cls, .slice Ax ob.slots.length cx, .slice Dx ob.bytes.length dx][j]? = some u → wr.cell? ((⟨g, o + k * 7 + 2, none⟩ : Addr).add j) = some u := addr5 _ _ _ (fun j u hu => by
              have := hcell (2 + j) u (by
                match j, hu with
                | 0, hu => exact hu
                | 1, hu => exact hu
                | 2, hu => exact hu
                | j + 3, hu => simp at hu)
              simpa [Addr.add, Nat.add_assoc] using this)
            have hco : ObjC wr (fun b => b < W.heap.size) [.int .i64 ob.cls, .slice Ax ob.slots.length cx, .slice Dx ob.bytes.length dx] ob := ⟨Ax, cx, Dx, dx, rfl, rs, rb⟩
            have hfd : Fr No wr wr.drew := (Fr.refl No wr).drew
            have hVlt := hU.lt
            have hlx : wr.drew.heap.size = wr.heap.size := rfl
            clear hcell rs rb
            by_cases h6 : kd < 6
            · have e6 : decide (kd < 6) = true := by simpa using h6
              clear h6
              have hk2 := Lib.hid k2
              clear k2
              go_wp2_with fail
              refine T_begin2 No [11] [0, 1, 2, 3, 4, 5, 6, 7, 8, 9, 10, 11] [11] (by kernel_rfl) (by kernel_rfl) ?_
              simp only [pickOps, List.filterMap_cons, List.filterMap_nil, List.getElem?_cons_zero, List.getElem?_cons_succ, Act.put]
              repeat (first | (refine T_skip (by rfl) (by rfl) (fun _ _ _ h => h) ?_; try simp only [Act.put, List.setIfInBounds_toArray, List.set_cons_zero, List.set_cons_succ]) | (refine T_pass (by rfl) (by rfl) ?_; try simp only [Act.put, List.setIfInBounds_toArray, List.set_cons_zero, List.set_cons_succ]) | (refine T_load (by assumption) (by rfl) (by rfl) (fun _ _ _ _ h => h) rfl rfl (by assumption) (by first | exact (fun hn => hn) | assumption) ?_; try simp only [Act.put, List.setIfInBounds_toArray, List.set_cons_zero, List.set_cons_succ]) | (refine T_nil (by rfl) (by rfl) (fun _ _ _ _ h => h) rfl rfl ?_; try simp only [Act.put, List.setIfInBounds_toArray, List.set_cons_zero, List.set_cons_succ]) | (refine T_quietN (by rfl) (by rfl) (by rfl) (by rfl) (fun _ _ _ _ h => h) (fun K hK => ?_); go_big_quiet_op; refine hK _ ?_; clear hK K) | (refine T_two (by rfl) (by rfl) (by rfl) (by rfl) (fun _ _ _ _ h => h) (fun K hK => ?_); go_big_quiet_op; refine ⟨_, fun _ _ => rfl, ?_⟩; refine hK _ ?_; clear hK K; try simp only [Act.put, List.setIfInBounds_toArray, List.set_cons_zero, List.set_cons_succ]) | fail)
              refine T_loadA (cs := [.int .i64 ob.cls, .slice Ax ob.slots.length cx, .slice Dx ob.bytes.length dx]) ag_obj (by rfl) (by rfl) (fun _ _ _ _ h => h) rfl rfl rfl (show ∀ j u, _ → wr.drew.cell? _ = some u from hk2.out) (fun hn => hn) ?_
              try simp only [Act.put, List.setIfInBounds_toArray, List.set_cons_zero, List.set_cons_succ]
              refine T_turn No [] (by rfl) (by rfl) (by rfl) (fun K hK => ?_)
              go_wp2_with fail
              refine (vput_calls wr.drew V3 Q' T O _ q3 p v' t xo _ ob (hU.fr0 hfd) (hT.fr0 hfd) (hco.fr0 hfd) htok huok htn (by omega) hw1 (by omega)).mono ?_
              rintro e wp ⟨rfl, QQ, hVp, hQp, hfp⟩
              have hokp := putV_ok (t := t) (x := xo) (o := ob) huok
              have hnp := vput_n (t := t) (v := v') (x := xo) (o := ob)
              have HB := Lib.hid (putV_base (t := t) (v := v') (x := xo) (o := ob))
              generalize (putV t v' xo ob).1 = vp at *
              generalize (putV t v' xo ob).2 = ep at *
              go_wp2_with fail
              refine hK.out _ _ ?_
              clear hK K
              refine T_done ?_
              have k1p : wp.cell? ⟨g, o + k * 7 + 1, none⟩ = some (.int .i64 xo) := hfp.cell_some (show wr.drew.cell? _ = _ from k1) hgV
              have hFp0 : Fr V3 wr wp := (hfd.mono (fun _ _ hn => hn.elim)).trans hfp (fun _ _ h => h)
              clear k0 k1 hk2
              go_wp2_with fail
              refine (vread_calls wp V3 QQ q3 p vp xo hVp (by omega) hw1).mono ?_
              rintro e wq ⟨rfl, hVr, hfr⟩
              have hFp : Fr V3 wr wq := hFp0.trans hfr (fun _ _ h => h)
              go_wp2_with fail
              go_roundw
              case rel =>
                refine ⟨k + 1, _, QQ, by omega, by omega, by go_num, hVr, readM_ok hokp, ?_, readM_base.trans (HB.out.trans HBASE.out), hf'.trans hFp (fun b hb hT => hUd b hT)⟩
                have := readM_n (v := vp) (x := xo); omega
              case measure => simp [intOf]; omega
            · have e6 : decide (kd < 6) = false := by simpa using h6
              clear h6
              go_wp2_with (first
                | (refine wpList_ldA ag_obj rfl _ rfl ⟨g, o + k * 7 + 2, none⟩ [.int .i64 ob.cls, .slice Ax ob.slots.length cx, .slice Dx ob.bytes.length dx] rfl rfl k2 ?_)
                | fail)
              refine (vmake_calls wr V3 Q' _ q3 p v' _ ob hU hco (fun b hb hT => by have := hVs b hT; omega) huok (by omega) (by omega)).mono ?_
              rintro e wp ⟨rfl, QQ, hVp, hQp, hfp⟩
              have hokp := makeM_ok (o := ob) huok
              have hnp := makeM_n (v := v') (o := ob)
              have HB := Lib.hid (makeM_base (v := v') (o := ob))
              generalize (makeM v' ob).1 = vp at *
              have k1p : wp.cell? ⟨g, o + k * 7 + 1, none⟩ = some (.int .i64 xo) := hfp.cell_some k1 hgV
              clear k0 k1 k2
              go_wp2_with fail
              refine (vread_calls wp V3 QQ q3 p vp xo hVp (by omega) hw1).mono ?_
              rintro e wq ⟨rfl, hVr, hfr⟩
              have hFp : Fr V3 wr wq := hfp.trans hfr (fun _ _ h => h)
              go_wp2_with fail
              go_roundw
              case rel =>
                refine ⟨k + 1, _, QQ, by omega, by omega, by go_num, hVr, readM_ok hokp, ?_, readM_base.trans (HB.out.trans HBASE.out), hf'.trans hFp (fun b hb hT => hUd b hT)⟩
                have := readM_n (v := vp) (x := xo); omega
              case measure => simp [intOf]; omega
          · have ek2 : decide ((k : Int) < 30) = false := by simp; omega
            have HBASE := Lib.hid hbase
            clear hbase
            go_wp2_with fail
            go_meet
            case rel => exact ⟨v', Q', hU, HBASE.out, hf'⟩
        · obtain rfl : k = bc.length := by omega
          have ek : decide ((bc.length : Int) < bc.length) = false := by simp
          have HBASE := Lib.hid hbase
          clear hbase
          go_wp2_with fail
          go_meet
          case rel => exact ⟨v', Q', hU, HBASE.out, hf'⟩
    case rest =>
      obtain ⟨v', Q', hU, hbase, hf'⟩ := hcut
      have HBASE := Lib.hid hbase
      clear hbase
      have hl7 := hV7.lt
      have hVc := hV7.fr hf' (fun b hb hT => by have := hVd b hb; omega) (fun b hb hT => by have := hQl.2.1 b hb; omega)
      have hTc := hT7.fr hf' (fun b hb hT => by have := hTl.1 b hb; omega) (fun b hb hT => by have := hTl.2.1 b hb; omega)
      have hbc' := hb7.fr hf' (by omega)
      have hownc := hown7.fr hf' (fun b hb hT => by omega)
      have hr1c := IRow.fr hr1 hf' (fun b hb hT => by omega)
      have hr2c := IRow.fr hr2 hf' (fun b hb hT => by omega)
      have hFz : Fr No W wc := hF7.trans hf' (fun b hb hT => by omega)
      have hzz := hf'.size
      clear hV7 hT7 hb7 hown7 hr1 hr2 hbc7 hU7
      go_wp2_with fail
      refine (peek_calls wc V1 Q T O q1 p v t xa hVc hTc htok hvok htn wa).mono ?_
      rw [← HR4.out]
      rintro e wA ⟨csA, rfl, hownA, hfA⟩
      obtain ⟨AA, cA, DA, dA, rfl⟩ := hownA.lit3
      have hfAB : Fr No wA (wA.alloc (.cells #[.int .i64 R4.1.cls, .slice AA R4.1.slots.length cA, .slice DA R4.1.bytes.length dA] tObj)) := (Fr.refl No wA).alloc _
      have hbB := Blk.new wA tObj #[.int .i64 R4.1.cls, .slice AA R4.1.slots.length cA, .slice DA R4.1.bytes.length dA]
      have hownB := hownA.fr hfAB (fun _ _ hn => hn)
      have hgB := hfA.tr hfAB
      have k1 := (hbc'.fr0 hgB).all
      have k2 := hbB.all
      have hc1 := (hownc.fr hgB (fun _ _ hn => hn)).rd (by omega) (by omega)
      have hc2 := hownB.rd (by omega) (by omega)
      have HSO := Lib.hid (sameO_self R4.1)
      have ebe : (R4.2 == R4.2) = true := by simp
      go_wp2_with (first
        | (refine wpList_ldA ag_obj rfl _ rfl ⟨w4.heap.size, 0, none⟩ [.int .i64 R4.1.cls, .slice A4 R4.1.slots.length c4, .slice D4 R4.1.bytes.length d4] rfl rfl k1 ?_)
        | (refine wpList_ldA ag_obj rfl _ rfl ⟨wA.heap.size, 0, none⟩ [.int .i64 R4.1.cls, .slice AA R4.1.slots.length cA, .slice DA R4.1.bytes.length dA] rfl rfl k2 ?_)
        | fail)
      refine (refsame_calls _ _ _ _ R4.1 R4.1 _ hc1 hc2).mono ?_
      rw [HSO.out]
      rintro e wE ⟨rfl, hfE⟩
      have hgE := hgB.tr hfE
      have hVE := hVc.fr0 hgE
      go_wp2_with fail
      refine (reads_calls wE V1 Q q1 p v hVE (by omega)).mono ?_
      rintro e wG ⟨x3, rfl, hr3, hfG⟩
      obtain ⟨B3, e3, rfl, hd3⟩ := hr3.rd (by have := upI_len v.read 1 4096; omega)
      obtain ⟨B1', e1', hq1, hd1⟩ := (hr1c.fr0 (hgE.tr hfG)).rd (by have := upI_len v.read 1 4096; omega)
      injection hq1 with hq1 _ hq2
      subst hq1 hq2
      go_wp2_with fail
      refine (isame_self _ _ B1 B3 e1 e3 (upI v.read 1 4096) wG hd1 hd3).mono ?_
      rintro e wH ⟨rfl, hfH⟩
      have hgH := (hgE.tr hfG).tr hfH
      have hVH := hVc.fr0 hgH
      go_wp2_with fail
      refine (news_calls wH V1 Q q1 p v hVH (by omega)).mono ?_
      rintro e wI ⟨x4, rfl, hr4, hfI⟩
      obtain ⟨B4, e4, rfl, hd4⟩ := hr4.rd (by have := upI_len (fun x => (v.own x).isSome) 4097 4096; omega)
      obtain ⟨B2', e2', hq1, hd2⟩ := (hr2c.fr0 (hgH.tr hfI)).rd (by have := upI_len (fun x => (v.own x).isSome) 4097 4096; omega)
      injection hq1 with hq1 _ hq2
      subst hq1 hq2
      go_wp2_with fail
      refine (isame_self _ _ B2 B4 e2 e4 (upI (fun x => (v.own x).isSome) 4097 4096) wI hd2 hd4).mono ?_
      rintro e wJ ⟨rfl, hfJ⟩
      have hgJ := (hgH.tr hfI).tr hfJ
      obtain ⟨m1, m2, hbv⟩ := (hVc.fr0 hgJ).blk
      obtain ⟨m3, m4, hbu⟩ := (hU.fr0 hgJ).blk
      go_wp2_with fail
      refine (base_calls wJ q3 p v'.base _ _ _ hbu).mono ?_
      rintro e wK ⟨rfl, hwK⟩
      have hwK := hwK.symm
      subst hwK
      go_wp2_with fail
      refine (base_calls _ q1 p v.base _ _ _ hbv).mono ?_
      rintro e wK ⟨rfl, hwK⟩
      have hwK := hwK.symm
      subst hwK
      rw [HBASE.out]
      have ebb : (v.base == v.base) = true := by simp
      go_wp2_with fail
      refine (known_calls _).mono ?_
      rintro e wz ⟨rfl, hfz⟩
      go_wp2
      go_ret
      exact ⟨rfl, (hFz.tr hgJ).tr hfz⟩
end Go.Proofs.Ytoajigghkjnffaa
