/- What can be in a view: view's Right and RightObj, and the reference's. Written by genvright.py. No condition. -/
import Derived.Test.YtoajigghkjnffaaRightO
namespace Go.Proofs.Ytoajigghkjnffaa
set_option linter.unusedVariables false
set_option linter.unusedSimpArgs false
open Go.RowKit

def oopB2 (n : Int) : Bool := decide (1 ≤ n) && decide (n ≤ 8192)
def rightV2 (v : VL) : Bool := if v.k = 4 then oopB2 v.n else rightV v
def rightO2 (o : ObjM) : Bool := oopB2 o.cls && decide (o.slots.length ≤ 256) && decide (o.bytes.length ≤ 1024) && o.slots.all rightV2
theorem oopB2_of {n : Int} (h : oopB n = true) : oopB2 n = true := by
  unfold oopB at h; unfold oopB2
  simp only [Bool.and_eq_true, decide_eq_true_eq] at h ⊢
  omega
theorem rightV2_of {v : VL} (h : rightV v = true) : rightV2 v = true := by
  unfold rightV2
  split
  · rename_i h4
    obtain ⟨k, n⟩ := v
    simp only at h4
    subst h4
    rw [rightV_ref] at h
    exact oopB2_of h
  · exact h
theorem rightO2_of {o : ObjM} (h : rightO o = true) : rightO2 o = true := by
  unfold rightO at h; unfold rightO2
  simp only [Bool.and_eq_true, decide_eq_true_eq] at h ⊢
  obtain ⟨⟨⟨h1, h2⟩, h3⟩, h4⟩ := h
  refine ⟨⟨⟨oopB2_of h1, h2⟩, h3⟩, ?_⟩
  rw [List.all_eq_true] at h4 ⊢
  exact fun x hx => rightV2_of (h4 x hx)
theorem rightV2_ref (n : Int) : rightV2 ⟨4, n⟩ = oopB2 n := by unfold rightV2; simp only; rw [if_pos trivial]
theorem rightV2_no {v : VL} (h : ¬ v.k = 4) : rightV2 v = rightV v := by unfold rightV2; rw [if_neg h]

set_option maxHeartbeats 1000000 in
set_option maxRecDepth 100000 in
theorem vright_calls (v : VL) (w : World) :
    Calls Try.prog 8 #[.agg #[.int .i64 v.k, .int .i64 v.n]] w fun e w' => e = .returned (.bool (rightV2 v)) ∧ Fr No w w' := by
  have hf : Fr No w (w.alloc (.cells #[.int .i64 v.k, .int .i64 v.n] 23)) := (Fr.refl No w).alloc _
  by_cases h4 : v.k = 4
  · obtain ⟨k, n⟩ := v
    simp only at h4 hf
    subst h4
    have H := Lib.hid (rightV2_ref n)
    unfold oopB2 at H
    simp only
    by_cases ha : 1 ≤ n
    · have e1 : decide (1 ≤ n) = true := by simpa using ha
      rcases Decidable.em (n ≤ 8192) with hb | hb
      · have e3 : decide (n ≤ 8192) = true := by simpa using hb
        rw [e1, e3] at H
        clear ha hb
        go_enter Try.func8, Try.ntmps8
        go_wp2
        go_ret
        exact ⟨ret_bool H.out.symm, hf⟩
      · have e3 : decide (n ≤ 8192) = false := by simpa using hb
        rw [e1, e3] at H
        clear ha hb
        go_enter Try.func8, Try.ntmps8
        go_wp2
        go_ret
        exact ⟨ret_bool H.out.symm, hf⟩
    · have e1 : decide (1 ≤ n) = false := by simpa using ha
      rw [e1, Bool.false_and] at H
      clear ha
      go_enter Try.func8, Try.ntmps8
      go_wp2
      go_ret
      exact ⟨ret_bool H.out.symm, hf⟩
  · have H := Lib.hid (rightV2_no h4)
    have e4 : (v.k == 4) = false := by simpa using h4
    clear h4
    go_enter Try.func8, Try.ntmps8
    go_wp2_with fail
    refine (right_calls v _).mono ?_
    rintro e w2 ⟨rfl, hf2⟩
    go_wp2
    go_ret
    exact ⟨ret_bool H.out.symm, hf.tr hf2⟩

set_option maxHeartbeats 1000000 in
set_option maxRecDepth 100000 in
theorem rvright_calls (v : VL) (w : World) :
    Calls Try.prog 9 #[.agg #[.int .i64 v.k, .int .i64 v.n]] w fun e w' => e = .returned (.bool (rightV2 v)) ∧ Fr No w w' := by
  have hf : Fr No w (w.alloc (.cells #[.int .i64 v.k, .int .i64 v.n] 23)) := (Fr.refl No w).alloc _
  by_cases h4 : v.k = 4
  · obtain ⟨k, n⟩ := v
    simp only at h4 hf
    subst h4
    have H := Lib.hid (rightV2_ref n)
    unfold oopB2 at H
    simp only
    by_cases ha : 1 ≤ n
    · have e1 : decide (1 ≤ n) = true := by simpa using ha
      rcases Decidable.em (n ≤ 8192) with hb | hb
      · have e3 : decide (n ≤ 8192) = true := by simpa using hb
        rw [e1, e3] at H
        clear ha hb
        go_enter Try.func9, Try.ntmps9
        go_wp2
        go_ret
        exact ⟨ret_bool H.out.symm, hf⟩
      · have e3 : decide (n ≤ 8192) = false := by simpa using hb
        rw [e1, e3] at H
        clear ha hb
        go_enter Try.func9, Try.ntmps9
        go_wp2
        go_ret
        exact ⟨ret_bool H.out.symm, hf⟩
    · have e1 : decide (1 ≤ n) = false := by simpa using ha
      rw [e1, Bool.false_and] at H
      clear ha
      go_enter Try.func9, Try.ntmps9
      go_wp2
      go_ret
      exact ⟨ret_bool H.out.symm, hf⟩
  · have H := Lib.hid (rightV2_no h4)
    have e4 : (v.k == 4) = false := by simpa using h4
    clear h4
    go_enter Try.func9, Try.ntmps9
    go_wp2_with fail
    refine (refright_calls v _).mono ?_
    rintro e w2 ⟨rfl, hf2⟩
    go_wp2
    go_ret
    exact ⟨ret_bool H.out.symm, hf.tr hf2⟩
theorem vodd_calls (v : VL) (w : World) :
    Calls Try.prog 35 #[.agg #[.int .i64 v.k, .int .i64 v.n]] w fun e w' => e = .returned (.bool (!rightV2 v)) ∧ Fr No w w' := by
  have hf : Fr No w (w.alloc (.cells #[.int .i64 v.k, .int .i64 v.n] 23)) := (Fr.refl No w).alloc _
  go_enter Try.func35, Try.ntmps35
  go_wp2_with fail
  refine (vright_calls v _).mono ?_
  rintro e w2 ⟨rfl, hf2⟩
  go_wp2
  go_ret
  exact ⟨rfl, hf.tr hf2⟩
abbrev closV : Value := .func (.func 35) #[] #[]
/-- Where the first odd value stands; -1 if there is none. -/
def oddW (l : List VL) : Int := if l.findIdx (fun v => !rightV2 v) < l.length then ((l.findIdx (fun v => !rightV2 v) : Nat) : Int) else -1
theorem oddW_all (l : List VL) : decide (0 ≤ oddW l) = !(l.all rightV2) := by
  unfold oddW
  split
  · rename_i h
    have h1 := List.findIdx_getElem (w := h)
    have h2 : l.all rightV2 = false := by
      rw [List.all_eq_false]
      exact ⟨_, List.getElem_mem h, by simpa using h1⟩
    rw [h2]; simp
  · rename_i h
    have h2 : l.all rightV2 = true := by
      rw [List.all_eq_true]
      intro v hv
      have h3 : ∀ x ∈ l, (fun v => !rightV2 v) x = false := List.findIdx_eq_length.1 (by have := List.findIdx_le_length (xs := l) (p := fun v => !rightV2 v); omega)
      simpa using h3 v hv
    rw [h2]; rfl
set_option maxHeartbeats 1000000 in
set_option maxRecDepth 100000 in
theorem vindexodd_calls (S : Nat → Prop) (A : Option Addr) (c : Nat) (l : List VL) (w : World) (h : RdV w S A l) :
    Calls Try.prog 56 #[.slice A l.length c, closV] w fun e w' => e = .returned (.int .i64 (oddW l)) ∧ Fr No w w' := by
  have hle := h.le
  go_enter Try.func56, Try.ntmps56
  go_wp2_with fail
  go_loopw [8] (fun i wr => ∃ k : Nat, k ≤ l.length ∧ i = .int .i64 (k : Int) ∧ Hid (∀ i, ∀ hi : i < l.length, i < k → rightV2 l[i] = true) ∧ Fr No w wr) (fun i _ => l.length - (intOf i).toNat)
  case atStart => exact ⟨0, by omega, rfl, Lib.hid (fun i _ h => by omega), Fr.refl _ _⟩
  case round =>
    obtain ⟨k, hk, rfl, HN, hf⟩ := hrel
    by_cases hlt : k < l.length
    · have ek : decide ((k : Int) < l.length) = true := by simpa using (by omega : (k : Int) < l.length)
      obtain ⟨ga, of, rfl, _, _, _, hv'⟩ := RdV.at_ (Rd.fr0 h hf) hlt
      have HE := Lib.hid (show rightV2 l[k] = false → oddW l = (k : Int) by
        intro ht
        have hfi : l.findIdx (fun v => !rightV2 v) = k := by
          refine (List.findIdx_eq hlt).2 ⟨by rw [ht]; rfl, fun j hj => ?_⟩
          rw [HN.out j (by omega) hj]; rfl
        unfold oddW
        rw [hfi, if_pos hlt])
      have HF := Lib.hid (show rightV2 l[k] = true → ∀ i, ∀ hi : i < l.length, i < k + 1 → rightV2 l[i] = true by
        intro ht i hi hik
        rcases Nat.lt_or_ge i k with h5 | h5
        · exact HN.out i hi h5
        · obtain rfl : i = k := by omega
          exact ht)
      generalize l[k] = x at *
      unfold vcells at hv'
      go_wp2_with (first
        | (refine wpList_ldA ag_val rfl _ rfl ⟨ga, of + k * 2, none⟩ [.int .i64 x.k, .int .i64 x.n] rfl rfl hv' ?_)
        | fail)
      refine (vodd_calls x _).mono ?_
      rintro e w2 ⟨rfl, hf2⟩
      cases hg : rightV2 x with
      | false =>
        have HE' := Lib.hid (HE.out hg)
        clear hg
        simp only [Bool.not_false]
        go_wp2
        go_ret
        exact ⟨by rw [HE'.out]; rfl, hf.tr hf2⟩
      | true =>
        have HF' := Lib.hid (HF.out hg)
        clear hg
        simp only [Bool.not_true]
        go_wp2
        go_roundw
        case rel => exact ⟨k + 1, by omega, by go_num, HF', hf.tr hf2⟩
        case measure => simp [intOf]; omega
    · obtain rfl : k = l.length := by omega
      have ek : decide ((l.length : Int) < l.length) = false := by simp
      have HE := Lib.hid (show oddW l = -1 by
        unfold oddW
        rw [if_neg]
        intro hlt
        have := List.findIdx_getElem (w := hlt)
        rw [HN.out _ hlt hlt] at this
        cases this)
      go_wp2
      go_ret
      exact ⟨by rw [HE.out]; rfl, hf⟩
theorem vcontainsodd_calls (S : Nat → Prop) (A : Option Addr) (c : Nat) (l : List VL) (w : World) (h : RdV w S A l) :
    Calls Try.prog 36 #[.slice A l.length c, closV] w fun e w' => e = .returned (.bool (!(l.all rightV2))) ∧ Fr No w w' := by
  have H := Lib.hid (oddW_all l)
  go_enter Try.func36, Try.ntmps36
  go_wp2_with fail
  refine (vindexodd_calls S A c l _ h).mono ?_
  rintro e w2 ⟨rfl, hf2⟩
  go_wp2
  go_ret
  exact ⟨ret_bool H.out, hf2⟩
set_option maxHeartbeats 2000000 in
set_option maxRecDepth 100000 in
theorem vrighto_calls (S : Nat → Prop) (cs : List Value) (o : ObjM) (w : World) (h : ObjC w S cs o) :
    Calls Try.prog 10 #[.agg cs.toArray] w fun e w' => e = .returned (.bool (rightO2 o)) ∧ Fr No w w' := by
  obtain ⟨A, c, D, c2, rfl, hs, hb⟩ := h
  have g1 := plain_i64
  have g2 := plain_lval
  have g3 := plain_lu8
  have hf : Fr No w (w.alloc (.cells #[.int .i64 o.cls, .slice A o.slots.length c, .slice D o.bytes.length c2] 27)) := (Fr.refl No w).alloc _
  have hle1 := hs.le
  have hle2 := RdB.le hb
  have H : Hid (rightO2 o = (decide (1 ≤ o.cls) && decide (o.cls ≤ 8192) && decide (o.slots.length ≤ 256) && decide (o.bytes.length ≤ 1024) && o.slots.all rightV2)) := Lib.hid rfl
  by_cases h0 : 1 ≤ o.cls
  rotate_left
  · have e0 : decide (1 ≤ o.cls) = false := by simpa using h0
    have e0' : decide (1 ≤ o.cls) = false := by simpa using h0
    rw [e0'] at H
    simp only [Bool.false_and, Bool.and_false] at H
    clear h0 e0'
    go_enter Try.func10, Try.ntmps10
    go_wp2
    go_ret
    exact ⟨ret_bool H.out.symm, hf⟩
  have e0 : decide (1 ≤ o.cls) = true := by simpa using h0
  have e0' : decide (1 ≤ o.cls) = true := by simpa using h0
  rw [e0'] at H
  simp only [Bool.true_and] at H
  clear e0'
  by_cases h1 : o.cls ≤ 8192
  rotate_left
  · have e1 : decide (o.cls ≤ 8192) = false := by simpa using h1
    have e1' : decide (o.cls ≤ 8192) = false := by simpa using h1
    rw [e1'] at H
    simp only [Bool.false_and, Bool.and_false] at H
    clear h1 e1'
    go_enter Try.func10, Try.ntmps10
    go_wp2
    go_ret
    exact ⟨ret_bool H.out.symm, hf⟩
  have e1 : decide (o.cls ≤ 8192) = true := by simpa using h1
  have e1' : decide (o.cls ≤ 8192) = true := by simpa using h1
  rw [e1'] at H
  simp only [Bool.true_and] at H
  clear e1'
  by_cases h2 : o.slots.length ≤ 256
  rotate_left
  · have e2 : decide ((o.slots.length : Int) ≤ 256) = false := by simp; omega
    have e2' : decide (o.slots.length ≤ 256) = false := by simpa using h2
    rw [e2'] at H
    simp only [Bool.false_and, Bool.and_false] at H
    clear h2 e2'
    go_enter Try.func10, Try.ntmps10
    go_wp2
    go_ret
    exact ⟨ret_bool H.out.symm, hf⟩
  have e2 : decide ((o.slots.length : Int) ≤ 256) = true := by simp; omega
  have e2' : decide (o.slots.length ≤ 256) = true := by simpa using h2
  rw [e2'] at H
  simp only [Bool.true_and] at H
  clear e2'
  by_cases h3 : o.bytes.length ≤ 1024
  rotate_left
  · have e3 : decide ((o.bytes.length : Int) ≤ 1024) = false := by simp; omega
    have e3' : decide (o.bytes.length ≤ 1024) = false := by simpa using h3
    rw [e3'] at H
    simp only [Bool.false_and, Bool.and_false] at H
    clear h3 e3'
    go_enter Try.func10, Try.ntmps10
    go_wp2
    go_ret
    exact ⟨ret_bool H.out.symm, hf⟩
  have e3 : decide ((o.bytes.length : Int) ≤ 1024) = true := by simp; omega
  have e3' : decide (o.bytes.length ≤ 1024) = true := by simpa using h3
  rw [e3'] at H
  simp only [Bool.true_and] at H
  clear e3'
  go_enter Try.func10, Try.ntmps10
  go_wp2_with fail
  refine (vcontainsodd_calls S A c o.slots _ (Rd.fr0 hs hf)).mono ?_
  rintro e w2 ⟨rfl, hf2⟩
  go_wp2
  go_ret
  exact ⟨ret_bool (by rw [H.out]), hf.tr hf2⟩
set_option maxHeartbeats 2000000 in
set_option maxRecDepth 100000 in
theorem rvrighto_calls (S : Nat → Prop) (cs : List Value) (o : ObjM) (w : World) (h : ObjC w S cs o) :
    Calls Try.prog 11 #[.agg cs.toArray] w fun e w' => e = .returned (.bool (rightO2 o)) ∧ Fr No w w' := by
  obtain ⟨A, c, D, c2, rfl, hs, hb⟩ := h
  have g1 := plain_i64
  have g2 := plain_lval
  have g3 := plain_lu8
  have hf : Fr No w (w.alloc (.cells #[.int .i64 o.cls, .slice A o.slots.length c, .slice D o.bytes.length c2] 27)) := (Fr.refl No w).alloc _
  have hle1 := hs.le
  have hle2 := RdB.le hb
  have hbx := Blk.new w 27 #[.int .i64 o.cls, .slice A o.slots.length c, .slice D o.bytes.length c2]
  have H : Hid (rightO2 o = (decide (1 ≤ o.cls) && decide (o.cls ≤ 8192) && decide (o.slots.length ≤ 256) && decide (o.bytes.length ≤ 1024) && o.slots.all rightV2)) := Lib.hid rfl
  by_cases h0 : 1 ≤ o.cls
  rotate_left
  · have e0 : decide (o.cls < 1) = true := by simpa using h0
    have e0' : decide (1 ≤ o.cls) = false := by simpa using h0
    rw [e0'] at H
    simp only [Bool.false_and] at H
    clear h0 e0'
    go_enter Try.func11, Try.ntmps11
    go_wp2
    go_ret
    exact ⟨ret_bool H.out.symm, hf⟩
  have e0 : decide (o.cls < 1) = false := by simpa using h0
  have e0' : decide (1 ≤ o.cls) = true := by simpa using h0
  rw [e0'] at H
  simp only [Bool.true_and] at H
  clear e0' h0
  by_cases h1 : o.cls ≤ 8192
  rotate_left
  · have e1 : decide (8192 < o.cls) = true := by simpa using h1
    have e1' : decide (o.cls ≤ 8192) = false := by simpa using h1
    rw [e1'] at H
    simp only [Bool.false_and] at H
    clear h1 e1'
    go_enter Try.func11, Try.ntmps11
    go_wp2
    go_ret
    exact ⟨ret_bool H.out.symm, hf⟩
  have e1 : decide (8192 < o.cls) = false := by simpa using h1
  have e1' : decide (o.cls ≤ 8192) = true := by simpa using h1
  rw [e1'] at H
  simp only [Bool.true_and] at H
  clear e1' h1
  by_cases h2 : o.slots.length ≤ 256
  rotate_left
  · have e2 : decide ((256 : Int) < o.slots.length) = true := by simp; omega
    have e2' : decide (o.slots.length ≤ 256) = false := by simpa using h2
    rw [e2'] at H
    simp only [Bool.false_and] at H
    clear h2 e2'
    go_enter Try.func11, Try.ntmps11
    go_wp2
    go_ret
    exact ⟨ret_bool H.out.symm, hf⟩
  have e2 : decide ((256 : Int) < o.slots.length) = false := by simp; omega
  have e2' : decide (o.slots.length ≤ 256) = true := by simpa using h2
  rw [e2', Bool.true_and] at H
  clear e2'
  by_cases h3 : o.bytes.length ≤ 1024
  rotate_left
  · have e3 : decide ((1024 : Int) < o.bytes.length) = true := by simp; omega
    have e3' : decide (o.bytes.length ≤ 1024) = false := by simpa using h3
    rw [e3'] at H
    simp only [Bool.false_and] at H
    clear h3 e3'
    go_enter Try.func11, Try.ntmps11
    go_wp2
    go_ret
    exact ⟨ret_bool H.out.symm, hf⟩
  have e3 : decide ((1024 : Int) < o.bytes.length) = false := by simp; omega
  have e3' : decide (o.bytes.length ≤ 1024) = true := by simpa using h3
  rw [e3', Bool.true_and] at H
  clear e3'
  go_enter Try.func11, Try.ntmps11
  go_wp2_with fail
  generalize hw1 : w.alloc (.cells #[.int .i64 o.cls, .slice A o.slots.length c, .slice D o.bytes.length c2] 27) = w1 at *
  clear hw1
  have hs1 := Rd.fr0 hs hf
  go_loopw [3] (fun i wr => ∃ k : Nat, k ≤ o.slots.length ∧ i = .int .i64 (k : Int) ∧ Hid (∀ i, ∀ hi : i < o.slots.length, i < k → rightV2 o.slots[i] = true) ∧ Fr No w1 wr) (fun i _ => o.slots.length - (intOf i).toNat)
  case atStart => exact ⟨0, by omega, rfl, Lib.hid (fun i _ h => by omega), Fr.refl _ _⟩
  case round =>
    obtain ⟨k, hk, rfl, HN, hfr⟩ := hrel
    have q1 := (hbx.fr0 hfr).cell 1
    simp only [List.getElem?_toArray, List.getElem?_cons_zero, List.getElem?_cons_succ] at q1
    by_cases hlt : k < o.slots.length
    · have ek : decide ((k : Int) < o.slots.length) = true := by simpa using (by omega : (k : Int) < o.slots.length)
      obtain ⟨ga, of, rfl, _, _, _, hv'⟩ := RdV.at_ (Rd.fr0 hs1 hfr) hlt
      have HE := Lib.hid (show rightV2 o.slots[k] = false → rightO2 o = false from fun ht => by
        rw [H.out, List.all_eq_false]
        exact ⟨_, List.getElem_mem hlt, by rw [ht]; simp⟩)
      have HF := Lib.hid (show rightV2 o.slots[k] = true → ∀ i, ∀ hi : i < o.slots.length, i < k + 1 → rightV2 o.slots[i] = true by
        intro ht i hi hik
        rcases Nat.lt_or_ge i k with h5 | h5
        · exact HN.out i hi h5
        · obtain rfl : i = k := by omega
          exact ht)
      generalize o.slots[k] = x at *
      unfold vcells at hv'
      go_wp2_with (first
        | (refine wpList_ldA ag_val rfl _ rfl ⟨ga, of + k * 2, none⟩ [.int .i64 x.k, .int .i64 x.n] rfl rfl hv' ?_)
        | fail)
      refine (rvright_calls x _).mono ?_
      rintro e w2 ⟨rfl, hf2⟩
      cases hg : rightV2 x with
      | false =>
        have HE' := Lib.hid (HE.out hg)
        clear hg
        go_wp2
        go_ret
        exact ⟨ret_bool HE'.out.symm, hf.tr (hfr.tr hf2)⟩
      | true =>
        have HF' := Lib.hid (HF.out hg)
        clear hg
        go_wp2
        go_roundw
        case rel => exact ⟨k + 1, by omega, by go_num, HF', hfr.tr hf2⟩
        case measure => simp [intOf]; omega
    · obtain rfl : k = o.slots.length := by omega
      have ek : decide ((o.slots.length : Int) < o.slots.length) = false := by simp
      have HE := Lib.hid (show rightO2 o = true by
        rw [H.out, List.all_eq_true]
        intro v hv
        obtain ⟨i, hi, rfl⟩ := List.mem_iff_getElem.1 hv
        exact HN.out i hi hi)
      go_wp2
      go_ret
      exact ⟨ret_bool HE.out.symm, hf.tr hfr⟩
end Go.Proofs.Ytoajigghkjnffaa
