/- What can be in a view: view's Right and RightObj, and the reference's. Written by genvright.py. No condition. Views in memory; New, Read, Base, wrong. No condition but size. view.Read, wrong. No condition but size. view.Peek, Get. No condition but size. view.wrong: why an object can not be in a view. The walk of ContainsFunc is XRightO's, with another closure. No condition. view.Get, Put, Make. No condition but size. view.Make. No condition but size. lapidarylaw12.known. No condition. What was put last is told, plainly. No condition. -/
import Derived.Test.YtoajigghkjnffaaJRViewCopiesp2
import Derived.Test.YtoajigghkjnffaaJRViewCopiesp4
namespace Go.Proofs.Ytoajigghkjnffaa
set_option linter.unusedVariables false
set_option linter.unusedSimpArgs false
open Go.RowKit

def oopB2 (n : Int) : Bool := decide (1 ≤ n) && decide (n ≤ 8192)
def rightV2 (v : VL) : Bool := if v.k = 4 then oopB2 v.n else rightV v
def rightO2 (o : ObjM) : Bool := oopB2 o.cls && decide (o.slots.length ≤ 256) && decide (o.bytes.length ≤ 1024) && o.slots.all rightV2
theorem oopB2_of {n : Int} (h : oopB n = true) : oopB2 n = true := by
  unfold oopB at h; unfold oopB2
  simp only [Bool.and_eq_true, decide_eq_true_eq] at h ⊢
  omega
theorem rightV2_of {v : VL} (h : rightV v = true) : rightV2 v = true := by
  unfold rightV2
  split
  · rename_i h4
    obtain ⟨k, n⟩ := v
    simp only at h4
    subst h4
    rw [rightV_ref] at h
    exact oopB2_of h
  · exact h
theorem rightO2_of {o : ObjM} (h : rightO o = true) : rightO2 o = true := by
  unfold rightO at h; unfold rightO2
  simp only [Bool.and_eq_true, decide_eq_true_eq] at h ⊢
  obtain ⟨⟨⟨h1, h2⟩, h3⟩, h4⟩ := h
  refine ⟨⟨⟨oopB2_of h1, h2⟩, h3⟩, ?_⟩
  rw [List.all_eq_true] at h4 ⊢
  exact fun x hx => rightV2_of (h4 x hx)
theorem rightV2_ref (n : Int) : rightV2 ⟨4, n⟩ = oopB2 n := by unfold rightV2; simp only; rw [if_pos trivial]
theorem rightV2_no {v : VL} (h : ¬ v.k = 4) : rightV2 v = rightV v := by unfold rightV2; rw [if_neg h]

set_option maxHeartbeats 1000000 in
set_option maxRecDepth 100000 in
theorem vright_calls (v : VL) (w : World) :
    Calls Try.prog 8 #[.agg #[.int .i64 v.k, .int .i64 v.n]] w fun e w' => e = .returned (.bool (rightV2 v)) ∧ Fr No w w' := by
  have hf : Fr No w (w.alloc (.cells #[.int .i64 v.k, .int .i64 v.n] 23)) := (Fr.refl No w).alloc _
  by_cases h4 : v.k = 4
  · obtain ⟨k, n⟩ := v
    simp only at h4 hf
    subst h4
    have H := Lib.hid (rightV2_ref n)
    unfold oopB2 at H
    simp only
    by_cases ha : 1 ≤ n
    · have e1 : decide (1 ≤ n) = true := by simpa using ha
      rcases Decidable.em (n ≤ 8192) with hb | hb
      · have e3 : decide (n ≤ 8192) = true := by simpa using hb
        rw [e1, e3] at H
        clear ha hb
        go_enter Try.func8, Try.ntmps8
        go_wp2
        go_ret
        exact ⟨ret_bool H.out.symm, hf⟩
      · have e3 : decide (n ≤ 8192) = false := by simpa using hb
        rw [e1, e3] at H
        clear ha hb
        go_enter Try.func8, Try.ntmps8
        go_wp2
        go_ret
        exact ⟨ret_bool H.out.symm, hf⟩
    · have e1 : decide (1 ≤ n) = false := by simpa using ha
      rw [e1, Bool.false_and] at H
      clear ha
      go_enter Try.func8, Try.ntmps8
      go_wp2
      go_ret
      exact ⟨ret_bool H.out.symm, hf⟩
  · have H := Lib.hid (rightV2_no h4)
    have e4 : (v.k == 4) = false := by simpa using h4
    clear h4
    go_enter Try.func8, Try.ntmps8
    go_wp2_with fail
    refine (right_calls v _).mono ?_
    rintro e w2 ⟨rfl, hf2⟩
    go_wp2
    go_ret
    exact ⟨ret_bool H.out.symm, hf.tr hf2⟩

set_option maxHeartbeats 1000000 in
set_option maxRecDepth 100000 in
theorem rvright_calls (v : VL) (w : World) :
    Calls Try.prog 9 #[.agg #[.int .i64 v.k, .int .i64 v.n]] w fun e w' => e = .returned (.bool (rightV2 v)) ∧ Fr No w w' := by
  have hf : Fr No w (w.alloc (.cells #[.int .i64 v.k, .int .i64 v.n] 23)) := (Fr.refl No w).alloc _
  by_cases h4 : v.k = 4
  · obtain ⟨k, n⟩ := v
    simp only at h4 hf
    subst h4
    have H := Lib.hid (rightV2_ref n)
    unfold oopB2 at H
    simp only
    by_cases ha : 1 ≤ n
    · have e1 : decide (1 ≤ n) = true := by simpa using ha
      rcases Decidable.em (n ≤ 8192) with hb | hb
      · have e3 : decide (n ≤ 8192) = true := by simpa using hb
        rw [e1, e3] at H
        clear ha hb
        go_enter Try.func9, Try.ntmps9
        go_wp2
        go_ret
        exact ⟨ret_bool H.out.symm, hf⟩
      · have e3 : decide (n ≤ 8192) = false := by simpa using hb
        rw [e1, e3] at H
        clear ha hb
        go_enter Try.func9, Try.ntmps9
        go_wp2
        go_ret
        exact ⟨ret_bool H.out.symm, hf⟩
    · have e1 : decide (1 ≤ n) = false := by simpa using ha
      rw [e1, Bool.false_and] at H
      clear ha
      go_enter Try.func9, Try.ntmps9
      go_wp2
      go_ret
      exact ⟨ret_bool H.out.symm, hf⟩
  · have H := Lib.hid (rightV2_no h4)
    have e4 : (v.k == 4) = false := by simpa using h4
    clear h4
    go_enter Try.func9, Try.ntmps9
    go_wp2_with fail
    refine (refright_calls v _).mono ?_
    rintro e w2 ⟨rfl, hf2⟩
    go_wp2
    go_ret
    exact ⟨ret_bool H.out.symm, hf.tr hf2⟩
theorem vodd_calls (v : VL) (w : World) :
    Calls Try.prog 35 #[.agg #[.int .i64 v.k, .int .i64 v.n]] w fun e w' => e = .returned (.bool (!rightV2 v)) ∧ Fr No w w' := by
  have hf : Fr No w (w.alloc (.cells #[.int .i64 v.k, .int .i64 v.n] 23)) := (Fr.refl No w).alloc _
  go_enter Try.func35, Try.ntmps35
  go_wp2_with fail
  refine (vright_calls v _).mono ?_
  rintro e w2 ⟨rfl, hf2⟩
  go_wp2
  go_ret
  exact ⟨rfl, hf.tr hf2⟩
abbrev closV : Value := .func (.func 35) #[] #[]
/-- Where the first odd value stands; -1 if there is none. -/
def oddW (l : List VL) : Int := if l.findIdx (fun v => !rightV2 v) < l.length then ((l.findIdx (fun v => !rightV2 v) : Nat) : Int) else -1
theorem oddW_all (l : List VL) : decide (0 ≤ oddW l) = !(l.all rightV2) := by
  unfold oddW
  split
  · rename_i h
    have h1 := List.findIdx_getElem (w := h)
    have h2 : l.all rightV2 = false := by
      rw [List.all_eq_false]
      exact ⟨_, List.getElem_mem h, by simpa using h1⟩
    rw [h2]; simp
  · rename_i h
    have h2 : l.all rightV2 = true := by
      rw [List.all_eq_true]
      intro v hv
      have h3 : ∀ x ∈ l, (fun v => !rightV2 v) x = false := List.findIdx_eq_length.1 (by have := List.findIdx_le_length (xs := l) (p := fun v => !rightV2 v); omega)
      simpa using h3 v hv
    rw [h2]; rfl
set_option maxHeartbeats 1000000 in
set_option maxRecDepth 100000 in
theorem vindexodd_calls (S : Nat → Prop) (A : Option Addr) (c : Nat) (l : List VL) (w : World) (h : RdV w S A l) :
    Calls Try.prog 56 #[.slice A l.length c, closV] w fun e w' => e = .returned (.int .i64 (oddW l)) ∧ Fr No w w' := by
  have hle := h.le
  go_enter Try.func56, Try.ntmps56
  go_wp2_with fail
  go_loopw [8] (fun i wr => ∃ k : Nat, k ≤ l.length ∧ i = .int .i64 (k : Int) ∧ Hid (∀ i, ∀ hi : i < l.length, i < k → rightV2 l[i] = true) ∧ Fr No w wr) (fun i _ => l.length - (intOf i).toNat)
  case atStart => exact ⟨0, by omega, rfl, Lib.hid (fun i _ h => by omega), Fr.refl _ _⟩
  case round =>
    obtain ⟨k, hk, rfl, HN, hf⟩ := hrel
    by_cases hlt : k < l.length
    · have ek : decide ((k : Int) < l.length) = true := by simpa using (by omega : (k : Int) < l.length)
      obtain ⟨ga, of, rfl, _, _, _, hv'⟩ := RdV.at_ (Rd.fr0 h hf) hlt
      have HE := Lib.hid (show rightV2 l[k] = false → oddW l = (k : Int) by
        intro ht
        have hfi : l.findIdx (fun v => !rightV2 v) = k := by
          refine (List.findIdx_eq hlt).2 ⟨by rw [ht]; rfl, fun j hj => ?_⟩
          rw [HN.out j (by omega) hj]; rfl
        unfold oddW
        rw [hfi, if_pos hlt])
      have HF := Lib.hid (show rightV2 l[k] = true → ∀ i, ∀ hi : i < l.length, i < k + 1 → rightV2 l[i] = true by
        intro ht i hi hik
        rcases Nat.lt_or_ge i k with h5 | h5
        · exact HN.out i hi h5
        · obtain rfl : i = k := by omega
          exact ht)
      generalize l[k] = x at *
      unfold vcells at hv'
      go_wp2_with (first
        | (refine wpList_ldA ag_val rfl _ rfl ⟨ga, of + k * 2, none⟩ [.int .i64 x.k, .int .i64 x.n] rfl rfl hv' ?_)
        | fail)
      refine (vodd_calls x _).mono ?_
      rintro e w2 ⟨rfl, hf2⟩
      cases hg : rightV2 x with
      | false =>
        have HE' := Lib.hid (HE.out hg)
        clear hg
        simp only [Bool.not_false]
        go_wp2
        go_ret
        exact ⟨by rw [HE'.out]; rfl, hf.tr hf2⟩
      | true =>
        have HF' := Lib.hid (HF.out hg)
        clear hg
        simp only [Bool.not_true]
        go_wp2
        go_roundw
        case rel => exact ⟨k + 1, by omega, by go_num, HF', hf.tr hf2⟩
        case measure => simp [intOf]; omega
    · obtain rfl : k = l.length := by omega
      have ek : decide ((l.length : Int) < l.length) = false := by simp
      have HE := Lib.hid (show oddW l = -1 by
        unfold oddW
        rw [if_neg]
        intro hlt
        have := List.findIdx_getElem (w := hlt)
        rw [HN.out _ hlt hlt] at this
        cases this)
      go_wp2
      go_ret
      exact ⟨by rw [HE.out]; rfl, hf⟩
theorem vcontainsodd_calls (S : Nat → Prop) (A : Option Addr) (c : Nat) (l : List VL) (w : World) (h : RdV w S A l) :
    Calls Try.prog 36 #[.slice A l.length c, closV] w fun e w' => e = .returned (.bool (!(l.all rightV2))) ∧ Fr No w w' := by
  have H := Lib.hid (oddW_all l)
  go_enter Try.func36, Try.ntmps36
  go_wp2_with fail
  refine (vindexodd_calls S A c l _ h).mono ?_
  rintro e w2 ⟨rfl, hf2⟩
  go_wp2
  go_ret
  exact ⟨ret_bool H.out, hf2⟩
set_option maxHeartbeats 2000000 in
set_option maxRecDepth 100000 in
theorem vrighto_calls (S : Nat → Prop) (cs : List Value) (o : ObjM) (w : World) (h : ObjC w S cs o) :
    Calls Try.prog 10 #[.agg cs.toArray] w fun e w' => e = .returned (.bool (rightO2 o)) ∧ Fr No w w' := by
  obtain ⟨A, c, D, c2, rfl, hs, hb⟩ := h
  have g1 := plain_i64
  have g2 := plain_lval
  have g3 := plain_lu8
  have hf : Fr No w (w.alloc (.cells #[.int .i64 o.cls, .slice A o.slots.length c, .slice D o.bytes.length c2] 27)) := (Fr.refl No w).alloc _
  have hle1 := hs.le
  have hle2 := RdB.le hb
  have H : Hid (rightO2 o = (decide (1 ≤ o.cls) && decide (o.cls ≤ 8192) && decide (o.slots.length ≤ 256) && decide (o.bytes.length ≤ 1024) && o.slots.all rightV2)) := Lib.hid rfl
  by_cases h0 : 1 ≤ o.cls
  rotate_left
  · have e0 : decide (1 ≤ o.cls) = false := by simpa using h0
    have e0' : decide (1 ≤ o.cls) = false := by simpa using h0
    rw [e0'] at H
    simp only [Bool.false_and, Bool.and_false] at H
    clear h0 e0'
    go_enter Try.func10, Try.ntmps10
    go_wp2
    go_ret
    exact ⟨ret_bool H.out.symm, hf⟩
  have e0 : decide (1 ≤ o.cls) = true := by simpa using h0
  have e0' : decide (1 ≤ o.cls) = true := by simpa using h0
  rw [e0'] at H
  simp only [Bool.true_and] at H
  clear e0'
  by_cases h1 : o.cls ≤ 8192
  rotate_left
  · have e1 : decide (o.cls ≤ 8192) = false := by simpa using h1
    have e1' : decide (o.cls ≤ 8192) = false := by simpa using h1
    rw [e1'] at H
    simp only [Bool.false_and, Bool.and_false] at H
    clear h1 e1'
    go_enter Try.func10, Try.ntmps10
    go_wp2
    go_ret
    exact ⟨ret_bool H.out.symm, hf⟩
  have e1 : decide (o.cls ≤ 8192) = true := by simpa using h1
  have e1' : decide (o.cls ≤ 8192) = true := by simpa using h1
  rw [e1'] at H
  simp only [Bool.true_and] at H
  clear e1'
  by_cases h2 : o.slots.length ≤ 256
  rotate_left
  · have e2 : decide ((o.slots.length : Int) ≤ 256) = false := by simp; omega
    have e2' : decide (o.slots.length ≤ 256) = false := by simpa using h2
    rw [e2'] at H
    simp only [Bool.false_and, Bool.and_false] at H
    clear h2 e2'
    go_enter Try.func10, Try.ntmps10
    go_wp2
    go_ret
    exact ⟨ret_bool H.out.symm, hf⟩
  have e2 : decide ((o.slots.length : Int) ≤ 256) = true := by simp; omega
  have e2' : decide (o.slots.length ≤ 256) = true := by simpa using h2
  rw [e2'] at H
  simp only [Bool.true_and] at H
  clear e2'
  by_cases h3 : o.bytes.length ≤ 1024
  rotate_left
  · have e3 : decide ((o.bytes.length : Int) ≤ 1024) = false := by simp; omega
    have e3' : decide (o.bytes.length ≤ 1024) = false := by simpa using h3
    rw [e3'] at H
    simp only [Bool.false_and, Bool.and_false] at H
    clear h3 e3'
    go_enter Try.func10, Try.ntmps10
    go_wp2
    go_ret
    exact ⟨ret_bool H.out.symm, hf⟩
  have e3 : decide ((o.bytes.length : Int) ≤ 1024) = true := by simp; omega
  have e3' : decide (o.bytes.length ≤ 1024) = true := by simpa using h3
  rw [e3'] at H
  simp only [Bool.true_and] at H
  clear e3'
  go_enter Try.func10, Try.ntmps10
  go_wp2_with fail
  refine (vcontainsodd_calls S A c o.slots _ (Rd.fr0 hs hf)).mono ?_
  rintro e w2 ⟨rfl, hf2⟩
  go_wp2
  go_ret
  exact ⟨ret_bool (by rw [H.out]), hf.tr hf2⟩
set_option maxHeartbeats 2000000 in
set_option maxRecDepth 100000 in
theorem rvrighto_calls (S : Nat → Prop) (cs : List Value) (o : ObjM) (w : World) (h : ObjC w S cs o) :
    Calls Try.prog 11 #[.agg cs.toArray] w fun e w' => e = .returned (.bool (rightO2 o)) ∧ Fr No w w' := by
  obtain ⟨A, c, D, c2, rfl, hs, hb⟩ := h
  have g1 := plain_i64
  have g2 := plain_lval
  have g3 := plain_lu8
  have hf : Fr No w (w.alloc (.cells #[.int .i64 o.cls, .slice A o.slots.length c, .slice D o.bytes.length c2] 27)) := (Fr.refl No w).alloc _
  have hle1 := hs.le
  have hle2 := RdB.le hb
  have hbx := Blk.new w 27 #[.int .i64 o.cls, .slice A o.slots.length c, .slice D o.bytes.length c2]
  have H : Hid (rightO2 o = (decide (1 ≤ o.cls) && decide (o.cls ≤ 8192) && decide (o.slots.length ≤ 256) && decide (o.bytes.length ≤ 1024) && o.slots.all rightV2)) := Lib.hid rfl
  by_cases h0 : 1 ≤ o.cls
  rotate_left
  · have e0 : decide (o.cls < 1) = true := by simpa using h0
    have e0' : decide (1 ≤ o.cls) = false := by simpa using h0
    rw [e0'] at H
    simp only [Bool.false_and] at H
    clear h0 e0'
    go_enter Try.func11, Try.ntmps11
    go_wp2
    go_ret
    exact ⟨ret_bool H.out.symm, hf⟩
  have e0 : decide (o.cls < 1) = false := by simpa using h0
  have e0' : decide (1 ≤ o.cls) = true := by simpa using h0
  rw [e0'] at H
  simp only [Bool.true_and] at H
  clear e0' h0
  by_cases h1 : o.cls ≤ 8192
  rotate_left
  · have e1 : decide (8192 < o.cls) = true := by simpa using h1
    have e1' : decide (o.cls ≤ 8192) = false := by simpa using h1
    rw [e1'] at H
    simp only [Bool.false_and] at H
    clear h1 e1'
    go_enter Try.func11, Try.ntmps11
    go_wp2
    go_ret
    exact ⟨ret_bool H.out.symm, hf⟩
  have e1 : decide (8192 < o.cls) = false := by simpa using h1
  have e1' : decide (o.cls ≤ 8192) = true := by simpa using h1
  rw [e1'] at H
  simp only [Bool.true_and] at H
  clear e1' h1
  by_cases h2 : o.slots.length ≤ 256
  rotate_left
  · have e2 : decide ((256 : Int) < o.slots.length) = true := by simp; omega
    have e2' : decide (o.slots.length ≤ 256) = false := by simpa using h2
    rw [e2'] at H
    simp only [Bool.false_and] at H
    clear h2 e2'
    go_enter Try.func11, Try.ntmps11
    go_wp2
    go_ret
    exact ⟨ret_bool H.out.symm, hf⟩
  have e2 : decide ((256 : Int) < o.slots.length) = false := by simp; omega
  have e2' : decide (o.slots.length ≤ 256) = true := by simpa using h2
  rw [e2', Bool.true_and] at H
  clear e2'
  by_cases h3 : o.bytes.length ≤ 1024
  rotate_left
  · have e3 : decide ((1024 : Int) < o.bytes.length) = true := by simp; omega
    have e3' : decide (o.bytes.length ≤ 1024) = false := by simpa using h3
    rw [e3'] at H
    simp only [Bool.false_and] at H
    clear h3 e3'
    go_enter Try.func11, Try.ntmps11
    go_wp2
    go_ret
    exact ⟨ret_bool H.out.symm, hf⟩
  have e3 : decide ((1024 : Int) < o.bytes.length) = false := by simp; omega
  have e3' : decide (o.bytes.length ≤ 1024) = true := by simpa using h3
  rw [e3', Bool.true_and] at H
  clear e3'
  go_enter Try.func11, Try.ntmps11
  go_wp2_with fail
  generalize hw1 : w.alloc (.cells #[.int .i64 o.cls, .slice A o.slots.length c, .slice D o.bytes.length c2] 27) = w1 at *
  clear hw1
  have hs1 := Rd.fr0 hs hf
  go_loopw [3] (fun i wr => ∃ k : Nat, k ≤ o.slots.length ∧ i = .int .i64 (k : Int) ∧ Hid (∀ i, ∀ hi : i < o.slots.length, i < k → rightV2 o.slots[i] = true) ∧ Fr No w1 wr) (fun i _ => o.slots.length - (intOf i).toNat)
  case atStart => exact ⟨0, by omega, rfl, Lib.hid (fun i _ h => by omega), Fr.refl _ _⟩
  case round =>
    obtain ⟨k, hk, rfl, HN, hfr⟩ := hrel
    have q1 := (hbx.fr0 hfr).cell 1
    simp only [List.getElem?_toArray, List.getElem?_cons_zero, List.getElem?_cons_succ] at q1
    by_cases hlt : k < o.slots.length
    · have ek : decide ((k : Int) < o.slots.length) = true := by simpa using (by omega : (k : Int) < o.slots.length)
      obtain ⟨ga, of, rfl, _, _, _, hv'⟩ := RdV.at_ (Rd.fr0 hs1 hfr) hlt
      have HE := Lib.hid (show rightV2 o.slots[k] = false → rightO2 o = false from fun ht => by
        rw [H.out, List.all_eq_false]
        exact ⟨_, List.getElem_mem hlt, by rw [ht]; simp⟩)
      have HF := Lib.hid (show rightV2 o.slots[k] = true → ∀ i, ∀ hi : i < o.slots.length, i < k + 1 → rightV2 o.slots[i] = true by
        intro ht i hi hik
        rcases Nat.lt_or_ge i k with h5 | h5
        · exact HN.out i hi h5
        · obtain rfl : i = k := by omega
          exact ht)
      generalize o.slots[k] = x at *
      unfold vcells at hv'
      go_wp2_with (first
        | (refine wpList_ldA ag_val rfl _ rfl ⟨ga, of + k * 2, none⟩ [.int .i64 x.k, .int .i64 x.n] rfl rfl hv' ?_)
        | fail)
      refine (rvright_calls x _).mono ?_
      rintro e w2 ⟨rfl, hf2⟩
      cases hg : rightV2 x with
      | false =>
        have HE' := Lib.hid (HE.out hg)
        clear hg
        go_wp2
        go_ret
        exact ⟨ret_bool HE'.out.symm, hf.tr (hfr.tr hf2)⟩
      | true =>
        have HF' := Lib.hid (HF.out hg)
        clear hg
        go_wp2
        go_roundw
        case rel => exact ⟨k + 1, by omega, by go_num, HF', hfr.tr hf2⟩
        case measure => simp [intOf]; omega
    · obtain rfl : k = o.slots.length := by omega
      have ek : decide ((o.slots.length : Int) < o.slots.length) = false := by simp
      have HE := Lib.hid (show rightO2 o = true by
        rw [H.out, List.all_eq_true]
        intro v hv
        obtain ⟨i, hi, rfl⟩ := List.mem_iff_getElem.1 hv
        exact HN.out i hi hi)
      go_wp2
      go_ret
      exact ⟨ret_bool HE.out.symm, hf.tr hfr⟩
end Go.Proofs.Ytoajigghkjnffaa
namespace Go.Proofs.Ytoajigghkjnffaa
set_option linter.unusedVariables false
set_option linter.unusedSimpArgs false
open Go.RowKit

structure ViewM where
  base : Int
  own : Int → Option ObjM
  read : Int → Bool
  made : Int
  n : Nat
/-- What a view keeps to. -/
def ViewOk (v : ViewM) : Prop := 0 ≤ v.made ∧ v.made ≤ 4096 ∧ ∀ x o, v.own x = some o → o.slots.length ≤ 256 ∧ o.bytes.length ≤ 1024
theorem plain_mobj : ∀ w, (isAgg 79).run Try.prog w = .ok false w := plain_of Try.underlying79 rfl
theorem plain_mbool : ∀ w, (isAgg 80).run Try.prog w = .ok false w := plain_of Try.underlying80 rfl
theorem plain_ptab : ∀ w, (isAgg 33).run Try.prog w = .ok false w := plain_of Try.underlying33 rfl
theorem zero_obj (w : World) : (zeroValue 27).run Try.prog w = .ok (.agg #[.int .i64 0, .slice none 0 0, .slice none 0 0]) w := by kernel_rfl
structure ViewP (w : World) (V O : Nat → Prop) (q p ob rb : Nat) (f g : Int → Option Value) (v : ViewM) : Prop where
  blk : Blk w q 82 #[.pointer (some ⟨p, 0, none⟩), .int .i64 v.base, .map (some ob), .map (some rb), .int .i64 v.made]
  own : MapV w ob v.n f
  rd : MapV w rb v.n g
  objs : ∀ x, W64 x → (f x = none ∧ v.own x = none) ∨ ∃ cs o, f x = some (.agg (List.toArray cs)) ∧ v.own x = some o ∧ ObjC w O cs o
  reads : ∀ x, W64 x → g x = if v.read x = true then some (.bool true) else none
  inV : V q ∧ V ob ∧ V rb ∧ q ≠ ob ∧ q ≠ rb ∧ ob ≠ rb
  off : ∀ b, V b → b < w.heap.size ∧ ¬ O b
  offO : ∀ b, O b → b < w.heap.size
def ViewAt (w : World) (V O : Nat → Prop) (q p : Nat) (v : ViewM) : Prop := ∃ ob rb f g, ViewP w V O q p ob rb f g v
theorem ViewP.fr {w w' : World} {S V O : Nat → Prop} {q p ob rb : Nat} {f g : Int → Option Value} {v : ViewM} (h : ViewP w V O q p ob rb f g v) (hf : Fr S w w') (h1 : ∀ b, V b → ¬ S b) (h2 : ∀ b, O b → ¬ S b) : ViewP w' V O q p ob rb f g v where
  blk := h.blk.fr hf (h1 _ h.inV.1)
  own := h.own.fr hf (h1 _ h.inV.2.1)
  rd := h.rd.fr hf (h1 _ h.inV.2.2.1)
  objs := fun x hx => by
    rcases h.objs x hx with h3 | ⟨cs, o, e1, e2, e3⟩
    · exact .inl h3
    · exact .inr ⟨cs, o, e1, e2, e3.keep hf h2⟩
  reads := h.reads
  inV := h.inV
  off := fun b hb => ⟨Nat.lt_of_lt_of_le (h.off b hb).1 hf.size, (h.off b hb).2⟩
  offO := fun b hb => Nat.lt_of_lt_of_le (h.offO b hb) hf.size
theorem ViewAt.fr {w w' : World} {S V O : Nat → Prop} {q p : Nat} {v : ViewM} (h : ViewAt w V O q p v) (hf : Fr S w w') (h1 : ∀ b, V b → ¬ S b) (h2 : ∀ b, O b → ¬ S b) : ViewAt w' V O q p v := by
  obtain ⟨ob, rb, f, g, hP⟩ := h
  exact ⟨ob, rb, f, g, hP.fr hf h1 h2⟩
theorem ViewAt.fr0 {w w' : World} {V O : Nat → Prop} {q p : Nat} {v : ViewM} (h : ViewAt w V O q p v) (hf : Fr No w w') : ViewAt w' V O q p v := h.fr hf (fun _ _ hn => hn) (fun _ _ hn => hn)
theorem ViewAt.lt {w : World} {V O : Nat → Prop} {q p : Nat} {v : ViewM} (h : ViewAt w V O q p v) : (∀ b, V b → b < w.heap.size) ∧ (∀ b, O b → b < w.heap.size) ∧ V q := by
  obtain ⟨ob, rb, f, g, hP⟩ := h
  exact ⟨fun b hb => (hP.off b hb).1, hP.offO, hP.inV.1⟩
def view0 (base : Int) : ViewM := ⟨base, fun _ => none, fun _ => false, 0, 0⟩
theorem view0_ok (base : Int) : ViewOk (view0 base) := ⟨Int.le_refl _, by show (0 : Int) ≤ 4096; decide, fun x o h => by cases h⟩

theorem vnew_calls (w : World) (p : Nat) (first last : Int) (m1 m2 : Value) (h : Blk w p 92 #[.int .i64 first, .int .i64 last, m1, m2]) :
    Calls Try.prog 16 #[.pointer (some ⟨p, 0, none⟩)] w fun e w' => ∃ q, e = .returned (.pointer (some ⟨q, 0, none⟩)) ∧ ViewAt w' (fun b => w.heap.size ≤ b ∧ b < w'.heap.size) No q p (view0 last) ∧ Fr No w w' := by
  have hmm := @run_makeMap Try.prog
  have hf1 : Fr No w ((w.alloc (.map #[] 0)).alloc (.map #[] 0)) := ((Fr.refl No w).alloc _).alloc _
  have hm1 : MapV ((w.alloc (.map #[] 0)).alloc (.map #[] 0)) w.heap.size 0 (fun _ => none) := (MapV.made w).alloc _
  have hm2 : MapV ((w.alloc (.map #[] 0)).alloc (.map #[] 0)) (w.heap.size + 1) 0 (fun _ => none) := by have := MapV.made (w.alloc (.map #[] 0)); simpa using this
  go_enter Try.func16, Try.ntmps16
  go_wp2_with fail
  refine (tlast_calls _ p first last m1 m2 h).mono ?_
  rintro e w2 ⟨rfl, hw2⟩
  have hw2 := hw2.symm
  subst hw2
  go_wp2
  go_ret
  refine ⟨_, rfl, ⟨w.heap.size, w.heap.size + 1, fun _ => none, fun _ => none, ?_⟩, hf1.alloc _⟩
  exact { blk := Blk.newAt (by simp)
          own := hm1.alloc _
          rd := hm2.alloc _
          objs := fun x _ => .inl ⟨rfl, rfl⟩
          reads := fun x _ => by simp [view0]
          inV := by simp; omega
          off := fun b hb => ⟨hb.2, fun hn => hn⟩
          offO := fun b hb => hb.elim }
theorem base_calls (w : World) (q p : Nat) (base made : Int) (m1 m2 : Value) (h : Blk w q 82 #[.pointer (some ⟨p, 0, none⟩), .int .i64 base, m1, m2, .int .i64 made]) :
    Calls Try.prog 32 #[.pointer (some ⟨q, 0, none⟩)] w fun e w' => e = .returned (.int .i64 base) ∧ w' = w := by
  (have p0 := h.cell 0; have p1 := h.cell 1; have p2 := h.cell 2; have p3 := h.cell 3; have p4 := h.cell 4; have pf0 := h.frozen 0; have pf1 := h.frozen 1; have pf2 := h.frozen 2; have pf3 := h.frozen 3; have pf4 := h.frozen 4; simp only [List.getElem?_toArray, List.getElem?_cons_zero, List.getElem?_cons_succ] at p0 p1 p2 p3 p4)
  go_enter Try.func32, Try.ntmps32
  go_wp2
  go_ret
  exact ⟨rfl, rfl⟩
end Go.Proofs.Ytoajigghkjnffaa
namespace Go.Proofs.Ytoajigghkjnffaa
set_option linter.unusedVariables false
set_option linter.unusedSimpArgs false
open Go.RowKit

def readM (v : ViewM) (x : Int) : ViewM := if oopB x = true then ⟨v.base, v.own, fun y => if y = x then true else v.read y, v.made, v.n + 1⟩ else v
theorem readM_no {v : ViewM} {x : Int} (h : oopB x = false) : readM v x = v := by unfold readM; rw [if_neg (by rw [h]; decide)]
theorem readM_yes {v : ViewM} {x : Int} (h : oopB x = true) : readM v x = ⟨v.base, v.own, fun y => if y = x then true else v.read y, v.made, v.n + 1⟩ := by unfold readM; rw [if_pos h]
theorem readM_ok {v : ViewM} {x : Int} (h : ViewOk v) : ViewOk (readM v x) := by
  unfold readM; split
  · exact h
  · exact h
set_option maxHeartbeats 1000000 in
theorem vread_calls (w : World) (V O : Nat → Prop) (q p : Nat) (v : ViewM) (x : Int) (h : ViewAt w V O q p v) (hn : v.n ≤ 1000000) (hx : W64 x) :
    Calls Try.prog 29 #[.pointer (some ⟨q, 0, none⟩), .int .i64 x] w fun e w' => e = .returned (.tuple #[]) ∧ ViewAt w' V O q p (readM v x) ∧ Fr V w w' := by
  obtain ⟨ob, rb, f, g, hP⟩ := h
  have hbk := hP.blk
  (have x0 := hbk.cell 0; have x1 := hbk.cell 1; have x2 := hbk.cell 2; have x3 := hbk.cell 3; have x4 := hbk.cell 4; have xf0 := hbk.frozen 0; have xf1 := hbk.frozen 1; have xf2 := hbk.frozen 2; have xf3 := hbk.frozen 3; have xf4 := hbk.frozen 4; simp only [List.getElem?_toArray, List.getElem?_cons_zero, List.getElem?_cons_succ] at x0 x1 x2 x3 x4)
  obtain ⟨i1, i2, i3, i4, i5, i6⟩ := hP.inV
  have g6 := plain_mbool
  by_cases h1 : 1 ≤ x
  rotate_left
  · have e1 : decide (1 ≤ x) = false := by simpa using h1
    have HM := Lib.hid (readM_no (v := v) (x := x) (by unfold oopB; rw [e1]; rfl))
    clear h1
    go_enter Try.func29, Try.ntmps29
    go_wp2
    go_end0
    exact ⟨rfl, by rw [HM.out]; exact ⟨ob, rb, f, g, hP⟩, Fr.refl _ _⟩
  have e1 : decide (1 ≤ x) = true := by simpa using h1
  by_cases h2 : x ≤ 4096
  rotate_left
  · have e2 : decide (x ≤ 4096) = false := by simpa using h2
    have HM := Lib.hid (readM_no (v := v) (x := x) (by unfold oopB; rw [e1, e2]; rfl))
    clear h1 h2
    go_enter Try.func29, Try.ntmps29
    go_wp2
    go_end0
    exact ⟨rfl, by rw [HM.out]; exact ⟨ob, rb, f, g, hP⟩, Fr.refl _ _⟩
  have e2 : decide (x ≤ 4096) = true := by simpa using h2
  have HM := Lib.hid (readM_yes (v := v) (x := x) (by unfold oopB; rw [e1, e2]; rfl))
  clear h1 h2
  go_enter Try.func29, Try.ntmps29
  go_wp2_with (first
    | (refine wpList_putM rfl _ _ _ 80 _ rfl Try.underlying80 rb v.n g rfl hP.rd (by unfold maxLen; omega) x (.bool true) rfl hx rfl ?_; intro w1 hm1 hg1)
    | fail)
  go_end0
  have hf1 : Fr (fun b => b = rb) w w1 := (Fr.refl (fun b => b = rb) w).grown hg1 (fun q hq => by injection hq with hq; exact .inr hq.symm)
  refine ⟨rfl, ?_, hf1.mono (fun b _ e => e ▸ i3)⟩
  rw [HM.out]
  exact ⟨ob, rb, f, _, { blk := hP.blk.fr hf1 i5
                         own := (hP.own.fr hf1 i6).mono (Nat.le_succ _)
                         rd := hm1
                         objs := fun y hy => by
                           rcases hP.objs y hy with h3 | ⟨cs, o, e1, e2, e3⟩
                           · exact .inl h3
                           · exact .inr ⟨cs, o, e1, e2, e3.keep hf1 (fun b hb e => (hP.off rb i3).2 (e ▸ hb))⟩
                         reads := fun y hy => by
                           by_cases hyx : y = x
                           · subst hyx; rw [fput_same]; simp
                           · rw [fput_other _ _ hyx, hP.reads y hy]; simp [hyx]
                         inV := hP.inV
                         off := fun b hb => ⟨Nat.lt_of_lt_of_le (hP.off b hb).1 hf1.size, (hP.off b hb).2⟩
                         offO := fun b hb => Nat.lt_of_lt_of_le (hP.offO b hb) hf1.size }⟩
end Go.Proofs.Ytoajigghkjnffaa
namespace Go.Proofs.Ytoajigghkjnffaa
set_option linter.unusedVariables false
set_option linter.unusedSimpArgs false
open Go.RowKit

def peekM (t : TabM) (v : ViewM) (x : Int) : ObjM × Int :=
  match v.own x with
  | some o => (o, 0)
  | none => if (atM t v.base x).2 = 0 then ((atM t v.base x).1, 0) else (noObj, 25)
theorem peekM_own {t : TabM} {v : ViewM} {x : Int} {o : ObjM} (h : v.own x = some o) : peekM t v x = (o, 0) := by unfold peekM; rw [h]
theorem peekM_at {t : TabM} {v : ViewM} {x : Int} (h : v.own x = none) (h2 : (atM t v.base x).2 = 0) : peekM t v x = ((atM t v.base x).1, 0) := by unfold peekM; rw [h]; simp only; rw [if_pos h2]
theorem peekM_no {t : TabM} {v : ViewM} {x : Int} (h : v.own x = none) (h2 : ¬ (atM t v.base x).2 = 0) : peekM t v x = (noObj, 25) := by unfold peekM; rw [h]; simp only; rw [if_neg h2]
theorem ObjOwn.lit3 {w : World} {B : Nat} {cs : List Value} {o : ObjM} (h : ObjOwn w B cs o) : ∃ A c D d, cs = [.int .i64 o.cls, .slice A o.slots.length c, .slice D o.bytes.length d] := by
  obtain ⟨A, c, D, d, M, e, _⟩ := h; exact ⟨A, c, D, d, e⟩
theorem ObjOwn.fr {w w' : World} {S : Nat → Prop} {B : Nat} {cs : List Value} {o : ObjM} (h : ObjOwn w B cs o) (hf : Fr S w w') (hS : ∀ b, B ≤ b → ¬ S b) : ObjOwn w' B cs o := by
  obtain ⟨A, c, D, d, M, e, r1, r2, r3, r4⟩ := h
  exact ⟨A, c, D, d, M, e, own_fr r1 hf (fun b hb => hS b (r1.lt b hb).1), r2, own_fr r3 hf (fun b hb => hS b (by have := (r3.lt b hb).1; omega)), r4⟩
theorem ObjOwn.down {w : World} {B B' : Nat} {cs : List Value} {o : ObjM} (h : ObjOwn w B cs o) (hB : B' ≤ B) : ObjOwn w B' cs o := by
  obtain ⟨A, c, D, d, M, e, r1, r2, r3, r4⟩ := h
  exact ⟨A, c, D, d, M, e, own_down r1 hB, r2, r3, by omega⟩
theorem one3 {a b c : Value} (h1 : a.oneCell' = true) (h2 : b.oneCell' = true) (h3 : c.oneCell' = true) : ∀ u ∈ [a, b, c], u.oneCell' = true := by
  intro u hu
  simp only [List.mem_cons, List.not_mem_nil, or_false] at hu
  rcases hu with rfl | rfl | rfl <;> assumption
abbrev tObj : TypeId := 27
set_option maxHeartbeats 4000000 in
set_option maxRecDepth 100000 in
theorem peek_calls (w : World) (V O T O2 : Nat → Prop) (q p : Nat) (v : ViewM) (t : TabM) (x : Int) (h : ViewAt w V O q p v) (hT : TabAt w T O2 p t) (ok : TabOk t) (okv : ViewOk v) (hn : t.n ≤ 1000000) (hx : W64 x) :
    Calls Try.prog 18 #[.pointer (some ⟨q, 0, none⟩), .int .i64 x] w fun e w' => RetO w w' e (peekM t v x) := by
  have hf1 : Fr No w (w.alloc (.cells #[.int .i64 0, .slice none 0 0, .slice none 0 0] tObj)) := (Fr.refl No w).alloc _
  have hb1 : Blk (w.alloc (.cells #[.int .i64 0, .slice none 0 0, .slice none 0 0] tObj)) w.heap.size tObj #[.int .i64 0, .slice none 0 0, .slice none 0 0] := Blk.new w _ _
  have hz1 : (w.alloc (.cells #[.int .i64 0, .slice none 0 0, .slice none 0 0] tObj)).heap.size = w.heap.size + 1 := by simp
  obtain ⟨ob, rb, f, g, hP0⟩ := h
  have hP := hP0.fr hf1 (fun _ _ hn => hn) (fun _ _ hn => hn)
  have hT1 := hT.fr0 hf1
  have hbk := hP.blk
  have hql := hbk.lt
  (have y0 := hbk.cell 0; have y1 := hbk.cell 1; have y2 := hbk.cell 2; have y3 := hbk.cell 3; have y4 := hbk.cell 4; have yf0 := hbk.frozen 0; have yf1 := hbk.frozen 1; have yf2 := hbk.frozen 2; have yf3 := hbk.frozen 3; have yf4 := hbk.frozen 4; simp only [List.getElem?_toArray, List.getElem?_cons_zero, List.getElem?_cons_succ] at y0 y1 y2 y3 y4)
  have g1 := plain_i64
  have g6 := plain_mobj
  have g7 := plain_ptab
  have hlk := hP.own.look_ok Try.underlying79 (zero_obj _) hx
  have hzW : q < w.heap.size := hP0.blk.lt
  rcases hP.objs x hx with ⟨hfx, hvx⟩ | ⟨cs, o, hfx, hvx, hoc⟩
  · rw [hfx] at hlk
    simp only [Option.getD_none, Option.isSome_none] at hlk
    have HA := Lib.hid (peekM_at (t := t) hvx)
    have HN := Lib.hid (peekM_no (t := t) hvx)
    generalize hM : peekM t v x = M at *
    clear hfx hvx hM
    generalize hw1 : w.alloc (.cells #[.int .i64 0, .slice none 0 0, .slice none 0 0] tObj) = w1 at *
    go_enter Try.func18, Try.ntmps18
    go_wp2_with fail
    clear hw1
    have hfo : Fr No w1 (w1.alloc (.cells #[.int .i64 0, .slice none 0 0, .slice none 0 0] tObj)) := (Fr.refl No w1).alloc _
    have hzo : (w1.alloc (.cells #[.int .i64 0, .slice none 0 0, .slice none 0 0] tObj)).heap.size = w1.heap.size + 1 := by simp
    have hb2 := hb1.fr0 hfo
    have hbk2 := hbk.fr0 hfo
    have hT2 := hT1.fr0 hfo
    have hF2 := hf1.tr hfo
    clear y0 y1 y2 y3 y4 yf0 yf1 yf2 yf3 yf4 hlk hP hT1
    generalize w1.alloc (.cells #[.int .i64 0, .slice none 0 0, .slice none 0 0] tObj) = w2 at *
    (have y0 := hbk2.cell 0; have y1 := hbk2.cell 1; have y2 := hbk2.cell 2; have y3 := hbk2.cell 3; have y4 := hbk2.cell 4; have yf0 := hbk2.frozen 0; have yf1 := hbk2.frozen 1; have yf2 := hbk2.frozen 2; have yf3 := hbk2.frozen 3; have yf4 := hbk2.frozen 4; simp only [List.getElem?_toArray, List.getElem?_cons_zero, List.getElem?_cons_succ] at y0 y1 y2 y3 y4)
    clear yf0 yf1 yf2 yf3 yf4 y2 y3 y4
    obtain ⟨B, hB⟩ : ∃ B, B = w2.heap.size := ⟨_, rfl⟩
    have hqB : ¬ B ≤ q := by omega
    refine T_begin (fun b => B ≤ b) [0, 1, 2, 3, 4, 5, 6, 7, 8, 9, 10, 11, 12, 13, 14, 15] [9, 13, 14, 1009] (by kernel_rfl) (by kernel_rfl) ?_
    simp only [pickOps, List.filterMap_cons, List.filterMap_nil, List.getElem?_cons_zero, List.getElem?_cons_succ, Act.put]
    repeat (first | (refine T_skip (by rfl) (by rfl) (fun _ _ _ h => h) ?_; try simp only [Act.put, List.setIfInBounds_toArray, List.set_cons_zero, List.set_cons_succ]) | (refine T_pass (by rfl) (by rfl) ?_; try simp only [Act.put, List.setIfInBounds_toArray, List.set_cons_zero, List.set_cons_succ]) | (refine T_load (by assumption) (by rfl) (by rfl) (fun _ _ _ _ h => h) rfl rfl (by assumption) (by first | exact (fun hn => hn) | assumption) ?_; try simp only [Act.put, List.setIfInBounds_toArray, List.set_cons_zero, List.set_cons_succ]) | (refine T_nil (by rfl) (by rfl) (fun _ _ _ _ h => h) rfl rfl ?_; try simp only [Act.put, List.setIfInBounds_toArray, List.set_cons_zero, List.set_cons_succ]) | (refine T_quietN (by rfl) (by rfl) (by rfl) (by rfl) (fun _ _ _ _ h => h) (fun K hK => ?_); go_big_quiet_op; refine hK _ ?_; clear hK K) | (refine T_two (by rfl) (by rfl) (by rfl) (by rfl) (fun _ _ _ _ h => h) (fun K hK => ?_); go_big_quiet_op; refine ⟨_, fun _ _ => rfl, ?_⟩; refine hK _ ?_; clear hK K; try simp only [Act.put, List.setIfInBounds_toArray, List.set_cons_zero, List.set_cons_succ]) | fail)
    generalize hRR : atM t v.base x = R at HA HN
    refine T_fork (ord2 := [0, 1, 2, 3, 4, 5, 6, 7, 8, 13, 9, 10, 11, 12, 14, 15]) (calls2 := [13, 9, 14, 1013]) (i := 9) (j := 13) (by kernel_rfl) rfl rfl rfl (by kernel_rfl) rfl rfl rfl (by rfl) (by rfl) (fun K hK => ?_) (fun K hK => ?_)
    · go_wp2_with fail
      refine (tat_calls w2.drew T O2 p t v.base x (hT2.fr0 (Fr.refl No w2).drew) ok hn hx).mono ?_
      rw [hRR]
      rintro e w3 ⟨cs, rfl, hown3, hf3⟩
      (refine hK.out _ _ ((hf3.mono (fun _ _ hn => hn.elim))) ?_; clear hK K; try simp only [Act.put, List.setIfInBounds_toArray, List.set_cons_zero, List.set_cons_succ])
      obtain ⟨A3, c3, D3, d3, rfl⟩ := hown3.lit3
      have hdz : w2.drew.heap.size = w2.heap.size := rfl
      rw [hdz] at hown3
      have hz23 : w2.heap.size ≤ w3.heap.size := hf3.size
      repeat (first | (refine T_skip (by rfl) (by rfl) (fun _ _ _ h => h) ?_; try simp only [Act.put, List.setIfInBounds_toArray, List.set_cons_zero, List.set_cons_succ]) | (refine T_pass (by rfl) (by rfl) ?_; try simp only [Act.put, List.setIfInBounds_toArray, List.set_cons_zero, List.set_cons_succ]) | (refine T_load (by assumption) (by rfl) (by rfl) (fun _ _ _ _ h => h) rfl rfl (by assumption) (by first | exact (fun hn => hn) | assumption) ?_; try simp only [Act.put, List.setIfInBounds_toArray, List.set_cons_zero, List.set_cons_succ]) | (refine T_nil (by rfl) (by rfl) (fun _ _ _ _ h => h) rfl rfl ?_; try simp only [Act.put, List.setIfInBounds_toArray, List.set_cons_zero, List.set_cons_succ]) | (refine T_quietN (by rfl) (by rfl) (by rfl) (by rfl) (fun _ _ _ _ h => h) (fun K hK => ?_); go_big_quiet_op; refine hK _ ?_; clear hK K) | (refine T_two (by rfl) (by rfl) (by rfl) (by rfl) (fun _ _ _ _ h => h) (fun K hK => ?_); go_big_quiet_op; refine ⟨_, fun _ _ => rfl, ?_⟩; refine hK _ ?_; clear hK K; try simp only [Act.put, List.setIfInBounds_toArray, List.set_cons_zero, List.set_cons_succ]) | fail)
      (refine T_call (by rfl) (by rfl) (fun K hK => ?_); go_wp2_with fail)
      (refine hK.out _ _ (((Fr.refl _ _).alloc _)) ?_; clear hK K; try simp only [Act.put, List.setIfInBounds_toArray, List.set_cons_zero, List.set_cons_succ])
      repeat (first | (refine T_skip (by rfl) (by rfl) (fun _ _ _ h => h) ?_; try simp only [Act.put, List.setIfInBounds_toArray, List.set_cons_zero, List.set_cons_succ]) | (refine T_pass (by rfl) (by rfl) ?_; try simp only [Act.put, List.setIfInBounds_toArray, List.set_cons_zero, List.set_cons_succ]) | (refine T_load (by assumption) (by rfl) (by rfl) (fun _ _ _ _ h => h) rfl rfl (by assumption) (by first | exact (fun hn => hn) | assumption) ?_; try simp only [Act.put, List.setIfInBounds_toArray, List.set_cons_zero, List.set_cons_succ]) | (refine T_nil (by rfl) (by rfl) (fun _ _ _ _ h => h) rfl rfl ?_; try simp only [Act.put, List.setIfInBounds_toArray, List.set_cons_zero, List.set_cons_succ]) | (refine T_quietN (by rfl) (by rfl) (by rfl) (by rfl) (fun _ _ _ _ h => h) (fun K hK => ?_); go_big_quiet_op; refine hK _ ?_; clear hK K) | (refine T_two (by rfl) (by rfl) (by rfl) (by rfl) (fun _ _ _ _ h => h) (fun K hK => ?_); go_big_quiet_op; refine ⟨_, fun _ _ => rfl, ?_⟩; refine hK _ ?_; clear hK K; try simp only [Act.put, List.setIfInBounds_toArray, List.set_cons_zero, List.set_cons_succ]) | fail)
      have hb4 := Blk.new w3 tObj #[.int .i64 0, .slice none 0 0, .slice none 0 0]
      have hf34 : Fr No w3 (w3.alloc (.cells #[.int .i64 0, .slice none 0 0, .slice none 0 0] tObj)) := (Fr.refl No w3).alloc _
      generalize w3.alloc (.cells #[.int .i64 0, .slice none 0 0, .slice none 0 0] tObj) = w4 at *
      obtain ⟨a8, ha8⟩ : ∃ a8, a8 = w3.heap.size := ⟨_, rfl⟩
      rw [← ha8] at hb4 ⊢
      obtain ⟨ha81, ha82⟩ : w3.heap.size ≤ a8 ∧ a8 ≤ w3.heap.size := ⟨by omega, by omega⟩
      clear ha8
      refine T_call (by rfl) (by rfl) (fun K hK => ?_)
      refine wp_stA ag_obj.info _ _ rfl a8 0 _ _ [.int .i64 R.1.cls, .slice A3 R.1.slots.length c3, .slice D3 R.1.bytes.length d3] _ rfl rfl rfl rfl (one3 rfl rfl rfl) hb4 (by decide) ?_
      intro w5 hb5 hg5 hz5'
      refine hK.out _ _ ((Fr.refl _ _).grown hg5 (fun q hq => by injection hq with hq; exact .inr (by omega))) ?_
      clear hK K
      try simp only [Act.put, List.setIfInBounds_toArray, List.set_cons_zero, List.set_cons_succ]
      repeat (first | (refine T_skip (by rfl) (by rfl) (fun _ _ _ h => h) ?_; try simp only [Act.put, List.setIfInBounds_toArray, List.set_cons_zero, List.set_cons_succ]) | (refine T_pass (by rfl) (by rfl) ?_; try simp only [Act.put, List.setIfInBounds_toArray, List.set_cons_zero, List.set_cons_succ]) | (refine T_load (by assumption) (by rfl) (by rfl) (fun _ _ _ _ h => h) rfl rfl (by assumption) (by first | exact (fun hn => hn) | assumption) ?_; try simp only [Act.put, List.setIfInBounds_toArray, List.set_cons_zero, List.set_cons_succ]) | (refine T_nil (by rfl) (by rfl) (fun _ _ _ _ h => h) rfl rfl ?_; try simp only [Act.put, List.setIfInBounds_toArray, List.set_cons_zero, List.set_cons_succ]) | (refine T_quietN (by rfl) (by rfl) (by rfl) (by rfl) (fun _ _ _ _ h => h) (fun K hK => ?_); go_big_quiet_op; refine hK _ ?_; clear hK K) | (refine T_two (by rfl) (by rfl) (by rfl) (by rfl) (fun _ _ _ _ h => h) (fun K hK => ?_); go_big_quiet_op; refine ⟨_, fun _ _ => rfl, ?_⟩; refine hK _ ?_; clear hK K; try simp only [Act.put, List.setIfInBounds_toArray, List.set_cons_zero, List.set_cons_succ]) | fail)
      refine T_done ?_
      rw [splice_all _ _ (by rfl)] at hb5
      have hb5a := hb5
      have hf45 : Fr (fun b => b = a8) w4 w5 := (Fr.refl (fun b => b = a8) w4).grown hg5 (fun q hq => by injection hq with hq; exact .inr hq.symm)
      have hf25 : Fr No w2 w5 := (((Fr.refl No w2).drew.tr hf3).tr hf34).trans hf45 (fun b hb e => by omega)
      have hf35 : Fr (fun b => b = a8) w3 w5 := (hf34.mono (fun _ _ hn => hn.elim)).trans hf45 (fun b _ e => e)
      have hown5 : ObjOwn w5 (w.heap.size + 2) [.int .i64 R.1.cls, .slice A3 R.1.slots.length c3, .slice D3 R.1.bytes.length d3] R.1 := by
        obtain ⟨A, c, D, d, M', e, r1, r2, r3, r4⟩ := hown3
        exact ⟨A, c, D, d, M', e, own_down (own_fr r1 hf35 (fun b hb e => by have := (r1.lt b hb).2; omega)) (by omega), r2, own_fr r3 hf35 (fun b hb e => by have := (r3.lt b hb).2; omega), by omega⟩
      clear y0 y1
      have hb5r := hb2.fr0 hf25
      have hF5 := hF2.tr hf25
      have hz5 : w.heap.size + 2 ≤ w5.heap.size := by have := hf25.size; omega
      clear hb2 hf25 hF2
      by_cases hc : R.2 = 0
      · have HM := HA.out hc
        have ek : (R.2 == 0) = true := by simpa using hc
        have ek2 : (R.2 != 0) = false := by simpa using hc
        have HM' := Lib.hid HM
        clear HM hc HA HN
        have hld := hb5a.all
        go_wp2_with (first
          | (refine wpList_ldA ag_obj rfl _ rfl ⟨a8, 0, none⟩ [.int .i64 R.1.cls, .slice A3 R.1.slots.length c3, .slice D3 R.1.bytes.length d3] rfl rfl hld ?_)
          | (refine wpList_stA ag_obj.info rfl _ _ rfl w.heap.size 0 _ _ [.int .i64 R.1.cls, .slice A3 R.1.slots.length c3, .slice D3 R.1.bytes.length d3] _ rfl rfl rfl rfl (one3 rfl rfl rfl) hb5r (by decide) ?_; intro w6 hb6 hg6 hz6)
          | fail)
        rw [splice_all _ _ (by rfl)] at hb6
        refine bodyPost_ret (results_blk2 ag_obj rfl _ _ _ _ _ _ rfl rfl hb6 rfl) rfl ?_
        have hf6 : Fr (fun b => b = w.heap.size) w5 w6 := (Fr.refl (fun b => b = w.heap.size) w5).grown hg6 (fun q hq => by injection hq with hq; exact .inr hq.symm)
        rw [HM'.out]
        exact ⟨[.int .i64 R.1.cls, .slice A3 R.1.slots.length c3, .slice D3 R.1.bytes.length d3], rfl, (hown5.fr hf6 (fun b hb e => by omega)).down (by omega), hF5.trans hf6 (fun b hb e => by omega)⟩
      · have HM := HN.out hc
        have ek : (R.2 == 0) = false := by simpa using hc
        have ek2 : (R.2 != 0) = true := by simpa using hc
        have HM' := Lib.hid HM
        clear HM hc HA HN
        go_wp2_with (first
          | (refine wpList_stA ag_obj.info rfl _ _ rfl w.heap.size 0 _ _ [.int .i64 0, .slice none 0 0, .slice none 0 0] _ rfl rfl rfl rfl (one3 rfl rfl rfl) hb5r (by decide) ?_; intro w6 hb6 hg6 hz6)
          | fail)
        rw [splice_all _ _ (by rfl)] at hb6
        refine bodyPost_ret (results_blk2 ag_obj rfl _ _ _ _ _ _ rfl rfl hb6 rfl) rfl ?_
        have hf6 : Fr (fun b => b = w.heap.size) w5 w6 := (Fr.refl (fun b => b = w.heap.size) w5).grown hg6 (fun q hq => by injection hq with hq; exact .inr hq.symm)
        rw [HM'.out]
        have hF6 := hF5.trans hf6 (fun b hb e => by omega)
        exact ⟨_, rfl, ObjOwn.none_ _ _ hF6.size, hF6⟩
    · go_wp2_with fail
      (refine hK.out _ _ (((Fr.refl _ _).alloc _)) ?_; clear hK K; try simp only [Act.put, List.setIfInBounds_toArray, List.set_cons_zero, List.set_cons_succ])
      have hz2 : w2.heap.size = w.heap.size + 1 + 1 := by omega
      have hb3 : Blk (w2.alloc (.cells #[.int .i64 0, .slice none 0 0, .slice none 0 0] tObj)).drew (w.heap.size + 1 + 1) tObj #[.int .i64 0, .slice none 0 0, .slice none 0 0] := Blk.drew (Blk.newAt (by omega))
      have hf23 : Fr No w2 (w2.alloc (.cells #[.int .i64 0, .slice none 0 0, .slice none 0 0] tObj)).drew := ((Fr.refl No w2).alloc _).drew
      have hz3 : (w2.alloc (.cells #[.int .i64 0, .slice none 0 0, .slice none 0 0] tObj)).drew.heap.size = w2.heap.size + 1 := by show (w2.alloc (.cells #[.int .i64 0, .slice none 0 0, .slice none 0 0] tObj)).heap.size = _; simp
      refine T_call (by rfl) (by rfl) (fun K hK => ?_)
      go_wp2_with fail
      refine (tat_calls (w2.alloc (.cells #[.int .i64 0, .slice none 0 0, .slice none 0 0] tObj)).drew T O2 p t v.base x (hT2.fr0 hf23) ok hn hx).mono ?_
      rw [hRR]
      rintro e w4 ⟨cs, rfl, hown4, hf4⟩
      (refine hK.out _ _ ((hf4.mono (fun _ _ hn => hn.elim))) ?_; clear hK K; try simp only [Act.put, List.setIfInBounds_toArray, List.set_cons_zero, List.set_cons_succ])
      obtain ⟨A3, c3, D3, d3, rfl⟩ := hown4.lit3
      have hz34 := hf4.size
      repeat (first | (refine T_skip (by rfl) (by rfl) (fun _ _ _ h => h) ?_; try simp only [Act.put, List.setIfInBounds_toArray, List.set_cons_zero, List.set_cons_succ]) | (refine T_pass (by rfl) (by rfl) ?_; try simp only [Act.put, List.setIfInBounds_toArray, List.set_cons_zero, List.set_cons_succ]) | (refine T_load (by assumption) (by rfl) (by rfl) (fun _ _ _ _ h => h) rfl rfl (by assumption) (by first | exact (fun hn => hn) | assumption) ?_; try simp only [Act.put, List.setIfInBounds_toArray, List.set_cons_zero, List.set_cons_succ]) | (refine T_nil (by rfl) (by rfl) (fun _ _ _ _ h => h) rfl rfl ?_; try simp only [Act.put, List.setIfInBounds_toArray, List.set_cons_zero, List.set_cons_succ]) | (refine T_quietN (by rfl) (by rfl) (by rfl) (by rfl) (fun _ _ _ _ h => h) (fun K hK => ?_); go_big_quiet_op; refine hK _ ?_; clear hK K) | (refine T_two (by rfl) (by rfl) (by rfl) (by rfl) (fun _ _ _ _ h => h) (fun K hK => ?_); go_big_quiet_op; refine ⟨_, fun _ _ => rfl, ?_⟩; refine hK _ ?_; clear hK K; try simp only [Act.put, List.setIfInBounds_toArray, List.set_cons_zero, List.set_cons_succ]) | fail)
      have hb4 := hb3.fr0 hf4
      refine T_call (by rfl) (by rfl) (fun K hK => ?_)
      refine wp_stA ag_obj.info _ _ rfl (w.heap.size + 1 + 1) 0 _ _ [.int .i64 R.1.cls, .slice A3 R.1.slots.length c3, .slice D3 R.1.bytes.length d3] _ rfl rfl rfl rfl (one3 rfl rfl rfl) hb4 (by decide) ?_
      intro w5 hb5 hg5 hz5'
      refine hK.out _ _ ((Fr.refl _ _).grown hg5 (fun q hq => by injection hq with hq; exact .inr (by omega))) ?_
      clear hK K
      try simp only [Act.put, List.setIfInBounds_toArray, List.set_cons_zero, List.set_cons_succ]
      repeat (first | (refine T_skip (by rfl) (by rfl) (fun _ _ _ h => h) ?_; try simp only [Act.put, List.setIfInBounds_toArray, List.set_cons_zero, List.set_cons_succ]) | (refine T_pass (by rfl) (by rfl) ?_; try simp only [Act.put, List.setIfInBounds_toArray, List.set_cons_zero, List.set_cons_succ]) | (refine T_load (by assumption) (by rfl) (by rfl) (fun _ _ _ _ h => h) rfl rfl (by assumption) (by first | exact (fun hn => hn) | assumption) ?_; try simp only [Act.put, List.setIfInBounds_toArray, List.set_cons_zero, List.set_cons_succ]) | (refine T_nil (by rfl) (by rfl) (fun _ _ _ _ h => h) rfl rfl ?_; try simp only [Act.put, List.setIfInBounds_toArray, List.set_cons_zero, List.set_cons_succ]) | (refine T_quietN (by rfl) (by rfl) (by rfl) (by rfl) (fun _ _ _ _ h => h) (fun K hK => ?_); go_big_quiet_op; refine hK _ ?_; clear hK K) | (refine T_two (by rfl) (by rfl) (by rfl) (by rfl) (fun _ _ _ _ h => h) (fun K hK => ?_); go_big_quiet_op; refine ⟨_, fun _ _ => rfl, ?_⟩; refine hK _ ?_; clear hK K; try simp only [Act.put, List.setIfInBounds_toArray, List.set_cons_zero, List.set_cons_succ]) | fail)
      refine T_done ?_
      rw [splice_all _ _ (by rfl)] at hb5
      have hb5a := hb5
      have hf45 : Fr (fun b => b = (w.heap.size + 1 + 1)) w4 w5 := (Fr.refl (fun b => b = (w.heap.size + 1 + 1)) w4).grown hg5 (fun q hq => by injection hq with hq; exact .inr hq.symm)
      have hf25 : Fr No w2 w5 := (hf23.tr hf4).trans hf45 (fun b hb e => by omega)
      have hown5 : ObjOwn w5 (w.heap.size + 2) [.int .i64 R.1.cls, .slice A3 R.1.slots.length c3, .slice D3 R.1.bytes.length d3] R.1 := (hown4.fr hf45 (fun b hb e => by omega)).down (by omega)
      clear y0 y1
      have hb5r := hb2.fr0 hf25
      have hF5 := hF2.tr hf25
      have hz5 : w.heap.size + 2 ≤ w5.heap.size := by have := hf25.size; omega
      clear hb2 hf25 hF2
      by_cases hc : R.2 = 0
      · have HM := HA.out hc
        have ek : (R.2 == 0) = true := by simpa using hc
        have ek2 : (R.2 != 0) = false := by simpa using hc
        have HM' := Lib.hid HM
        clear HM hc HA HN
        have hld := hb5a.all
        go_wp2_with (first
          | (refine wpList_ldA ag_obj rfl _ rfl ⟨(w.heap.size + 1 + 1), 0, none⟩ [.int .i64 R.1.cls, .slice A3 R.1.slots.length c3, .slice D3 R.1.bytes.length d3] rfl rfl hld ?_)
          | (refine wpList_stA ag_obj.info rfl _ _ rfl w.heap.size 0 _ _ [.int .i64 R.1.cls, .slice A3 R.1.slots.length c3, .slice D3 R.1.bytes.length d3] _ rfl rfl rfl rfl (one3 rfl rfl rfl) hb5r (by decide) ?_; intro w6 hb6 hg6 hz6)
          | fail)
        rw [splice_all _ _ (by rfl)] at hb6
        refine bodyPost_ret (results_blk2 ag_obj rfl _ _ _ _ _ _ rfl rfl hb6 rfl) rfl ?_
        have hf6 : Fr (fun b => b = w.heap.size) w5 w6 := (Fr.refl (fun b => b = w.heap.size) w5).grown hg6 (fun q hq => by injection hq with hq; exact .inr hq.symm)
        rw [HM'.out]
        exact ⟨[.int .i64 R.1.cls, .slice A3 R.1.slots.length c3, .slice D3 R.1.bytes.length d3], rfl, (hown5.fr hf6 (fun b hb e => by omega)).down (by omega), hF5.trans hf6 (fun b hb e => by omega)⟩
      · have HM := HN.out hc
        have ek : (R.2 == 0) = false := by simpa using hc
        have ek2 : (R.2 != 0) = true := by simpa using hc
        have HM' := Lib.hid HM
        clear HM hc HA HN
        go_wp2_with (first
          | (refine wpList_stA ag_obj.info rfl _ _ rfl w.heap.size 0 _ _ [.int .i64 0, .slice none 0 0, .slice none 0 0] _ rfl rfl rfl rfl (one3 rfl rfl rfl) hb5r (by decide) ?_; intro w6 hb6 hg6 hz6)
          | fail)
        rw [splice_all _ _ (by rfl)] at hb6
        refine bodyPost_ret (results_blk2 ag_obj rfl _ _ _ _ _ _ rfl rfl hb6 rfl) rfl ?_
        have hf6 : Fr (fun b => b = w.heap.size) w5 w6 := (Fr.refl (fun b => b = w.heap.size) w5).grown hg6 (fun q hq => by injection hq with hq; exact .inr hq.symm)
        rw [HM'.out]
        have hF6 := hF5.trans hf6 (fun b hb e => by omega)
        exact ⟨_, rfl, ObjOwn.none_ _ _ hF6.size, hF6⟩
  · rw [hfx] at hlk
    simp only [Option.getD_some, Option.isSome_some] at hlk
    have HM := Lib.hid (peekM_own (t := t) hvx)
    have hsm := okv.2.2 x o hvx
    obtain ⟨Ac, cc, Dc, dc, rfl, hs, hbt⟩ := hoc
    have hs0 := hs
    have hbt0 := hbt
    generalize hw1 : w.alloc (.cells #[.int .i64 0, .slice none 0 0, .slice none 0 0] tObj) = w1 at *
    go_enter Try.func18, Try.ntmps18
    go_wp2_with fail
    clear hw1
    have hfo : Fr No w1 (w1.alloc (.cells #[.int .i64 o.cls, .slice Ac o.slots.length cc, .slice Dc o.bytes.length dc] tObj)) := (Fr.refl No w1).alloc _
    refine (ocopy_calls O [.int .i64 o.cls, .slice Ac o.slots.length cc, .slice Dc o.bytes.length dc] o _ (ObjC.fr0 ⟨Ac, cc, Dc, dc, rfl, hs, hbt⟩ hfo) (by have := hsm.1; omega)).mono ?_
    rintro e w3 ⟨cs3, rfl, hown3, hf3⟩
    obtain ⟨A3, c3, D3, d3, rfl⟩ := hown3.lit3
    have hF3 := (hf1.tr hfo).tr hf3
    have hb3 := (hb1.fr0 hfo).fr0 hf3
    have hzo := hfo.size
    go_wp2_with (first
      | (refine wpList_stA ag_obj.info rfl _ _ rfl w.heap.size 0 _ _ [.int .i64 o.cls, .slice A3 o.slots.length c3, .slice D3 o.bytes.length d3] _ rfl rfl rfl rfl (one3 rfl rfl rfl) hb3 (by decide) ?_; intro w6 hb6 hg6 hz6)
      | fail)
    rw [splice_all _ _ (by rfl)] at hb6
    refine bodyPost_ret (results_blk2 ag_obj rfl _ _ _ _ _ _ rfl rfl hb6 rfl) rfl ?_
    have hf6 : Fr (fun b => b = w.heap.size) w3 w6 := (Fr.refl (fun b => b = w.heap.size) w3).grown hg6 (fun q hq => by injection hq with hq; exact .inr hq.symm)
    rw [HM.out]
    exact ⟨_, rfl, (hown3.fr hf6 (fun b hb e => by omega)).down (by omega), hF3.trans hf6 (fun b hb e => by omega)⟩
end Go.Proofs.Ytoajigghkjnffaa
namespace Go.Proofs.Ytoajigghkjnffaa
set_option linter.unusedVariables false
set_option linter.unusedSimpArgs false
open Go.RowKit

def notB (v : VL) : Bool := !(v.k == 5)
theorem blk_calls (v : VL) (w : World) :
    Calls Try.prog 59 #[.agg #[.int .i64 v.k, .int .i64 v.n]] w fun e w' => e = .returned (.bool (!notB v)) ∧ Fr No w w' := by
  have hf : Fr No w (w.alloc (.cells #[.int .i64 v.k, .int .i64 v.n] 23)) := (Fr.refl No w).alloc _
  have H := Lib.hid (show (v.k == 5) = !notB v by unfold notB; rw [Bool.not_not])
  go_enter Try.func59, Try.ntmps59
  go_wp2
  go_ret
  exact ⟨ret_bool H.out, hf⟩
abbrev closK : Value := .func (.func 59) #[] #[]
/-- Where the first odd value stands; -1 if there is none. -/
def blkZ (l : List VL) : Int := if l.findIdx (fun v => !notB v) < l.length then ((l.findIdx (fun v => !notB v) : Nat) : Int) else -1
theorem blkZ_all (l : List VL) : decide (0 ≤ blkZ l) = !(l.all notB) := by
  unfold blkZ
  split
  · rename_i h
    have h1 := List.findIdx_getElem (w := h)
    have h2 : l.all notB = false := by
      rw [List.all_eq_false]
      exact ⟨_, List.getElem_mem h, by simpa using h1⟩
    rw [h2]; simp
  · rename_i h
    have h2 : l.all notB = true := by
      rw [List.all_eq_true]
      intro v hv
      have h3 : ∀ x ∈ l, (fun v => !notB v) x = false := List.findIdx_eq_length.1 (by have := List.findIdx_le_length (xs := l) (p := fun v => !notB v); omega)
      simpa using h3 v hv
    rw [h2]; rfl
set_option maxHeartbeats 1000000 in
set_option maxRecDepth 100000 in
theorem indexblk_calls (S : Nat → Prop) (A : Option Addr) (c : Nat) (l : List VL) (w : World) (h : RdV w S A l) :
    Calls Try.prog 56 #[.slice A l.length c, closK] w fun e w' => e = .returned (.int .i64 (blkZ l)) ∧ Fr No w w' := by
  have hle := h.le
  go_enter Try.func56, Try.ntmps56
  go_wp2_with fail
  go_loopw [8] (fun i wr => ∃ k : Nat, k ≤ l.length ∧ i = .int .i64 (k : Int) ∧ Hid (∀ i, ∀ hi : i < l.length, i < k → notB l[i] = true) ∧ Fr No w wr) (fun i _ => l.length - (intOf i).toNat)
  case atStart => exact ⟨0, by omega, rfl, Lib.hid (fun i _ h => by omega), Fr.refl _ _⟩
  case round =>
    obtain ⟨k, hk, rfl, HN, hf⟩ := hrel
    by_cases hlt : k < l.length
    · have ek : decide ((k : Int) < l.length) = true := by simpa using (by omega : (k : Int) < l.length)
      obtain ⟨ga, of, rfl, _, _, _, hv'⟩ := RdV.at_ (Rd.fr0 h hf) hlt
      have HE := Lib.hid (show notB l[k] = false → blkZ l = (k : Int) by
        intro ht
        have hfi : l.findIdx (fun v => !notB v) = k := by
          refine (List.findIdx_eq hlt).2 ⟨by rw [ht]; rfl, fun j hj => ?_⟩
          rw [HN.out j (by omega) hj]; rfl
        unfold blkZ
        rw [hfi, if_pos hlt])
      have HF := Lib.hid (show notB l[k] = true → ∀ i, ∀ hi : i < l.length, i < k + 1 → notB l[i] = true by
        intro ht i hi hik
        rcases Nat.lt_or_ge i k with h5 | h5
        · exact HN.out i hi h5
        · obtain rfl : i = k := by omega
          exact ht)
      generalize l[k] = x at *
      unfold vcells at hv'
      go_wp2_with (first
        | (refine wpList_ldA ag_val rfl _ rfl ⟨ga, of + k * 2, none⟩ [.int .i64 x.k, .int .i64 x.n] rfl rfl hv' ?_)
        | fail)
      refine (blk_calls x _).mono ?_
      rintro e w2 ⟨rfl, hf2⟩
      cases hg : notB x with
      | false =>
        have HE' := Lib.hid (HE.out hg)
        clear hg
        simp only [Bool.not_false]
        go_wp2
        go_ret
        exact ⟨by rw [HE'.out]; rfl, hf.tr hf2⟩
      | true =>
        have HF' := Lib.hid (HF.out hg)
        clear hg
        simp only [Bool.not_true]
        go_wp2
        go_roundw
        case rel => exact ⟨k + 1, by omega, by go_num, HF', hf.tr hf2⟩
        case measure => simp [intOf]; omega
    · obtain rfl : k = l.length := by omega
      have ek : decide ((l.length : Int) < l.length) = false := by simp
      have HE := Lib.hid (show blkZ l = -1 by
        unfold blkZ
        rw [if_neg]
        intro hlt
        have := List.findIdx_getElem (w := hlt)
        rw [HN.out _ hlt hlt] at this
        cases this)
      go_wp2
      go_ret
      exact ⟨by rw [HE.out]; rfl, hf⟩
theorem containsblk_calls (S : Nat → Prop) (A : Option Addr) (c : Nat) (l : List VL) (w : World) (h : RdV w S A l) :
    Calls Try.prog 36 #[.slice A l.length c, closK] w fun e w' => e = .returned (.bool (!(l.all notB))) ∧ Fr No w w' := by
  have H := Lib.hid (blkZ_all l)
  go_enter Try.func36, Try.ntmps36
  go_wp2_with fail
  refine (indexblk_calls S A c l _ h).mono ?_
  rintro e w2 ⟨rfl, hf2⟩
  go_wp2
  go_ret
  exact ⟨ret_bool H.out, hf2⟩
def wrongM (o : ObjM) : Int := if o.slots.all notB = true then (if rightO2 o = true then 0 else 1) else 32
theorem ret_err {a b : Int} (h : a = b) : Ending.returned (.int .i64 a) = .returned (.int .i64 b) := by rw [h]
set_option maxHeartbeats 1000000 in
theorem wrong_calls (S : Nat → Prop) (cs : List Value) (o : ObjM) (w : World) (h : ObjC w S cs o) :
    Calls Try.prog 42 #[.agg cs.toArray] w fun e w' => e = .returned (.int .i64 (wrongM o)) ∧ Fr No w w' := by
  have ho := h
  obtain ⟨A, c, D, c2, rfl, hs, hb⟩ := h
  have g1 := plain_i64
  have g2 := plain_lval
  have g3 := plain_lu8
  have hf : Fr No w (w.alloc (.cells #[.int .i64 o.cls, .slice A o.slots.length c, .slice D o.bytes.length c2] 27)) := (Fr.refl No w).alloc _
  have hbx := Blk.new w 27 #[.int .i64 o.cls, .slice A o.slots.length c, .slice D o.bytes.length c2]
  cases hk : o.slots.all notB with
  | false =>
    have HM := Lib.hid (show wrongM o = 32 by unfold wrongM; rw [if_neg (by rw [hk]; decide)])
    have hcon := containsblk_calls S A c o.slots
    rw [hk] at hcon
    clear hk
    go_enter Try.func42, Try.ntmps42
    go_wp2_with fail
    refine (hcon _ (Rd.fr0 hs hf)).mono ?_
    rintro e w2 ⟨rfl, hf2⟩
    go_wp2
    go_ret
    exact ⟨ret_err HM.out.symm, hf.tr hf2⟩
  | true =>
    have HM := Lib.hid (show wrongM o = if rightO2 o = true then 0 else 1 by unfold wrongM; rw [if_pos hk])
    have hcon := containsblk_calls S A c o.slots
    rw [hk] at hcon
    clear hk
    go_enter Try.func42, Try.ntmps42
    go_wp2_with fail
    refine (hcon _ (Rd.fr0 hs hf)).mono ?_
    rintro e w2 ⟨rfl, hf2⟩
    have hbx2 := (hbx.fr0 hf2).all
    go_wp2_with (first
      | (refine wpList_ldA ag_obj rfl _ rfl ⟨w.heap.size, 0, none⟩ [.int .i64 o.cls, .slice A o.slots.length c, .slice D o.bytes.length c2] rfl rfl hbx2 ?_)
      | fail)
    refine (vrighto_calls S _ o _ ((ho.fr0 hf).fr0 hf2)).mono ?_
    rintro e w3 ⟨rfl, hf3⟩
    cases hr : rightO2 o with
    | false =>
      have HM' := Lib.hid (show wrongM o = 1 by rw [HM.out, if_neg (by rw [hr]; decide)])
      clear hr HM
      go_wp2
      go_ret
      exact ⟨ret_err HM'.out.symm, (hf.tr hf2).tr hf3⟩
    | true =>
      have HM' := Lib.hid (show wrongM o = 0 by rw [HM.out, if_pos hr])
      clear hr HM
      go_wp2
      go_ret
      exact ⟨ret_err HM'.out.symm, (hf.tr hf2).tr hf3⟩
end Go.Proofs.Ytoajigghkjnffaa
namespace Go.Proofs.Ytoajigghkjnffaa
set_option linter.unusedVariables false
set_option linter.unusedSimpArgs false
open Go.RowKit

theorem peekM_read (t : TabM) (v : ViewM) (x y : Int) : peekM t (readM v y) x = peekM t v x := by
  unfold readM; split <;> rfl
def GetR (w : World) (V O : Nat → Prop) (q p : Nat) (v : ViewM) (r : ObjM × Int) (e : Ending) (w' : World) : Prop :=
  ∃ cs : List Value, e = .returned (.tuple #[.agg cs.toArray, .int .i64 r.2]) ∧ ObjOwn w' w.heap.size cs r.1 ∧ ViewAt w' V O q p v ∧ Fr V w w'
set_option maxHeartbeats 1000000 in
theorem get_calls (w : World) (V O T O2 : Nat → Prop) (q p : Nat) (v : ViewM) (t : TabM) (x : Int) (h : ViewAt w V O q p v) (hT : TabAt w T O2 p t) (hd : ∀ b, V b → ¬ T b ∧ ¬ O2 b) (ok : TabOk t) (okv : ViewOk v) (hn : t.n ≤ 1000000) (hnv : v.n ≤ 1000000) (hx : W64 x) :
    Calls Try.prog 21 #[.pointer (some ⟨q, 0, none⟩), .int .i64 x] w fun e w' => GetR w V O q p (readM v x) (peekM t v x) e w' := by
  have hf1 : Fr No w (w.alloc (.cells #[.int .i64 0, .slice none 0 0, .slice none 0 0] tObj)) := (Fr.refl No w).alloc _
  have hb1 : Blk (w.alloc (.cells #[.int .i64 0, .slice none 0 0, .slice none 0 0] tObj)) w.heap.size tObj #[.int .i64 0, .slice none 0 0, .slice none 0 0] := Blk.new w _ _
  have hVl := h.lt
  have hTl := hT.lt
  have H := Lib.hid (peekM_read t v x x)
  go_enter Try.func21, Try.ntmps21
  go_wp2_with fail
  refine (vread_calls _ V O q p v x (h.fr0 hf1) hnv hx).mono ?_
  rintro e w2 ⟨rfl, hV2, hf2⟩
  have hT2 := (hT.fr0 hf1).fr hf2 (fun b hb hV => (hd b hV).1 hb) (fun b hb hV => (hd b hV).2 hb)
  have hb2 := hb1.fr hf2 (fun hV => by have := hVl.1 _ hV; omega)
  have hF2 : Fr V w w2 := (hf1.mono (fun _ _ hn => hn.elim)).trans hf2 (fun b _ h => h)
  have hz2 := hb2.lt
  go_wp2_with fail
  refine (peek_calls _ V O T O2 q p (readM v x) t x hV2 hT2 ok (readM_ok okv) hn hx).mono ?_
  rintro e w3 ⟨cs, rfl, hown3, hf3⟩
  rw [H.out] at hown3 ⊢
  obtain ⟨A3, c3, D3, d3, rfl⟩ := hown3.lit3
  have hb3 := hb2.fr0 hf3
  have hV3 := hV2.fr0 hf3
  generalize hPK : peekM t v x = R at *
  have HPK := Lib.hid hPK
  clear hPK
  go_wp2_with (first
    | (refine wpList_stA ag_obj.info rfl _ _ rfl w.heap.size 0 _ _ [.int .i64 R.1.cls, .slice A3 R.1.slots.length c3, .slice D3 R.1.bytes.length d3] _ rfl rfl rfl rfl (one3 rfl rfl rfl) hb3 (by decide) ?_; intro w6 hb6 hg6 hz6)
    | fail)
  rw [splice_all _ _ (by rfl)] at hb6
  refine bodyPost_ret (results_blk2 ag_obj rfl _ _ _ _ _ _ rfl rfl hb6 rfl) rfl ?_
  have hf6 : Fr (fun b => b = w.heap.size) w3 w6 := (Fr.refl (fun b => b = w.heap.size) w3).grown hg6 (fun q hq => by injection hq with hq; exact .inr hq.symm)
  have hVl2 := hV2.lt
  have hF3 : Fr V w w3 := hF2.trans hf3 (fun _ _ hn => hn.elim)
  have hF6 : Fr V w w6 := hF3.trans hf6 (fun b hb e => by have : b = w.heap.size := e; omega)
  have hown6 : ObjOwn w6 w.heap.size [.int .i64 R.1.cls, .slice A3 R.1.slots.length c3, .slice D3 R.1.bytes.length d3] R.1 := ObjOwn.down (B := w2.heap.size) (hown3.fr hf6 (fun b hb e => by have : b = w.heap.size := e; omega)) (by omega)
  rw [HPK.out]
  exact ⟨[.int .i64 R.1.cls, .slice A3 R.1.slots.length c3, .slice D3 R.1.bytes.length d3], rfl, hown6, hV3.fr hf6 (fun b hb e => by have := hVl.1 b hb; omega) (fun b hb e => by have := hVl.2.1 b hb; omega), hF6⟩

def vput (v : ViewM) (x : Int) (o : ObjM) : ViewM := ⟨v.base, fun y => if y = x then some o else v.own y, v.read, v.made, v.n + 1⟩
theorem ViewP.put {w w' : World} {V O O' : Nat → Prop} {q p ob rb : Nat} {f g : Int → Option Value} {v : ViewM} (h : ViewP w V O q p ob rb f g v) {x : Int} {o : ObjM} {cs : List Value} (hx : W64 x)
    (hf : Fr (fun b => b = ob) w w') (hm : MapV w' ob (v.n + 1) (fput f x (.agg cs.toArray))) (hc : ObjC w' O' cs o) (h1 : ∀ b, O b → O' b) (h2 : ∀ b, O' b → O b ∨ w.heap.size ≤ b ∧ b < w'.heap.size) :
    ViewP w' V O' q p ob rb (fput f x (.agg cs.toArray)) g (vput v x o) := by
  obtain ⟨i1, i2, i3, i4, i5, i6⟩ := h.inV
  exact { blk := h.blk.fr hf i4
          own := hm
          rd := (h.rd.fr hf (fun e => i6 e.symm)).mono (Nat.le_succ _)
          objs := fun y hy => by
            by_cases hyx : y = x
            · subst hyx
              rw [fput_same]
              exact .inr ⟨cs, o, rfl, if_pos rfl, hc⟩
            · rw [fput_other _ _ hyx]
              have e : (vput v x o).own y = v.own y := if_neg hyx
              rw [e]
              rcases h.objs y hy with h3 | ⟨cs2, o2, e1, e2, e3⟩
              · exact .inl h3
              · exact .inr ⟨cs2, o2, e1, e2, (e3.keep hf (fun b hb e => (h.off ob i2).2 (e ▸ hb))).mono (fun b _ hb => h1 b hb)⟩
          reads := h.reads
          inV := h.inV
          off := fun b hb => ⟨Nat.lt_of_lt_of_le (h.off b hb).1 hf.size, fun hO => by
            rcases h2 b hO with h9 | h9
            · exact (h.off b hb).2 h9
            · have := (h.off b hb).1; omega⟩
          offO := fun b hb => by
            rcases h2 b hb with h9 | h9
            · exact Nat.lt_of_lt_of_le (h.offO b h9) hf.size
            · exact h9.2 }
def putV (t : TabM) (v : ViewM) (x : Int) (o : ObjM) : ViewM × Int :=
  if (peekM t v x).2 = 0 then (if wrongM o = 0 then (vput v x o, 0) else (v, wrongM o)) else (v, (peekM t v x).2)
def PutR (w : World) (V O : Nat → Prop) (q p : Nat) (v : ViewM) (w' : World) : Prop :=
  ∃ O' : Nat → Prop, ViewAt w' V O' q p v ∧ (∀ b, O' b → O b ∨ w.heap.size ≤ b) ∧ Fr V w w'
set_option maxHeartbeats 2000000 in
set_option maxRecDepth 100000 in
theorem vput_calls (w : World) (V O T O2 S : Nat → Prop) (q p : Nat) (v : ViewM) (t : TabM) (x : Int) (cs : List Value) (o : ObjM) (h : ViewAt w V O q p v) (hT : TabAt w T O2 p t) (hco : ObjC w S cs o) (ok : TabOk t) (okv : ViewOk v) (hn : t.n ≤ 1000000) (hnv : v.n ≤ 1000000) (hx : W64 x) (hs : o.slots.length * 16 ≤ 211106232532992) :
    Calls Try.prog 19 #[.pointer (some ⟨q, 0, none⟩), .int .i64 x, .agg cs.toArray] w fun e w' => e = .returned (.int .i64 (putV t v x o).2) ∧ PutR w V O q p (putV t v x o).1 w' := by
  have hVl := h.lt
  obtain ⟨A, c, D, d, rfl, hsl, hby⟩ := hco
  have g1 := plain_i64
  have g2 := plain_lval
  have g3 := plain_lu8
  have g6 := plain_mobj
  have hf1 : Fr No w (w.alloc (.cells #[.int .i64 o.cls, .slice A o.slots.length c, .slice D o.bytes.length d] tObj)) := (Fr.refl No w).alloc _
  have hb1 := Blk.new w tObj #[.int .i64 o.cls, .slice A o.slots.length c, .slice D o.bytes.length d]
  have hoc1 : ObjC (w.alloc (.cells #[.int .i64 o.cls, .slice A o.slots.length c, .slice D o.bytes.length d] tObj)) S [.int .i64 o.cls, .slice A o.slots.length c, .slice D o.bytes.length d] o := ObjC.fr0 ⟨A, c, D, d, rfl, hsl, hby⟩ hf1
  have hz1 : (w.alloc (.cells #[.int .i64 o.cls, .slice A o.slots.length c, .slice D o.bytes.length d] tObj)).heap.size = w.heap.size + 1 := by simp
  go_enter Try.func19, Try.ntmps19
  go_wp2_with fail
  refine (peek_calls _ V O T O2 q p v t x (h.fr0 hf1) (hT.fr0 hf1) ok okv hn hx).mono ?_
  rintro e w2 ⟨csP, rfl, hownP, hf2⟩
  obtain ⟨AP, cP, DP, dP, rfl⟩ := hownP.lit3
  have hfo : Fr No w2 (w2.alloc (.cells #[.int .i64 (peekM t v x).1.cls, .slice AP (peekM t v x).1.slots.length cP, .slice DP (peekM t v x).1.bytes.length dP] tObj)) := (Fr.refl No w2).alloc _
  have hF3 := (hf1.tr hf2).tr hfo
  have hb3 := (hb1.fr0 hf2).fr0 hfo
  have hoc3 := (hoc1.fr0 hf2).fr0 hfo
  have hV3 := h.fr0 hF3
  have hz3 : w.heap.size + 1 ≤ (w2.alloc (.cells #[.int .i64 (peekM t v x).1.cls, .slice AP (peekM t v x).1.slots.length cP, .slice DP (peekM t v x).1.bytes.length dP] tObj)).heap.size := by
    have := hf2.size; have := hfo.size; omega
  generalize hw3 : w2.alloc (.cells #[.int .i64 (peekM t v x).1.cls, .slice AP (peekM t v x).1.slots.length cP, .slice DP (peekM t v x).1.bytes.length dP] tObj) = w3 at *
  have H : Hid (putV t v x o = if (peekM t v x).2 = 0 then (if wrongM o = 0 then (vput v x o, 0) else (v, wrongM o)) else (v, (peekM t v x).2)) := Lib.hid rfl
  have HV := Lib.hid h
  clear hfo hf1 hf2 hownP hb1 hoc1 hz1 h
  generalize hPK : peekM t v x = R at *
  by_cases hR : R.2 = 0
  · have ek : (R.2 != 0) = false := by simpa using hR
    have ek2 : (R.2 == 0) = true := by simpa using hR
    have H1 := Lib.hid (H.out.trans (if_pos hR))
    clear hR H
    have hld := hb3.all
    go_wp2_with (first
      | (refine wpList_ldA ag_obj rfl _ rfl ⟨w.heap.size, 0, none⟩ [.int .i64 o.cls, .slice A o.slots.length c, .slice D o.bytes.length d] rfl rfl hld ?_)
      | fail)
    refine (wrong_calls S _ o _ hoc3).mono ?_
    rintro e w4 ⟨rfl, hf4⟩
    clear hw3
    have hb4 := hb3.fr0 hf4
    have hF4 := hF3.tr hf4
    have hV4 := hV3.fr0 hf4
    have hoc4 := hoc3.fr0 hf4
    have hz4 := hf4.size
    by_cases hw : wrongM o = 0
    · have H2 := Lib.hid (H1.out.trans (if_pos hw))
      rw [hw]
      clear hw H1
      obtain ⟨ob, rb, f, g, hP⟩ := hV4
      have hbk := hP.blk
      have hld4 := hb4.all
      obtain ⟨i1, i2, i3, i4, i5, i6⟩ := hP.inV
      (have y0 := hbk.cell 0; have y1 := hbk.cell 1; have y2 := hbk.cell 2; have y3 := hbk.cell 3; have y4 := hbk.cell 4; have yf0 := hbk.frozen 0; have yf1 := hbk.frozen 1; have yf2 := hbk.frozen 2; have yf3 := hbk.frozen 3; have yf4 := hbk.frozen 4; simp only [List.getElem?_toArray, List.getElem?_cons_zero, List.getElem?_cons_succ] at y0 y1 y2 y3 y4)
      go_wp2_with fail
      refine T_begin2 No [7] [0, 1, 2, 3, 4, 5, 6, 7] [6, 7] (by kernel_rfl) (by kernel_rfl) ?_
      simp only [pickOps, List.filterMap_cons, List.filterMap_nil, List.getElem?_cons_zero, List.getElem?_cons_succ, Act.put]
      repeat (first | (refine T_skip (by rfl) (by rfl) (fun _ _ _ h => h) ?_; try simp only [Act.put, List.setIfInBounds_toArray, List.set_cons_zero, List.set_cons_succ]) | (refine T_pass (by rfl) (by rfl) ?_; try simp only [Act.put, List.setIfInBounds_toArray, List.set_cons_zero, List.set_cons_succ]) | (refine T_load (by assumption) (by rfl) (by rfl) (fun _ _ _ _ h => h) rfl rfl (by assumption) (by first | exact (fun hn => hn) | assumption) ?_; try simp only [Act.put, List.setIfInBounds_toArray, List.set_cons_zero, List.set_cons_succ]) | (refine T_nil (by rfl) (by rfl) (fun _ _ _ _ h => h) rfl rfl ?_; try simp only [Act.put, List.setIfInBounds_toArray, List.set_cons_zero, List.set_cons_succ]) | (refine T_quietN (by rfl) (by rfl) (by rfl) (by rfl) (fun _ _ _ _ h => h) (fun K hK => ?_); go_big_quiet_op; refine hK _ ?_; clear hK K) | (refine T_two (by rfl) (by rfl) (by rfl) (by rfl) (fun _ _ _ _ h => h) (fun K hK => ?_); go_big_quiet_op; refine ⟨_, fun _ _ => rfl, ?_⟩; refine hK _ ?_; clear hK K; try simp only [Act.put, List.setIfInBounds_toArray, List.set_cons_zero, List.set_cons_succ]) | fail)
      refine T_loadA (cs := [.int .i64 o.cls, .slice A o.slots.length c, .slice D o.bytes.length d]) ag_obj (by rfl) (by rfl) (fun _ _ _ _ h => h) rfl rfl rfl (show ∀ j u, _ → w4.drew.cell? _ = some u from hld4) (fun hn => hn) ?_
      try simp only [Act.put, List.setIfInBounds_toArray, List.set_cons_zero, List.set_cons_succ]
      (refine T_call (by rfl) (by rfl) (fun K hK => ?_); go_wp2_with fail)
      refine (ocopy_calls S [.int .i64 o.cls, .slice A o.slots.length c, .slice D o.bytes.length d] o w4.drew hoc4 hs).mono ?_
      rintro e w5 ⟨cs5, rfl, hown5, hf5⟩
      (refine hK.out _ _ (hf5) ?_; clear hK K; try simp only [Act.put, List.setIfInBounds_toArray, List.set_cons_zero, List.set_cons_succ])
      have hf45 : Fr No w4 w5 := (Fr.refl No w4).drew.tr hf5
      have hP5 := hP.fr hf45 (fun _ _ hn => hn) (fun _ _ hn => hn)
      have hle1 : o.slots.length ≤ 211106232532992 := by omega
      have hoc5 := (hown5.rd hle1 (RdB.le hby)).lt
      have hzd : w4.drew.heap.size = w4.heap.size := rfl
      rw [hzd] at hoc5
      repeat (first | (refine T_skip (by rfl) (by rfl) (fun _ _ _ h => h) ?_; try simp only [Act.put, List.setIfInBounds_toArray, List.set_cons_zero, List.set_cons_succ]) | (refine T_pass (by rfl) (by rfl) ?_; try simp only [Act.put, List.setIfInBounds_toArray, List.set_cons_zero, List.set_cons_succ]) | (refine T_load (by assumption) (by rfl) (by rfl) (fun _ _ _ _ h => h) rfl rfl (by assumption) (by first | exact (fun hn => hn) | assumption) ?_; try simp only [Act.put, List.setIfInBounds_toArray, List.set_cons_zero, List.set_cons_succ]) | (refine T_nil (by rfl) (by rfl) (fun _ _ _ _ h => h) rfl rfl ?_; try simp only [Act.put, List.setIfInBounds_toArray, List.set_cons_zero, List.set_cons_succ]) | (refine T_quietN (by rfl) (by rfl) (by rfl) (by rfl) (fun _ _ _ _ h => h) (fun K hK => ?_); go_big_quiet_op; refine hK _ ?_; clear hK K) | (refine T_two (by rfl) (by rfl) (by rfl) (by rfl) (fun _ _ _ _ h => h) (fun K hK => ?_); go_big_quiet_op; refine ⟨_, fun _ _ => rfl, ?_⟩; refine hK _ ?_; clear hK K; try simp only [Act.put, List.setIfInBounds_toArray, List.set_cons_zero, List.set_cons_succ]) | fail)
      refine T_turn No [] (by rfl) (by rfl) (by rfl) (fun K hK => ?_)
      refine wp_putM (x := x) (u := .agg cs5.toArray) rfl Try.underlying79 hP5.own rfl (by unfold maxLen; omega) rfl hx rfl ?_
      intro w6 hm6 hg6
      refine hK.out _ _ ?_
      clear hK K
      refine T_done ?_
      have hf6 : Fr (fun b => b = ob) w5 w6 := (Fr.refl (fun b => b = ob) w5).grown hg6 (fun q hq => by injection hq with hq; exact .inr hq.symm)
      have hf46 : Fr (fun b => b = ob) w4 w6 := (hf45.mono (fun _ _ hn => hn.elim)).trans hf6 (fun b _ e => e)
      have hobl := hP.own.lt
      have hz56 := hf6.size
      have hP6 := hP.put (O' := fun b => O b ∨ w4.heap.size ≤ b ∧ b < w6.heap.size) hx hf46 hm6 ((hoc5.keep hf6 (fun b hb e => by have := hb.1; omega)).mono (fun b _ hb => .inr ⟨hb.1, by have := hb.2; omega⟩)) (fun b hb => .inl hb) (fun b hb => hb)
      clear y0 y1 y2 y3 y4 yf0 yf1 yf2 yf3 yf4
      go_wp2
      go_ret
      refine ⟨by rw [H2.out]; rfl, fun b => O b ∨ w4.heap.size ≤ b ∧ b < w6.heap.size, by rw [H2.out]; exact ⟨ob, rb, _, g, hP6⟩, fun b hb => ?_, (hF4.mono (fun _ _ hn => hn.elim)).trans hf46 (fun b _ e => e ▸ i2)⟩
      rcases hb with hb | hb
      · exact .inl hb
      · exact .inr (by omega)
    · have H2 := Lib.hid (H1.out.trans (if_neg hw))
      have ekw : (wrongM o == 0) = false := by simpa using hw
      have ekw2 : (wrongM o != 0) = true := by simpa using hw
      clear hw H1
      go_wp2
      go_ret
      exact ⟨by rw [H2.out]; rfl, O, by rw [H2.out]; exact hV4, fun b hb => .inl hb, hF4.mono (fun _ _ hn => hn.elim)⟩
  · have ek : (R.2 != 0) = true := by simpa using hR
    have ek2 : (R.2 == 0) = false := by simpa using hR
    have H1 := Lib.hid (H.out.trans (if_neg hR))
    clear hR H
    go_wp2
    go_ret
    exact ⟨by rw [H1.out]; rfl, O, by rw [H1.out]; exact hV3, fun b hb => .inl hb, hF3.mono (fun _ _ hn => hn.elim)⟩
end Go.Proofs.Ytoajigghkjnffaa
namespace Go.Proofs.Ytoajigghkjnffaa
set_option linter.unusedVariables false
set_option linter.unusedSimpArgs false
open Go.RowKit

/-- What Make leaves: the view, the oop, the error. -/
def makeM (v : ViewM) (o : ObjM) : ViewM × Int × Int :=
  if wrongM o = 0 then
    (if v.made = 4096 then (v, 0, 4) else (vput ⟨v.base, v.own, v.read, v.made + 1, v.n⟩ (4096 + (v.made + 1)) o, 4096 + (v.made + 1), 0))
  else (v, 0, wrongM o)
set_option maxHeartbeats 2000000 in
set_option maxRecDepth 100000 in
theorem vmake_calls (w : World) (V O S : Nat → Prop) (q p : Nat) (v : ViewM) (cs : List Value) (o : ObjM) (h : ViewAt w V O q p v) (hco : ObjC w S cs o) (hSV : ∀ b, S b → ¬ V b) (okv : ViewOk v) (hnv : v.n ≤ 1000000) (hs : o.slots.length * 16 ≤ 211106232532992) :
    Calls Try.prog 17 #[.pointer (some ⟨q, 0, none⟩), .agg cs.toArray] w fun e w' => e = .returned (.tuple #[.int .i64 (makeM v o).2.1, .int .i64 (makeM v o).2.2]) ∧ PutR w V O q p (makeM v o).1 w' := by
  obtain ⟨base, own, read, made, n⟩ := v
  obtain ⟨m1, m2, _⟩ := okv
  simp only at m1 m2 hnv
  have hVl := h.lt
  obtain ⟨A, c, D, d, rfl, hsl, hby⟩ := hco
  have g1 := plain_i64
  have g2 := plain_lval
  have g3 := plain_lu8
  have g6 := plain_mobj
  have hf1 : Fr No w (w.alloc (.cells #[.int .i64 o.cls, .slice A o.slots.length c, .slice D o.bytes.length d] tObj)) := (Fr.refl No w).alloc _
  have hb1 := Blk.new w tObj #[.int .i64 o.cls, .slice A o.slots.length c, .slice D o.bytes.length d]
  have hoc1 : ObjC (w.alloc (.cells #[.int .i64 o.cls, .slice A o.slots.length c, .slice D o.bytes.length d] tObj)) S [.int .i64 o.cls, .slice A o.slots.length c, .slice D o.bytes.length d] o := ObjC.fr0 ⟨A, c, D, d, rfl, hsl, hby⟩ hf1
  have hz1 : (w.alloc (.cells #[.int .i64 o.cls, .slice A o.slots.length c, .slice D o.bytes.length d] tObj)).heap.size = w.heap.size + 1 := by simp
  have hld := hb1.all
  have H : Hid (makeM ⟨base, own, read, made, n⟩ o = if wrongM o = 0 then (if made = 4096 then (⟨base, own, read, made, n⟩, 0, 4) else (vput ⟨base, own, read, made + 1, n⟩ (4096 + (made + 1)) o, 4096 + (made + 1), 0)) else (⟨base, own, read, made, n⟩, 0, wrongM o)) := Lib.hid rfl
  go_enter Try.func17, Try.ntmps17
  go_wp2_with (first
    | (refine wpList_ldA ag_obj rfl _ rfl ⟨w.heap.size, 0, none⟩ [.int .i64 o.cls, .slice A o.slots.length c, .slice D o.bytes.length d] rfl rfl hld ?_)
    | fail)
  refine (wrong_calls S _ o _ hoc1).mono ?_
  rintro e w4 ⟨rfl, hf4⟩
  have hb4 := hb1.fr0 hf4
  have hF4 := hf1.tr hf4
  have hV4 := h.fr0 hF4
  have hoc4 := hoc1.fr0 hf4
  have hz4 := hf4.size
  have hz4' : w.heap.size + 1 ≤ w4.heap.size := by omega
  clear hld hf1 hb1 hoc1 hz1 hf4 hz4 h
  by_cases hw : wrongM o = 0
  rotate_left
  · have H2 := Lib.hid (H.out.trans (if_neg hw))
    have ekw : (wrongM o == 0) = false := by simpa using hw
    have ekw2 : (wrongM o != 0) = true := by simpa using hw
    clear hw H
    go_wp2
    go_ret2
    exact ⟨by rw [H2.out]; rfl, O, by rw [H2.out]; exact hV4, fun b hb => .inl hb, hF4.mono (fun _ _ hn => hn.elim)⟩
  have H2 := Lib.hid (H.out.trans (if_pos hw))
  rw [hw]
  clear hw H
  obtain ⟨ob, rb, f, g, hP⟩ := hV4
  have hbk := hP.blk
  obtain ⟨i1, i2, i3, i4, i5, i6⟩ := hP.inV
  simp only at hbk
  (have y0 := hbk.cell 0; have y1 := hbk.cell 1; have y2 := hbk.cell 2; have y3 := hbk.cell 3; have y4 := hbk.cell 4; have yf0 := hbk.frozen 0; have yf1 := hbk.frozen 1; have yf2 := hbk.frozen 2; have yf3 := hbk.frozen 3; have yf4 := hbk.frozen 4; simp only [List.getElem?_toArray, List.getElem?_cons_zero, List.getElem?_cons_succ] at y0 y1 y2 y3 y4)
  by_cases hm : made = 4096
  · have H3 := Lib.hid (H2.out.trans (if_pos hm))
    have ekm : (made == 4096) = true := by simpa using hm
    clear hm H2
    go_wp2
    go_ret2
    exact ⟨by rw [H3.out]; rfl, O, by rw [H3.out]; exact ⟨ob, rb, f, g, hP⟩, fun b hb => .inl hb, hF4.mono (fun _ _ hn => hn.elim)⟩
  have H3 := Lib.hid (H2.out.trans (if_neg hm))
  have ekm : (made == 4096) = false := by simpa using hm
  have m3 : made < 4096 := by omega
  clear hm H2
  obtain ⟨j, rfl⟩ : ∃ j : Nat, made = (j : Int) := ⟨made.toNat, by omega⟩
  have hjl : j < 4096 := by omega
  clear m1 m2 m3
  have hset : Fr (fun b => b = q) w4 (w4.setCell ⟨q, 4, none⟩ (.int .i64 ((j : Int) + 1))) := (Fr.refl (fun b => b = q) w4).set (p := ⟨q, 4, none⟩) (.inr rfl) _
  have hqne : q ≠ w.heap.size := by have := hVl.1 q i1; omega
  have hP5 : ViewP (w4.setCell ⟨q, 4, none⟩ (.int .i64 ((j : Int) + 1))) V O q p ob rb f g ⟨base, own, read, (j : Int) + 1, n⟩ :=
    { blk := hbk.put 4 _, own := hP.own.fr hset (fun e => i4 e.symm), rd := hP.rd.fr hset (fun e => i5 e.symm)
      objs := fun x hx => by
        rcases hP.objs x hx with h3 | ⟨cs, o, e1, e2, e3⟩
        · exact .inl h3
        · exact .inr ⟨cs, o, e1, e2, e3.keep hset (fun b hb e => (hP.off q i1).2 (e ▸ hb))⟩
      reads := hP.reads, inV := hP.inV, off := fun b hb => ⟨Nat.lt_of_lt_of_le (hP.off b hb).1 hset.size, (hP.off b hb).2⟩, offO := fun b hb => Nat.lt_of_lt_of_le (hP.offO b hb) hset.size }
  have hb5 := hb4.fr hset (fun e => hqne e.symm)
  have hoc5 : ObjC (w4.setCell ⟨q, 4, none⟩ (.int .i64 ((j : Int) + 1))) S [.int .i64 o.cls, .slice A o.slots.length c, .slice D o.bytes.length d] o := hoc4.keep hset (fun b hb e => hSV b hb (e ▸ i1))
  have hF5 : Fr V w (w4.setCell ⟨q, 4, none⟩ (.int .i64 ((j : Int) + 1))) := (hF4.mono (fun _ _ hn => hn.elim)).trans hset (fun b _ e => e ▸ i1)
  have hz5 := hset.size
  clear hP hbk hset
  go_upto_region 9 with fail
  generalize w4.setCell ⟨q, 4, none⟩ (.int .i64 ((j : Int) + 1)) = w5 at *
  clear y0 y1 y2 y3 y4 yf0 yf1 yf2 yf3 yf4
  have hbk := hP5.blk
  simp only at hbk
  (have y0 := hbk.cell 0; have y1 := hbk.cell 1; have y2 := hbk.cell 2; have y3 := hbk.cell 3; have y4 := hbk.cell 4; have yf0 := hbk.frozen 0; have yf1 := hbk.frozen 1; have yf2 := hbk.frozen 2; have yf3 := hbk.frozen 3; have yf4 := hbk.frozen 4; simp only [List.getElem?_toArray, List.getElem?_cons_zero, List.getElem?_cons_succ] at y0 y1 y2 y3 y4)
  go_wp2_with fail
  have hld5 := hb5.all
  refine T_begin2 No [7] [0, 1, 2, 3, 4, 5, 6, 7] [6, 7] (by kernel_rfl) (by kernel_rfl) ?_
  simp only [pickOps, List.filterMap_cons, List.filterMap_nil, List.getElem?_cons_zero, List.getElem?_cons_succ, Act.put]
  repeat (first | (refine T_skip (by rfl) (by rfl) (fun _ _ _ h => h) ?_; try simp only [Act.put, List.setIfInBounds_toArray, List.set_cons_zero, List.set_cons_succ]) | (refine T_pass (by rfl) (by rfl) ?_; try simp only [Act.put, List.setIfInBounds_toArray, List.set_cons_zero, List.set_cons_succ]) | (refine T_load (by assumption) (by rfl) (by rfl) (fun _ _ _ _ h => h) rfl rfl (by assumption) (by first | exact (fun hn => hn) | assumption) ?_; try simp only [Act.put, List.setIfInBounds_toArray, List.set_cons_zero, List.set_cons_succ]) | (refine T_nil (by rfl) (by rfl) (fun _ _ _ _ h => h) rfl rfl ?_; try simp only [Act.put, List.setIfInBounds_toArray, List.set_cons_zero, List.set_cons_succ]) | (refine T_quietN (by rfl) (by rfl) (by rfl) (by rfl) (fun _ _ _ _ h => h) (fun K hK => ?_); go_big_quiet_op; refine hK _ ?_; clear hK K) | (refine T_two (by rfl) (by rfl) (by rfl) (by rfl) (fun _ _ _ _ h => h) (fun K hK => ?_); go_big_quiet_op; refine ⟨_, fun _ _ => rfl, ?_⟩; refine hK _ ?_; clear hK K; try simp only [Act.put, List.setIfInBounds_toArray, List.set_cons_zero, List.set_cons_succ]) | fail)
  refine T_loadA (cs := [.int .i64 o.cls, .slice A o.slots.length c, .slice D o.bytes.length d]) ag_obj (by rfl) (by rfl) (fun _ _ _ _ h => h) rfl rfl rfl (show ∀ j u, _ → w5.drew.cell? _ = some u from hld5) (fun hn => hn) ?_
  try simp only [Act.put, List.setIfInBounds_toArray, List.set_cons_zero, List.set_cons_succ]
  (refine T_call (by rfl) (by rfl) (fun K hK => ?_); go_wp2_with fail)
  refine (ocopy_calls S [.int .i64 o.cls, .slice A o.slots.length c, .slice D o.bytes.length d] o w5.drew hoc5 hs).mono ?_
  rintro e w6 ⟨cs6, rfl, hown6, hf6⟩
  (refine hK.out _ _ (hf6) ?_; clear hK K; try simp only [Act.put, List.setIfInBounds_toArray, List.set_cons_zero, List.set_cons_succ])
  have hf56 : Fr No w5 w6 := (Fr.refl No w5).drew.tr hf6
  have hP6 := hP5.fr hf56 (fun _ _ hn => hn) (fun _ _ hn => hn)
  have hle1 : o.slots.length ≤ 211106232532992 := by omega
  have hoc6 := (hown6.rd hle1 (RdB.le hby)).lt
  have hzd : w5.drew.heap.size = w5.heap.size := rfl
  rw [hzd] at hoc6
  repeat (first | (refine T_skip (by rfl) (by rfl) (fun _ _ _ h => h) ?_; try simp only [Act.put, List.setIfInBounds_toArray, List.set_cons_zero, List.set_cons_succ]) | (refine T_pass (by rfl) (by rfl) ?_; try simp only [Act.put, List.setIfInBounds_toArray, List.set_cons_zero, List.set_cons_succ]) | (refine T_load (by assumption) (by rfl) (by rfl) (fun _ _ _ _ h => h) rfl rfl (by assumption) (by first | exact (fun hn => hn) | assumption) ?_; try simp only [Act.put, List.setIfInBounds_toArray, List.set_cons_zero, List.set_cons_succ]) | (refine T_nil (by rfl) (by rfl) (fun _ _ _ _ h => h) rfl rfl ?_; try simp only [Act.put, List.setIfInBounds_toArray, List.set_cons_zero, List.set_cons_succ]) | (refine T_quietN (by rfl) (by rfl) (by rfl) (by rfl) (fun _ _ _ _ h => h) (fun K hK => ?_); go_big_quiet_op; refine hK _ ?_; clear hK K) | (refine T_two (by rfl) (by rfl) (by rfl) (by rfl) (fun _ _ _ _ h => h) (fun K hK => ?_); go_big_quiet_op; refine ⟨_, fun _ _ => rfl, ?_⟩; refine hK _ ?_; clear hK K; try simp only [Act.put, List.setIfInBounds_toArray, List.set_cons_zero, List.set_cons_succ]) | fail)
  have hx : W64 (4096 + ((j : Int) + 1)) := wf_of (by omega) (by omega)
  refine T_turn No [] (by rfl) (by rfl) (by rfl) (fun K hK => ?_)
  refine wp_putM (x := 4096 + ((j : Int) + 1)) (u := .agg cs6.toArray) rfl Try.underlying79 hP6.own rfl (by show n < _; unfold maxLen; omega) rfl hx rfl ?_
  intro w7 hm7 hg7
  refine hK.out _ _ ?_
  clear hK K
  refine T_done ?_
  have hf7 : Fr (fun b => b = ob) w6 w7 := (Fr.refl (fun b => b = ob) w6).grown hg7 (fun q hq => by injection hq with hq; exact .inr hq.symm)
  have hf57 : Fr (fun b => b = ob) w5 w7 := (hf56.mono (fun _ _ hn => hn.elim)).trans hf7 (fun b _ e => e)
  have hobl := hP5.own.lt
  have hz67 := hf7.size
  have hP7 := hP5.put (O' := fun b => O b ∨ w5.heap.size ≤ b ∧ b < w7.heap.size) hx hf57 hm7 ((hoc6.keep hf7 (fun b hb e => by have := hb.1; omega)).mono (fun b _ hb => .inr ⟨hb.1, by have := hb.2; omega⟩)) (fun b hb => .inl hb) (fun b hb => hb)
  clear y0 y1 y2 y3 y4 yf0 yf1 yf2 yf3 yf4
  go_wp2
  go_ret2
  refine ⟨by rw [H3.out]; rfl, fun b => O b ∨ w5.heap.size ≤ b ∧ b < w7.heap.size, by rw [H3.out]; exact ⟨ob, rb, _, g, hP7⟩, fun b hb => ?_, hF5.trans hf57 (fun b _ e => e ▸ i2)⟩
  rcases hb with hb | hb
  · exact .inl hb
  · exact .inr (by omega)
end Go.Proofs.Ytoajigghkjnffaa
namespace Go.Proofs.Ytoajigghkjnffaa
set_option linter.unusedVariables false
set_option linter.unusedSimpArgs false
open Go.RowKit

def kc : ChM := ⟨5, false, ⟨1, [], []⟩⟩
def kr : RecM := ⟨1, [kc]⟩
def kt : TabM := tabOf [kr]
theorem kt_last : kt.last = 1 := by rfl
theorem kt_first : kt.first = 0 := by rfl
theorem kt_ok : TabOk kt := tabOf_ok _ _ tab0_ok
theorem kt_n : kt.n ≤ 1000000 := by show (1 : Nat) ≤ 1000000; decide
theorem kpeek0 : peekM kt (view0 1) 5 = (⟨1, [], []⟩, 0) := by rfl
def kv1 : ViewM := vput (view0 1) 5 ⟨2, [], []⟩
theorem kput : putV kt (view0 1) 5 ⟨2, [], []⟩ = (kv1, 0) := by rfl
def kv2 : ViewM := (makeM kv1 ⟨3, [], []⟩).1
theorem kmake : (makeM kv1 ⟨3, [], []⟩).2 = (4097, 0) := by rfl
theorem kpeek2 : peekM kt kv2 5 = (⟨2, [], []⟩, 0) := by rfl
theorem kv1_ok : ViewOk kv1 := ⟨Int.le_refl _, by show (0 : Int) ≤ 4096; decide, fun x o h => by
  have h' : (if x = 5 then some (⟨2, [], []⟩ : ObjM) else none) = some o := h
  split at h'
  · injection h' with h'; subst h'; exact ⟨by decide, by decide⟩
  · cases h'⟩
theorem kv2_ok : ViewOk kv2 := ⟨by show (0 : Int) ≤ 1; decide, by show (1 : Int) ≤ 4096; decide, fun x o h => by
  have h' : (if x = 4097 then some (⟨3, [], []⟩ : ObjM) else (if x = 5 then some ⟨2, [], []⟩ else none)) = some o := h
  split at h'
  · injection h' with h'; subst h'; exact ⟨by decide, by decide⟩
  · split at h'
    · injection h' with h'; subst h'; exact ⟨by decide, by decide⟩
    · cases h'⟩
theorem nilObj (w : World) (n : Int) : ObjC w No [.int .i64 n, .slice none 0 0, .slice none 0 0] ⟨n, [], []⟩ := ⟨none, 0, none, 0, rfl, Rd.nil_, Rd.nil_⟩
theorem kr_ok : ∀ r ∈ [kr], RecOk r := by
  intro r hr
  rw [List.mem_singleton] at hr
  subst hr
  refine ⟨by decide, fun c hc => ?_⟩
  have : c = kc := by simpa [kr] using hc
  subst this
  exact ⟨by decide, by decide⟩
/-- The record in memory. -/
theorem kr_rd {w : World} {g1 g2 : Nat} (h1 : Blk w g1 tChr #[.int .i64 5, .bool false, .int .i64 1, .slice none 0 0, .slice none 0 0]) (h2 : Blk w g2 tRecr #[.int .i64 1, .slice (some ⟨g1, 0, none⟩) 1 1]) :
    RdRec w (fun b => b < w.heap.size) (some ⟨g2, 0, none⟩) [kr] := by
  have r1 := h1.rd (size := 5) (n := 1) (by rfl) (by decide)
  have r2 := h2.rd (size := 2) (n := 1) (by rfl) (by decide)
  have l1 := h1.lt
  have l2 := h2.lt
  refine ⟨_, r2.mono (fun b _ e => by subst e; exact l2) (by decide), [.int .i64 1, .slice (some ⟨g1, 0, none⟩) 1 1], [], rfl, ⟨some ⟨g1, 0, none⟩, 1, rfl, ⟨_, r1.mono (fun b _ e => by subst e; exact l1) (by decide), [.int .i64 5, .bool false, .int .i64 1, .slice none 0 0, .slice none 0 0], [], rfl, ⟨none, 0, none, 0, rfl, Rd.nil_, Rd.nil_⟩, rfl⟩⟩, rfl⟩
set_option maxHeartbeats 4000000 in
set_option maxRecDepth 100000 in
theorem known_calls (w : World) :
    Calls Try.prog 14 #[] w fun e w' => e = .returned (.bool true) ∧ Fr No w w' := by
  have g1 := plain_i64
  go_enter Try.func14, Try.ntmps14
  go_wp2_with fail
  have hr1 : Blk ((w.alloc (.cells #[.int .i64 5, .bool false, .int .i64 1, .slice none 0 0, .slice none 0 0] tChr)).alloc (.cells #[.int .i64 1, .slice (some ⟨w.heap.size, 0, none⟩) 1 1] tRecr)) w.heap.size tChr #[.int .i64 5, .bool false, .int .i64 1, .slice none 0 0, .slice none 0 0] := (Blk.new w _ _).alloc _
  have hr2 : Blk ((w.alloc (.cells #[.int .i64 5, .bool false, .int .i64 1, .slice none 0 0, .slice none 0 0] tChr)).alloc (.cells #[.int .i64 1, .slice (some ⟨w.heap.size, 0, none⟩) 1 1] tRecr)) (w.heap.size + 1) tRecr #[.int .i64 1, .slice (some ⟨w.heap.size, 0, none⟩) 1 1] := Blk.newAt (by simp)
  have hf1 : Fr No w ((w.alloc (.cells #[.int .i64 5, .bool false, .int .i64 1, .slice none 0 0, .slice none 0 0] tChr)).alloc (.cells #[.int .i64 1, .slice (some ⟨w.heap.size, 0, none⟩) 1 1] tRecr)) := ((Fr.refl No w).alloc _).alloc _
  refine (both_calls _ (some ⟨w.heap.size + 1, 0, none⟩) 1 [kr] _ (kr_rd hr1 hr2) (fun b hb => hb) kr_ok).mono ?_
  rintro e w1 ⟨p, pr, T, O, T2, O2, rfl, hT1, _, hall, _, _, hf2⟩
  have hT1 : TabAt w1 T O p kt := hT1
  have hF1 := hf1.tr hf2
  have hz1 := hf1.size
  have hge : ∀ b, T b ∨ O b → w.heap.size ≤ b := fun b hb => by
    have := hall b (hb.elim .inl (fun h => .inr (.inl h)))
    omega
  clear hall hr1 hr2 hf1 hf2 hz1
  have hTl := hT1.lt
  obtain ⟨mb, wb, hbk⟩ := hT1.blk
  rw [kt_first, kt_last] at hbk
  go_wp2_with fail
  refine (vnew_calls w1 p 0 1 _ _ hbk).mono ?_
  rintro e w2 ⟨q, rfl, hV2, hf2⟩
  have hT2 := hT1.fr0 hf2
  have hz2 := hf2.size
  go_wp2_with fail
  refine (vnew_calls w2 p 0 1 _ _ (hbk.fr0 hf2)).mono ?_
  rintro e w3 ⟨q2, rfl, hU3, hf3⟩
  have hV3 := hV2.fr0 hf3
  have hT3 := hT2.fr0 hf3
  have hF3 := (hF1.tr hf2).tr hf3
  have hz3 := hf3.size
  have hV3l := hV3.lt
  have hU3l := hU3.lt
  clear hV2 hT2 hbk hT1
  generalize hVV : (fun b => w1.heap.size ≤ b ∧ b < w2.heap.size) = V at *
  generalize hUU : (fun b => w2.heap.size ≤ b ∧ b < w3.heap.size) = U at *
  have hVd : ∀ b, V b → w1.heap.size ≤ b ∧ b < w2.heap.size := fun b hb => by rw [← hVV] at hb; exact hb
  have hUd : ∀ b, U b → w2.heap.size ≤ b ∧ b < w3.heap.size := fun b hb => by rw [← hUU] at hb; exact hb
  clear hVV hUU
  go_wp2_with fail
  refine (vput_calls w3 V No T O No q p (view0 1) kt 5 _ ⟨2, [], []⟩ hV3 hT3 (nilObj w3 2) kt_ok (view0_ok 1) kt_n (by decide) (wf_of (by decide) (by decide)) (by decide)).mono ?_
  rintro e w4 ⟨rfl, O4, hV4, hO4, hf4⟩
  rw [kput] at hV4 ⊢
  simp only at hV4 ⊢
  have hT4 := hT3.fr hf4 (fun b hb hV => by have := hTl.1 b hb; have := hVd b hV; omega) (fun b hb hV => by have := hTl.2.1 b hb; have := hVd b hV; omega)
  have hU4 := hU3.fr hf4 (fun b hb hV => by have := hUd b hb; have := hVd b hV; omega) (fun b hb hV => hb)
  have hF4 : Fr No w w4 := hF3.trans hf4 (fun b hb hV => by have := hVd b hV; have := hF1.size; omega)
  have hz4 := hf4.size
  clear hV3 hT3 hU3
  go_wp2_with fail
  refine (vmake_calls w4 V O4 No q p kv1 _ ⟨3, [], []⟩ hV4 (nilObj w4 3) (fun b hb _ => hb) kv1_ok (by decide) (by decide)).mono ?_
  rintro e w5 ⟨rfl, O5, hV5, hO5, hf5⟩
  rw [kmake]
  simp only
  have hV5 : ViewAt w5 V O5 q p kv2 := hV5
  have hT5 := hT4.fr hf5 (fun b hb hV => by have := hTl.1 b hb; have := hVd b hV; omega) (fun b hb hV => by have := hTl.2.1 b hb; have := hVd b hV; omega)
  have hU5 := hU4.fr hf5 (fun b hb hV => by have := hUd b hb; have := hVd b hV; omega) (fun b hb hV => hb)
  have hF5 : Fr No w w5 := hF4.trans hf5 (fun b hb hV => by have := hVd b hV; have := hF1.size; omega)
  have hz5 := hf5.size
  clear hV4 hT4 hU4
  go_wp2_with fail
  refine (get_calls w5 V O5 T O q p kv2 kt 5 hV5 hT5 (fun b hV => ⟨fun hb => by have := hTl.1 b hb; have := hVd b hV; omega, fun hb => by have := hTl.2.1 b hb; have := hVd b hV; omega⟩) kt_ok kv2_ok kt_n (by decide) (wf_of (by decide) (by decide))).mono ?_
  rintro e w6 ⟨cs6, rfl, hown6, hV6, hf6⟩
  rw [kpeek2] at hown6 ⊢
  simp only at hown6 ⊢
  obtain ⟨A6, c6, D6, d6, rfl⟩ := hown6.lit3
  have hT6 := hT5.fr hf6 (fun b hb hV => by have := hTl.1 b hb; have := hVd b hV; omega) (fun b hb hV => by have := hTl.2.1 b hb; have := hVd b hV; omega)
  have hU6 := hU5.fr hf6 (fun b hb hV => by have := hUd b hb; have := hVd b hV; omega) (fun b hb hV => hb)
  have hF6 : Fr No w w6 := hF5.trans hf6 (fun b hb hV => by have := hVd b hV; have := hF1.size; omega)
  have hz6 := hf6.size
  clear hT5 hU5
  try simp only [List.length_nil]
  have hb8 := Blk.new w6 tObj #[.int .i64 2, .slice A6 0 c6, .slice D6 0 d6]
  have hfo : Fr No w6 (w6.alloc (.cells #[.int .i64 2, .slice A6 0 c6, .slice D6 0 d6] tObj)) := (Fr.refl No w6).alloc _
  have hV7 := hV6.fr0 hfo
  have hT7 := hT6.fr0 hfo
  have hU7 := hU6.fr0 hfo
  have hF7 := hF6.tr hfo
  have hz7 := hfo.size
  have hl7 := hb8.lt
  clear hV6 hT6 hU6 hfo hown6
  go_wp2_with fail
  generalize hw7 : w6.alloc (.cells #[.int .i64 2, .slice A6 0 c6, .slice D6 0 d6] tObj) = w7 at *
  try rw [hw7]
  clear hw7
  refine (get_calls w7 U No T O q2 p (view0 1) kt 5 hU7 hT7 (fun b hV => ⟨fun hb => by have := hTl.1 b hb; have := hUd b hV; omega, fun hb => by have := hTl.2.1 b hb; have := hUd b hV; omega⟩) kt_ok (view0_ok 1) kt_n (by decide) (wf_of (by decide) (by decide))).mono ?_
  rintro e w8 ⟨cs8, rfl, hown8, hU8, hf8⟩
  rw [kpeek0] at hown8 ⊢
  simp only at hown8 ⊢
  obtain ⟨A8, c8, D8, d8, rfl⟩ := hown8.lit3
  try simp only [List.length_nil]
  have hV8 := hV7.fr hf8 (fun b hb hV => by have := hUd b hV; have := hVd b hb; omega) (fun b hb hV => by
    have h1 := hUd b hV
    rcases hO5 b hb with h9 | h9
    · rcases hO4 b h9 with h7 | h7
      · exact h7
      · omega
    · omega)
  have hb9 := hb8.fr hf8 (fun hV => by have := hUd _ hV; omega)
  have hF8 : Fr No w w8 := hF7.trans hf8 (fun b hb hV => by have := hUd b hV; have := hF1.size; omega)
  have hba := Blk.new w8 tObj #[.int .i64 1, .slice A8 0 c8, .slice D8 0 d8]
  have hfa : Fr No w8 (w8.alloc (.cells #[.int .i64 1, .slice A8 0 c8, .slice D8 0 d8] tObj)) := (Fr.refl No w8).alloc _
  have hb10 := hb9.fr0 hfa
  obtain ⟨ob, rb, f, g, hP⟩ := hV8.fr0 hfa
  have hbv := hP.blk
  have hF9 := hF8.tr hfa
  generalize hw9 : w8.alloc (.cells #[.int .i64 1, .slice A8 0 c8, .slice D8 0 d8] tObj) = w9 at *
  have x0 := hb10.cell 0
  have y0 := hba.cell 0
  simp only [List.getElem?_toArray, List.getElem?_cons_zero] at x0 y0
  go_wp2_with fail
  refine (base_calls w9 q p 1 1 (.map (some ob)) (.map (some rb)) (show Blk w9 q 82 #[.pointer (some ⟨p, 0, none⟩), .int .i64 1, .map (some ob), .map (some rb), .int .i64 1] from hbv)).mono ?_
  rintro e wz ⟨rfl, hwz⟩
  have hwz := hwz.symm
  subst hwz
  go_wp2
  go_ret
  exact ⟨rfl, hF9⟩
end Go.Proofs.Ytoajigghkjnffaa
namespace Go.Proofs.Ytoajigghkjnffaa
set_option linter.unusedVariables false
set_option linter.unusedSimpArgs false
open Go.RowKit

theorem peekM_put_same (t : TabM) (v : ViewM) (x : Int) (o : ObjM) : peekM t (vput v x o) x = (o, 0) := peekM_own (if_pos rfl)
theorem peekM_put_other (t : TabM) (v : ViewM) {x y : Int} (o : ObjM) (h : y ≠ x) : peekM t (vput v x o) y = peekM t v y := by
  have e : (vput v x o).own y = v.own y := if_neg h
  unfold peekM
  rw [e]
  rfl
theorem wrongM_small {o : ObjM} (h : wrongM o = 0) : o.slots.length ≤ 256 ∧ o.bytes.length ≤ 1024 := by
  unfold wrongM at h
  split at h
  · split at h
    · rename_i h2
      unfold rightO2 at h2
      simp only [Bool.and_eq_true, decide_eq_true_eq] at h2
      exact ⟨h2.1.1.2, h2.1.2⟩
    · cases h
  · cases h
theorem vput_ok {v : ViewM} {x : Int} {o : ObjM} (h : ViewOk v) (ho : wrongM o = 0) : ViewOk (vput v x o) := by
  refine ⟨h.1, h.2.1, fun y p hy => ?_⟩
  have h' : (if y = x then some o else v.own y) = some p := hy
  split at h'
  · injection h' with h'; subst h'; exact wrongM_small ho
  · exact h.2.2 y p h'
theorem putV_ok {t : TabM} {v : ViewM} {x : Int} {o : ObjM} (h : ViewOk v) : ViewOk (putV t v x o).1 := by
  unfold putV
  split
  · split
    · rename_i h2; exact vput_ok h h2
    · exact h
  · exact h
theorem makeM_ok {v : ViewM} {o : ObjM} (h : ViewOk v) : ViewOk (makeM v o).1 := by
  unfold makeM
  split
  · rename_i h1
    split
    · exact h
    · rename_i h2
      refine vput_ok (v := ⟨v.base, v.own, v.read, v.made + 1, v.n⟩) ⟨?_, ?_, h.2.2⟩ h1
      · show 0 ≤ v.made + 1; have := h.1; omega
      · show v.made + 1 ≤ 4096; have := h.2.1; omega
  · exact h
/-- Put that is told OK put it. -/
theorem putV_told {t : TabM} {v : ViewM} {a : Int} {o : ObjM} (h : (putV t v a o).2 = 0) : peekM t (putV t v a o).1 a = (o, 0) := by
  unfold putV at h ⊢
  split at h
  · split at h
    · rename_i h1 h2; rw [if_pos h1, if_pos h2]; exact peekM_put_same _ _ _ _
    · rename_i h2; exact absurd h h2
  · rename_i h1; exact absurd h h1
/-- All others are as they were. -/
theorem putV_others {t : TabM} {v : ViewM} {a b : Int} {o : ObjM} (h : a ≠ b) : peekM t (putV t v a o).1 b = peekM t v b := by
  unfold putV
  split
  · split
    · exact peekM_put_other _ _ _ (fun e => h e.symm)
    · rfl
  · rfl
end Go.Proofs.Ytoajigghkjnffaa
