/- Which objects can be kept: value's RightObj, and the reference's. No condition. -/
import Derived.Test.YtifcnjebepipnaaRight
namespace Go.Proofs.Ytifcnjebepipnaa
set_option linter.unusedVariables false
set_option linter.unusedSimpArgs false
open Go.RowKit

theorem odd_calls (v : VL) (w : World) :
    Calls Try.prog 63 #[.agg #[.int .i64 v.k, .int .i64 v.n]] w fun e w' => e = .returned (.bool (!rightV v)) ∧ Fr No w w' := by
  have hf : Fr No w (w.alloc (.cells #[.int .i64 v.k, .int .i64 v.n] 75)) := (Fr.refl No w).alloc _
  go_enter Try.func63, Try.ntmps63
  go_wp2_with fail
  refine (right_calls v _).mono ?_
  rintro e w2 ⟨rfl, hf2⟩
  go_wp2
  go_ret
  exact ⟨rfl, hf.tr hf2⟩
abbrev closO : Value := .func (.func 63) #[] #[]
/-- Where the first odd value stands; -1 if there is none. -/
def oddZ (l : List VL) : Int := if l.findIdx (fun v => !rightV v) < l.length then ((l.findIdx (fun v => !rightV v) : Nat) : Int) else -1
theorem oddZ_all (l : List VL) : decide (0 ≤ oddZ l) = !(l.all rightV) := by
  unfold oddZ
  split
  · rename_i h
    have h1 := List.findIdx_getElem (w := h)
    have h2 : l.all rightV = false := by
      rw [List.all_eq_false]
      exact ⟨_, List.getElem_mem h, by simpa using h1⟩
    rw [h2]; simp
  · rename_i h
    have h2 : l.all rightV = true := by
      rw [List.all_eq_true]
      intro v hv
      have h3 : ∀ x ∈ l, (fun v => !rightV v) x = false := List.findIdx_eq_length.1 (by have := List.findIdx_le_length (xs := l) (p := fun v => !rightV v); omega)
      simpa using h3 v hv
    rw [h2]; rfl
set_option maxHeartbeats 1000000 in
set_option maxRecDepth 100000 in
theorem indexodd_calls (S : Nat → Prop) (A : Option Addr) (c : Nat) (l : List VL) (w : World) (h : RdV w S A l) :
    Calls Try.prog 72 #[.slice A l.length c, closO] w fun e w' => e = .returned (.int .i64 (oddZ l)) ∧ Fr No w w' := by
  have hle := h.le
  go_enter Try.func72, Try.ntmps72
  go_wp2_with fail
  go_loopw [8] (fun i wr => ∃ k : Nat, k ≤ l.length ∧ i = .int .i64 (k : Int) ∧ Hid (∀ i, ∀ hi : i < l.length, i < k → rightV l[i] = true) ∧ Fr No w wr) (fun i _ => l.length - (intOf i).toNat)
  case atStart => exact ⟨0, by omega, rfl, Lib.hid (fun i _ h => by omega), Fr.refl _ _⟩
  case round =>
    obtain ⟨k, hk, rfl, HN, hf⟩ := hrel
    by_cases hlt : k < l.length
    · have ek : decide ((k : Int) < l.length) = true := by simpa using (by omega : (k : Int) < l.length)
      obtain ⟨ga, of, rfl, _, _, _, hv'⟩ := RdV.at_ (Rd.fr0 h hf) hlt
      have HE := Lib.hid (show rightV l[k] = false → oddZ l = (k : Int) by
        intro ht
        have hfi : l.findIdx (fun v => !rightV v) = k := by
          refine (List.findIdx_eq hlt).2 ⟨by rw [ht]; rfl, fun j hj => ?_⟩
          rw [HN.out j (by omega) hj]; rfl
        unfold oddZ
        rw [hfi, if_pos hlt])
      have HF := Lib.hid (show rightV l[k] = true → ∀ i, ∀ hi : i < l.length, i < k + 1 → rightV l[i] = true by
        intro ht i hi hik
        rcases Nat.lt_or_ge i k with h5 | h5
        · exact HN.out i hi h5
        · obtain rfl : i = k := by omega
          exact ht)
      generalize l[k] = x at *
      unfold vcells at hv'
      go_wp2_with (first
        | (refine wpList_ldA ag_val rfl _ rfl ⟨ga, of + k * 2, none⟩ [.int .i64 x.k, .int .i64 x.n] rfl rfl hv' ?_)
        | fail)
      refine (odd_calls x _).mono ?_
      rintro e w2 ⟨rfl, hf2⟩
      cases hg : rightV x with
      | false =>
        have HE' := Lib.hid (HE.out hg)
        clear hg
        simp only [Bool.not_false]
        go_wp2
        go_ret
        exact ⟨by rw [HE'.out]; rfl, hf.tr hf2⟩
      | true =>
        have HF' := Lib.hid (HF.out hg)
        clear hg
        simp only [Bool.not_true]
        go_wp2
        go_roundw
        case rel => exact ⟨k + 1, by omega, by go_num, HF', hf.tr hf2⟩
        case measure => simp [intOf]; omega
    · obtain rfl : k = l.length := by omega
      have ek : decide ((l.length : Int) < l.length) = false := by simp
      have HE := Lib.hid (show oddZ l = -1 by
        unfold oddZ
        rw [if_neg]
        intro hlt
        have := List.findIdx_getElem (w := hlt)
        rw [HN.out _ hlt hlt] at this
        cases this)
      go_wp2
      go_ret
      exact ⟨by rw [HE.out]; rfl, hf⟩
theorem containsodd_calls (S : Nat → Prop) (A : Option Addr) (c : Nat) (l : List VL) (w : World) (h : RdV w S A l) :
    Calls Try.prog 65 #[.slice A l.length c, closO] w fun e w' => e = .returned (.bool (!(l.all rightV))) ∧ Fr No w w' := by
  have H := Lib.hid (oddZ_all l)
  go_enter Try.func65, Try.ntmps65
  go_wp2_with fail
  refine (indexodd_calls S A c l _ h).mono ?_
  rintro e w2 ⟨rfl, hf2⟩
  go_wp2
  go_ret
  exact ⟨ret_bool H.out, hf2⟩
set_option maxHeartbeats 2000000 in
set_option maxRecDepth 100000 in
theorem righto_calls (S : Nat → Prop) (cs : List Value) (o : ObjM) (w : World) (h : ObjC w S cs o) :
    Calls Try.prog 49 #[.agg cs.toArray] w fun e w' => e = .returned (.bool (rightO o)) ∧ Fr No w w' := by
  obtain ⟨A, c, D, c2, rfl, hs, hb⟩ := h
  have g1 := plain_i64
  have g2 := plain_lval
  have g3 := plain_lu8
  have hf : Fr No w (w.alloc (.cells #[.int .i64 o.cls, .slice A o.slots.length c, .slice D o.bytes.length c2] 38)) := (Fr.refl No w).alloc _
  have hle1 := hs.le
  have hle2 := RdB.le hb
  have H : Hid (rightO o = (oopB o.cls && decide (o.slots.length ≤ 256) && decide (o.bytes.length ≤ 1024) && o.slots.all rightV)) := Lib.hid rfl
  cases h0 : oopB o.cls with
  | false =>
    rw [h0] at H
    simp only [Bool.false_and] at H
    have hoop := oop_calls o.cls
    rw [h0] at hoop
    clear h0
    go_enter Try.func49, Try.ntmps49
    go_wp2_with fail
    refine (hoop _).mono ?_
    rintro e _ ⟨rfl, rfl⟩
    go_wp2
    go_ret
    exact ⟨ret_bool H.out.symm, hf⟩
  | true =>
    rw [h0] at H
    simp only [Bool.true_and] at H
    have hoop := oop_calls o.cls
    rw [h0] at hoop
    clear h0
    by_cases h1 : o.slots.length ≤ 256
    · have e1 : decide ((o.slots.length : Int) ≤ 256) = true := by simp; omega
      have e1' : decide (o.slots.length ≤ 256) = true := by simpa using h1
      rw [e1', Bool.true_and] at H
      clear e1'
      by_cases h2 : o.bytes.length ≤ 1024
      · have e2 : decide ((o.bytes.length : Int) ≤ 1024) = true := by simp; omega
        have e2' : decide (o.bytes.length ≤ 1024) = true := by simpa using h2
        rw [e2', Bool.true_and] at H
        clear e2'
        go_enter Try.func49, Try.ntmps49
        go_wp2_with fail
        refine (hoop _).mono ?_
        rintro e _ ⟨rfl, rfl⟩
        go_wp2_with fail
        refine (containsodd_calls S A c o.slots _ (Rd.fr0 hs hf)).mono ?_
        rintro e w2 ⟨rfl, hf2⟩
        go_wp2
        go_ret
        exact ⟨ret_bool (by rw [H.out]), hf.tr hf2⟩
      · have e2 : decide ((o.bytes.length : Int) ≤ 1024) = false := by simp; omega
        have e2' : decide (o.bytes.length ≤ 1024) = false := by simpa using h2
        rw [e2', Bool.false_and] at H
        clear e2' h2
        go_enter Try.func49, Try.ntmps49
        go_wp2_with fail
        refine (hoop _).mono ?_
        rintro e _ ⟨rfl, rfl⟩
        go_wp2
        go_ret
        exact ⟨ret_bool H.out.symm, hf⟩
    · have e1 : decide ((o.slots.length : Int) ≤ 256) = false := by simp; omega
      have e1' : decide (o.slots.length ≤ 256) = false := by simpa using h1
      rw [e1'] at H
      simp only [Bool.false_and] at H
      clear e1' h1
      go_enter Try.func49, Try.ntmps49
      go_wp2_with fail
      refine (hoop _).mono ?_
      rintro e _ ⟨rfl, rfl⟩
      go_wp2
      go_ret
      exact ⟨ret_bool H.out.symm, hf⟩
end Go.Proofs.Ytifcnjebepipnaa
