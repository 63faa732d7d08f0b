/- view.wrong: why an object can not be in a view. The walk of ContainsFunc is XRightO's, with another closure. No condition. -/
import Derived.Test.YtoajigghkjnffaaVwRight
namespace Go.Proofs.Ytoajigghkjnffaa
set_option linter.unusedVariables false
set_option linter.unusedSimpArgs false
open Go.RowKit

def notB (v : VL) : Bool := !(v.k == 5)
theorem blk_calls (v : VL) (w : World) :
    Calls Try.prog 59 #[.agg #[.int .i64 v.k, .int .i64 v.n]] w fun e w' => e = .returned (.bool (!notB v)) ∧ Fr No w w' := by
  have hf : Fr No w (w.alloc (.cells #[.int .i64 v.k, .int .i64 v.n] 23)) := (Fr.refl No w).alloc _
  have H := Lib.hid (show (v.k == 5) = !notB v by unfold notB; rw [Bool.not_not])
  go_enter Try.func59, Try.ntmps59
  go_wp2
  go_ret
  exact ⟨ret_bool H.out, hf⟩
abbrev closK : Value := .func (.func 59) #[] #[]
/-- Where the first odd value stands; -1 if there is none. -/
def blkZ (l : List VL) : Int := if l.findIdx (fun v => !notB v) < l.length then ((l.findIdx (fun v => !notB v) : Nat) : Int) else -1
theorem blkZ_all (l : List VL) : decide (0 ≤ blkZ l) = !(l.all notB) := by
  unfold blkZ
  split
  · rename_i h
    have h1 := List.findIdx_getElem (w := h)
    have h2 : l.all notB = false := by
      rw [List.all_eq_false]
      exact ⟨_, List.getElem_mem h, by simpa using h1⟩
    rw [h2]; simp
  · rename_i h
    have h2 : l.all notB = true := by
      rw [List.all_eq_true]
      intro v hv
      have h3 : ∀ x ∈ l, (fun v => !notB v) x = false := List.findIdx_eq_length.1 (by have := List.findIdx_le_length (xs := l) (p := fun v => !notB v); omega)
      simpa using h3 v hv
    rw [h2]; rfl
set_option maxHeartbeats 1000000 in
set_option maxRecDepth 100000 in
theorem indexblk_calls (S : Nat → Prop) (A : Option Addr) (c : Nat) (l : List VL) (w : World) (h : RdV w S A l) :
    Calls Try.prog 56 #[.slice A l.length c, closK] w fun e w' => e = .returned (.int .i64 (blkZ l)) ∧ Fr No w w' := by
  have hle := h.le
  go_enter Try.func56, Try.ntmps56
  go_wp2_with fail
  go_loopw [8] (fun i wr => ∃ k : Nat, k ≤ l.length ∧ i = .int .i64 (k : Int) ∧ Hid (∀ i, ∀ hi : i < l.length, i < k → notB l[i] = true) ∧ Fr No w wr) (fun i _ => l.length - (intOf i).toNat)
  case atStart => exact ⟨0, by omega, rfl, Lib.hid (fun i _ h => by omega), Fr.refl _ _⟩
  case round =>
    obtain ⟨k, hk, rfl, HN, hf⟩ := hrel
    by_cases hlt : k < l.length
    · have ek : decide ((k : Int) < l.length) = true := by simpa using (by omega : (k : Int) < l.length)
      obtain ⟨ga, of, rfl, _, _, _, hv'⟩ := RdV.at_ (Rd.fr0 h hf) hlt
      have HE := Lib.hid (show notB l[k] = false → blkZ l = (k : Int) by
        intro ht
        have hfi : l.findIdx (fun v => !notB v) = k := by
          refine (List.findIdx_eq hlt).2 ⟨by rw [ht]; rfl, fun j hj => ?_⟩
          rw [HN.out j (by omega) hj]; rfl
        unfold blkZ
        rw [hfi, if_pos hlt])
      have HF := Lib.hid (show notB l[k] = true → ∀ i, ∀ hi : i < l.length, i < k + 1 → notB l[i] = true by
        intro ht i hi hik
        rcases Nat.lt_or_ge i k with h5 | h5
        · exact HN.out i hi h5
        · obtain rfl : i = k := by omega
          exact ht)
      generalize l[k] = x at *
      unfold vcells at hv'
      go_wp2_with (first
        | (refine wpList_ldA ag_val rfl _ rfl ⟨ga, of + k * 2, none⟩ [.int .i64 x.k, .int .i64 x.n] rfl rfl hv' ?_)
        | fail)
      refine (blk_calls x _).mono ?_
      rintro e w2 ⟨rfl, hf2⟩
      cases hg : notB x with
      | false =>
        have HE' := Lib.hid (HE.out hg)
        clear hg
        simp only [Bool.not_false]
        go_wp2
        go_ret
        exact ⟨by rw [HE'.out]; rfl, hf.tr hf2⟩
      | true =>
        have HF' := Lib.hid (HF.out hg)
        clear hg
        simp only [Bool.not_true]
        go_wp2
        go_roundw
        case rel => exact ⟨k + 1, by omega, by go_num, HF', hf.tr hf2⟩
        case measure => simp [intOf]; omega
    · obtain rfl : k = l.length := by omega
      have ek : decide ((l.length : Int) < l.length) = false := by simp
      have HE := Lib.hid (show blkZ l = -1 by
        unfold blkZ
        rw [if_neg]
        intro hlt
        have := List.findIdx_getElem (w := hlt)
        rw [HN.out _ hlt hlt] at this
        cases this)
      go_wp2
      go_ret
      exact ⟨by rw [HE.out]; rfl, hf⟩
theorem containsblk_calls (S : Nat → Prop) (A : Option Addr) (c : Nat) (l : List VL) (w : World) (h : RdV w S A l) :
    Calls Try.prog 36 #[.slice A l.length c, closK] w fun e w' => e = .returned (.bool (!(l.all notB))) ∧ Fr No w w' := by
  have H := Lib.hid (blkZ_all l)
  go_enter Try.func36, Try.ntmps36
  go_wp2_with fail
  refine (indexblk_calls S A c l _ h).mono ?_
  rintro e w2 ⟨rfl, hf2⟩
  go_wp2
  go_ret
  exact ⟨ret_bool H.out, hf2⟩
def wrongM (o : ObjM) : Int := if o.slots.all notB = true then (if rightO2 o = true then 0 else 1) else 32
theorem ret_err {a b : Int} (h : a = b) : Ending.returned (.int .i64 a) = .returned (.int .i64 b) := by rw [h]
set_option maxHeartbeats 1000000 in
theorem wrong_calls (S : Nat → Prop) (cs : List Value) (o : ObjM) (w : World) (h : ObjC w S cs o) :
    Calls Try.prog 42 #[.agg cs.toArray] w fun e w' => e = .returned (.int .i64 (wrongM o)) ∧ Fr No w w' := by
  have ho := h
  obtain ⟨A, c, D, c2, rfl, hs, hb⟩ := h
  have g1 := plain_i64
  have g2 := plain_lval
  have g3 := plain_lu8
  have hf : Fr No w (w.alloc (.cells #[.int .i64 o.cls, .slice A o.slots.length c, .slice D o.bytes.length c2] 27)) := (Fr.refl No w).alloc _
  have hbx := Blk.new w 27 #[.int .i64 o.cls, .slice A o.slots.length c, .slice D o.bytes.length c2]
  cases hk : o.slots.all notB with
  | false =>
    have HM := Lib.hid (show wrongM o = 32 by unfold wrongM; rw [if_neg (by rw [hk]; decide)])
    have hcon := containsblk_calls S A c o.slots
    rw [hk] at hcon
    clear hk
    go_enter Try.func42, Try.ntmps42
    go_wp2_with fail
    refine (hcon _ (Rd.fr0 hs hf)).mono ?_
    rintro e w2 ⟨rfl, hf2⟩
    go_wp2
    go_ret
    exact ⟨ret_err HM.out.symm, hf.tr hf2⟩
  | true =>
    have HM := Lib.hid (show wrongM o = if rightO2 o = true then 0 else 1 by unfold wrongM; rw [if_pos hk])
    have hcon := containsblk_calls S A c o.slots
    rw [hk] at hcon
    clear hk
    go_enter Try.func42, Try.ntmps42
    go_wp2_with fail
    refine (hcon _ (Rd.fr0 hs hf)).mono ?_
    rintro e w2 ⟨rfl, hf2⟩
    have hbx2 := (hbx.fr0 hf2).all
    go_wp2_with (first
      | (refine wpList_ldA ag_obj rfl _ rfl ⟨w.heap.size, 0, none⟩ [.int .i64 o.cls, .slice A o.slots.length c, .slice D o.bytes.length c2] rfl rfl hbx2 ?_)
      | fail)
    refine (vrighto_calls S _ o _ ((ho.fr0 hf).fr0 hf2)).mono ?_
    rintro e w3 ⟨rfl, hf3⟩
    cases hr : rightO2 o with
    | false =>
      have HM' := Lib.hid (show wrongM o = 1 by rw [HM.out, if_neg (by rw [hr]; decide)])
      clear hr HM
      go_wp2
      go_ret
      exact ⟨ret_err HM'.out.symm, (hf.tr hf2).tr hf3⟩
    | true =>
      have HM' := Lib.hid (show wrongM o = 0 by rw [HM.out, if_pos hr])
      clear hr HM
      go_wp2
      go_ret
      exact ⟨ret_err HM'.out.symm, (hf.tr hf2).tr hf3⟩
end Go.Proofs.Ytoajigghkjnffaa
