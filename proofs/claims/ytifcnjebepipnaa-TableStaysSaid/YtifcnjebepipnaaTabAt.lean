/- table.behind (a binary search), At. No condition but size. -/
import Derived.Test.YtifcnjebepipnaaTab
import Derived.Test.YtifcnjebepipnaaOCopy
import Derived.Deep.CutBlock
import Derived.Deep.DeepCutAuto
namespace Go.Proofs.Ytifcnjebepipnaa
set_option linter.unusedVariables false
set_option linter.unusedSimpArgs false
open Go.RowKit

/-- How many versions are up to a commit. -/
def behM (l : List ChM) (t : Int) : Nat := l.countP (fun v => decide (v.oop ≤ t))
abbrev closB : Value := .func (.func 42) #[] #[]
theorem beh_eq {l : List ChM} {t : Int} {i : Nat} (hi : i ≤ l.length) (h1 : ∀ k, ∀ h : k < l.length, k < i → l[k].oop ≤ t) (h2 : ∀ k, ∀ h : k < l.length, i ≤ k → t < l[k].oop) : behM l t = i := by
  unfold behM
  have e : l = l.take i ++ l.drop i := (List.take_append_drop i l).symm
  have a1 : (l.take i).countP (fun v => decide (v.oop ≤ t)) = (l.take i).length := by
    rw [List.countP_eq_length]
    intro v hv
    obtain ⟨k, hk, rfl⟩ := List.mem_iff_getElem.1 hv
    have hk' : k < i ∧ k < l.length := by have : k < min i l.length := by simpa using hk
                                          omega
    rw [List.getElem_take]
    exact decide_eq_true (h1 k hk'.2 hk'.1)
  have a2 : (l.drop i).countP (fun v => decide (v.oop ≤ t)) = 0 := by
    rw [List.countP_eq_zero]
    intro v hv
    obtain ⟨k, hk, rfl⟩ := List.mem_iff_getElem.1 hv
    have hk' : k < l.length - i := by simpa using hk
    rw [List.getElem_drop]
    have := h2 (i + k) (by omega) (by omega)
    simpa using this
  rw [e, List.countP_append, a1, a2, List.length_take]
  omega
theorem rise_le {l : List ChM} (hs : l.Pairwise (fun a b => a.oop < b.oop)) {i j : Nat} (hj : j < l.length) (h : i ≤ j) : l[i].oop ≤ l[j].oop := by
  rcases Nat.lt_or_ge i j with h1 | h1
  · exact Int.le_of_lt (List.pairwise_iff_getElem.1 hs i j (by omega) hj h1)
  · obtain rfl : i = j := by omega
    exact Int.le_refl _
def cmpZ (com t : Int) : Int := if com ≤ t then -1 else 1
theorem ret_i64 {a b : Int} (h : a = b) : Ending.returned (.int .i64 a) = .returned (.int .i64 b) := by rw [h]
theorem cmp_calls (com : Int) (r1 r2 r3 r4 : Value) (t : Int) (w : World) :
    Calls Try.prog 42 #[.agg #[.int .i64 com, r1, r2, r3, r4], .int .i64 t] w fun e w' => e = .returned (.int .i64 (cmpZ com t)) ∧ Fr No w w' := by
  have hf : Fr No w (w.alloc (.cells #[.int .i64 com, r1, r2, r3, r4] tVer)) := (Fr.refl No w).alloc _
  by_cases h : com ≤ t
  · have H : Hid (cmpZ com t = -1) := Lib.hid (if_pos h)
    have e1 : decide (com ≤ t) = true := by simpa using h
    clear h
    go_enter Try.func42, Try.ntmps42
    go_wp2
    go_ret
    exact ⟨ret_i64 H.out.symm, hf⟩
  · have H : Hid (cmpZ com t = 1) := Lib.hid (if_neg h)
    have e1 : decide (com ≤ t) = false := by simpa using h
    clear h
    go_enter Try.func42, Try.ntmps42
    go_wp2
    go_ret
    exact ⟨ret_i64 H.out.symm, hf⟩
theorem cmpZ_le {com t : Int} (h : com ≤ t) : cmpZ com t = -1 := if_pos h
theorem cmpZ_gt {com t : Int} (h : ¬ com ≤ t) : cmpZ com t = 1 := if_neg h
set_option maxHeartbeats 2000000 in
set_option maxRecDepth 100000 in
theorem bsearch_calls (S : Nat → Prop) (A : Option Addr) (c : Nat) (l : List ChM) (t : Int) (w : World) (h : RdCh w S A l) (hs : l.Pairwise (fun a b => a.oop < b.oop)) (hl : l.length ≤ 100000000) :
    Calls Try.prog 41 #[.slice A l.length c, .int .i64 t, closB] w fun e w' => ∃ b, e = .returned (.tuple #[.int .i64 (behM l t : Nat), .bool b]) ∧ Fr No w w' := by
  have HS := Lib.hid hs
  clear hs
  go_enter Try.func41, Try.ntmps41
  go_wp2_with fail
  go_loopw [9, 10] (fun u v wr => ∃ i j : Nat, i ≤ j ∧ j ≤ l.length ∧ u = .int .i64 (i : Int) ∧ v = .int .i64 (j : Int) ∧ Hid (∀ k, ∀ h : k < l.length, k < i → l[k].oop ≤ t) ∧ Hid (∀ k, ∀ h : k < l.length, j ≤ k → t < l[k].oop) ∧ Fr No w wr) (fun u v _ => (intOf v).toNat - (intOf u).toNat)
  case atStart => exact ⟨0, l.length, by omega, by omega, rfl, rfl, Lib.hid (fun k _ h => by omega), Lib.hid (fun k _ h => by omega), Fr.refl _ _⟩
  case round =>
    obtain ⟨i, j, hij, hj, rfl, rfl, H1, H2, hf⟩ := hrel
    by_cases hlt : i < j
    · have ek : decide ((i : Int) < j) = true := by simpa using (by omega : (i : Int) < j)
      have hml : (i + j) / 2 < l.length := by omega
      obtain ⟨ga, of, Av, nn, D, mm, rfl, _, hcell, _, _⟩ := (h.fr0 hf).at_ hml
      have HL := Lib.hid (show l[(i + j) / 2].oop ≤ t → ∀ k, ∀ h : k < l.length, k < (i + j) / 2 + 1 → l[k].oop ≤ t from fun h1 k hk hkm => Int.le_trans (rise_le HS.out hml (by omega)) h1)
      have HG := Lib.hid (show t < l[(i + j) / 2].oop → ∀ k, ∀ h : k < l.length, (i + j) / 2 ≤ k → t < l[k].oop from fun h1 k hk hkm => Int.lt_of_lt_of_le h1 (rise_le HS.out hk hkm))
      generalize l[(i + j) / 2] = x at *
      have hcell' := addr5 _ _ _ hcell
      have hm0 : (i + j) / 2 < j := by omega
      have hm1 : i ≤ (i + j) / 2 := by omega
      go_wp2_with (first
        | (refine wpList_ldA ag_ver rfl _ rfl ⟨ga, of + (i + j) / 2 * 5, none⟩ _ rfl rfl hcell' ?_)
        | fail)
      refine (cmp_calls x.oop _ _ _ _ t _).mono ?_
      rintro e w2 ⟨rfl, hf2⟩
      by_cases hx : x.oop ≤ t
      · have HC := cmpZ_le hx
        rw [HC]
        have H1' := Lib.hid (HL.out hx)
        clear HC hx
        go_wp2
        go_roundw
        case rel => exact ⟨(i + j) / 2 + 1, j, by omega, hj, by go_num, rfl, H1', H2, hf.tr hf2⟩
        case measure => simp [intOf]; omega
      · have HC := cmpZ_gt hx
        rw [HC]
        have H2' := Lib.hid (HG.out (Int.not_le.1 hx))
        clear HC hx
        go_wp2
        go_roundw
        case rel => exact ⟨i, (i + j) / 2, by omega, by omega, rfl, by go_num, H1, H2', hf.tr hf2⟩
        case measure => simp [intOf]; omega
    · obtain rfl : i = j := by omega
      have ek : decide ((i : Int) < i) = false := by simp
      have HB := Lib.hid (beh_eq hj H1.out H2.out)
      by_cases hl2 : i < l.length
      · have ek2 : decide ((i : Int) < l.length) = true := by simpa using (by omega : (i : Int) < l.length)
        obtain ⟨ga, of, Av, nn, D, mm, rfl, _, hcell, _, _⟩ := (h.fr0 hf).at_ hl2
        have hcell' := addr5 _ _ _ hcell
        generalize l[i] = x at *
        go_wp2_with (first
          | (refine wpList_ldA ag_ver rfl _ rfl ⟨ga, of + i * 5, none⟩ _ rfl rfl hcell' ?_)
          | fail)
        refine (cmp_calls x.oop _ _ _ _ t _).mono ?_
        rintro e w2 ⟨rfl, hf2⟩
        go_wp2
        go_ret2
        exact ⟨_, by rw [HB.out]; rfl, hf.tr hf2⟩
      · have ek2 : decide ((i : Int) < l.length) = false := by simpa using (by omega : ¬ (i : Int) < l.length)
        go_wp2
        go_ret2
        exact ⟨_, by rw [HB.out]; rfl, hf⟩
theorem behind_calls (S : Nat → Prop) (A : Option Addr) (c : Nat) (l : List ChM) (t : Int) (w : World) (h : RdCh w S A l) (hs : l.Pairwise (fun a b => a.oop < b.oop)) (hl : l.length ≤ 100000000) :
    Calls Try.prog 28 #[.slice A l.length c, .int .i64 t] w fun e w' => e = .returned (.int .i64 (behM l t : Nat)) ∧ Fr No w w' := by
  have HS := Lib.hid hs
  clear hs
  go_enter Try.func28, Try.ntmps28
  go_wp2_with fail
  refine (bsearch_calls S A c l t _ h HS.out hl).mono ?_
  rintro e w2 ⟨b, rfl, hf2⟩
  go_wp2
  go_ret
  exact ⟨rfl, hf2⟩
end Go.Proofs.Ytifcnjebepipnaa
