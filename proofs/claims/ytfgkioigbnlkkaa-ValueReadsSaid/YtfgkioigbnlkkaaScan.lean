/- The scanners of value and of its reference: a number, a byte. No condition. -/
import Derived.Test.YtfgkioigbnlkkaaWText
import Derived.Test.YtfgkioigbnlkkaaODef
import Derived.Test.YtfgkioigbnlkkaaPVal
import Derived.Test.YtfgkioigbnlkkaaReg
namespace Go.Proofs.Ytfgkioigbnlkkaa
set_option linter.unusedVariables false
set_option linter.unusedSimpArgs false
open Go.RowKit

/-- A scanner at g that has so much left to be read. -/
def ScanAt (T : TypeId) (w : World) (S : Nat → Prop) (g : Nat) (s : St) : Prop :=
  ∃ A l c, Blk w g T #[.slice A l.length c, .bool s.isNone] ∧ RdB w S A l ∧ l.length ≤ c ∧ c ≤ maxLen ∧ (∀ l', s = some l' → l' = l) ∧ ¬ S g
theorem ScanAt.fr {T : TypeId} {w w' : World} {S U : Nat → Prop} {g : Nat} {s : St} (h : ScanAt T w S g s) (hf : Fr U w w') (hg : ¬ U g) (hd : ∀ b, S b → ¬ U b) : ScanAt T w' S g s := by
  obtain ⟨A, l, c, hb, hr, hc, hcm, hs, hS⟩ := h
  exact ⟨A, l, c, hb.fr hf hg, Rd.fr hr hf hd, hc, hcm, hs, hS⟩
theorem ScanAt.fr0 {T : TypeId} {w w' : World} {S : Nat → Prop} {g : Nat} {s : St} (h : ScanAt T w S g s) (hf : Fr No w w') : ScanAt T w' S g s := h.fr hf (fun hn => hn) (fun _ _ hn => hn)
theorem ScanAt.lt {T : TypeId} {w : World} {S : Nat → Prop} {g : Nat} {s : St} (h : ScanAt T w S g s) : g < w.heap.size := by
  obtain ⟨A, l, c, hb, _⟩ := h; exact hb.lt
theorem ScanAt.not {T : TypeId} {w : World} {S : Nat → Prop} {g : Nat} {s : St} (h : ScanAt T w S g s) : ¬ S g := by
  obtain ⟨A, l, c, _, _, _, _, _, hS⟩ := h; exact hS
/-- What it reads lies in blocks that are there. -/
theorem ScanAt.down {T : TypeId} {w : World} {S : Nat → Prop} {g : Nat} {s : St} (h : ScanAt T w S g s) : ScanAt T w (fun b => S b ∧ b < w.heap.size) g s := by
  obtain ⟨A, l, c, hb, hr, hc, hcm, hs, hS⟩ := h
  exact ⟨A, l, c, hb, Rd.lt hr (by decide), hc, hcm, hs, fun hh => hS hh.1⟩
theorem ScanAt.up {T : TypeId} {w : World} {S : Nat → Prop} {g n : Nat} {s : St} (h : ScanAt T w (fun b => S b ∧ b < n) g s) (hg : ¬ S g) : ScanAt T w S g s := by
  obtain ⟨A, l, c, hb, hr, hc, hcm, hs, hS⟩ := h
  exact ⟨A, l, c, hb, Rd.mono hr (fun _ _ hh => hh.1) (by decide), hc, hcm, hs, hg⟩
theorem Fr.set1 {w w1 : World} {g : Nat} (h : Fr (fun b => b = g) w w1) (i : Nat) (u : Value) : Fr (fun b => b = g) w (w1.setCell ⟨g, i, none⟩ u) := h.set (.inr rfl) u
/-- The bytes behind k. -/
theorem RdB.cut {w : World} {S : Nat → Prop} {A : Option Addr} {l : List UInt8} {c k : Nat} (h : RdB w S A l) (hc : l.length ≤ c) (hk : k ≤ l.length) :
    RdB w S (if c = k then A else A.map (·.add k)) (l.drop k) := by
  have h1 := Rd.cut h (k := k) (cap := c) hk hc
  unfold RdB
  rw [List.length_drop, U8_drop]
  simpa using h1
theorem numO_bad1 {most : Nat} {l : List UInt8} {n k : Nat} {e : Int} (h : readU l = (n, k, e)) (he : ¬ e = 0) : numO most (some l) = (0, none) := by
  unfold numO; simp only [h]; rw [if_neg (fun hh => he hh.1)]
theorem numO_bad2 {most : Nat} {l : List UInt8} {n k : Nat} {e : Int} (h : readU l = (n, k, e)) (he : ¬ n ≤ most) : numO most (some l) = (0, none) := by
  unfold numO; simp only [h]; rw [if_neg (fun hh => he hh.2)]
theorem numO_ok {most : Nat} {l : List UInt8} {n k : Nat} {e : Int} (h : readU l = (n, k, e)) (he : e = 0) (hn : n ≤ most) : numO most (some l) = (n, some (l.drop k)) := by
  unfold numO; simp only [h]; rw [if_pos ⟨he, hn⟩]

set_option maxHeartbeats 1000000 in
set_option maxRecDepth 100000 in
theorem num_calls (S : Nat → Prop) (g most : Nat) (s : St) (w : World) (h : ScanAt 68 w S g s) (hm : most < 18446744073709551616) :
    Calls Try.prog 52 #[.pointer (some ⟨g, 0, none⟩), .int .u64 (most : Int)] w fun e w' => e = .returned (.int .u64 ((numO most s).1 : Int)) ∧ ScanAt 68 w' S g (numO most s).2 ∧ Fr (fun b => b = g) w w' := by
  obtain ⟨A, l, c, hb, hr, hc, hcm, hs, hS⟩ := h
  have g1 := plain_of Try.underlying4 rfl
  have g2 := plain_of Try.underlying23 rfl
  have q0 := hb.cell 0
  have q1 := hb.cell 1
  have f0 := hb.frozen 0
  have f1 := hb.frozen 1
  simp only [List.getElem?_toArray, List.getElem?_cons_zero, List.getElem?_cons_succ] at q0 q1
  have hle := hr.le
  have hu := readU_used l
  have hx := readU_lt l
  have hru := readuint_calls S A c l w hr hc
  have HB := Lib.hid hb
  rcases hrd : readU l with ⟨n, k, e⟩
  rw [hrd] at hru hu hx
  have HR := Lib.hid hrd
  clear hrd hb
  simp only at hu hx
  cases s with
  | none =>
    simp only [Option.isNone_none] at q1 HB
    clear hs
    go_enter Try.func52, Try.ntmps52
    go_wp2_with fail
    refine hru.mono ?_
    rintro e _ ⟨rfl, rfl⟩
    go_wp2
    go_ret
    exact ⟨rfl, ⟨A, l, c, HB.out.put 1 _, Rd.set hr hS _, hc, hcm, (fun l' h => by cases h), hS⟩, (Fr.refl _ w).set1 _ _⟩
  | some l' =>
    simp only [Option.isNone_some] at q1 HB
    obtain rfl := hs l' rfl
    clear hs
    by_cases he : e = 0
    · have e1 : (e != 0) = false := by simpa using he
      by_cases hn : n ≤ most
      · have H := Lib.hid (numO_ok HR.out he hn)
        have e2 : decide (most < n) = false := by simpa using hn
        have HC := Lib.hid (RdB.cut hr hc hu)
        clear he hn
        by_cases hck : c = k
        · subst hck
          rw [if_pos rfl] at HC
          go_enter Try.func52, Try.ntmps52
          go_wp2_with fail
          refine hru.mono ?_
          rintro e _ ⟨rfl, rfl⟩
          go_wp2
          go_ret
          rw [H.out]
          refine ⟨rfl, ⟨A, l'.drop c, 0, ?_, ?_, by simp; omega, by decide, (fun l' h => by injection h with h; exact h.symm), hS⟩, ?_⟩
          · rw [List.length_drop, show l'.length - c = 0 by omega]; exact (HB.out.put 1 _).put 0 _
          · exact Rd.set (Rd.set HC.out hS _) hS _
          · exact ((Fr.refl _ w).set1 _ _).set1 _ _
        · rw [if_neg hck] at HC
          have hkc : k ≤ c := by omega
          go_enter Try.func52, Try.ntmps52
          go_wp2_with fail
          refine hru.mono ?_
          rintro e _ ⟨rfl, rfl⟩
          go_wp2
          go_ret
          rw [H.out]
          refine ⟨rfl, ⟨A.map (·.add k), l'.drop k, c - k, ?_, ?_, by simp; omega, by omega, (fun l' h => by injection h with h; exact h.symm), hS⟩, ?_⟩
          · rw [List.length_drop]; exact (HB.out.put 1 _).put 0 _
          · exact Rd.set (Rd.set HC.out hS _) hS _
          · exact ((Fr.refl _ w).set1 _ _).set1 _ _
      · have H := Lib.hid (numO_bad2 HR.out hn)
        have e2 : decide (most < n) = true := by simpa using hn
        clear he hn
        go_enter Try.func52, Try.ntmps52
        go_wp2_with fail
        refine hru.mono ?_
        rintro e _ ⟨rfl, rfl⟩
        go_wp2
        go_ret
        rw [H.out]
        exact ⟨rfl, ⟨A, l', c, HB.out.put 1 _, Rd.set hr hS _, hc, hcm, (fun l' h => by cases h), hS⟩, (Fr.refl _ w).set1 _ _⟩
    · have e1 : (e != 0) = true := by simpa using he
      have H := Lib.hid (numO_bad1 (most := most) HR.out he)
      clear he
      go_enter Try.func52, Try.ntmps52
      go_wp2_with fail
      refine hru.mono ?_
      rintro e _ ⟨rfl, rfl⟩
      go_wp2
      go_ret
      rw [H.out]
      exact ⟨rfl, ⟨A, l', c, HB.out.put 1 _, Rd.set hr hS _, hc, hcm, (fun l' h => by cases h), hS⟩, (Fr.refl _ w).set1 _ _⟩

set_option maxHeartbeats 1000000 in
set_option maxRecDepth 100000 in
theorem refnum_calls (S : Nat → Prop) (g most : Nat) (s : St) (w : World) (h : ScanAt 72 w S g s) (hm : most < 18446744073709551616) :
    Calls Try.prog 54 #[.pointer (some ⟨g, 0, none⟩), .int .u64 (most : Int)] w fun e w' => e = .returned (.int .u64 ((numO most s).1 : Int)) ∧ ScanAt 72 w' S g (numO most s).2 ∧ Fr (fun b => b = g) w w' := by
  obtain ⟨A, l, c, hb, hr, hc, hcm, hs, hS⟩ := h
  have g1 := plain_of Try.underlying4 rfl
  have g2 := plain_of Try.underlying23 rfl
  have q0 := hb.cell 0
  have q1 := hb.cell 1
  have f0 := hb.frozen 0
  have f1 := hb.frozen 1
  simp only [List.getElem?_toArray, List.getElem?_cons_zero, List.getElem?_cons_succ] at q0 q1
  have hle := hr.le
  have hu := readU_used l
  have hx := readU_lt l
  have hru := refreaduint_calls S A c l w hr
  have HB := Lib.hid hb
  rcases hrd : readU l with ⟨n, k, e⟩
  rw [hrd] at hru hu hx
  have HR := Lib.hid hrd
  clear hrd hb
  simp only at hu hx
  cases s with
  | none =>
    simp only [Option.isNone_none] at q1 HB
    clear hs
    go_enter Try.func54, Try.ntmps54
    go_wp2_with fail
    refine hru.mono ?_
    rintro e _ ⟨rfl, rfl⟩
    go_wp2
    go_ret
    exact ⟨rfl, ⟨A, l, c, HB.out.put 1 _, Rd.set hr hS _, hc, hcm, (fun l' h => by cases h), hS⟩, (Fr.refl _ w).set1 _ _⟩
  | some l' =>
    simp only [Option.isNone_some] at q1 HB
    obtain rfl := hs l' rfl
    clear hs
    by_cases he : e = 0
    · have e1 : (e != 0) = false := by simpa using he
      by_cases hn : n ≤ most
      · have H := Lib.hid (numO_ok HR.out he hn)
        have e2 : decide (most < n) = false := by simpa using hn
        have HC := Lib.hid (RdB.cut hr hc hu)
        clear he hn
        by_cases hck : c = k
        · subst hck
          rw [if_pos rfl] at HC
          go_enter Try.func54, Try.ntmps54
          go_wp2_with fail
          refine hru.mono ?_
          rintro e _ ⟨rfl, rfl⟩
          go_wp2
          go_ret
          rw [H.out]
          refine ⟨rfl, ⟨A, l'.drop c, 0, ?_, ?_, by simp; omega, by decide, (fun l' h => by injection h with h; exact h.symm), hS⟩, ?_⟩
          · rw [List.length_drop, show l'.length - c = 0 by omega]; exact HB.out.put 0 _
          · exact Rd.set HC.out hS _
          · exact (Fr.refl _ w).set1 _ _
        · rw [if_neg hck] at HC
          have hkc : k ≤ c := by omega
          go_enter Try.func54, Try.ntmps54
          go_wp2_with fail
          refine hru.mono ?_
          rintro e _ ⟨rfl, rfl⟩
          go_wp2
          go_ret
          rw [H.out]
          refine ⟨rfl, ⟨A.map (·.add k), l'.drop k, c - k, ?_, ?_, by simp; omega, by omega, (fun l' h => by injection h with h; exact h.symm), hS⟩, ?_⟩
          · rw [List.length_drop]; exact HB.out.put 0 _
          · exact Rd.set HC.out hS _
          · exact (Fr.refl _ w).set1 _ _
      · have H := Lib.hid (numO_bad2 HR.out hn)
        have e2 : decide (most < n) = true := by simpa using hn
        clear he hn
        go_enter Try.func54, Try.ntmps54
        go_wp2_with fail
        refine hru.mono ?_
        rintro e _ ⟨rfl, rfl⟩
        go_wp2
        go_ret
        rw [H.out]
        exact ⟨rfl, ⟨A, l', c, HB.out.put 1 _, Rd.set hr hS _, hc, hcm, (fun l' h => by cases h), hS⟩, (Fr.refl _ w).set1 _ _⟩
    · have e1 : (e != 0) = true := by simpa using he
      have H := Lib.hid (numO_bad1 (most := most) HR.out he)
      clear he
      go_enter Try.func54, Try.ntmps54
      go_wp2_with fail
      refine hru.mono ?_
      rintro e _ ⟨rfl, rfl⟩
      go_wp2
      go_ret
      rw [H.out]
      exact ⟨rfl, ⟨A, l', c, HB.out.put 1 _, Rd.set hr hS _, hc, hcm, (fun l' h => by cases h), hS⟩, (Fr.refl _ w).set1 _ _⟩

set_option maxHeartbeats 1000000 in
set_option maxRecDepth 100000 in
theorem one_calls (S : Nat → Prop) (g most : Nat) (s : St) (w : World) (h : ScanAt 68 w S g s) (hm : most < 256) :
    Calls Try.prog 53 #[.pointer (some ⟨g, 0, none⟩), .int .u8 (most : Int)] w fun e w' => e = .returned (.int .u8 ((oneO most s).1 : Int)) ∧ ScanAt 68 w' S g (oneO most s).2 ∧ Fr (fun b => b = g) w w' := by
  obtain ⟨A, l, c, hb, hr, hc, hcm, hs, hS⟩ := h
  have g1 := plain_of Try.underlying4 rfl
  have g2 := plain_of Try.underlying23 rfl
  have g3 := plain_of Try.underlying5 rfl
  have q0 := hb.cell 0
  have q1 := hb.cell 1
  have f0 := hb.frozen 0
  have f1 := hb.frozen 1
  simp only [List.getElem?_toArray, List.getElem?_cons_zero, List.getElem?_cons_succ] at q0 q1
  have hle := hr.le
  have HB := Lib.hid hb
  clear hb
  cases s with
  | none =>
    simp only [Option.isNone_none] at q1 HB
    clear hs
    go_enter Try.func53, Try.ntmps53
    go_wp2
    go_ret
    exact ⟨rfl, ⟨A, l, c, HB.out.put 1 _, Rd.set hr hS _, hc, hcm, (fun l' h => by cases h), hS⟩, (Fr.refl _ w).set1 _ _⟩
  | some l' =>
    simp only [Option.isNone_some] at q1 HB
    obtain rfl := hs l' rfl
    clear hs
    cases l' with
    | nil =>
      simp only [List.length_nil] at q0 HB
      go_enter Try.func53, Try.ntmps53
      go_wp2
      go_ret
      exact ⟨rfl, ⟨A, [], c, HB.out.put 1 _, Rd.set hr hS _, hc, hcm, (fun l' h => by cases h), hS⟩, (Fr.refl _ w).set1 _ _⟩
    | cons x r =>
      obtain ⟨ad, rfl, hSa, hcell⟩ := RdB.at_ hr (k := 0) (by simp)
      simp only [List.getElem_cons_zero] at hcell
      have hx := x.toNat_lt
      have hne : ad.block ≠ g := fun e => hS (e ▸ hSa)
      have HC := Lib.hid (RdB.cut hr hc (k := 1) (by simp))
      have hz : ad.add 0 = ad := by unfold Addr.add; rw [if_pos rfl]
      rw [hz] at hcell
      clear hz
      have hcell2 : ∀ u, (w.setCell ⟨g, 1, none⟩ u).cell? ad = some (.int .u8 (x.toNat : Int)) := fun u => by
        rw [World.cell?_setCell_other w ⟨g, 1, none⟩ ad u (fun e => hne (by rw [← e]))]; exact hcell
      simp only [List.length_cons] at q0 HB hc hle
      simp only [List.drop_succ_cons, List.drop_zero] at HC
      obtain ⟨L, hL⟩ : ∃ L, r.length = L := ⟨_, rfl⟩
      have e0 : ((L : Int) + 1 == 0) = false := by simp; omega
      by_cases hn : x.toNat ≤ most
      · have H := Lib.hid (oneO_put most x r hn)
        have e2 : decide (most < x.toNat) = false := by simpa using hn
        clear hn
        by_cases hck : c = 1
        · have hL0 : L = 0 := by omega
          obtain rfl : r = [] := List.eq_nil_of_length_eq_zero (by omega)
          subst hL0 hck
          rw [if_pos rfl] at HC
          clear hL e0
          simp only [List.length_nil, Nat.zero_add] at q0 HB
          go_enter Try.func53, Try.ntmps53
          go_wp2
          go_ret
          rw [H.out]
          refine ⟨rfl, ⟨some ad, [], 0, ?_, ?_, by simp, by decide, (fun l' h => by injection h with h; exact h.symm), hS⟩, ?_⟩
          · exact (HB.out.put 1 _).put 0 _
          · exact Rd.set (Rd.set HC.out hS _) hS _
          · exact ((Fr.refl _ w).set1 _ _).set1 _ _
        · rw [if_neg hck] at HC
          have hkc : 1 ≤ c := by omega
          have hck2 : ¬ c ≤ 1 := by omega
          rw [hL] at q0 HB
          go_enter Try.func53, Try.ntmps53
          go_wp2
          go_ret
          rw [H.out]
          refine ⟨rfl, ⟨(some ad).map (·.add 1), r, c - 1, ?_, ?_, by omega, by omega, (fun l' h => by injection h with h; exact h.symm), hS⟩, ?_⟩
          · rw [hL]; exact (HB.out.put 1 _).put 0 _
          · exact Rd.set (Rd.set HC.out hS _) hS _
          · exact ((Fr.refl _ w).set1 _ _).set1 _ _
      · have H := Lib.hid (show oneO most (some (x :: r)) = (0, none) by unfold oneO; simp only; rw [if_neg hn])
        have e2 : decide (most < x.toNat) = true := by simpa using hn
        clear hn
        rw [hL] at q0 HB
        go_enter Try.func53, Try.ntmps53
        go_wp2
        go_ret
        rw [H.out]
        exact ⟨rfl, ⟨some ad, x :: r, c, by rw [List.length_cons, hL]; exact HB.out.put 1 _, Rd.set hr hS _, hc, hcm, (fun l' h => by cases h), hS⟩, (Fr.refl _ w).set1 _ _⟩

set_option maxHeartbeats 1000000 in
set_option maxRecDepth 100000 in
theorem refone_calls (S : Nat → Prop) (g most : Nat) (s : St) (w : World) (h : ScanAt 72 w S g s) (hm : most < 256) :
    Calls Try.prog 55 #[.pointer (some ⟨g, 0, none⟩), .int .u8 (most : Int)] w fun e w' => e = .returned (.int .u8 ((oneO most s).1 : Int)) ∧ ScanAt 72 w' S g (oneO most s).2 ∧ Fr (fun b => b = g) w w' := by
  obtain ⟨A, l, c, hb, hr, hc, hcm, hs, hS⟩ := h
  have g1 := plain_of Try.underlying4 rfl
  have g2 := plain_of Try.underlying23 rfl
  have g3 := plain_of Try.underlying5 rfl
  have q0 := hb.cell 0
  have q1 := hb.cell 1
  have f0 := hb.frozen 0
  have f1 := hb.frozen 1
  simp only [List.getElem?_toArray, List.getElem?_cons_zero, List.getElem?_cons_succ] at q0 q1
  have hle := hr.le
  have HB := Lib.hid hb
  clear hb
  cases s with
  | none =>
    simp only [Option.isNone_none] at q1 HB
    clear hs
    go_enter Try.func55, Try.ntmps55
    go_wp2
    go_ret
    exact ⟨rfl, ⟨A, l, c, HB.out.put 1 _, Rd.set hr hS _, hc, hcm, (fun l' h => by cases h), hS⟩, (Fr.refl _ w).set1 _ _⟩
  | some l' =>
    simp only [Option.isNone_some] at q1 HB
    obtain rfl := hs l' rfl
    clear hs
    cases l' with
    | nil =>
      simp only [List.length_nil] at q0 HB
      go_enter Try.func55, Try.ntmps55
      go_wp2
      go_ret
      exact ⟨rfl, ⟨A, [], c, HB.out.put 1 _, Rd.set hr hS _, hc, hcm, (fun l' h => by cases h), hS⟩, (Fr.refl _ w).set1 _ _⟩
    | cons x r =>
      obtain ⟨ad, rfl, hSa, hcell⟩ := RdB.at_ hr (k := 0) (by simp)
      simp only [List.getElem_cons_zero] at hcell
      have hx := x.toNat_lt
      have hne : ad.block ≠ g := fun e => hS (e ▸ hSa)
      have HC := Lib.hid (RdB.cut hr hc (k := 1) (by simp))
      have hz : ad.add 0 = ad := by unfold Addr.add; rw [if_pos rfl]
      rw [hz] at hcell
      clear hz
      have hcell2 : ∀ u, (w.setCell ⟨g, 1, none⟩ u).cell? ad = some (.int .u8 (x.toNat : Int)) := fun u => by
        rw [World.cell?_setCell_other w ⟨g, 1, none⟩ ad u (fun e => hne (by rw [← e]))]; exact hcell
      simp only [List.length_cons] at q0 HB hc hle
      simp only [List.drop_succ_cons, List.drop_zero] at HC
      obtain ⟨L, hL⟩ : ∃ L, r.length = L := ⟨_, rfl⟩
      have e0 : ((L : Int) + 1 == 0) = false := by simp; omega
      by_cases hn : x.toNat ≤ most
      · have H := Lib.hid (oneO_put most x r hn)
        have e2 : decide (most < x.toNat) = false := by simpa using hn
        clear hn
        by_cases hck : c = 1
        · have hL0 : L = 0 := by omega
          obtain rfl : r = [] := List.eq_nil_of_length_eq_zero (by omega)
          subst hL0 hck
          rw [if_pos rfl] at HC
          clear hL e0
          simp only [List.length_nil, Nat.zero_add] at q0 HB
          go_enter Try.func55, Try.ntmps55
          go_wp2
          go_ret
          rw [H.out]
          refine ⟨rfl, ⟨some ad, [], 0, ?_, ?_, by simp, by decide, (fun l' h => by injection h with h; exact h.symm), hS⟩, ?_⟩
          · exact HB.out.put 0 _
          · exact Rd.set HC.out hS _
          · exact (Fr.refl _ w).set1 _ _
        · rw [if_neg hck] at HC
          have hkc : 1 ≤ c := by omega
          have hck2 : ¬ c ≤ 1 := by omega
          rw [hL] at q0 HB
          go_enter Try.func55, Try.ntmps55
          go_wp2
          go_ret
          rw [H.out]
          refine ⟨rfl, ⟨(some ad).map (·.add 1), r, c - 1, ?_, ?_, by omega, by omega, (fun l' h => by injection h with h; exact h.symm), hS⟩, ?_⟩
          · rw [hL]; exact HB.out.put 0 _
          · exact Rd.set HC.out hS _
          · exact (Fr.refl _ w).set1 _ _
      · have H := Lib.hid (show oneO most (some (x :: r)) = (0, none) by unfold oneO; simp only; rw [if_neg hn])
        have e2 : decide (most < x.toNat) = true := by simpa using hn
        clear hn
        rw [hL] at q0 HB
        go_enter Try.func55, Try.ntmps55
        go_wp2
        go_ret
        rw [H.out]
        exact ⟨rfl, ⟨some ad, x :: r, c, by rw [List.length_cons, hL]; exact HB.out.put 1 _, Rd.set hr hS _, hc, hcm, (fun l' h => by cases h), hS⟩, (Fr.refl _ w).set1 _ _⟩
end Go.Proofs.Ytfgkioigbnlkkaa
