/- Values and objects as bytes, plainly; no program in it. No condition. -/
import Derived.Test.YtifcnjebepipnaaPPart
import Derived.Test.YtifcnjebepipnaaPObj
namespace Go.Proofs.Ytifcnjebepipnaa
set_option linter.unusedVariables false
set_option linter.unusedSimpArgs false
open Go.RowKit

/-- A value's bytes. -/
def valB (v : VL) : List UInt8 := UInt8.ofNat v.k.toNat :: (if v.k = 3 then uintL (foldZ v.n).toNat else if v.k = 4 then uintL v.n.toNat else [])
def valsB (l : List VL) : List UInt8 := l.flatMap valB
def objB (o : ObjM) : List UInt8 := uintL o.cls.toNat ++ uintL o.slots.length ++ valsB o.slots ++ (uintL o.bytes.length ++ o.bytes)
theorem valsB_append (a b : List VL) : valsB (a ++ b) = valsB a ++ valsB b := by simp [valsB]
theorem valsB_cons (v : VL) (l : List VL) : valsB (v :: l) = valB v ++ valsB l := rfl
/-- What is left to be read; none: something was not as it must be. -/
abbrev St := Option (List UInt8)
def numO (most : Nat) : St → Nat × St
  | none => (0, none)
  | some l => if (readU l).2.2 = 0 ∧ (readU l).1 ≤ most then ((readU l).1, some (l.drop (readU l).2.1)) else (0, none)
def oneO (most : Nat) : St → Nat × St
  | none => (0, none)
  | some [] => (0, none)
  | some (c :: l) => if c.toNat ≤ most then (c.toNat, some l) else (0, none)
def valO (s : St) : VL × St :=
  if (oneO 4 s).1 = 3 then (⟨3, unfoldZ (numO 18446744073709551615 (oneO 4 s).2).1⟩, (numO 18446744073709551615 (oneO 4 s).2).2)
  else if (oneO 4 s).1 = 4 then (⟨4, (numO 4096 (oneO 4 s).2).1⟩, (numO 4096 (oneO 4 s).2).2)
  else (⟨(oneO 4 s).1, 0⟩, (oneO 4 s).2)
/-- n values; where one is bad, all is. -/
def valsO : Nat → St → List VL × St
  | 0, s => ([], s)
  | n + 1, s => match (valO s).2 with
    | none => ([], none)
    | some l => ((valO s).1 :: (valsO n (some l)).1, (valsO n (some l)).2)
def textO : St → List UInt8 × St
  | none => ([], none)
  | some l => if (readT l).2.2 = 0 then ((readT l).1, some (l.drop (readT l).2.1)) else ([], none)
def objO (s : St) : ObjM × St :=
  let a := numO 4096 s
  let b := numO 256 a.2
  let c := valsO b.1 b.2
  let d := textO c.2
  match d.2 with
  | none => (⟨0, [], []⟩, none)
  | some l => if rightO ⟨a.1, c.1, d.1⟩ then (⟨a.1, c.1, d.1⟩, some l) else (⟨0, [], []⟩, none)
def getM (l : List UInt8) : Option ObjM := match (objO (some l)).2 with
  | some [] => some (objO (some l)).1
  | _ => none
theorem ofNat_self (c : UInt8) : UInt8.ofNat c.toNat = c := by
  apply UInt8.toNat_inj.1; rw [UInt8.toNat_ofNat']; have := c.toNat_lt; omega
theorem rdU_canon : ∀ (l : List UInt8) (i a : Nat), i ≤ 9 → (rdU i a l).2.2 = 0 → ∃ x, rdU i a l = (a + x * 128 ^ i, i + (uintL x).length, 0) ∧ l = uintL x ++ l.drop (uintL x).length ∧ (0 < i → 0 < x)
  | [], i, a, _, h => by simp [rdU] at h
  | c :: r, i, a, hi, h => by
    have hc := c.toNat_lt
    by_cases h9 : i = 9 ∧ 1 < c.toNat
    · rw [rdU_far i a c r h9.1 h9.2] at h; simp at h
    by_cases hs : c.toNat < 128
    · by_cases h0 : c.toNat = 0 ∧ 0 < i
      · rw [rdU_zero i a c r h0.1 h0.2] at h; simp at h
      · refine ⟨c.toNat, ?_, ?_, fun hi0 => by omega⟩
        · rw [rdU_end i a c r hs h0 h9, uintL_small _ hs, Nat.mod_eq_of_lt hs]; rfl
        · rw [uintL_small _ hs, ofNat_self]; rfl
    · have hi9 : ¬ i = 9 := fun e => h9 ⟨e, by omega⟩
      rw [rdU_more i a c r hs hi9] at h ⊢
      obtain ⟨x, hx, hl, h0⟩ := rdU_canon r (i + 1) _ (by omega) h
      have hx0 := h0 (by omega)
      have hq : (c.toNat % 128 + 128 * x) % 128 = c.toNat % 128 := by omega
      have hd : (c.toNat % 128 + 128 * x) / 128 = x := by omega
      have hu : uintL (c.toNat % 128 + 128 * x) = c :: uintL x := by
        rw [uintL_big _ (by omega), hq, hd]
        congr 1
        apply UInt8.toNat_inj.1; rw [UInt8.toNat_ofNat']; omega
      refine ⟨c.toNat % 128 + 128 * x, ?_, ?_, fun _ => by omega⟩
      · rw [hx, hu, List.length_cons]
        simp only [Prod.mk.injEq, and_true]
        refine ⟨?_, by omega⟩
        rw [Nat.pow_succ, Nat.add_mul, Nat.add_assoc]
        congr 2
        rw [Nat.mul_comm (128 ^ i) 128, ← Nat.mul_assoc, Nat.mul_comm x 128]
      · rw [hu, List.cons_append, List.length_cons, List.drop_succ_cons, ← hl]
theorem readU_canon (l : List UInt8) (h : (readU l).2.2 = 0) : l = uintL (readU l).1 ++ l.drop (readU l).2.1 := by
  obtain ⟨x, hx, hl, _⟩ := rdU_canon l 0 0 (by omega) h
  have e : readU l = (x, (uintL x).length, 0) := by unfold readU; rw [hx]; simp
  rw [e]; exact hl
theorem readU_eq (l : List UInt8) (h : (readU l).2.2 = 0) : (readU l).2.1 = (uintL (readU l).1).length := by
  obtain ⟨x, hx, hl, _⟩ := rdU_canon l 0 0 (by omega) h
  have e : readU l = (x, (uintL x).length, 0) := by unfold readU; rw [hx]; simp
  rw [e]
theorem numO_put (most n : Nat) (r : List UInt8) (h : n ≤ most) (hn : n < 18446744073709551616) : numO most (some (uintL n ++ r)) = (n, some r) := by
  have e := readU_uintL n hn r
  unfold numO
  simp only [e, List.drop_left]
  rw [if_pos ⟨trivial, h⟩]
theorem numO_get (most n : Nat) (l r : List UInt8) (h : numO most (some l) = (n, some r)) : l = uintL n ++ r ∧ n ≤ most ∧ n < 18446744073709551616 := by
  unfold numO at h
  simp only at h
  split at h
  · rename_i hc
    injection h with h1 h2
    injection h2 with h2
    subst h1 h2
    exact ⟨readU_canon l hc.1, hc.2, readU_lt l⟩
  · injection h with h1 h2; cases h2
theorem oneO_put (most : Nat) (c : UInt8) (r : List UInt8) (h : c.toNat ≤ most) : oneO most (some (c :: r)) = (c.toNat, some r) := by
  unfold oneO; simp only; rw [if_pos h]
theorem oneO_get (most n : Nat) (l r : List UInt8) (h : oneO most (some l) = (n, some r)) : l = UInt8.ofNat n :: r ∧ n ≤ most := by
  cases l with
  | nil => unfold oneO at h; injection h with h1 h2; cases h2
  | cons c l =>
    unfold oneO at h
    simp only at h
    split at h
    · rename_i hc
      injection h with h1 h2
      injection h2 with h2
      subst h1 h2
      exact ⟨by rw [ofNat_self], hc⟩
    · injection h with h1 h2; cases h2
theorem foldZ_lt (n : Int) (h0 : -9223372036854775808 ≤ n) (h1 : n ≤ 9223372036854775807) : 0 ≤ foldZ n ∧ foldZ n < 18446744073709551616 := by unfold foldZ; split <;> omega
theorem valO_put (v : VL) (r : List UInt8) (h : rightV v = true) : valO (some (valB v ++ r)) = (v, some r) := by
  obtain ⟨k, n⟩ := v
  unfold rightV at h
  simp only at h
  unfold valO valB
  simp only
  by_cases h3 : k = 3
  · subst h3
    have hb : -1152921504606846976 ≤ n ∧ n < 1152921504606846976 := by simpa using h
    have hf := foldZ_lt n (by omega) (by omega)
    rw [if_pos rfl]
    have h1 : oneO 4 (some (UInt8.ofNat (3 : Int).toNat :: uintL (foldZ n).toNat ++ r)) = (3, some (uintL (foldZ n).toNat ++ r)) := oneO_put 4 3 _ (by decide)
    rw [h1]
    simp only [if_true]
    rw [numO_put _ _ _ (by omega) (by omega)]
    simp only
    rw [Int.toNat_of_nonneg hf.1, unfoldZ_fold]
  · rw [if_neg h3]
    by_cases h4 : k = 4
    · subst h4
      have hb : 1 ≤ n ∧ n ≤ 4096 := by simpa [oopB] using h
      rw [if_pos rfl]
      have h1 : oneO 4 (some (UInt8.ofNat (4 : Int).toNat :: uintL n.toNat ++ r)) = (4, some (uintL n.toNat ++ r)) := oneO_put 4 4 _ (by decide)
      rw [h1]
      simp only
      rw [if_neg (by decide), if_pos (by decide), numO_put _ _ _ (by omega) (by omega)]
      simp only
      rw [Int.toNat_of_nonneg (by omega)]
    · rw [if_neg h4]
      have hk : k = 0 ∨ k = 1 ∨ k = 2 := by
        by_cases hk : k = 0 ∨ k = 1 ∨ k = 2
        · exact hk
        · rw [if_neg hk, if_neg h3, if_neg h4] at h; cases h
      rw [if_pos hk] at h
      have hn : n = 0 := by simpa using h
      subst hn
      rcases hk with rfl | rfl | rfl
      all_goals
        rw [List.singleton_append, oneO_put 4 _ _ (by decide)]
        rfl
theorem valO_get (l r : List UInt8) (v : VL) (h : valO (some l) = (v, some r)) : l = valB v ++ r := by
  unfold valO at h
  rcases hq : oneO 4 (some l) with ⟨c, s⟩
  rw [hq] at h
  simp only at h
  have key : ∀ l', s = some l' → l = UInt8.ofNat c :: l' ∧ c ≤ 4 := fun l' e => oneO_get 4 c l l' (by rw [hq, e])
  split at h
  · rename_i h3
    subst h3
    injection h with hv hs
    cases s with
    | none => unfold numO at hs; cases hs
    | some l' =>
      obtain ⟨e1, _⟩ := key l' rfl
      rcases hq2 : numO 18446744073709551615 (some l') with ⟨m, s'⟩
      rw [hq2] at hv hs
      simp only at hv hs
      subst hs
      obtain ⟨e2, _, _⟩ := numO_get _ _ _ _ hq2
      subst hv
      rw [e1, e2]
      unfold valB
      simp only [if_true]
      rw [foldZ_unfold _ (by omega), Int.toNat_natCast]
      rfl
  · rename_i h3
    split at h
    · rename_i h4
      subst h4
      injection h with hv hs
      cases s with
      | none => unfold numO at hs; cases hs
      | some l' =>
        obtain ⟨e1, _⟩ := key l' rfl
        rcases hq2 : numO 4096 (some l') with ⟨m, s'⟩
        rw [hq2] at hv hs
        simp only at hv hs
        subst hs
        obtain ⟨e2, _, _⟩ := numO_get _ _ _ _ hq2
        subst hv
        rw [e1, e2]
        unfold valB
        simp only
        rw [if_neg (by decide), if_pos trivial, Int.toNat_natCast]
        rfl
    · rename_i h4
      injection h with hv hs
      subst hv hs
      obtain ⟨e1, _⟩ := key r rfl
      rw [e1]
      unfold valB
      simp only
      rw [if_neg (by omega), if_neg (by omega), Int.toNat_natCast]
      rfl
theorem valsO_put : ∀ (l : List VL) (r : List UInt8), l.all rightV = true → valsO l.length (some (valsB l ++ r)) = (l, some r)
  | [], r, _ => rfl
  | v :: l, r, h => by
    rw [List.all_cons, Bool.and_eq_true] at h
    have h1 := valO_put v (valsB l ++ r) h.1
    rw [← List.append_assoc] at h1
    rw [List.length_cons, valsB_cons, valsO, h1]
    simp only
    rw [valsO_put l r h.2]
theorem valsO_get : ∀ (n : Nat) (l r : List UInt8) (vs : List VL), valsO n (some l) = (vs, some r) → vs.length = n ∧ l = valsB vs ++ r
  | 0, l, r, vs, h => by
    unfold valsO at h
    injection h with h1 h2
    injection h2 with h2
    subst h1 h2
    exact ⟨rfl, rfl⟩
  | n + 1, l, r, vs, h => by
    unfold valsO at h
    rcases hq : valO (some l) with ⟨v, s⟩
    rw [hq] at h
    cases s with
    | none => simp only at h; injection h with h1 h2; cases h2
    | some l' =>
      simp only at h
      injection h with h1 h2
      have e1 := valO_get l l' v hq
      obtain ⟨h3, h4⟩ := valsO_get n l' r (valsO n (some l')).1 (by rw [← h2])
      subst h1
      exact ⟨by rw [List.length_cons, h3], by rw [valsB_cons, List.append_assoc, ← h4, e1]⟩
theorem valsO_none (n : Nat) : (valsO n none).2 = none := by
  cases n with
  | zero => rfl
  | succ n => rfl
theorem textO_put (t r : List UInt8) (h : t.length ≤ 60000) : textO (some (uintL t.length ++ t ++ r)) = (t, some r) := by
  have e := readT_text t r h
  unfold textO
  simp only [e]
  rw [if_pos trivial]
  have hl : (uintL t.length ++ t).length = (uintL t.length).length + t.length := List.length_append
  rw [← hl, List.drop_left]
theorem textO_get (l t r : List UInt8) (h : textO (some l) = (t, some r)) : l = uintL t.length ++ t ++ r := by
  unfold textO at h
  simp only at h
  split at h
  · rename_i hc
    injection h with h1 h2
    injection h2 with h2
    by_cases hu : (readU l).2.2 = 0
    · rw [readT_ok l hu] at hc h1 h2
      obtain ⟨p1, p2, p3⟩ := partM_fine l _ _ hc
      have hcan := readU_canon l hu
      have hk := readU_eq l hu
      rw [p3] at h1 h2
      simp only at h1 h2
      subst h1 h2
      have hlen : ((l.drop (readU l).2.1).take (readU l).1).length = (readU l).1 := by rw [List.length_take, List.length_drop]; omega
      rw [hlen, List.append_assoc, ← List.drop_drop, List.take_append_drop]
      exact hcan
    · rw [readT_bad l hu] at hc
      exact absurd hc hu
  · injection h with h1 h2; cases h2
theorem rightO_parts {o : ObjM} (h : rightO o = true) : 1 ≤ o.cls ∧ o.cls ≤ 4096 ∧ o.slots.length ≤ 256 ∧ o.bytes.length ≤ 1024 ∧ o.slots.all rightV = true := by
  unfold rightO oopB at h
  simp only [Bool.and_eq_true, decide_eq_true_eq] at h
  exact ⟨h.1.1.1.1, h.1.1.1.2, h.1.1.2, h.1.2, h.2⟩
theorem objO_put (o : ObjM) (r : List UInt8) (h : rightO o = true) : objO (some (objB o ++ r)) = (o, some r) := by
  obtain ⟨h1, h2, h3, h4, h5⟩ := rightO_parts h
  have e : objB o ++ r = uintL o.cls.toNat ++ (uintL o.slots.length ++ (valsB o.slots ++ (uintL o.bytes.length ++ o.bytes ++ r))) := by simp [objB]
  unfold objO
  rw [e, numO_put _ _ _ (by omega) (by omega)]
  simp only
  rw [numO_put _ _ _ h3 (by omega)]
  simp only
  rw [valsO_put _ _ h5]
  simp only
  rw [textO_put _ _ (by omega)]
  simp only
  rw [Int.toNat_of_nonneg (by omega), if_pos h]
theorem objO_get (l r : List UInt8) (o : ObjM) (h : objO (some l) = (o, some r)) : rightO o = true ∧ l = objB o ++ r := by
  unfold objO at h
  rcases q1 : numO 4096 (some l) with ⟨a, s1⟩
  rw [q1] at h
  simp only at h
  rcases q2 : numO 256 s1 with ⟨b, s2⟩
  rw [q2] at h
  simp only at h
  rcases q3 : valsO b s2 with ⟨c, s3⟩
  rw [q3] at h
  simp only at h
  rcases q4 : textO s3 with ⟨d, s4⟩
  rw [q4] at h
  cases s4 with
  | none => simp only at h; injection h with h1 h2; cases h2
  | some l4 =>
    simp only at h
    split at h
    · rename_i hr
      injection h with h1 h2
      injection h2 with h2
      subst h1 h2
      cases s3 with
      | none => unfold textO at q4; injection q4 with _ q4; cases q4
      | some l3 =>
        cases s2 with
        | none => have := valsO_none b; rw [q3] at this; cases this
        | some l2 =>
          cases s1 with
          | none => unfold numO at q2; injection q2 with _ q2; cases q2
          | some l1 =>
            obtain ⟨e1, _, _⟩ := numO_get _ _ _ _ q1
            obtain ⟨e2, _, _⟩ := numO_get _ _ _ _ q2
            obtain ⟨e3, e4⟩ := valsO_get _ _ _ _ q3
            have e5 := textO_get _ _ _ q4
            refine ⟨hr, ?_⟩
            rw [e1, e2, e4, e5]
            simp [objB, e3]
    · injection h with h1 h2; cases h2
theorem getM_put (o : ObjM) (h : rightO o = true) : getM (objB o) = some o := by
  have h1 := objO_put o [] h
  rw [List.append_nil] at h1
  unfold getM
  rw [h1]
theorem getM_get (l : List UInt8) (o : ObjM) (h : getM l = some o) : rightO o = true ∧ objB o = l := by
  unfold getM at h
  rcases q : objO (some l) with ⟨x, s⟩
  rw [q] at h
  match s, q, h with
  | some [], q, h =>
    simp only at h
    injection h with h
    subst h
    obtain ⟨h1, h2⟩ := objO_get l [] x q
    exact ⟨h1, by rw [h2, List.append_nil]⟩
theorem objB_inj (a b : ObjM) (ha : rightO a = true) (hb : rightO b = true) (h : objB a = objB b) : a = b := by
  have h1 := getM_put a ha
  rw [h, getM_put b hb] at h1
  injection h1 with h1
  exact h1.symm
end Go.Proofs.Ytifcnjebepipnaa
