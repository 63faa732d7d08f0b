/- Values and objects as bytes, plainly; no program in it. No condition. Records as bytes, plainly; no program in it. No condition. Changes and records in memory. No condition. Which records can be kept: value's RightRecord, and the reference's. No condition. lapidarylaw11.given. No condition but size. Lists of records in memory. No condition. How changes and records come in. No condition. Maps with int64 keys and elements of any kind: a map reads as a function from keys to the element's value itself. No condition. Maps in a region that draws its order: a lookup, a store. No condition. A range over a map with int64 keys and elements of any kind, with stores at keys that are there, and deletes, in the round. No condition. -/
import Derived.Test.YtifcnjebepipnaaJRTableAllp1
import Derived.Test.YtifcnjebepipnaaJRTableAllp0
import Derived.Deep.CutBlock
import Derived.Deep.DeepCutAuto
import Derived.Test.YtifcnjebepipnaaProg
import Derived.Maps.Own
import Derived.Maps.OwnOps
import Derived.Maps.OwnSet
import Derived.Maps.Views
import Derived.Maps.Ext
import Derived.Carry
import Derived.Maps.RangeWalk
namespace Go.Proofs.Ytifcnjebepipnaa
set_option linter.unusedVariables false
set_option linter.unusedSimpArgs false
open Go.RowKit

/-- A value's bytes. -/
def valB (v : VL) : List UInt8 := UInt8.ofNat v.k.toNat :: (if v.k = 3 then uintL (foldZ v.n).toNat else if v.k = 4 then uintL v.n.toNat else [])
def valsB (l : List VL) : List UInt8 := l.flatMap valB
def objB (o : ObjM) : List UInt8 := uintL o.cls.toNat ++ uintL o.slots.length ++ valsB o.slots ++ (uintL o.bytes.length ++ o.bytes)
theorem valsB_append (a b : List VL) : valsB (a ++ b) = valsB a ++ valsB b := by simp [valsB]
theorem valsB_cons (v : VL) (l : List VL) : valsB (v :: l) = valB v ++ valsB l := rfl
/-- What is left to be read; none: something was not as it must be. -/
abbrev St := Option (List UInt8)
def numO (most : Nat) : St → Nat × St
  | none => (0, none)
  | some l => if (readU l).2.2 = 0 ∧ (readU l).1 ≤ most then ((readU l).1, some (l.drop (readU l).2.1)) else (0, none)
def oneO (most : Nat) : St → Nat × St
  | none => (0, none)
  | some [] => (0, none)
  | some (c :: l) => if c.toNat ≤ most then (c.toNat, some l) else (0, none)
def valO (s : St) : VL × St :=
  if (oneO 4 s).1 = 3 then (⟨3, unfoldZ (numO 18446744073709551615 (oneO 4 s).2).1⟩, (numO 18446744073709551615 (oneO 4 s).2).2)
  else if (oneO 4 s).1 = 4 then (⟨4, (numO 4096 (oneO 4 s).2).1⟩, (numO 4096 (oneO 4 s).2).2)
  else (⟨(oneO 4 s).1, 0⟩, (oneO 4 s).2)
/-- n values; where one is bad, all is. -/
def valsO : Nat → St → List VL × St
  | 0, s => ([], s)
  | n + 1, s => match (valO s).2 with
    | none => ([], none)
    | some l => ((valO s).1 :: (valsO n (some l)).1, (valsO n (some l)).2)
def textO : St → List UInt8 × St
  | none => ([], none)
  | some l => if (readT l).2.2 = 0 then ((readT l).1, some (l.drop (readT l).2.1)) else ([], none)
def objO (s : St) : ObjM × St :=
  let a := numO 4096 s
  let b := numO 256 a.2
  let c := valsO b.1 b.2
  let d := textO c.2
  match d.2 with
  | none => (⟨0, [], []⟩, none)
  | some l => if rightO ⟨a.1, c.1, d.1⟩ then (⟨a.1, c.1, d.1⟩, some l) else (⟨0, [], []⟩, none)
def getM (l : List UInt8) : Option ObjM := match (objO (some l)).2 with
  | some [] => some (objO (some l)).1
  | _ => none
theorem ofNat_self (c : UInt8) : UInt8.ofNat c.toNat = c := by
  apply UInt8.toNat_inj.1; rw [UInt8.toNat_ofNat']; have := c.toNat_lt; omega
theorem rdU_canon : ∀ (l : List UInt8) (i a : Nat), i ≤ 9 → (rdU i a l).2.2 = 0 → ∃ x, rdU i a l = (a + x * 128 ^ i, i + (uintL x).length, 0) ∧ l = uintL x ++ l.drop (uintL x).length ∧ (0 < i → 0 < x)
  | [], i, a, _, h => by simp [rdU] at h
  | c :: r, i, a, hi, h => by
    have hc := c.toNat_lt
    by_cases h9 : i = 9 ∧ 1 < c.toNat
    · rw [rdU_far i a c r h9.1 h9.2] at h; simp at h
    by_cases hs : c.toNat < 128
    · by_cases h0 : c.toNat = 0 ∧ 0 < i
      · rw [rdU_zero i a c r h0.1 h0.2] at h; simp at h
      · refine ⟨c.toNat, ?_, ?_, fun hi0 => by omega⟩
        · rw [rdU_end i a c r hs h0 h9, uintL_small _ hs, Nat.mod_eq_of_lt hs]; rfl
        · rw [uintL_small _ hs, ofNat_self]; rfl
    · have hi9 : ¬ i = 9 := fun e => h9 ⟨e, by omega⟩
      rw [rdU_more i a c r hs hi9] at h ⊢
      obtain ⟨x, hx, hl, h0⟩ := rdU_canon r (i + 1) _ (by omega) h
      have hx0 := h0 (by omega)
      have hq : (c.toNat % 128 + 128 * x) % 128 = c.toNat % 128 := by omega
      have hd : (c.toNat % 128 + 128 * x) / 128 = x := by omega
      have hu : uintL (c.toNat % 128 + 128 * x) = c :: uintL x := by
        rw [uintL_big _ (by omega), hq, hd]
        congr 1
        apply UInt8.toNat_inj.1; rw [UInt8.toNat_ofNat']; omega
      refine ⟨c.toNat % 128 + 128 * x, ?_, ?_, fun _ => by omega⟩
      · rw [hx, hu, List.length_cons]
        simp only [Prod.mk.injEq, and_true]
        refine ⟨?_, by omega⟩
        rw [Nat.pow_succ, Nat.add_mul, Nat.add_assoc]
        congr 2
        rw [Nat.mul_comm (128 ^ i) 128, ← Nat.mul_assoc, Nat.mul_comm x 128]
      · rw [hu, List.cons_append, List.length_cons, List.drop_succ_cons, ← hl]
theorem readU_canon (l : List UInt8) (h : (readU l).2.2 = 0) : l = uintL (readU l).1 ++ l.drop (readU l).2.1 := by
  obtain ⟨x, hx, hl, _⟩ := rdU_canon l 0 0 (by omega) h
  have e : readU l = (x, (uintL x).length, 0) := by unfold readU; rw [hx]; simp
  rw [e]; exact hl
theorem readU_eq (l : List UInt8) (h : (readU l).2.2 = 0) : (readU l).2.1 = (uintL (readU l).1).length := by
  obtain ⟨x, hx, hl, _⟩ := rdU_canon l 0 0 (by omega) h
  have e : readU l = (x, (uintL x).length, 0) := by unfold readU; rw [hx]; simp
  rw [e]
theorem numO_put (most n : Nat) (r : List UInt8) (h : n ≤ most) (hn : n < 18446744073709551616) : numO most (some (uintL n ++ r)) = (n, some r) := by
  have e := readU_uintL n hn r
  unfold numO
  simp only [e, List.drop_left]
  rw [if_pos ⟨trivial, h⟩]
theorem numO_get (most n : Nat) (l r : List UInt8) (h : numO most (some l) = (n, some r)) : l = uintL n ++ r ∧ n ≤ most ∧ n < 18446744073709551616 := by
  unfold numO at h
  simp only at h
  split at h
  · rename_i hc
    injection h with h1 h2
    injection h2 with h2
    subst h1 h2
    exact ⟨readU_canon l hc.1, hc.2, readU_lt l⟩
  · injection h with h1 h2; cases h2
theorem oneO_put (most : Nat) (c : UInt8) (r : List UInt8) (h : c.toNat ≤ most) : oneO most (some (c :: r)) = (c.toNat, some r) := by
  unfold oneO; simp only; rw [if_pos h]
theorem oneO_get (most n : Nat) (l r : List UInt8) (h : oneO most (some l) = (n, some r)) : l = UInt8.ofNat n :: r ∧ n ≤ most := by
  cases l with
  | nil => unfold oneO at h; injection h with h1 h2; cases h2
  | cons c l =>
    unfold oneO at h
    simp only at h
    split at h
    · rename_i hc
      injection h with h1 h2
      injection h2 with h2
      subst h1 h2
      exact ⟨by rw [ofNat_self], hc⟩
    · injection h with h1 h2; cases h2
theorem foldZ_lt (n : Int) (h0 : -9223372036854775808 ≤ n) (h1 : n ≤ 9223372036854775807) : 0 ≤ foldZ n ∧ foldZ n < 18446744073709551616 := by unfold foldZ; split <;> omega
theorem valO_put (v : VL) (r : List UInt8) (h : rightV v = true) : valO (some (valB v ++ r)) = (v, some r) := by
  obtain ⟨k, n⟩ := v
  unfold rightV at h
  simp only at h
  unfold valO valB
  simp only
  by_cases h3 : k = 3
  · subst h3
    have hb : -1152921504606846976 ≤ n ∧ n < 1152921504606846976 := by simpa using h
    have hf := foldZ_lt n (by omega) (by omega)
    rw [if_pos rfl]
    have h1 : oneO 4 (some (UInt8.ofNat (3 : Int).toNat :: uintL (foldZ n).toNat ++ r)) = (3, some (uintL (foldZ n).toNat ++ r)) := oneO_put 4 3 _ (by decide)
    rw [h1]
    simp only [if_true]
    rw [numO_put _ _ _ (by omega) (by omega)]
    simp only
    rw [Int.toNat_of_nonneg hf.1, unfoldZ_fold]
  · rw [if_neg h3]
    by_cases h4 : k = 4
    · subst h4
      have hb : 1 ≤ n ∧ n ≤ 4096 := by simpa [oopB] using h
      rw [if_pos rfl]
      have h1 : oneO 4 (some (UInt8.ofNat (4 : Int).toNat :: uintL n.toNat ++ r)) = (4, some (uintL n.toNat ++ r)) := oneO_put 4 4 _ (by decide)
      rw [h1]
      simp only
      rw [if_neg (by decide), if_pos (by decide), numO_put _ _ _ (by omega) (by omega)]
      simp only
      rw [Int.toNat_of_nonneg (by omega)]
    · rw [if_neg h4]
      have hk : k = 0 ∨ k = 1 ∨ k = 2 := by
        by_cases hk : k = 0 ∨ k = 1 ∨ k = 2
        · exact hk
        · rw [if_neg hk, if_neg h3, if_neg h4] at h; cases h
      rw [if_pos hk] at h
      have hn : n = 0 := by simpa using h
      subst hn
      rcases hk with rfl | rfl | rfl
      all_goals
        rw [List.singleton_append, oneO_put 4 _ _ (by decide)]
        rfl
theorem valO_get (l r : List UInt8) (v : VL) (h : valO (some l) = (v, some r)) : l = valB v ++ r := by
  unfold valO at h
  rcases hq : oneO 4 (some l) with ⟨c, s⟩
  rw [hq] at h
  simp only at h
  have key : ∀ l', s = some l' → l = UInt8.ofNat c :: l' ∧ c ≤ 4 := fun l' e => oneO_get 4 c l l' (by rw [hq, e])
  split at h
  · rename_i h3
    subst h3
    injection h with hv hs
    cases s with
    | none => unfold numO at hs; cases hs
    | some l' =>
      obtain ⟨e1, _⟩ := key l' rfl
      rcases hq2 : numO 18446744073709551615 (some l') with ⟨m, s'⟩
      rw [hq2] at hv hs
      simp only at hv hs
      subst hs
      obtain ⟨e2, _, _⟩ := numO_get _ _ _ _ hq2
      subst hv
      rw [e1, e2]
      unfold valB
      simp only [if_true]
      rw [foldZ_unfold _ (by omega), Int.toNat_natCast]
      rfl
  · rename_i h3
    split at h
    · rename_i h4
      subst h4
      injection h with hv hs
      cases s with
      | none => unfold numO at hs; cases hs
      | some l' =>
        obtain ⟨e1, _⟩ := key l' rfl
        rcases hq2 : numO 4096 (some l') with ⟨m, s'⟩
        rw [hq2] at hv hs
        simp only at hv hs
        subst hs
        obtain ⟨e2, _, _⟩ := numO_get _ _ _ _ hq2
        subst hv
        rw [e1, e2]
        unfold valB
        simp only
        rw [if_neg (by decide), if_pos trivial, Int.toNat_natCast]
        rfl
    · rename_i h4
      injection h with hv hs
      subst hv hs
      obtain ⟨e1, _⟩ := key r rfl
      rw [e1]
      unfold valB
      simp only
      rw [if_neg (by omega), if_neg (by omega), Int.toNat_natCast]
      rfl
theorem valsO_put : ∀ (l : List VL) (r : List UInt8), l.all rightV = true → valsO l.length (some (valsB l ++ r)) = (l, some r)
  | [], r, _ => rfl
  | v :: l, r, h => by
    rw [List.all_cons, Bool.and_eq_true] at h
    have h1 := valO_put v (valsB l ++ r) h.1
    rw [← List.append_assoc] at h1
    rw [List.length_cons, valsB_cons, valsO, h1]
    simp only
    rw [valsO_put l r h.2]
theorem valsO_get : ∀ (n : Nat) (l r : List UInt8) (vs : List VL), valsO n (some l) = (vs, some r) → vs.length = n ∧ l = valsB vs ++ r
  | 0, l, r, vs, h => by
    unfold valsO at h
    injection h with h1 h2
    injection h2 with h2
    subst h1 h2
    exact ⟨rfl, rfl⟩
  | n + 1, l, r, vs, h => by
    unfold valsO at h
    rcases hq : valO (some l) with ⟨v, s⟩
    rw [hq] at h
    cases s with
    | none => simp only at h; injection h with h1 h2; cases h2
    | some l' =>
      simp only at h
      injection h with h1 h2
      have e1 := valO_get l l' v hq
      obtain ⟨h3, h4⟩ := valsO_get n l' r (valsO n (some l')).1 (by rw [← h2])
      subst h1
      exact ⟨by rw [List.length_cons, h3], by rw [valsB_cons, List.append_assoc, ← h4, e1]⟩
theorem valsO_none (n : Nat) : (valsO n none).2 = none := by
  cases n with
  | zero => rfl
  | succ n => rfl
theorem textO_put (t r : List UInt8) (h : t.length ≤ 60000) : textO (some (uintL t.length ++ t ++ r)) = (t, some r) := by
  have e := readT_text t r h
  unfold textO
  simp only [e]
  rw [if_pos trivial]
  have hl : (uintL t.length ++ t).length = (uintL t.length).length + t.length := List.length_append
  rw [← hl, List.drop_left]
theorem textO_get (l t r : List UInt8) (h : textO (some l) = (t, some r)) : l = uintL t.length ++ t ++ r := by
  unfold textO at h
  simp only at h
  split at h
  · rename_i hc
    injection h with h1 h2
    injection h2 with h2
    by_cases hu : (readU l).2.2 = 0
    · rw [readT_ok l hu] at hc h1 h2
      obtain ⟨p1, p2, p3⟩ := partM_fine l _ _ hc
      have hcan := readU_canon l hu
      have hk := readU_eq l hu
      rw [p3] at h1 h2
      simp only at h1 h2
      subst h1 h2
      have hlen : ((l.drop (readU l).2.1).take (readU l).1).length = (readU l).1 := by rw [List.length_take, List.length_drop]; omega
      rw [hlen, List.append_assoc, ← List.drop_drop, List.take_append_drop]
      exact hcan
    · rw [readT_bad l hu] at hc
      exact absurd hc hu
  · injection h with h1 h2; cases h2
theorem rightO_parts {o : ObjM} (h : rightO o = true) : 1 ≤ o.cls ∧ o.cls ≤ 4096 ∧ o.slots.length ≤ 256 ∧ o.bytes.length ≤ 1024 ∧ o.slots.all rightV = true := by
  unfold rightO oopB at h
  simp only [Bool.and_eq_true, decide_eq_true_eq] at h
  exact ⟨h.1.1.1.1, h.1.1.1.2, h.1.1.2, h.1.2, h.2⟩
theorem objO_put (o : ObjM) (r : List UInt8) (h : rightO o = true) : objO (some (objB o ++ r)) = (o, some r) := by
  obtain ⟨h1, h2, h3, h4, h5⟩ := rightO_parts h
  have e : objB o ++ r = uintL o.cls.toNat ++ (uintL o.slots.length ++ (valsB o.slots ++ (uintL o.bytes.length ++ o.bytes ++ r))) := by simp [objB]
  unfold objO
  rw [e, numO_put _ _ _ (by omega) (by omega)]
  simp only
  rw [numO_put _ _ _ h3 (by omega)]
  simp only
  rw [valsO_put _ _ h5]
  simp only
  rw [textO_put _ _ (by omega)]
  simp only
  rw [Int.toNat_of_nonneg (by omega), if_pos h]
theorem objO_get (l r : List UInt8) (o : ObjM) (h : objO (some l) = (o, some r)) : rightO o = true ∧ l = objB o ++ r := by
  unfold objO at h
  rcases q1 : numO 4096 (some l) with ⟨a, s1⟩
  rw [q1] at h
  simp only at h
  rcases q2 : numO 256 s1 with ⟨b, s2⟩
  rw [q2] at h
  simp only at h
  rcases q3 : valsO b s2 with ⟨c, s3⟩
  rw [q3] at h
  simp only at h
  rcases q4 : textO s3 with ⟨d, s4⟩
  rw [q4] at h
  cases s4 with
  | none => simp only at h; injection h with h1 h2; cases h2
  | some l4 =>
    simp only at h
    split at h
    · rename_i hr
      injection h with h1 h2
      injection h2 with h2
      subst h1 h2
      cases s3 with
      | none => unfold textO at q4; injection q4 with _ q4; cases q4
      | some l3 =>
        cases s2 with
        | none => have := valsO_none b; rw [q3] at this; cases this
        | some l2 =>
          cases s1 with
          | none => unfold numO at q2; injection q2 with _ q2; cases q2
          | some l1 =>
            obtain ⟨e1, _, _⟩ := numO_get _ _ _ _ q1
            obtain ⟨e2, _, _⟩ := numO_get _ _ _ _ q2
            obtain ⟨e3, e4⟩ := valsO_get _ _ _ _ q3
            have e5 := textO_get _ _ _ q4
            refine ⟨hr, ?_⟩
            rw [e1, e2, e4, e5]
            simp [objB, e3]
    · injection h with h1 h2; cases h2
theorem getM_put (o : ObjM) (h : rightO o = true) : getM (objB o) = some o := by
  have h1 := objO_put o [] h
  rw [List.append_nil] at h1
  unfold getM
  rw [h1]
theorem getM_get (l : List UInt8) (o : ObjM) (h : getM l = some o) : rightO o = true ∧ objB o = l := by
  unfold getM at h
  rcases q : objO (some l) with ⟨x, s⟩
  rw [q] at h
  match s, q, h with
  | some [], q, h =>
    simp only at h
    injection h with h
    subst h
    obtain ⟨h1, h2⟩ := objO_get l [] x q
    exact ⟨h1, by rw [h2, List.append_nil]⟩
theorem objB_inj (a b : ObjM) (ha : rightO a = true) (hb : rightO b = true) (h : objB a = objB b) : a = b := by
  have h1 := getM_put a ha
  rw [h, getM_put b hb] at h1
  injection h1 with h1
  exact h1.symm
end Go.Proofs.Ytifcnjebepipnaa
namespace Go.Proofs.Ytifcnjebepipnaa
set_option linter.unusedVariables false
set_option linter.unusedSimpArgs false
open Go.RowKit

structure ChM where
  oop : Int
  gone : Bool
  obj : ObjM
deriving DecidableEq
structure RecM where
  commit : Int
  chs : List ChM
deriving DecidableEq
def noObj : ObjM := ⟨0, [], []⟩
def rightC (c : ChM) : Bool := if c.gone then decide (c.obj = noObj) else rightO c.obj
def chsRight : Int → List ChM → Bool
  | _, [] => true
  | last, c :: r => decide (last < c.oop) && (oopB c.oop && (rightC c && chsRight c.oop r))
def rightR (r : RecM) : Bool := decide (1 ≤ r.commit) && (decide (r.commit ≤ 1099511627776) && (decide (r.chs.length ≤ 4096) && chsRight 0 r.chs))
def chB (c : ChM) : List UInt8 := uintL c.oop.toNat ++ (if c.gone then [1] else 0 :: objB c.obj)
def chsB (l : List ChM) : List UInt8 := l.flatMap chB
theorem chsB_cons (c : ChM) (l : List ChM) : chsB (c :: l) = chB c ++ chsB l := rfl
theorem chsB_append (a b : List ChM) : chsB (a ++ b) = chsB a ++ chsB b := by simp [chsB]
def recB (r : RecM) : List UInt8 := uintL r.commit.toNat ++ uintL r.chs.length ++ chsB r.chs
def chO (s : St) : ChM × St :=
  if (oneO 1 (numO 4096 s).2).1 = 1 then (⟨(numO 4096 s).1, true, noObj⟩, (oneO 1 (numO 4096 s).2).2)
  else (⟨(numO 4096 s).1, false, (objO (oneO 1 (numO 4096 s).2).2).1⟩, (objO (oneO 1 (numO 4096 s).2).2).2)
def chsO : Nat → St → List ChM × St
  | 0, s => ([], s)
  | n + 1, s => match (chO s).2 with
    | none => ([], none)
    | some l => ((chO s).1 :: (chsO n (some l)).1, (chsO n (some l)).2)
theorem chsO_stop {n : Nat} {l : List UInt8} (h : (chO (some l)).2 = none) : chsO (n + 1) (some l) = ([], none) := by rw [chsO, h]
theorem chsO_go {n : Nat} {l r : List UInt8} (h : (chO (some l)).2 = some r) : chsO (n + 1) (some l) = ((chO (some l)).1 :: (chsO n (some r)).1, (chsO n (some r)).2) := by rw [chsO, h]
theorem chO_none : (chO none).2 = none := rfl
theorem chsO_none (n : Nat) : (chsO n none).2 = none := by
  cases n with
  | zero => rfl
  | succ n => rfl
/-- A record that bytes are; none: they are none. -/
def recO (s : St) : RecM × St :=
  (⟨(numO 1099511627776 s).1, (chsO (numO 4096 (numO 1099511627776 s).2).1 (numO 4096 (numO 1099511627776 s).2).2).1⟩, (chsO (numO 4096 (numO 1099511627776 s).2).1 (numO 4096 (numO 1099511627776 s).2).2).2)
def getR (l : List UInt8) : Option RecM := match (recO (some l)).2 with
  | some [] => if rightR (recO (some l)).1 then some (recO (some l)).1 else none
  | _ => none
theorem chO_put (c : ChM) (r : List UInt8) (h1 : oopB c.oop = true) (h2 : rightC c = true) : chO (some (chB c ++ r)) = (c, some r) := by
  obtain ⟨oop, gone, obj⟩ := c
  simp only [oopB, Bool.and_eq_true, decide_eq_true_eq] at h1
  unfold rightC at h2
  simp only at h2
  have e1 : numO 4096 (some (chB ⟨oop, gone, obj⟩ ++ r)) = (oop.toNat, some ((if gone then [1] else 0 :: objB obj) ++ r)) := by
    unfold chB
    simp only
    rw [List.append_assoc]
    exact numO_put _ _ _ (by omega) (by omega)
  unfold chO
  rw [e1]
  simp only
  cases gone with
  | true =>
    simp only [if_true] at h2 ⊢
    have h3 : obj = noObj := by simpa using h2
    subst h3
    rw [List.singleton_append, oneO_put 1 1 r (by decide)]
    simp only
    rw [if_pos (by decide), Int.toNat_of_nonneg (by omega)]
  | false =>
    simp only [Bool.false_eq_true, if_false] at h2 ⊢
    rw [List.cons_append, oneO_put 1 0 _ (by decide)]
    simp only
    rw [if_neg (by decide), objO_put obj r h2, Int.toNat_of_nonneg (by omega)]
theorem chO_get (l r : List UInt8) (c : ChM) (h : chO (some l) = (c, some r)) : l = chB c ++ r := by
  unfold chO at h
  rcases q1 : numO 4096 (some l) with ⟨a, s1⟩
  rw [q1] at h
  simp only at h
  rcases q2 : oneO 1 s1 with ⟨b, s2⟩
  rw [q2] at h
  simp only at h
  have k1 : ∀ l1, s1 = some l1 → l = uintL a ++ l1 := fun l1 e => (numO_get _ _ _ _ (by rw [q1, e])).1
  have k2 : ∀ l1 l2, s1 = some l1 → s2 = some l2 → l1 = UInt8.ofNat b :: l2 ∧ b ≤ 1 := fun l1 l2 e1 e2 => oneO_get 1 b l1 l2 (by rw [← e1, q2, e2])
  split at h
  · rename_i hb
    injection h with h1 h2
    subst h1 h2
    cases s1 with
    | none => unfold oneO at q2; injection q2 with _ q2; cases q2
    | some l1 =>
      rw [k1 l1 rfl, (k2 l1 r rfl rfl).1, hb]
      simp [chB]
  · rename_i hb
    injection h with h1 h2
    cases s2 with
    | none => unfold objO at h2; cases h2
    | some l2 =>
      cases s1 with
      | none => unfold oneO at q2; injection q2 with _ q2; cases q2
      | some l1 =>
        obtain ⟨e2, hb1⟩ := k2 l1 l2 rfl rfl
        have hb0 : b = 0 := by omega
        subst hb0
        have e3 := (objO_get l2 r (objO (some l2)).1 (by rw [← h2])).2
        subst h1
        rw [k1 l1 rfl, e2]
        unfold chB
        simp only [Int.toNat_natCast, Bool.false_eq_true, if_false]
        rw [List.append_assoc, List.cons_append, ← e3]
        rfl
theorem chsO_put : ∀ (l : List ChM) (last : Int) (r : List UInt8), chsRight last l = true → chsO l.length (some (chsB l ++ r)) = (l, some r)
  | [], _, r, _ => rfl
  | c :: l, last, r, h => by
    simp only [chsRight, Bool.and_eq_true] at h
    have h1 := chO_put c (chsB l ++ r) h.2.1 h.2.2.1
    rw [← List.append_assoc] at h1
    rw [List.length_cons, chsB_cons, chsO, h1]
    simp only
    rw [chsO_put l c.oop r h.2.2.2]
theorem chsO_get : ∀ (n : Nat) (l r : List UInt8) (cs : List ChM), chsO n (some l) = (cs, some r) → cs.length = n ∧ l = chsB cs ++ r
  | 0, l, r, cs, h => by
    unfold chsO at h
    injection h with h1 h2
    injection h2 with h2
    subst h1 h2
    exact ⟨rfl, rfl⟩
  | n + 1, l, r, cs, h => by
    unfold chsO at h
    rcases hq : chO (some l) with ⟨v, s⟩
    rw [hq] at h
    cases s with
    | none => simp only at h; injection h with h1 h2; cases h2
    | some l' =>
      simp only at h
      injection h with h1 h2
      have e1 := chO_get l l' v hq
      obtain ⟨h3, h4⟩ := chsO_get n l' r (chsO n (some l')).1 (by rw [← h2])
      subst h1
      exact ⟨by rw [List.length_cons, h3], by rw [chsB_cons, List.append_assoc, ← h4, e1]⟩
theorem rightR_parts {r : RecM} (h : rightR r = true) : 1 ≤ r.commit ∧ r.commit ≤ 1099511627776 ∧ r.chs.length ≤ 4096 ∧ chsRight 0 r.chs = true := by
  unfold rightR at h
  simp only [Bool.and_eq_true, decide_eq_true_eq] at h
  exact ⟨h.1, h.2.1, h.2.2.1, h.2.2.2⟩
theorem getR_put (r : RecM) (h : rightR r = true) : getR (recB r) = some r := by
  obtain ⟨h1, h2, h3, h4⟩ := rightR_parts h
  have e1 : numO 1099511627776 (some (recB r)) = (r.commit.toNat, some (uintL r.chs.length ++ chsB r.chs)) := by
    unfold recB; rw [List.append_assoc]; exact numO_put _ _ _ (by omega) (by omega)
  have e2 : numO 4096 (some (uintL r.chs.length ++ chsB r.chs)) = (r.chs.length, some (chsB r.chs)) := numO_put _ _ _ h3 (by omega)
  have e3 := chsO_put r.chs 0 [] h4
  rw [List.append_nil] at e3
  have e : recO (some (recB r)) = (r, some []) := by
    unfold recO
    rw [e1]
    simp only
    rw [e2]
    simp only
    rw [e3]
    simp only [Int.toNat_of_nonneg (show 0 ≤ r.commit by omega)]
  unfold getR
  rw [e]
  simp only
  rw [if_pos h]
theorem getR_get (l : List UInt8) (r : RecM) (h : getR l = some r) : rightR r = true ∧ recB r = l := by
  unfold getR at h
  rcases q : recO (some l) with ⟨x, s⟩
  rw [q] at h
  match s, q, h with
  | some [], q, h =>
    simp only at h
    split at h
    · rename_i hr
      injection h with h
      subst h
      refine ⟨hr, ?_⟩
      unfold recO at q
      rcases q1 : numO 1099511627776 (some l) with ⟨a, s1⟩
      rw [q1] at q
      simp only at q
      rcases q2 : numO 4096 s1 with ⟨b, s2⟩
      rw [q2] at q
      simp only at q
      injection q with e1 e2
      cases s2 with
      | none => rw [chsO_none] at e2; cases e2
      | some l2 =>
        cases s1 with
        | none => unfold numO at q2; injection q2 with _ q2; cases q2
        | some l1 =>
          have k1 := (numO_get _ _ _ _ q1).1
          have k2 := (numO_get _ _ _ _ q2).1
          obtain ⟨k3, k4⟩ := chsO_get b l2 [] (chsO b (some l2)).1 (by rw [← e2])
          rw [List.append_nil] at k4
          subst e1
          unfold recB
          simp only [Int.toNat_natCast]
          rw [k3, ← k4, List.append_assoc, ← k2, ← k1]
    · cases h
/-- A record as bytes, or none and an error. -/
def putR (r : RecM) : List UInt8 × Int := if rightR r = true then (if 60000 < (recB r).length then ([], 3) else (recB r, 0)) else ([], 1)
theorem putR_no {r : RecM} (h : rightR r = false) : putR r = ([], 1) := by unfold putR; rw [if_neg (by rw [h]; decide)]
theorem putR_big {r : RecM} (h : rightR r = true) (h2 : 60000 < (recB r).length) : putR r = ([], 3) := by unfold putR; rw [if_pos h, if_pos h2]
theorem putR_ok {r : RecM} (h : rightR r = true) (h2 : ¬ 60000 < (recB r).length) : putR r = (recB r, 0) := by unfold putR; rw [if_pos h, if_neg h2]
theorem chsRight_oops : ∀ (l : List ChM) (last : Int), chsRight last l = true → ∀ c ∈ l, oopB c.oop = true ∧ rightC c = true
  | [], _, _, c, hc => by cases hc
  | d :: l, last, h, c, hc => by
    simp only [chsRight, Bool.and_eq_true] at h
    rcases List.mem_cons.1 hc with rfl | hc
    · exact ⟨h.2.1, h.2.2.1⟩
    · exact chsRight_oops l d.oop h.2.2.2 c hc
end Go.Proofs.Ytifcnjebepipnaa
namespace Go.Proofs.Ytifcnjebepipnaa
set_option linter.unusedVariables false
set_option linter.unusedSimpArgs false
open Go.RowKit

/-- A change's five cells. -/
def ChC (w : World) (S : Nat → Prop) (cs : List Value) (c : ChM) : Prop :=
  ∃ A n D m, cs = [.int .i64 c.oop, .bool c.gone, .int .i64 c.obj.cls, .slice A c.obj.slots.length n, .slice D c.obj.bytes.length m] ∧ RdV w S A c.obj.slots ∧ RdB w S D c.obj.bytes
theorem ChC.len {w : World} {S : Nat → Prop} {cs : List Value} {c : ChM} (h : ChC w S cs c) : cs.length = 5 := by
  obtain ⟨_, _, _, _, rfl, _, _⟩ := h; rfl
theorem ChC.one {w : World} {S : Nat → Prop} {cs : List Value} {c : ChM} (h : ChC w S cs c) : ∀ u ∈ cs, u.oneCell' = true := by
  obtain ⟨_, _, _, _, rfl, _, _⟩ := h
  intro u hu; simp at hu; rcases hu with rfl | rfl | rfl | rfl | rfl <;> rfl
theorem ChC.keep {w w' : World} {S T : Nat → Prop} {cs : List Value} {c : ChM} (h : ChC w S cs c) (hf : Fr T w w') (hd : ∀ b, S b → ¬ T b) : ChC w' S cs c := by
  obtain ⟨A, n, D, m, e, h1, h2⟩ := h; exact ⟨A, n, D, m, e, Rd.fr h1 hf hd, Rd.fr h2 hf hd⟩
theorem ChC.mono {w : World} {S T : Nat → Prop} {cs : List Value} {c : ChM} (h : ChC w S cs c) (hS : ∀ b, b < w.heap.size → S b → T b) : ChC w T cs c := by
  obtain ⟨A, n, D, m, e, h1, h2⟩ := h; exact ⟨A, n, D, m, e, Rd.mono h1 hS (by decide), Rd.mono h2 hS (by decide)⟩
theorem ChC.lt {w : World} {S : Nat → Prop} {cs : List Value} {c : ChM} (h : ChC w S cs c) : ChC w (fun b => S b ∧ b < w.heap.size) cs c := by
  obtain ⟨A, n, D, m, e, h1, h2⟩ := h; exact ⟨A, n, D, m, e, Rd.lt h1 (by decide), Rd.lt h2 (by decide)⟩
theorem ChC.obj {w : World} {S : Nat → Prop} {cs : List Value} {c : ChM} (h : ChC w S cs c) : ∃ oc, cs = .int .i64 c.oop :: .bool c.gone :: oc ∧ ObjC w S oc c.obj := by
  obtain ⟨A, n, D, m, e, h1, h2⟩ := h; exact ⟨_, e, A, n, D, m, rfl, h1, h2⟩
/-- Cells, five by five, that read as changes. -/
def ChsC (w : World) (S : Nat → Prop) : List Value → List ChM → Prop
  | xs, [] => xs = []
  | xs, t :: ts => ∃ cs rest, xs = cs ++ rest ∧ ChC w S cs t ∧ ChsC w S rest ts
theorem ChsC.keep {w w' : World} {S T : Nat → Prop} (hf : Fr T w w') (hd : ∀ b, S b → ¬ T b) : ∀ {ts : List ChM} {xs : List Value}, ChsC w S xs ts → ChsC w' S xs ts
  | [], _, h => h
  | t :: ts, _, ⟨cs, rest, e, hc, hr⟩ => ⟨cs, rest, e, hc.keep hf hd, ChsC.keep hf hd hr⟩
theorem ChsC.mono {w : World} {S T : Nat → Prop} (hS : ∀ b, b < w.heap.size → S b → T b) : ∀ {ts : List ChM} {xs : List Value}, ChsC w S xs ts → ChsC w T xs ts
  | [], _, h => h
  | t :: ts, _, ⟨cs, rest, e, hc, hr⟩ => ⟨cs, rest, e, hc.mono hS, ChsC.mono hS hr⟩
theorem ChsC.lt {w : World} {S : Nat → Prop} : ∀ {ts : List ChM} {xs : List Value}, ChsC w S xs ts → ChsC w (fun b => S b ∧ b < w.heap.size) xs ts
  | [], _, h => h
  | t :: ts, _, ⟨cs, rest, e, hc, hr⟩ => ⟨cs, rest, e, hc.lt, ChsC.lt hr⟩
theorem ChsC.one {w : World} {S : Nat → Prop} : ∀ {ts : List ChM} {xs : List Value}, ChsC w S xs ts → ∀ u ∈ xs, u.oneCell' = true
  | [], _, h => by intro u hu; rw [h] at hu; cases hu
  | t :: ts, _, ⟨cs, rest, e, hc, hr⟩ => by
    intro u hu
    rw [e] at hu
    rcases List.mem_append.1 hu with hu | hu
    · exact hc.one u hu
    · exact ChsC.one hr u hu
theorem ChsC.snoc {w : World} {S : Nat → Prop} {cs : List Value} {c : ChM} (hc : ChC w S cs c) : ∀ {ts : List ChM} {xs : List Value}, ChsC w S xs ts → ChsC w S (xs ++ cs) (ts ++ [c])
  | [], _, h => by rw [h]; exact ⟨cs, [], by simp, hc, rfl⟩
  | t :: ts, _, ⟨c0, rest, e, h0, hr⟩ => ⟨c0, rest ++ cs, by rw [e, List.append_assoc], h0, ChsC.snoc hc hr⟩
theorem ChsC.at_ {w : World} {S : Nat → Prop} : ∀ {ts : List ChM} {xs : List Value} {k : Nat} (_ : ChsC w S xs ts) (hk : k < ts.length), ∃ cs, ChC w S cs ts[k] ∧ ∀ j u, cs[j]? = some u → xs[k * 5 + j]? = some u
  | [], _, _, _, hk => absurd hk (by simp)
  | t :: ts, xs, 0, ⟨cs, rest, e, hc, hr⟩, _ => ⟨cs, hc, fun j u hu => by
      subst e
      rw [Nat.zero_mul, Nat.zero_add, List.getElem?_append_left (List.getElem?_eq_some_iff.1 hu).1]; exact hu⟩
  | t :: ts, xs, k + 1, ⟨cs, rest, e, hc, hr⟩, hk => by
      obtain ⟨cs', hc', hj⟩ := ChsC.at_ (k := k) hr (by simpa using hk)
      refine ⟨cs', by simpa using hc', fun j u hu => ?_⟩
      subst e
      rw [List.getElem?_append_right (by rw [hc.len]; omega), hc.len, show (k + 1) * 5 + j - 5 = k * 5 + j by omega]
      exact hj j u hu
/-- A slice of changes. -/
def RdCh (w : World) (S : Nat → Prop) (A : Option Addr) (ts : List ChM) : Prop := ∃ xs, Rd w S 5 A ts.length xs ∧ ChsC w S xs ts
theorem RdCh.fr {w w' : World} {S T : Nat → Prop} {A : Option Addr} {ts : List ChM} (h : RdCh w S A ts) (hf : Fr T w w') (hd : ∀ b, S b → ¬ T b) : RdCh w' S A ts := by
  obtain ⟨xs, h1, h2⟩ := h; exact ⟨xs, h1.fr hf hd, h2.keep hf hd⟩
theorem RdCh.fr0 {w w' : World} {S : Nat → Prop} {A : Option Addr} {ts : List ChM} (h : RdCh w S A ts) (hf : Fr No w w') : RdCh w' S A ts := h.fr hf (fun _ _ hn => hn)
theorem RdCh.mono {w : World} {S T : Nat → Prop} {A : Option Addr} {ts : List ChM} (h : RdCh w S A ts) (hS : ∀ b, b < w.heap.size → S b → T b) : RdCh w T A ts := by
  obtain ⟨xs, h1, h2⟩ := h; exact ⟨xs, h1.mono hS (by decide), h2.mono hS⟩
theorem RdCh.lt {w : World} {S : Nat → Prop} {A : Option Addr} {ts : List ChM} (h : RdCh w S A ts) : RdCh w (fun b => S b ∧ b < w.heap.size) A ts := by
  obtain ⟨xs, h1, h2⟩ := h; exact ⟨xs, h1.lt (by decide), h2.lt⟩
theorem RdCh.le {w : World} {S : Nat → Prop} {A : Option Addr} {ts : List ChM} (h : RdCh w S A ts) : ts.length ≤ 211106232532992 := by
  obtain ⟨xs, h1, _⟩ := h; exact h1.le
theorem RdCh.nil_ {w : World} {S : Nat → Prop} {A : Option Addr} : RdCh w S A [] := ⟨[], Rd.nil_, rfl⟩
/-- The k-th change's five cells. -/
theorem RdCh.at_ {w : World} {S : Nat → Prop} {A : Option Addr} {ts : List ChM} (h : RdCh w S A ts) {k : Nat} (hk : k < ts.length) :
    ∃ g o Av n D m, A = some ⟨g, o, none⟩ ∧ S g ∧ (∀ j u, [Value.int .i64 ts[k].oop, .bool ts[k].gone, .int .i64 ts[k].obj.cls, .slice Av ts[k].obj.slots.length n, .slice D ts[k].obj.bytes.length m][j]? = some u → w.cell? ⟨g, o + k * 5 + j, none⟩ = some u) ∧ RdV w S Av ts[k].obj.slots ∧ RdB w S D ts[k].obj.bytes := by
  obtain ⟨xs, h1, h2⟩ := h
  obtain ⟨g, o, hA, hS, hc⟩ := h1.plain (by omega) (by decide)
  obtain ⟨cs, ⟨Av, n, D, m, rfl, hr, hw⟩, hj⟩ := h2.at_ hk
  exact ⟨g, o, Av, n, D, m, hA, hS, fun j u hu => by have := hc _ u (hj j u hu); rwa [← Nat.add_assoc] at this, hr, hw⟩
theorem addr5 (g a : Nat) (cs : List Value) {w : World} (h : ∀ j u, cs[j]? = some u → w.cell? ⟨g, a + j, none⟩ = some u) : ∀ j u, cs[j]? = some u → w.cell? ((⟨g, a, none⟩ : Addr).add j) = some u := by
  intro j u hu
  have e : (⟨g, a, none⟩ : Addr).add j = ⟨g, a + j, none⟩ := by unfold Addr.add; split <;> simp_all
  rw [e]; exact h j u hu
/-- A record's two cells. -/
def RecC (w : World) (S : Nat → Prop) (cs : List Value) (r : RecM) : Prop := ∃ A c, cs = [.int .i64 r.commit, .slice A r.chs.length c] ∧ RdCh w S A r.chs
theorem RecC.fr {w w' : World} {S T : Nat → Prop} {cs : List Value} {r : RecM} (h : RecC w S cs r) (hf : Fr T w w') (hd : ∀ b, S b → ¬ T b) : RecC w' S cs r := by
  obtain ⟨A, c, e, h1⟩ := h; exact ⟨A, c, e, h1.fr hf hd⟩
theorem RecC.fr0 {w w' : World} {S : Nat → Prop} {cs : List Value} {r : RecM} (h : RecC w S cs r) (hf : Fr No w w') : RecC w' S cs r := h.fr hf (fun _ _ hn => hn)
theorem RecC.mono {w : World} {S T : Nat → Prop} {cs : List Value} {r : RecM} (h : RecC w S cs r) (hS : ∀ b, b < w.heap.size → S b → T b) : RecC w T cs r := by
  obtain ⟨A, c, e, h1⟩ := h; exact ⟨A, c, e, h1.mono hS⟩
theorem RecC.lt {w : World} {S : Nat → Prop} {cs : List Value} {r : RecM} (h : RecC w S cs r) : RecC w (fun b => S b ∧ b < w.heap.size) cs r := by
  obtain ⟨A, c, e, h1⟩ := h; exact ⟨A, c, e, h1.lt⟩
/-- Changes that are gathered in a row of the call's own; what they hold is new too, and lies apart from the row. -/
def ChRow (w : World) (T : TypeId) (base : Nat) (v : Value) (l : List ChM) : Prop :=
  ∃ xs, w.ownsRow base T 5 v l.length xs ∧ ChsC w (fun b => base ≤ b ∧ ¬ v.ownBlock = some b) xs l
theorem ChRow.start (w : World) (T : TypeId) (base : Nat) : ChRow w T base (.slice none 0 0) [] := ⟨[], World.ownsRow_nil _ _ _ _, rfl⟩
theorem ChRow.fr {S : Nat → Prop} {w w' : World} {T : TypeId} {base : Nat} {v : Value} {l : List ChM} (h : ChRow w T base v l) (hf : Fr S w w') (hS : ∀ b, base ≤ b → ¬ S b) : ChRow w' T base v l := by
  obtain ⟨xs, h1, h2⟩ := h
  exact ⟨xs, own_fr h1 hf (fun b hb => hS b (h1.lt b hb).1), h2.keep hf (fun b hb => hS b hb.1)⟩
theorem ChRow.fr0 {w w' : World} {T : TypeId} {base : Nat} {v : Value} {l : List ChM} (h : ChRow w T base v l) (hf : Fr No w w') : ChRow w' T base v l := h.fr hf (fun _ _ hn => hn)
theorem ChRow.app {w w' : World} {T : TypeId} {base : Nat} {v v' : Value} {l : List ChM} {xs cs : List Value} {c : ChM} (hc : ChsC w (fun b => base ≤ b ∧ ¬ v.ownBlock = some b) xs l) (hx : ChC w (fun b => base ≤ b ∧ ¬ v.ownBlock = some b) cs c)
    (hown : w'.ownsRow base T 5 v' (l.length + 1) (xs ++ cs)) (hg : w.grownBy w' v.ownBlock) (hat : Hid (v'.ownBlock = v.ownBlock ∨ v'.ownBlock = some w.heap.size)) : ChRow w' T base v' (l ++ [c]) := by
  have h1 := (ChsC.snoc hx hc).lt
  have hf : Fr (fun b => v.ownBlock = some b) w w' := (Fr.refl _ w).grown hg (fun q hq => .inr hq)
  have h2 := h1.keep hf (fun b hb hT => hb.1.2 hT)
  refine ⟨xs ++ cs, by rw [List.length_append]; exact hown, h2.mono (fun b _ hb => ⟨hb.1.1, fun e => ?_⟩)⟩
  rcases hat.out with h3 | h3
  · exact hb.1.2 (h3 ▸ e)
  · rw [h3] at e; injection e with e; have := hb.2; omega
theorem ChRow.rd {w : World} {T : TypeId} {base c : Nat} {A : Option Addr} {l : List ChM} (h : ChRow w T base (.slice A l.length c) l) (hl : l.length ≤ 211106232532992) : RdCh w (fun b => base ≤ b) A l := by
  obtain ⟨xs, h1, h2⟩ := h
  obtain ⟨_, _, e, _, _, hA⟩ := own_form h1
  injection e with e1 e2 e3
  subst e1 e3
  exact ⟨xs, (own_rd h1 hl).mono (fun b _ hb => (h1.lt b ((hA b).2 hb)).1) (by decide), h2.mono (fun b _ hb => hb.1)⟩
end Go.Proofs.Ytifcnjebepipnaa
namespace Go.Proofs.Ytifcnjebepipnaa
set_option linter.unusedVariables false
set_option linter.unusedSimpArgs false
open Go.RowKit

theorem ag_chp : AggOf Try.prog 62 5 := ⟨⟨_, Try.underlying62, rfl⟩, by kernel_rfl⟩
theorem ag_chr : AggOf Try.prog 67 5 := ⟨⟨_, Try.underlying67, rfl⟩, by kernel_rfl⟩
theorem ag_recp : AggOf Try.prog 29 2 := ⟨⟨_, Try.underlying29, rfl⟩, by kernel_rfl⟩
theorem ag_recr : AggOf Try.prog 33 2 := ⟨⟨_, Try.underlying33, rfl⟩, by kernel_rfl⟩
theorem plain_lchp : ∀ w, (isAgg 27).run Try.prog w = .ok false w := plain_of Try.underlying27 rfl
theorem plain_lchr : ∀ w, (isAgg 31).run Try.prog w = .ok false w := plain_of Try.underlying31 rfl
theorem noObj_c (w : World) (S : Nat → Prop) : ObjC w S [.int .i64 0, .slice none 0 0, .slice none 0 0] noObj := ⟨none, 0, none, 0, rfl, Rd.nil_, Rd.nil_⟩
theorem rightC_gone (o : Int) (ob : ObjM) : rightC ⟨o, true, ob⟩ = sameO ob noObj := rfl
theorem rightC_here (o : Int) (ob : ObjM) : rightC ⟨o, false, ob⟩ = rightO ob := rfl
set_option maxHeartbeats 1000000 in
set_option maxRecDepth 100000 in
theorem chright_calls (S : Nat → Prop) (cs : List Value) (c : ChM) (w : World) (h : ChC w S cs c) :
    Calls Try.prog 38 #[.agg cs.toArray] w fun e w' => e = .returned (.bool (rightC c)) ∧ Fr No w w' := by
  obtain ⟨oop, gone, ob⟩ := c
  obtain ⟨Av, nn, D, mm, rfl, hs, hb⟩ := h
  simp only at hs hb
  have g1 := plain_i64
  have g2 := plain_lval
  have g3 := plain_lu8
  have g4 := plain_bool
  have hf : Fr No w (w.alloc (.cells #[.int .i64 oop, .bool gone, .int .i64 ob.cls, .slice Av ob.slots.length nn, .slice D ob.bytes.length mm] 62)) := (Fr.refl No w).alloc _
  have hoc : ObjC (w.alloc (.cells #[.int .i64 oop, .bool gone, .int .i64 ob.cls, .slice Av ob.slots.length nn, .slice D ob.bytes.length mm] 62)) S [.int .i64 ob.cls, .slice Av ob.slots.length nn, .slice D ob.bytes.length mm] ob := ObjC.fr0 ⟨Av, nn, D, mm, rfl, hs, hb⟩ hf
  cases gone with
  | true =>
    have H := Lib.hid (rightC_gone oop ob)
    go_enter Try.func38, Try.ntmps38
    go_wp2_with fail
    refine (vsame_calls S S _ _ ob noObj _ hoc (noObj_c _ S)).mono ?_
    rintro e w2 ⟨rfl, hf2⟩
    go_wp2
    go_ret
    exact ⟨ret_bool H.out.symm, hf.tr hf2⟩
  | false =>
    have H := Lib.hid (rightC_here oop ob)
    go_enter Try.func38, Try.ntmps38
    go_wp2_with fail
    refine (righto_calls S _ ob _ hoc).mono ?_
    rintro e w2 ⟨rfl, hf2⟩
    go_wp2
    go_ret
    exact ⟨ret_bool H.out.symm, hf.tr hf2⟩
theorem chsRight_no1 {last : Int} {c : ChM} {r : List ChM} (h : decide (last < c.oop) = false) : chsRight last (c :: r) = false := by rw [chsRight, h, Bool.false_and]
theorem chsRight_no2 {last : Int} {c : ChM} {r : List ChM} (h : oopB c.oop = false) : chsRight last (c :: r) = false := by rw [chsRight, h, Bool.false_and, Bool.and_false]
theorem chsRight_no3 {last : Int} {c : ChM} {r : List ChM} (h : rightC c = false) : chsRight last (c :: r) = false := by rw [chsRight, h, Bool.false_and, Bool.and_false, Bool.and_false]
theorem chsRight_yes {last : Int} {c : ChM} {r : List ChM} (h1 : decide (last < c.oop) = true) (h2 : oopB c.oop = true) (h3 : rightC c = true) : chsRight last (c :: r) = chsRight c.oop r := by rw [chsRight, h1, h2, h3, Bool.true_and, Bool.true_and, Bool.true_and]
theorem drop_consC (l : List ChM) (k : Nat) (h : k < l.length) : l.drop k = l[k] :: l.drop (k + 1) := List.drop_eq_getElem_cons h

set_option maxHeartbeats 4000000 in
set_option maxRecDepth 100000 in
theorem vrightr_calls (S : Nat → Prop) (cs : List Value) (r : RecM) (w : World) (h : RecC w S cs r) :
    Calls Try.prog 24 #[.agg cs.toArray] w fun e w' => e = .returned (.bool (rightR r)) ∧ Fr No w w' := by
  obtain ⟨com, chs⟩ := r
  obtain ⟨A, c, rfl, hch⟩ := h
  simp only at hch
  have g1 := plain_i64
  have g2 := plain_lchp
  have g4 := plain_bool
  have g5 := plain_lval
  have g6 := plain_lu8
  have hle := hch.le
  have hf : Fr No w (w.alloc (.cells #[.int .i64 com, .slice A chs.length c] 29)) := (Fr.refl No w).alloc _
  have hbx := Blk.new w 29 #[.int .i64 com, .slice A chs.length c]
  have H : Hid (rightR ⟨com, chs⟩ = (decide (1 ≤ com) && (decide (com ≤ 1099511627776) && (decide (chs.length ≤ 4096) && chsRight 0 chs)))) := Lib.hid rfl
  by_cases h0 : 1 ≤ com
  rotate_left
  · have e0 : decide (com < 1) = true := by simpa using h0
    rw [show decide (1 ≤ com) = false by simpa using h0, Bool.false_and] at H
    clear h0
    go_enter Try.func24, Try.ntmps24
    go_wp2
    go_ret
    exact ⟨ret_bool H.out.symm, hf⟩
  have e0 : decide (com < 1) = false := by simpa using h0
  rw [show decide (1 ≤ com) = true by simpa using h0, Bool.true_and] at H
  clear h0
  by_cases h1 : com ≤ 1099511627776
  rotate_left
  · have e1 : decide (1099511627776 < com) = true := by simpa using h1
    rw [show decide (com ≤ 1099511627776) = false by simpa using h1, Bool.false_and] at H
    clear h1
    go_enter Try.func24, Try.ntmps24
    go_wp2
    go_ret
    exact ⟨ret_bool H.out.symm, hf⟩
  have e1 : decide (1099511627776 < com) = false := by simpa using h1
  rw [show decide (com ≤ 1099511627776) = true by simpa using h1, Bool.true_and] at H
  clear h1
  by_cases h2 : chs.length ≤ 4096
  rotate_left
  · have e2 : decide ((4096 : Int) < chs.length) = true := by simp; omega
    rw [show decide (chs.length ≤ 4096) = false by simpa using h2, Bool.false_and] at H
    clear h2
    go_enter Try.func24, Try.ntmps24
    go_wp2
    go_ret
    exact ⟨ret_bool H.out.symm, hf⟩
  have e2 : decide ((4096 : Int) < chs.length) = false := by simp; omega
  rw [show decide (chs.length ≤ 4096) = true by simpa using h2, Bool.true_and] at H
  go_enter Try.func24, Try.ntmps24
  go_wp2_with fail
  generalize hw1 : w.alloc (.cells #[.int .i64 com, .slice A chs.length c] 29) = w1 at *
  clear hw1
  go_loopw [3, 23] (fun la i wr => ∃ (k : Nat) (last : Int), k ≤ chs.length ∧ i = .int .i64 (k : Int) ∧ la = .int .i64 last ∧ Hid (chsRight 0 chs = chsRight last (chs.drop k)) ∧ Fr No w1 wr) (fun _ i _ => chs.length - (intOf i).toNat)
  case atStart => exact ⟨0, 0, by omega, rfl, rfl, Lib.hid rfl, Fr.refl _ _⟩
  case round =>
    obtain ⟨k, last, hk, rfl, rfl, HC, hfr⟩ := hrel
    by_cases hlt : k < chs.length
    · have ek : decide ((k : Int) < chs.length) = true := by simpa using (by omega : (k : Int) < chs.length)
      obtain ⟨ga, of, Av, nn, D, mm, rfl, _, hcell, hsl, hby⟩ := RdCh.at_ (hch.fr0 (hf.tr hfr)) hlt
      have HD := Lib.hid (drop_consC chs k hlt)
      generalize chs[k] = x at *
      obtain ⟨oop, gone, ob⟩ := x
      simp only at hcell hsl hby
      have hall := addr5 _ _ _ hcell
      clear hcell
      have hfA : Fr No wr (wr.alloc (.cells #[.int .i64 oop, .bool gone, .int .i64 ob.cls, .slice Av ob.slots.length nn, .slice D ob.bytes.length mm] 62)) := (Fr.refl No wr).alloc _
      have hcc : ChC (wr.alloc (.cells #[.int .i64 oop, .bool gone, .int .i64 ob.cls, .slice Av ob.slots.length nn, .slice D ob.bytes.length mm] 62)) S [.int .i64 oop, .bool gone, .int .i64 ob.cls, .slice Av ob.slots.length nn, .slice D ob.bytes.length mm] ⟨oop, gone, ob⟩ := ChC.keep ⟨Av, nn, D, mm, rfl, hsl, hby⟩ hfA (fun _ _ hn => hn)
      have hnew := Blk.new wr 62 #[.int .i64 oop, .bool gone, .int .i64 ob.cls, .slice Av ob.slots.length nn, .slice D ob.bytes.length mm]
      cases hl : decide (last < oop) with
      | false =>
        have HN := Lib.hid (chsRight_no1 (c := ⟨oop, gone, ob⟩) (r := chs.drop (k + 1)) hl)
        have el : decide (oop ≤ last) = true := by simp at hl ⊢; omega
        clear hl
        go_wp2_with (first
          | (refine wpList_ldA ag_chp rfl _ rfl ⟨ga, of + k * 5, none⟩ [.int .i64 oop, .bool gone, .int .i64 ob.cls, .slice Av ob.slots.length nn, .slice D ob.bytes.length mm] rfl rfl hall ?_)
          | fail)
        go_ret
        exact ⟨ret_bool (by rw [H.out, HC.out, HD.out, HN.out]), hf.tr (hfr.tr hfA)⟩
      | true =>
        have el : decide (oop ≤ last) = false := by simp at hl ⊢; omega
        have HL := Lib.hid hl
        clear hl
        have hoop := oop_calls oop
        cases ho : oopB oop with
        | false =>
          rw [ho] at hoop
          have HN := Lib.hid (chsRight_no2 (last := last) (c := ⟨oop, gone, ob⟩) (r := chs.drop (k + 1)) ho)
          clear ho
          go_wp2_with (first
            | (refine wpList_ldA ag_chp rfl _ rfl ⟨ga, of + k * 5, none⟩ [.int .i64 oop, .bool gone, .int .i64 ob.cls, .slice Av ob.slots.length nn, .slice D ob.bytes.length mm] rfl rfl hall ?_)
            | fail)
          refine (hoop _).mono ?_
          rintro e _ ⟨rfl, rfl⟩
          go_wp2
          go_ret
          exact ⟨ret_bool (by rw [H.out, HC.out, HD.out, HN.out]), hf.tr (hfr.tr hfA)⟩
        | true =>
          rw [ho] at hoop
          have HO := Lib.hid ho
          clear ho
          go_wp2_with (first
            | (refine wpList_ldA ag_chp rfl _ rfl ⟨ga, of + k * 5, none⟩ [.int .i64 oop, .bool gone, .int .i64 ob.cls, .slice Av ob.slots.length nn, .slice D ob.bytes.length mm] rfl rfl hall ?_)
            | fail)
          refine (hoop _).mono ?_
          rintro e _ ⟨rfl, rfl⟩
          have hnall := hnew.all
          go_wp2_with (first
            | (refine wpList_ldA ag_chp rfl _ rfl ⟨wr.heap.size, 0, none⟩ [.int .i64 oop, .bool gone, .int .i64 ob.cls, .slice Av ob.slots.length nn, .slice D ob.bytes.length mm] rfl rfl hnall ?_)
            | fail)
          refine (chright_calls S _ _ _ hcc).mono ?_
          rintro e w4 ⟨rfl, hf4⟩
          have hnew4 := hnew.fr0 hf4
          (have z0 := hnew4.cell 0; have z1 := hnew4.cell 1; have z2 := hnew4.cell 2; have z3 := hnew4.cell 3; have z4 := hnew4.cell 4; have zf0 := hnew4.frozen 0; have zf1 := hnew4.frozen 1; have zf2 := hnew4.frozen 2; have zf3 := hnew4.frozen 3; have zf4 := hnew4.frozen 4; simp only [List.getElem?_toArray, List.getElem?_cons_zero, List.getElem?_cons_succ] at z0 z1 z2 z3 z4)
          cases hc : rightC ⟨oop, gone, ob⟩ with
          | false =>
            have HN := Lib.hid (chsRight_no3 (last := last) (r := chs.drop (k + 1)) hc)
            clear hc
            go_wp2
            go_ret
            exact ⟨ret_bool (by rw [H.out, HC.out, HD.out, HN.out]), hf.tr (hfr.tr (hfA.tr hf4))⟩
          | true =>
            have HN := Lib.hid (chsRight_yes (r := chs.drop (k + 1)) HL.out HO.out hc)
            clear hc
            go_wp2
            go_roundw
            case rel => exact ⟨k + 1, oop, by omega, by go_num, rfl, Lib.hid (by rw [HC.out, HD.out, HN.out]), hfr.tr (hfA.tr hf4)⟩
            case measure => simp [intOf]; omega
    · obtain rfl : k = chs.length := by omega
      have ek : decide ((chs.length : Int) < chs.length) = false := by simp
      have HE := Lib.hid (show rightR ⟨com, chs⟩ = true by rw [H.out, HC.out, List.drop_length]; rfl)
      go_wp2
      go_ret
      exact ⟨ret_bool HE.out.symm, hf.tr hfr⟩

end Go.Proofs.Ytifcnjebepipnaa
namespace Go.Proofs.Ytifcnjebepipnaa
set_option linter.unusedVariables false
set_option linter.unusedSimpArgs false
open Go.RowKit

theorem so_chp : SliceOf Try.prog 27 62 (.agg #[.int .i64 0, .bool false, .int .i64 0, .slice none 0 0, .slice none 0 0]) 5 72 := ⟨Try.underlying27, by kernel_rfl, rfl, by decide, by decide, by decide⟩
theorem take_snocL (l : List ChM) (k : Nat) (h : k < l.length) : l.take (k + 1) = l.take k ++ [l[k]] := by
  rw [List.take_succ_eq_append_getElem h]
/-- That the memory can hold a record's objects. -/
def RecOk (r : RecM) : Prop := r.chs.length * 72 ≤ 140737488351232 ∧ ∀ c ∈ r.chs, c.obj.slots.length * 16 ≤ 140737488351232 ∧ c.obj.bytes.length ≤ 140737488351232
theorem ObjOwn.lit5 {w : World} {B : Nat} {cs : List Value} {o : ObjM} (h : ObjOwn w B cs o) : ∃ A c D d, cs = [.int .i64 o.cls, .slice A o.slots.length c, .slice D o.bytes.length d] := by
  obtain ⟨A, c, D, d, M, e, _⟩ := h; exact ⟨A, c, D, d, e⟩
theorem ChM.eta (c : ChM) : (⟨c.oop, c.gone, c.obj⟩ : ChM) = c := rfl
theorem one5 {a b c d e : Value} (h1 : a.oneCell' = true) (h2 : b.oneCell' = true) (h3 : c.oneCell' = true) (h4 : d.oneCell' = true) (h5 : e.oneCell' = true) : ∀ u ∈ [a, b, c, d, e], u.oneCell' = true := by
  intro u hu
  simp only [List.mem_cons, List.not_mem_nil, or_false] at hu
  rcases hu with rfl | rfl | rfl | rfl | rfl <;> assumption

set_option maxHeartbeats 4000000 in
set_option maxRecDepth 100000 in
theorem given11_calls (S : Nat → Prop) (cs : List Value) (r : RecM) (w : World) (h : RecC w S cs r) (ok : RecOk r) :
    Calls Try.prog 9 #[.agg cs.toArray] w fun e w' => ∃ cs' : List Value, e = .returned (.agg cs'.toArray) ∧ RecC w' (fun b => w.heap.size ≤ b) cs' r ∧ Fr No w w' := by
  obtain ⟨com, chs⟩ := r
  obtain ⟨ok1, ok2⟩ := ok
  simp only at ok1 ok2
  obtain ⟨Ar, cr, rfl, hch⟩ := h
  simp only at hch
  have g1 := plain_i64
  have g2 := plain_lval
  have g3 := plain_lu8
  have g4 := plain_bool
  have g5 := plain_lchr
  have g6 := plain_lchp
  have hle := hch.le
  have hf1 : Fr No w (((w.alloc (.cells #[.int .i64 com, .slice Ar chs.length cr] 33)).alloc (.cells #[.int .i64 0, .slice none 0 0] 29)).alloc (.cells #[.int .i64 com, .slice none 0 0] 29)) := (((Fr.refl No w).alloc _).alloc _).alloc _
  have hbx : Blk (((w.alloc (.cells #[.int .i64 com, .slice Ar chs.length cr] 33)).alloc (.cells #[.int .i64 0, .slice none 0 0] 29)).alloc (.cells #[.int .i64 com, .slice none 0 0] 29)) w.heap.size 33 #[.int .i64 com, .slice Ar chs.length cr] := ((Blk.new w _ _).alloc _).alloc _
  have hbr : Blk (((w.alloc (.cells #[.int .i64 com, .slice Ar chs.length cr] 33)).alloc (.cells #[.int .i64 0, .slice none 0 0] 29)).alloc (.cells #[.int .i64 com, .slice none 0 0] 29)) (w.heap.size + 1) 29 #[.int .i64 0, .slice none 0 0] := (Blk.newAt (by simp)).alloc _
  have hby : Blk (((w.alloc (.cells #[.int .i64 com, .slice Ar chs.length cr] 33)).alloc (.cells #[.int .i64 0, .slice none 0 0] 29)).alloc (.cells #[.int .i64 com, .slice none 0 0] 29)) (w.heap.size + 1 + 1) 29 #[.int .i64 com, .slice none 0 0] := Blk.newAt (by simp)
  have hz1 : (((w.alloc (.cells #[.int .i64 com, .slice Ar chs.length cr] 33)).alloc (.cells #[.int .i64 0, .slice none 0 0] 29)).alloc (.cells #[.int .i64 com, .slice none 0 0] 29)).heap.size = w.heap.size + 3 := by simp
  go_enter Try.func9, Try.ntmps9
  go_upto_region 2 with fail
  generalize hw1 : (((w.alloc (.cells #[.int .i64 com, .slice Ar chs.length cr] 33)).alloc (.cells #[.int .i64 0, .slice none 0 0] 29)).alloc (.cells #[.int .i64 com, .slice none 0 0] 29)) = w1 at *
  clear hw1
  have hz1' : w.heap.size + 3 ≤ w1.heap.size := by omega
  clear hz1
  go_wp2_with fail
  go_loopw [4] (fun i wr => ∃ (k : Nat) (A : Option Addr) (c : Nat) (xs : List Value), k ≤ chs.length ∧ i = .int .i64 (k : Int) ∧ Blk wr (w.heap.size + 1 + 1) 29 #[.int .i64 com, .slice A k c] ∧ wr.ownsRow (w.heap.size + 3) 62 5 (.slice A k c) k xs ∧ ChsC wr (fun b => w.heap.size + 3 ≤ b ∧ ¬ (Value.slice A k c).ownBlock = some b) xs (chs.take k) ∧ Fr (fun b => w.heap.size + 1 + 1 ≤ b) w1 wr) (fun i _ => chs.length - (intOf i).toNat)
  case atStart => exact ⟨0, none, 0, [], by omega, rfl, hby, World.ownsRow_nil _ _ _ _, rfl, Fr.refl _ _⟩
  case round =>
    obtain ⟨k, A, c, xs, hk, rfl, hb, hown, hxs, hf⟩ := hrel
    have hsr := hf.size
    have hfW : Fr No w wr := hf1.trans hf (fun b hb hT => by omega)
    have hbX := hbx.fr hf (fun hT => by omega)
    have hbR := hbr.fr hf (fun hT => by omega)
    (have p0 := hbX.cell 0; have p1 := hbX.cell 1; have pf0 := hbX.frozen 0; have pf1 := hbX.frozen 1; simp only [List.getElem?_toArray, List.getElem?_cons_zero, List.getElem?_cons_succ] at p0 p1)
    by_cases hlt : k < chs.length
    · have ek : decide ((k : Int) < chs.length) = true := by simpa using (by omega : (k : Int) < chs.length)
      have hrd := hch.fr0 hfW
      obtain ⟨ga, of, Av, nn, D, mm, rfl, _, hcell, hsl, hby'⟩ := hrd.at_ hlt
      have hok := ok2 _ (List.getElem_mem hlt)
      have HT := Lib.hid (take_snocL chs k hlt)
      have hgl : ga < wr.heap.size := World.block_lt_of_cell? wr _ (hcell 0 _ rfl)
      generalize chs[k] = x at *
      obtain ⟨oop, gone, ob⟩ := x
      simp only at hcell hsl hby' hok
      have k0 := hcell 0 _ rfl
      have k1 := hcell 1 _ rfl
      have hobc : ∀ j u, [Value.int .i64 ob.cls, .slice Av ob.slots.length nn, .slice D ob.bytes.length mm][j]? = some u → wr.cell? ((⟨ga, of + k * 5 + 2, none⟩ : Addr).add j) = some u := addr5 _ _ _ (fun j u hu => by
        have := hcell (j + 2) u (by simpa using hu)
        rwa [show of + k * 5 + (j + 2) = of + k * 5 + 2 + j by omega] at this)
      have HOB := Lib.hid hobc
      simp only [Nat.add_zero] at k0
      have hgaw : ga < w.heap.size := by
        obtain ⟨g', o', Av', nn', D', mm', hA', _, hcell', _, _⟩ := hch.at_ hlt
        injection hA' with hA'
        injection hA' with h1 h2
        subst h1 h2
        exact World.block_lt_of_cell? w _ (hcell' 0 _ rfl)
      have hSG : ¬ ((Value.slice A k c).ownBlock = some ga) := fun hh => by have := (hown.lt _ hh).1; omega
      have hSX : ¬ ((Value.slice A k c).ownBlock = some w.heap.size) := fun hh => by have := (hown.lt _ hh).1; omega
      have hSH : ¬ ((Value.slice A k c).ownBlock = some (w.heap.size + 1 + 1)) := fun hh => by have := (hown.lt _ hh).1; omega
      have hownlt := fun b (hb : (Value.slice A k c).ownBlock = some b) => hown.lt b hb
      have HOL := Lib.hid hownlt
      clear hcell hobc hrd hownlt
      (have q0 := hb.cell 0; have q1 := hb.cell 1; have qf0 := hb.frozen 0; have qf1 := hb.frozen 1; simp only [List.getElem?_toArray, List.getElem?_cons_zero, List.getElem?_cons_succ] at q0 q1)
      go_wp2_with fail
      refine T_begin2 (fun b => (Value.slice A k c).ownBlock = some b) [25] [0, 1, 2, 3, 4, 5, 6, 7, 8, 9, 10, 11, 12, 13, 14, 15, 16, 17, 18, 19, 20, 21, 22, 23, 24, 25] [20, 22, 23, 25] (by kernel_rfl) (by kernel_rfl) ?_
      simp only [pickOps, List.filterMap_cons, List.filterMap_nil, List.getElem?_cons_zero, List.getElem?_cons_succ, Act.put]
      repeat (first | (refine T_skip (by rfl) (by rfl) (fun _ _ _ h => h) ?_; try simp only [Act.put, List.setIfInBounds_toArray, List.set_cons_zero, List.set_cons_succ]) | (refine T_pass (by rfl) (by rfl) ?_; try simp only [Act.put, List.setIfInBounds_toArray, List.set_cons_zero, List.set_cons_succ]) | (refine T_load (by assumption) (by rfl) (by rfl) (fun _ _ _ _ h => h) rfl rfl (by assumption) (by first | exact (fun hn => hn) | assumption) ?_; try simp only [Act.put, List.setIfInBounds_toArray, List.set_cons_zero, List.set_cons_succ]) | (refine T_nil (by rfl) (by rfl) (fun _ _ _ _ h => h) rfl rfl ?_; try simp only [Act.put, List.setIfInBounds_toArray, List.set_cons_zero, List.set_cons_succ]) | (refine T_quietN (by rfl) (by rfl) (by rfl) (by rfl) (fun _ _ _ _ h => h) (fun K hK => ?_); go_big_quiet_op; refine hK _ ?_; clear hK K) | (refine T_two (by rfl) (by rfl) (by rfl) (by rfl) (fun _ _ _ _ h => h) (fun K hK => ?_); go_big_quiet_op; refine ⟨_, fun _ _ => rfl, ?_⟩; refine hK _ ?_; clear hK K; try simp only [Act.put, List.setIfInBounds_toArray, List.set_cons_zero, List.set_cons_succ]) | fail)
      refine T_loadA (cs := [.int .i64 ob.cls, .slice Av ob.slots.length nn, .slice D ob.bytes.length mm]) ag_obj (by rfl) (by rfl) (fun _ _ _ _ h => h) rfl rfl rfl (show ∀ j u, _ → wr.drew.cell? _ = some u from HOB.out) hSG ?_
      try simp only [Act.put, List.setIfInBounds_toArray, List.set_cons_zero, List.set_cons_succ]
      (refine T_call (by rfl) (by rfl) (fun K hK => ?_); go_wp2_with fail)
      refine (refcopy_calls S _ ob _ (show ObjC wr.drew S _ ob from ⟨Av, nn, D, mm, rfl, hsl, hby'⟩) (by omega)).mono ?_
      rintro e w3 ⟨cs3, rfl, hown3, hf3⟩
      (refine hK.out _ _ ((hf3.mono (fun _ _ hn => hn.elim))) ?_; clear hK K; try simp only [Act.put, List.setIfInBounds_toArray, List.set_cons_zero, List.set_cons_succ])
      obtain ⟨A2, c2, D2, d2, rfl⟩ := hown3.lit5
      have hoc3 := (hown3.rd (by omega) (by omega))
      have hz3 := hf3.size
      have hdz : wr.drew.heap.size = wr.heap.size := rfl
      rw [hdz] at hz3 hoc3
      repeat (first | (refine T_skip (by rfl) (by rfl) (fun _ _ _ h => h) ?_; try simp only [Act.put, List.setIfInBounds_toArray, List.set_cons_zero, List.set_cons_succ]) | (refine T_pass (by rfl) (by rfl) ?_; try simp only [Act.put, List.setIfInBounds_toArray, List.set_cons_zero, List.set_cons_succ]) | (refine T_load (by assumption) (by rfl) (by rfl) (fun _ _ _ _ h => h) rfl rfl (by assumption) (by first | exact (fun hn => hn) | assumption) ?_; try simp only [Act.put, List.setIfInBounds_toArray, List.set_cons_zero, List.set_cons_succ]) | (refine T_nil (by rfl) (by rfl) (fun _ _ _ _ h => h) rfl rfl ?_; try simp only [Act.put, List.setIfInBounds_toArray, List.set_cons_zero, List.set_cons_succ]) | (refine T_quietN (by rfl) (by rfl) (by rfl) (by rfl) (fun _ _ _ _ h => h) (fun K hK => ?_); go_big_quiet_op; refine hK _ ?_; clear hK K) | (refine T_two (by rfl) (by rfl) (by rfl) (by rfl) (fun _ _ _ _ h => h) (fun K hK => ?_); go_big_quiet_op; refine ⟨_, fun _ _ => rfl, ?_⟩; refine hK _ ?_; clear hK K; try simp only [Act.put, List.setIfInBounds_toArray, List.set_cons_zero, List.set_cons_succ]) | fail)
      have hf03 : Fr No wr w3 := (Fr.refl No wr).drew.tr hf3
      refine T_call (by rfl) (by rfl) (fun K hK => ?_)
      refine wp_buildOne so_chp (by decide) [.int .i64 oop, .bool gone, .int .i64 ob.cls, .slice A2 ob.slots.length c2, .slice D2 ob.bytes.length d2] rfl rfl rfl ?_
      (refine hK.out _ _ (((Fr.refl _ _).alloc _)) ?_; clear hK K; try simp only [Act.put, List.setIfInBounds_toArray, List.set_cons_zero, List.set_cons_succ])
      refine T_call (by rfl) (by rfl) (fun K hK => ?_)
      refine wp_app_at so_chp (own_fr0 hown (hf03.alloc (.cells ([.int .i64 oop, .bool gone, .int .i64 ob.cls, .slice A2 ob.slots.length c2, .slice D2 ob.bytes.length d2]).toArray 62))) ((Blk.new _ _ _).rd (size := 5) (n := 1) (by rfl) (by decide)) (one5 rfl rfl rfl rfl rfl) (by omega) (by simp; omega) rfl rfl rfl ?_
      intro v5 w5 hown5 hg5 hat5
      refine hK.out _ _ ((Fr.refl _ _).grown hg5 (fun q hq => .inr hq)) ?_
      clear hK K
      try simp only [Act.put, List.setIfInBounds_toArray, List.set_cons_zero, List.set_cons_succ]
      have hfA5 : Fr No wr (w3.alloc (.cells ([.int .i64 oop, .bool gone, .int .i64 ob.cls, .slice A2 ob.slots.length c2, .slice D2 ob.bytes.length d2]).toArray 62)) := hf03.alloc _
      have hb5 := (hb.fr0 hfA5).grown hg5 (fun hh => hSH hh.symm)
      obtain ⟨A3, c3, rfl, hc3, hc3m, hA3⟩ := own_form hown5
      (have z0 := hb5.cell 0; have z1 := hb5.cell 1; have zf0 := hb5.frozen 0; have zf1 := hb5.frozen 1; simp only [List.getElem?_toArray, List.getElem?_cons_zero, List.getElem?_cons_succ] at z0 z1)
      repeat (first | (refine T_skip (by rfl) (by rfl) (fun _ _ _ h => h) ?_; try simp only [Act.put, List.setIfInBounds_toArray, List.set_cons_zero, List.set_cons_succ]) | (refine T_pass (by rfl) (by rfl) ?_; try simp only [Act.put, List.setIfInBounds_toArray, List.set_cons_zero, List.set_cons_succ]) | (refine T_load (by assumption) (by rfl) (by rfl) (fun _ _ _ _ h => h) rfl rfl (by assumption) (by first | exact (fun hn => hn) | assumption) ?_; try simp only [Act.put, List.setIfInBounds_toArray, List.set_cons_zero, List.set_cons_succ]) | (refine T_nil (by rfl) (by rfl) (fun _ _ _ _ h => h) rfl rfl ?_; try simp only [Act.put, List.setIfInBounds_toArray, List.set_cons_zero, List.set_cons_succ]) | (refine T_quietN (by rfl) (by rfl) (by rfl) (by rfl) (fun _ _ _ _ h => h) (fun K hK => ?_); go_big_quiet_op; refine hK _ ?_; clear hK K) | (refine T_two (by rfl) (by rfl) (by rfl) (by rfl) (fun _ _ _ _ h => h) (fun K hK => ?_); go_big_quiet_op; refine ⟨_, fun _ _ => rfl, ?_⟩; refine hK _ ?_; clear hK K; try simp only [Act.put, List.setIfInBounds_toArray, List.set_cons_zero, List.set_cons_succ]) | fail)
      refine T_turn No [] (by rfl) (by rfl) (by rfl) (fun K hK => ?_)
      go_wp2_with fail
      refine hK.out _ _ ?_
      clear hK K
      refine T_done ?_
      have hfS : Fr (fun b => b = w.heap.size + 1 + 1) w5 (w5.setCell ⟨w.heap.size + 1 + 1, 1, none⟩ (.slice A3 (k + 1) c3)) := (Fr.refl _ w5).set1 1 _
      have hgF : Fr (fun b => (Value.slice A k c).ownBlock = some b) (w3.alloc (.cells ([.int .i64 oop, .bool gone, .int .i64 ob.cls, .slice A2 ob.slots.length c2, .slice D2 ob.bytes.length d2]).toArray 62)) w5 := (Fr.refl _ _).grown hg5 (fun q hq => .inr hq)
      go_wp2_with fail
      go_roundw
      case rel =>
        refine ⟨k + 1, A3, c3, xs ++ [.int .i64 oop, .bool gone, .int .i64 ob.cls, .slice A2 ob.slots.length c2, .slice D2 ob.bytes.length d2], by omega, by go_num, hb5.put 1 _, own_fr hown5 hfS (fun b hb hT => by have := (hown5.lt _ hb).1; omega), ?_, ?_⟩
        · rw [HT.out]
          have h8 := (ChsC.snoc (show ChC w3 (fun b => w.heap.size + 3 ≤ b ∧ ¬ (Value.slice A k c).ownBlock = some b) [.int .i64 oop, .bool gone, .int .i64 ob.cls, .slice A2 ob.slots.length c2, .slice D2 ob.bytes.length d2] ⟨oop, gone, ob⟩ by
            obtain ⟨A', c', D', d', e, r1, r2⟩ := hoc3
            injection e with _ e
            injection e with e1 e
            injection e with e2 _
            injection e1 with e11 _ e13
            injection e2 with e21 _ e23
            subst e11 e13 e21 e23
            exact ChC.mono ⟨A2, c2, D2, d2, rfl, r1, r2⟩ (fun b hl hb => ⟨by omega, fun e => by have := (HOL.out b e).2; omega⟩)) (hxs.keep hf03 (fun _ _ hn => hn))).lt
          have h9 := ((h8.keep ((Fr.refl No w3).alloc (.cells ([.int .i64 oop, .bool gone, .int .i64 ob.cls, .slice A2 ob.slots.length c2, .slice D2 ob.bytes.length d2]).toArray 62)) (fun _ _ hn => hn)).keep hgF (fun b hb hT => hb.1.2 hT)).keep hfS (fun b hb hT => by have := hb.1.1; omega)
          refine h9.mono (fun b _ hb => ⟨hb.1.1, fun e => ?_⟩)
          rcases hat5 with h3 | h3
          · exact hb.1.2 (h3 ▸ e)
          · rw [h3] at e; injection e with e; have := hb.2; simp at e; omega
        · exact (((hf.trans (hfA5.mono (fun _ _ hn => hn.elim)) (fun b _ h => h)).grown hg5 (fun q hq => .inr (by have := (HOL.out q hq).1; omega)))).set (.inr (Nat.le_refl _)) _
      case measure => simp [intOf]; omega
    · obtain rfl : k = chs.length := by omega
      have ek : decide ((chs.length : Int) < chs.length) = false := by simp
      rw [List.take_length] at hxs
      have hcs := hb.all
      go_wp2_with (first
        | (refine wpList_ldA ag_recp rfl _ rfl ⟨w.heap.size + 1 + 1, 0, none⟩ [.int .i64 com, .slice A chs.length c] rfl rfl hcs ?_)
        | (refine wpList_stA ag_recp.info rfl _ _ rfl (w.heap.size + 1) 0 _ _ [.int .i64 com, .slice A chs.length c] _ rfl rfl rfl rfl (by intro u hu; simp at hu; rcases hu with rfl | rfl <;> rfl) hbR (by decide) ?_; intro w5 hb5 hg5 hz5)
        | fail)
      rw [splice_all _ _ (by rfl)] at hb5
      have hf5 : Fr (fun b => b = w.heap.size + 1) wr w5 := (Fr.refl _ wr).grown hg5 (fun q hq => by injection hq with hq; exact .inr hq.symm)
      obtain ⟨_, _, e9, _, _, hDl⟩ := own_form hown
      injection e9 with e91 e92 e93
      subst e91 e93
      refine bodyPost_ret (results_blk ag_recp rfl _ _ _ _ _ rfl hb5 rfl) rfl ⟨_, rfl, ⟨A, c, rfl, xs, ?_, ?_⟩, hfW.trans hf5 (fun b hb hT => by omega)⟩
      · exact Rd.mono (Rd.fr (own_rd hown (by omega)) hf5 (fun b hb hT => by have := (hown.lt b ((hDl b).2 hb)).1; omega)) (fun b _ hb => by have := (hown.lt b ((hDl b).2 hb)).1; omega) (by decide)
      · exact (hxs.keep hf5 (fun b hb hT => by have := hb.1; omega)).mono (fun b _ hb => by have := hb.1; omega)
end Go.Proofs.Ytifcnjebepipnaa
namespace Go.Proofs.Ytifcnjebepipnaa
set_option linter.unusedVariables false
set_option linter.unusedSimpArgs false
open Go.RowKit

/-- Cells, two by two, that read as records. -/
def RecsC (w : World) (S : Nat → Prop) : List Value → List RecM → Prop
  | xs, [] => xs = []
  | xs, t :: ts => ∃ cs rest, xs = cs ++ rest ∧ RecC w S cs t ∧ RecsC w S rest ts
theorem RecsC.keep {w w' : World} {S T : Nat → Prop} (hf : Fr T w w') (hd : ∀ b, S b → ¬ T b) : ∀ {ts : List RecM} {xs : List Value}, RecsC w S xs ts → RecsC w' S xs ts
  | [], _, h => h
  | t :: ts, _, ⟨cs, rest, e, hc, hr⟩ => ⟨cs, rest, e, hc.fr hf hd, RecsC.keep hf hd hr⟩
theorem RecsC.mono {w : World} {S T : Nat → Prop} (hS : ∀ b, b < w.heap.size → S b → T b) : ∀ {ts : List RecM} {xs : List Value}, RecsC w S xs ts → RecsC w T xs ts
  | [], _, h => h
  | t :: ts, _, ⟨cs, rest, e, hc, hr⟩ => ⟨cs, rest, e, hc.mono hS, RecsC.mono hS hr⟩
theorem RecsC.snoc {w : World} {S : Nat → Prop} {cs : List Value} {c : RecM} (hc : RecC w S cs c) : ∀ {ts : List RecM} {xs : List Value}, RecsC w S xs ts → RecsC w S (xs ++ cs) (ts ++ [c])
  | [], _, h => by rw [h]; exact ⟨cs, [], by simp, hc, rfl⟩
  | t :: ts, _, ⟨c0, rest, e, h0, hr⟩ => ⟨c0, rest ++ cs, by rw [e, List.append_assoc], h0, RecsC.snoc hc hr⟩
theorem RecC.len {w : World} {S : Nat → Prop} {cs : List Value} {r : RecM} (h : RecC w S cs r) : cs.length = 2 := by
  obtain ⟨_, _, rfl, _⟩ := h; rfl
theorem RecsC.at_ {w : World} {S : Nat → Prop} : ∀ {ts : List RecM} {xs : List Value} {k : Nat} (_ : RecsC w S xs ts) (hk : k < ts.length), ∃ cs, RecC w S cs ts[k] ∧ ∀ j u, cs[j]? = some u → xs[k * 2 + j]? = some u
  | [], _, _, _, hk => absurd hk (by simp)
  | t :: ts, xs, 0, ⟨cs, rest, e, hc, hr⟩, _ => ⟨cs, hc, fun j u hu => by
      subst e
      rw [Nat.zero_mul, Nat.zero_add, List.getElem?_append_left (List.getElem?_eq_some_iff.1 hu).1]; exact hu⟩
  | t :: ts, xs, k + 1, ⟨cs, rest, e, hc, hr⟩, hk => by
      obtain ⟨cs', hc', hj⟩ := RecsC.at_ (k := k) hr (by simpa using hk)
      refine ⟨cs', by simpa using hc', fun j u hu => ?_⟩
      subst e
      rw [List.getElem?_append_right (by rw [hc.len]; omega), hc.len, show (k + 1) * 2 + j - 2 = k * 2 + j by omega]
      exact hj j u hu
/-- A slice of records. -/
def RdRec (w : World) (S : Nat → Prop) (A : Option Addr) (ts : List RecM) : Prop := ∃ xs, Rd w S 2 A ts.length xs ∧ RecsC w S xs ts
theorem RdRec.fr {w w' : World} {S T : Nat → Prop} {A : Option Addr} {ts : List RecM} (h : RdRec w S A ts) (hf : Fr T w w') (hd : ∀ b, S b → ¬ T b) : RdRec w' S A ts := by
  obtain ⟨xs, h1, h2⟩ := h; exact ⟨xs, h1.fr hf hd, h2.keep hf hd⟩
theorem RdRec.fr0 {w w' : World} {S : Nat → Prop} {A : Option Addr} {ts : List RecM} (h : RdRec w S A ts) (hf : Fr No w w') : RdRec w' S A ts := h.fr hf (fun _ _ hn => hn)
theorem RdRec.le {w : World} {S : Nat → Prop} {A : Option Addr} {ts : List RecM} (h : RdRec w S A ts) : ts.length ≤ 211106232532992 := by
  obtain ⟨xs, h1, _⟩ := h; exact h1.le
theorem RdRec.at_ {w : World} {S : Nat → Prop} {A : Option Addr} {ts : List RecM} (h : RdRec w S A ts) {k : Nat} (hk : k < ts.length) :
    ∃ g o cs, A = some ⟨g, o, none⟩ ∧ RecC w S cs ts[k] ∧ (∀ j u, cs[j]? = some u → w.cell? ((⟨g, o + k * 2, none⟩ : Addr).add j) = some u) ∧ cs.length = 2 := by
  obtain ⟨xs, h1, h2⟩ := h
  obtain ⟨g, o, hA, hS, hc⟩ := h1.plain (by omega) (by decide)
  obtain ⟨cs, hcs, hj⟩ := h2.at_ hk
  exact ⟨g, o, cs, hA, hcs, addr5 _ _ _ (fun j u hu => by have := hc _ u (hj j u hu); rwa [← Nat.add_assoc] at this), hcs.len⟩
theorem take_snocR (l : List RecM) (k : Nat) (h : k < l.length) : l.take (k + 1) = l.take k ++ [l[k]] := by
  rw [List.take_succ_eq_append_getElem h]
end Go.Proofs.Ytifcnjebepipnaa
namespace Go.Proofs.Ytifcnjebepipnaa
set_option linter.unusedVariables false
set_option linter.unusedSimpArgs false
open Go.ChangeShapes Go.WideShapes Go.ChangeAt Go.RowKit

/-- What a change's cells read as. -/
def ChR (w : World) (cs : List Value) (c : ChM) : Prop :=
  ChC w (fun b => b < w.heap.size) cs c ∧ c.obj.slots.length * 16 ≤ 140737488351232 ∧ c.obj.bytes.length ≤ 140737488351232
set_option maxRecDepth 100000 in
theorem opens_ch : Opens Try.prog 67 ChR (fun c => c.obj.slots.length + c.obj.bytes.length + 4) := by
  intro H enc w sp held fuel cs x h hw
  have hu := Try.underlying67
  obtain ⟨xs, n, _, rfl, hl, hxl, hf⟩ := DataW.trod_struct hu h
  have hc5 : Try.prog.cellsOf 67 = 5 := by kernel_rfl
  have hi1 : Try.prog.cellsOf 2 = 1 := by kernel_rfl
  have hi2 : Try.prog.cellsOf 4 = 1 := by kernel_rfl
  have hi3 : Try.prog.cellsOf 38 = 3 := by kernel_rfl
  rw [hc5] at hl
  have f0 := hf 0 _ rfl
  have f1 := hf 1 _ rfl
  have f2 := hf 2 _ rfl
  match cs, hl with
  | [c0, c1, c2, c3, c4], _ =>
  match xs, hxl with
  | [x0, x1, x2], _ =>
  simp only [hi1, hi2, hi3, List.drop_zero, List.drop_succ_cons, List.take_succ_cons, List.take_zero, List.getElem?_cons_zero, List.getElem?_cons_succ] at f0 f1 f2
  have hw' : ∀ m, m ∈ DataW.weights Try.prog 38 x2.1 → m ≤ reachBytes := by
    intro m hm
    refine hw m ?_
    rw [DataW.weights, hu]
    simp only [DataW.weightsEach, List.map_cons, List.map_nil, List.mem_append]
    exact .inr (.inr (.inl hm))
  obtain ⟨a0, e0, _, w0⟩ := DataW.trod_int Try.underlying2 f0
  obtain ⟨b1, e1, _⟩ := DataW.trod_bool Try.underlying4 f1
  obtain ⟨o, ⟨ho, hob, _, _⟩, hb⟩ := opens_obj H enc w sp held n [c2, c3, c4] x2 f2 hw'
  obtain ⟨A, na, D, m, e2, r1, r2⟩ := ho
  injection e0 with e0 _
  injection e1 with e1 _
  injection e2 with e20 e2
  injection e2 with e21 e2
  injection e2 with e22 _
  subst e0 e1 e20 e21 e22
  refine ⟨⟨a0, b1, o⟩, ⟨⟨A, na, D, m, rfl, r1, r2⟩, hob.1, hob.2⟩, ?_⟩
  have := bulk_pos x0.1
  have := bulk_pos x1.1
  simp only at hb
  simp only [List.map_cons, List.map_nil, Rows.uptoBulk, Rows.uptoBulkAll]
  omega
def bulkC (l : List ChM) : Nat := (l.map (fun c => c.obj.slots.length + c.obj.bytes.length + 4)).sum
theorem chs_of_all2 {w : World} : ∀ {css : List (List Value)} {ts : List ChM}, All2 (ChR w) css ts → ChsC w (fun b => b < w.heap.size) css.flatten ts ∧ ∀ c ∈ ts, c.obj.slots.length * 16 ≤ 140737488351232 ∧ c.obj.bytes.length ≤ 140737488351232
  | [], [], _ => ⟨rfl, fun d hd => by cases hd⟩
  | c :: css, t :: ts, h => by
    obtain ⟨h1, h2⟩ := chs_of_all2 h.2
    refine ⟨⟨c, css.flatten, rfl, h.1.1, h1⟩, fun d hd => ?_⟩
    rcases List.mem_cons.1 hd with rfl | hd
    · exact h.1.2
    · exact h2 d hd
set_option maxRecDepth 100000 in
theorem opens_chs : Opens Try.prog 31 (fun w cs (ts : List ChM) => (∃ A c, cs = [.slice A ts.length c] ∧ RdCh w (fun b => b < w.heap.size) A ts ∧ ts.length ≤ c ∧ c ≤ maxLen) ∧ (∀ c ∈ ts, c.obj.slots.length * 16 ≤ 140737488351232 ∧ c.obj.bytes.length ≤ 140737488351232) ∧ ts.length * 72 ≤ reachBytes) (fun ts => bulkC ts + 1) := by
  intro H enc w sp held fuel cs x h hw
  obtain ⟨ys, ⟨⟨A, c, css, rfl, hrd, hall, hc, hm⟩, h8⟩, hb⟩ := opens_list Try.underlying31 (size := 5) (bytes := 72) (by kernel_rfl) (by kernel_rfl) (by decide) (by decide) opens_ch (fun w cs y hy => hy.1.len) H enc w sp held fuel cs x h hw
  obtain ⟨k1, k2⟩ := chs_of_all2 hall
  exact ⟨ys, ⟨⟨A, c, rfl, ⟨css.flatten, hrd, k1⟩, hc, hm⟩, k2, h8⟩, hb⟩
/-- What a record's cells read as. -/
def RecR (w : World) (cs : List Value) (r : RecM) : Prop := RecC w (fun b => b < w.heap.size) cs r ∧ RecOk r ∧ -9223372036854775808 ≤ r.commit ∧ r.commit ≤ 9223372036854775807
set_option maxRecDepth 100000 in
theorem opens_rec : Opens Try.prog 33 RecR (fun r => bulkC r.chs + 2) := by
  intro H enc w sp held fuel cs x h hw
  have hu := Try.underlying33
  obtain ⟨xs, n, _, rfl, hl, hxl, hf⟩ := DataW.trod_struct hu h
  have hc2 : Try.prog.cellsOf 33 = 2 := by kernel_rfl
  have hi1 : Try.prog.cellsOf 2 = 1 := by kernel_rfl
  have hi2 : Try.prog.cellsOf 31 = 1 := by kernel_rfl
  rw [hc2] at hl
  have f0 := hf 0 _ rfl
  have f1 := hf 1 _ rfl
  match cs, hl with
  | [c0, c1], _ =>
  match xs, hxl with
  | [x0, x1], _ =>
  simp only [hi1, hi2, List.drop_zero, List.drop_succ_cons, List.take_succ_cons, List.take_zero, List.getElem?_cons_zero, List.getElem?_cons_succ] at f0 f1
  have hw' : ∀ m, m ∈ DataW.weights Try.prog 31 x1.1 → m ≤ reachBytes := by
    intro m hm
    refine hw m ?_
    rw [DataW.weights, hu]
    simp only [DataW.weightsEach, List.map_cons, List.map_nil, List.mem_append]
    exact .inr (.inl hm)
  obtain ⟨a0, e0, _, w0⟩ := DataW.trod_int Try.underlying2 f0
  obtain ⟨ts, ⟨⟨A, c, e1, hrd, _, _⟩, hts, h72⟩, hb⟩ := opens_chs H enc w sp held n [c1] x1 f1 hw'
  injection e0 with e0 _
  injection e1 with e1 _
  subst e0 e1
  refine ⟨⟨a0, ts⟩, ⟨⟨A, c, rfl, hrd⟩, ⟨by simpa [reachBytes] using h72, hts⟩, wf_i64 w0⟩, ?_⟩
  have := bulk_pos x0.1
  simp only at hb
  simp only [List.map_cons, List.map_nil, Rows.uptoBulk, Rows.uptoBulkAll]
  omega
section
variable {H : Type} {enc : TypeId × Value → H} {W : World} {held : Bool}
theorem open_rec {ts : List TypeId} {ds : List (DataW H)} (hsz : (DataW.weightsEach Try.prog ts ds).all (· ≤ reachBytes) = true) {j : Nat} {v : Value} {d : DataW H} {p : List MemPlace}
    (ht : ts[j]? = some 33) (hd : ds[j]? = some d) (h : DataW.Trod enc Try.prog W 0 (fun _ => true) held 33 v d p) :
    ∃ (cs : List Value) (r : RecM), v = .agg cs.toArray ∧ RecR W cs r ∧ bulkC r.chs + 2 ≤ Rows.uptoBulk d := by
  obtain ⟨fuel, hf⟩ := h
  obtain ⟨r, h1, h3⟩ := opens_rec H enc W (fun _ => true) held fuel _ _ hf (weights_of hsz ht hd)
  have hl : v.cells.toList.length = 2 := by obtain ⟨⟨A, c, e, _⟩, _⟩ := h1; rw [e]; rfl
  cases v with
  | agg cs => exact ⟨cs.toList, r, rfl, h1, h3⟩
  | _ => simp [Value.cells] at hl
end
theorem recs_of_all2 {w : World} : ∀ {css : List (List Value)} {ts : List RecM}, All2 (RecR w) css ts → RecsC w (fun b => b < w.heap.size) css.flatten ts ∧ ∀ r ∈ ts, RecOk r
  | [], [], _ => ⟨rfl, fun d hd => by cases hd⟩
  | c :: css, t :: ts, h => by
    obtain ⟨h1, h2⟩ := recs_of_all2 h.2
    refine ⟨⟨c, css.flatten, rfl, h.1.1, h1⟩, fun d hd => ?_⟩
    rcases List.mem_cons.1 hd with rfl | hd
    · exact h.1.2.1
    · exact h2 d hd
set_option maxRecDepth 100000 in
theorem opens_recs : Opens Try.prog 22 (fun w cs (ts : List RecM) => (∃ A c, cs = [.slice A ts.length c] ∧ RdRec w (fun b => b < w.heap.size) A ts ∧ ts.length ≤ c ∧ c ≤ maxLen) ∧ (∀ r ∈ ts, RecOk r) ∧ ts.length * 32 ≤ reachBytes) (fun ts => (ts.map (fun r => bulkC r.chs + 2)).sum + 1) := by
  intro H enc w sp held fuel cs x h hw
  obtain ⟨ys, ⟨⟨A, c, css, rfl, hrd, hall, hc, hm⟩, h8⟩, hb⟩ := opens_list Try.underlying22 (size := 2) (bytes := 32) (by kernel_rfl) (by kernel_rfl) (by decide) (by decide) opens_rec (fun w cs y hy => hy.1.len) H enc w sp held fuel cs x h hw
  obtain ⟨k1, k2⟩ := recs_of_all2 hall
  exact ⟨ys, ⟨⟨A, c, rfl, ⟨css.flatten, hrd, k1⟩, hc, hm⟩, k2, h8⟩, hb⟩
section
variable {H : Type} {enc : TypeId × Value → H} {W : World} {held : Bool}
theorem open_recs {ts : List TypeId} {ds : List (DataW H)} (hsz : (DataW.weightsEach Try.prog ts ds).all (· ≤ reachBytes) = true) {j : Nat} {v : Value} {d : DataW H} {p : List MemPlace}
    (ht : ts[j]? = some 22) (hd : ds[j]? = some d) (h : DataW.Trod enc Try.prog W 0 (fun _ => true) held 22 v d p) (hv : ∃ A n c, v = .slice A n c) :
    ∃ (A : Option Addr) (c : Nat) (l : List RecM), v = .slice A l.length c ∧ RdRec W (fun b => b < W.heap.size) A l ∧ (∀ r ∈ l, RecOk r) ∧ (l.map (fun r => bulkC r.chs + 2)).sum + 1 ≤ Rows.uptoBulk d := by
  obtain ⟨A, n, c, rfl⟩ := hv
  obtain ⟨fuel, hf⟩ := h
  obtain ⟨l, ⟨⟨A', c', e, h1, h2, h3⟩, h4, h5⟩, h6⟩ := opens_recs H enc W (fun _ => true) held fuel _ _ hf (weights_of hsz ht hd)
  simp [Value.cells] at e
  obtain ⟨rfl, rfl, rfl⟩ := e
  exact ⟨_, _, l, rfl, h1, h4, h6⟩
end
end Go.Proofs.Ytifcnjebepipnaa
namespace Go.Proofs.Ytifcnjebepipnaa
set_option linter.unusedVariables false
set_option linter.unusedSimpArgs false
open Go.RowKit Go.Maps

theorem keyed64 : Keyed Try.prog 2 := int_keyed Try.underlying2
theorem isKey64 (x : Int) : WideAt.IsKeyLit (.int .i64 x) := by
  unfold WideAt.IsKeyLit; trivial
/-- An element reads as itself. -/
def hR (v : Value) : Option (DataW Value × List MemPlace) := some (.held v, [])
abbrev W64 (x : Int) : Prop := (Lit.int .i64 x).wf = true
/-- Block b is a map of at most n entries; f: what it holds. -/
def MapV (w : World) (b n : Nat) (f : Int → Option Value) : Prop :=
  ∃ D : DataW Value, w.ownsMap Try.prog 2 hR b n D ∧ ∀ x, W64 x → has D (.int .i64 x) = (f x).isSome ∧ ∀ v, f x = some v → ∀ z, D.atKey (.int .i64 x) z = .held v
theorem MapV.made (w : World) : MapV (w.alloc (.map #[] 0)) w.heap.size 0 (fun _ => none) :=
  ⟨.map [], World.ownsMap_made _ _ _ _, fun x _ => ⟨rfl, fun v h => by cases h⟩⟩
theorem held_inj {a b : Value} (h : DataW.held (H := Value) a = .held b) : a = b := by injection h
theorem run_eq {a b : Value} (w : World) (h : a = b) : Result.ok a w = .ok b w := by rw [h]
theorem run_eq2 {a b : Value} (c : Bool) (w : World) (h : a = b) : Result.ok (Value.tuple #[a, .bool c]) w = .ok (.tuple #[b, .bool c]) w := by rw [h]
theorem MapV.look {w : World} {b n : Nat} {f : Int → Option Value} (h : MapV w b n f) {t e : TypeId} (ht : Try.prog.underlying t = some (.map 2 e)) {z : Value} (hz : (zeroValue e).run Try.prog w = .ok z w) {x : Int} (hx : W64 x) :
    (Instr.lookup t (.map (some b)) (.int .i64 x) false).run Try.prog w = .ok ((f x).getD z) w := by
  obtain ⟨D, ho, hf⟩ := h
  obtain ⟨v, ps, hrun, hv⟩ := World.ownsMap.lookup ho keyed64 ht hz (zd := .held z) (zp := []) rfl (keyOf_int_mk Try.underlying2 hx)
  rw [hrun]
  obtain ⟨h1, h2⟩ := hf x hx
  unfold hR at hv
  simp only [Option.some.injEq, Prod.mk.injEq] at hv
  cases hfx : f x with
  | none =>
    rw [hfx] at h1
    rw [atKey_of_not_has h1] at hv
    exact run_eq _ (held_inj hv.1)
  | some u =>
    rw [h2 u hfx] at hv
    exact run_eq _ (held_inj hv.1)
theorem MapV.look_ok {w : World} {b n : Nat} {f : Int → Option Value} (h : MapV w b n f) {t e : TypeId} (ht : Try.prog.underlying t = some (.map 2 e)) {z : Value} (hz : (zeroValue e).run Try.prog w = .ok z w) {x : Int} (hx : W64 x) :
    (Instr.lookup t (.map (some b)) (.int .i64 x) true).run Try.prog w = .ok (.tuple #[(f x).getD z, .bool (f x).isSome]) w := by
  obtain ⟨D, ho, hf⟩ := h
  obtain ⟨v, ps, hrun, hv⟩ := World.ownsMap.look_ok ho keyed64 ht hz (zd := .held z) (zp := []) rfl (keyOf_int_mk Try.underlying2 hx)
  rw [hrun]
  obtain ⟨h1, h2⟩ := hf x hx
  rw [h1]
  unfold hR at hv
  simp only [Option.some.injEq, Prod.mk.injEq] at hv
  cases hfx : f x with
  | none =>
    rw [hfx] at h1
    rw [atKey_of_not_has h1] at hv
    exact run_eq2 _ _ (held_inj hv.1)
  | some u =>
    rw [h2 u hfx] at hv
    exact run_eq2 _ _ (held_inj hv.1)
def fput (f : Int → Option Value) (x : Int) (v : Value) : Int → Option Value := fun y => if y = x then some v else f y
theorem fput_same (f : Int → Option Value) (x : Int) (v : Value) : fput f x v x = some v := by unfold fput; rw [if_pos rfl]
theorem fput_other (f : Int → Option Value) {x y : Int} (v : Value) (h : y ≠ x) : fput f x v y = f y := by unfold fput; rw [if_neg h]
theorem MapV.put_data {w' : World} {b n : Nat} {f : Int → Option Value} {D : DataW Value} {x : Int} {v : Value} (hm : IsMap D) (hf : ∀ x, W64 x → has D (.int .i64 x) = (f x).isSome ∧ ∀ v, f x = some v → ∀ z, D.atKey (.int .i64 x) z = .held v)
    (ho : w'.ownsMap Try.prog 2 hR b n (D.put (.int .i64 x) (.held v))) : MapV w' b n (fput f x v) := by
  refine ⟨_, ho, fun y hy => ?_⟩
  by_cases hyx : y = x
  · subst hyx
    rw [fput_same]
    exact ⟨has_put_same hm (isKey64 _) _, fun u hu z => by
      injection hu with e
      subst e
      exact atKey_put_same hm (isKey64 _) _ _⟩
  · rw [fput_other _ _ hyx]
    have hne : (Lit.int .i64 y) ≠ .int .i64 x := fun e => hyx (by injection e)
    refine ⟨by rw [has_put_other hne]; exact (hf y hy).1, fun u hu z => ?_⟩
    rw [atKey_put_other hne]
    exact (hf y hy).2 u hu z
theorem wpList_putM {w : World} {ops : Array Oper} {rest : List Oper} {o : Oper} {a : Act} {Q : Exit → Act → World → Prop}
    (hg : o.guard = none) (m k v : Operand) (t e : TypeId) (hop : o.op = Op.mapUpdate t m k v) (ht : Try.prog.underlying t = some (.map 2 e)) (b n : Nat) (f : Int → Option Value)
    (hm : a.eval m = .map (some b)) (h : MapV w b n f) (hn : n < maxLen) (x : Int) (u : Value) (hk : a.eval k = .int .i64 x) (hx : W64 x) (hv : a.eval v = u)
    (hK : ∀ w', MapV w' b (n + 1) (fput f x u) → w.grownBy w' (some b) → wpList Try.prog ops Q rest (a.put o.dst undef) w') :
    wpList Try.prog ops Q (o :: rest) a w := by
  obtain ⟨D, ho, hf⟩ := h
  have hmD : IsMap D := World.ownsMap.isMap ho
  refine wpList_mapUpdate_own _ hg m k v t hop 2 e keyed64 ht hR b n D hm ho hn _ _ _ hk hv (keyOf_int_mk Try.underlying2 hx) (.held u) [] rfl ?_
  intro w' h1 h2
  exact hK w' (MapV.put_data hmD hf h1) h2
theorem MapV.run_put {w : World} {b n : Nat} {f : Int → Option Value} (h : MapV w b n f) {t e : TypeId} (ht : Try.prog.underlying t = some (.map 2 e)) (hn : n < maxLen) {x : Int} (hx : W64 x) (u : Value) :
    ∃ w', (Instr.mapUpdate t (.map (some b)) (.int .i64 x) u).run Try.prog w = .ok () w' ∧ MapV w' b (n + 1) (fput f x u) ∧ w.grownBy w' (some b) := by
  obtain ⟨D, ho, hf⟩ := h
  have hmD : IsMap D := World.ownsMap.isMap ho
  obtain ⟨w', h1, h2, h3⟩ := World.ownsMap.update ho keyed64 ht hn (keyOf_int_mk Try.underlying2 hx) (val := u) (d := .held u) (ps := []) rfl
  exact ⟨w', h1, MapV.put_data hmD hf h2, h3⟩
theorem MapV.lt {w : World} {b n : Nat} {f : Int → Option Value} (h : MapV w b n f) : b < w.heap.size := by
  obtain ⟨D, ho, _⟩ := h; exact World.ownsMap.lt ho
theorem MapV.fr {S : Nat → Prop} {w w' : World} {b n : Nat} {f : Int → Option Value} (h : MapV w b n f) (hf : Fr S w w') (hs : ¬ S b) : MapV w' b n f := by
  obtain ⟨D, ⟨es, cl, hb, rest⟩, hD⟩ := h
  exact ⟨D, ⟨es, cl, (hf.block b (Array.getElem?_eq_some_iff.1 hb).1 hs).trans hb, rest⟩, hD⟩
theorem MapV.fr0 {w w' : World} {b n : Nat} {f : Int → Option Value} (h : MapV w b n f) (hf : Fr No w w') : MapV w' b n f := h.fr hf (fun hn => hn)
theorem MapV.grown {w w' : World} {b n : Nat} {f : Int → Option Value} {row : Option Nat} (h : MapV w b n f) (hg : w.grownBy w' row) (hne : some b ≠ row) : MapV w' b n f := by
  obtain ⟨D, ho, hD⟩ := h
  exact ⟨D, World.ownsMap.kept ho hg hne, hD⟩
theorem MapV.alloc {w : World} {b n : Nat} {f : Int → Option Value} (h : MapV w b n f) (o : Obj) : MapV (w.alloc o) b n f := h.fr0 ((Fr.refl No w).alloc o)
end Go.Proofs.Ytifcnjebepipnaa
namespace Go.Proofs.Ytifcnjebepipnaa
set_option linter.unusedVariables false
set_option linter.unusedSimpArgs false
open Go.RowKit

theorem wf_of {x : Int} (h1 : -9223372036854775808 ≤ x) (h2 : x ≤ 9223372036854775807) : W64 x := by
  unfold W64; simpa [Lit.wf, IntKind.min, IntKind.max, IntKind.signed, IntKind.bits] using And.intro h1 h2
theorem MapV.mono {w : World} {b n m : Nat} {f : Int → Option Value} (h : MapV w b n f) (hm : n ≤ m) : MapV w b m f := by
  obtain ⟨D, ho, hD⟩ := h
  exact ⟨D, World.ownsMap.mono ho hm, hD⟩
theorem T_look {S : Nat → Prop} {ops : Array Oper} {Q : Exit → Act → World → Prop} {ms : List Nat} {ord calls : List Nat} {k : Nat} {o : Oper} {l : List Oper} {a : Act} {w : World} {t e : TypeId} {m kx : Operand} {b n : Nat} {f : Int → Option Value} {z : Value} {x : Int}
    (h : MapV w b n f) (hS : ¬ S b) (ht : Try.prog.underlying t = some (.map 2 e)) (hz : ∀ w, (zeroValue e).run Try.prog w = .ok z w) (hx : W64 x)
    (hc : calls.contains (ord.getD k 0) = false) (hw : Region.wanted o (yielded ops a.tmps) = true) (hQ : ∀ v c a w, Q (.panic c) (a.put o.dst v) w → Q (.panic c) a w)
    (ho : o.op = .lookup t m kx false) (hm : a.eval m = .map (some b)) (hk : a.eval kx = .int .i64 x) {u : Value} (hu : (f x).getD z = u)
    (hk2 : wpT Try.prog S ops Q ms ord calls (k + 1) l (a.put o.dst u) w) (hwt : waitsFor ops (listedBy ops.size (ord.take k)) (ord.getD k 0) ms = true := by first | rfl | kernel_rfl) (hxm : calls.contains (ord.getD k 0 + 1000) = false := by rfl) : wpT Try.prog S ops Q ms ord calls k (o :: l) a w := by
  subst hu
  refine T_take hc hw (hQ _) (fun w' hf => ?_) hk2 hxm
  have hf := hf hwt
  have h1 := (h.fr hf hS).look ht (hz w') hx
  unfold execOp
  simp only [ho, hm, hk, Sem.run_bind, Sem.run_pure, Result.andThen_ok, h1]
theorem wp_putM {w : World} {o : Oper} {a : Act} {K : Act → World → Prop} {Q : Exit → Act → World → Prop} {m k v : Operand} {t e : TypeId} (hop : o.op = Op.mapUpdate t m k v) (ht : Try.prog.underlying t = some (.map 2 e)) {b n : Nat} {f : Int → Option Value}
    (h : MapV w b n f) (hm : a.eval m = .map (some b)) (hn : n < maxLen) {x : Int} {u : Value} (hk : a.eval k = .int .i64 x) (hx : W64 x) (hv : a.eval v = u)
    (hK : ∀ w', MapV w' b (n + 1) (fput f x u) → w.grownBy w' (some b) → K (a.put o.dst undef) w') : o.wp Try.prog a w K Q := by
  obtain ⟨w', hrun, h1, h2⟩ := h.run_put ht hn hx u
  unfold Oper.wp execOp
  simp only [hop, hm, hk, hv, Sem.run_bind, hrun, Sem.run_pure, Result.andThen_ok]
  exact hK w' h1 h2
end Go.Proofs.Ytifcnjebepipnaa
namespace Go.Proofs.Ytifcnjebepipnaa
set_option linter.unusedVariables false
set_option linter.unusedSimpArgs false
open Go.RowKit Go.Maps Go.MapKept Go.WideElems Go.ChangeMaps

theorem modify_set {α : Type} (es : Array α) (j : Nat) (f : α → α) (e : α) (h : es.toList[j]? = some e) : (es.modify j f).toList = es.toList.set j (f e) := by
  rw [Array.toList_modify]
  apply List.ext_getElem?
  intro i
  rw [List.getElem?_modify, List.getElem?_set]
  by_cases hij : j = i
  · subst hij
    have hl : j < es.toList.length := (List.getElem?_eq_some_iff.1 h).1
    have hl2 : j < es.size := by simpa using hl
    have : es[j]? = some e := by simpa using h
    have he : es[j] = e := by rw [Array.getElem?_eq_getElem hl2] at this; exact Option.some.inj this
    simp [hl2, he]
  · simp [hij]
section
variable {H : Type} {P : Program} {k : TypeId} {R : Value → Option (DataW H × List MemPlace)} {w : World} {b r n : Nat} {D : DataW H} {left : Lit → Bool} {cnt : Nat}
/-- 'm[k] = v' in the round, at a key that is there. -/
theorem ranges_store {t e : TypeId} (h : w.ranges P k R b r n D left cnt) (K : Keyed P k) (ht : P.underlying t = some (.map k e)) (hn : n < maxLen) {key val : Value} {kl : Lit} {d : DataW H} {ps : List MemPlace}
    (hkey : keyOf P k key = some kl) (hv : R val = some (d, ps)) (hthere : Maps.has D kl = true) :
    ∃ w', (Instr.mapUpdate t (.map (some b)) key val).run P w = .ok () w' ∧ w'.ranges P k R b r n (D.put kl d) left cnt ∧ w.grownBy w' (some b) := by
  have hne := h.ne
  obtain ⟨es, clock, since, seen, c0, hb, F, hs, rfl, hr, hold, rfl, hl1, hl2, hsc, hsk⟩ := h
  obtain ⟨es', clock', hrun, F', hput, _⟩ := Maps.fit_store (R' := R) K ht hb F (Nat.lt_of_le_of_lt hs hn) (fun _ _ _ _ hz => hz) hkey hv
  rcases K.find w hkey es.toList F.keys with ⟨h1, h2⟩ | ⟨j, e0, h1, h2, h3⟩
  · exfalso
    obtain ⟨p, hp, hpk⟩ := List.any_eq_true.1 hthere
    obtain ⟨x, hx, rfl⟩ := List.mem_map.1 (mem_sorted.1 hp)
    obtain ⟨y, hy⟩ := F.reads x hx
    have e1 := WideAt.sameKey_eq hpk
    rw [rg_of hy] at e1
    exact h2 x hx (K.inj (e1 ▸ rd_key hy) hkey)
  · have hj : es[j]? = some e0 := by simpa using h2
    have hjl : j < es.toList.length := (List.getElem?_eq_some_iff.1 h2).1
    have hrun2 : (Instr.mapUpdate t (.map (some b)) key val).run P w = .ok () (setBlock w b (.map (es.modify j (fun e' => { e' with key := key, val := val })) clock)) := by
      simp [Instr.mapUpdate, run_underlying ht, MapKept.run_getObj_map hb, K.check w false hkey, h1, hj, h3, K.stays w hkey, MapKept.run_setObj_map _ hb, Result.andThen, setBlock]
    rw [hrun] at hrun2
    injection hrun2 with _ hw
    have e1 := heap_setBlock_same hb (.map es' clock')
    rw [hw, heap_setBlock_same hb] at e1
    injection e1 with e1
    injection e1 with e1 e2
    subst e1 e2
    have hlist := modify_set es j (fun e' => ({ e' with key := key, val := val } : MapEntry)) e0 h2
    have hrg0 : (rg P k R e0).1 = kl := by
      obtain ⟨y, hy⟩ := F.reads e0 (List.mem_of_getElem? h2)
      have := rd_key hy
      rw [h3, hkey] at this
      rw [rg_of hy]; exact (Option.some.inj this).symm
    have hrgn : (rg P k R ({ e0 with key := key, val := val } : MapEntry)).1 = kl := by rw [rg_of (rd_mk hkey hv)]
    have who : ∀ x ∈ (es.modify j (fun e' => ({ e' with key := key, val := val } : MapEntry))).toList, x = { e0 with key := key, val := val } ∨ x ∈ es.toList := by
      intro x hx
      rw [hlist] at hx
      rcases List.mem_or_eq_of_mem_set hx with h | h
      · exact .inr h
      · exact .inl h
    refine ⟨_, hrun, ⟨_, _, since, seen, c0, heap_setBlock_same hb _, F', ?_, ?_, (heap_setBlock_other hb _ hne).trans hr, ?_, ?_, ?_, ?_, hsc, hsk⟩, ⟨rfl, rfl, rfl, by simp [setBlock], fun i _ hi => heap_setBlock_other hb _ (fun e => hi (by rw [e]))⟩⟩
    · simpa using hs
    · rw [DataW.put_eq, hput]
    · intro x hx
      rcases who x hx with rfl | hx
      · exact hold e0 (List.mem_of_getElem? h2)
      · exact hold x hx
    · have e3 : ∀ a : Array MapEntry, (leftOf a seen).size = ((a.toList.map MapEntry.born).filter fun i => !seen.contains i).length := fun a => by
        unfold leftOf
        rw [List.filter_map, List.length_map, ← Array.length_toList, Array.toList_filter]
        rfl
      rw [e3, e3, hlist, List.map_set]
      have e4 : (es.toList.map MapEntry.born).set j e0.born = es.toList.map MapEntry.born := by
        apply List.ext_getElem?
        intro i
        rw [List.getElem?_set]
        split
        · rename_i hij
          subst hij
          split
          · simp [hj]
          · rename_i hh; simp at hh; simp at hjl; omega
        · rfl
      show (((es.toList.map MapEntry.born).set j e0.born).filter _).length = _
      rw [e4]
    · intro x hx
      rcases who x hx with rfl | hx
      · have := hl1 e0 (List.mem_of_getElem? h2)
        rw [hrgn]; rw [hrg0] at this; exact this
      · exact hl1 x hx
    · intro kl' hkl'
      obtain ⟨x, hx, rfl⟩ := hl2 kl' hkl'
      obtain ⟨i, hi, ex⟩ := List.getElem_of_mem hx
      by_cases hij : j = i
      · subst hij
        have : x = e0 := by
          rw [List.getElem?_eq_getElem hi, ex] at h2
          exact Option.some.inj h2
        subst this
        exact ⟨_, by rw [hlist]; exact List.mem_set hjl _, by rw [hrgn, hrg0]⟩
      · refine ⟨x, ?_, rfl⟩
        rw [hlist]
        exact List.mem_of_getElem? (i := i) (by rw [List.getElem?_set_ne hij, List.getElem?_eq_getElem hi, ex])
end
/-- A range under way over block b; left: the keys that are still to come, cnt: how many. -/
def RangeV (w : World) (b r n : Nat) (f : Int → Option Value) (left : Int → Bool) (cnt : Nat) : Prop :=
  ∃ (D : DataW Value) (lf : Lit → Bool), w.ranges Try.prog 2 hR b r n D lf cnt ∧ (∀ x, W64 x → has D (.int .i64 x) = (f x).isSome ∧ ∀ v, f x = some v → ∀ z, D.atKey (.int .i64 x) z = .held v) ∧ ∀ x, W64 x → lf (.int .i64 x) = left x
theorem RangeV.map {w : World} {b r n : Nat} {f : Int → Option Value} {left : Int → Bool} {cnt : Nat} (h : RangeV w b r n f left cnt) : MapV w b n f := by
  obtain ⟨D, lf, h1, h2, _⟩ := h
  exact ⟨D, h1.owns, h2⟩
theorem RangeV.lt {w : World} {b r n : Nat} {f : Int → Option Value} {left : Int → Bool} {cnt : Nat} (h : RangeV w b r n f left cnt) : r < w.heap.size ∧ b < w.heap.size ∧ r ≠ b := by
  have hm := h.map.lt
  obtain ⟨D, lf, h1, _⟩ := h
  exact ⟨h1.lt, hm, h1.ne⟩
theorem RangeV.fr {S : Nat → Prop} {w w' : World} {b r n : Nat} {f : Int → Option Value} {left : Int → Bool} {cnt : Nat} (h : RangeV w b r n f left cnt) (hf : Fr S w w') (h1 : ¬ S b) (h2 : ¬ S r) : RangeV w' b r n f left cnt := by
  have hl := h.lt
  obtain ⟨D, lf, ⟨es, clock, since, seen, c0, hb, F, hs, hD, hr, rest⟩, h3⟩ := h
  exact ⟨D, lf, ⟨es, clock, since, seen, c0, (hf.block b hl.2.1 h1).trans hb, F, hs, hD, (hf.block r hl.1 h2).trans hr, rest⟩, h3⟩
theorem RangeV.fr0 {w w' : World} {b r n : Nat} {f : Int → Option Value} {left : Int → Bool} {cnt : Nat} (h : RangeV w b r n f left cnt) (hf : Fr No w w') : RangeV w' b r n f left cnt := h.fr hf (fun hn => hn) (fun hn => hn)
theorem RangeV.left_eq {w : World} {b r n : Nat} {f : Int → Option Value} {left : Int → Bool} {cnt : Nat} (h : RangeV w b r n f left cnt) : w.rangeLeft b r = cnt := by
  obtain ⟨D, lf, h1, _⟩ := h
  exact h1.left_eq
theorem int_same {x y : Int} : (Lit.int .i64 y).sameKey (.int .i64 x) = decide (y = x) := by
  unfold Lit.sameKey
  by_cases h : y = x
  · subst h; simp
  · simp [h]
theorem wpList_rangeV {w : World} {ops : Array Oper} {rest : List Oper} {o : Oper} {a : Act} {Q : Exit → Act → World → Prop} (hg : o.guard = none) (m : Operand) (t e : TypeId) (hop : o.op = Op.range t m) (ht : Try.prog.underlying t = some (.map 2 e)) (b n : Nat) (f : Int → Option Value)
    (hm : a.eval m = .map (some b)) (h : MapV w b n f)
    (hK : ∀ w' cnt, RangeV w' b w.heap.size n f (fun x => (f x).isSome) cnt → Fr No w w' → wpList Try.prog ops Q rest (a.put o.dst (.pointer (some ⟨w.heap.size, 0, none⟩))) w') :
    wpList Try.prog ops Q (o :: rest) a w := by
  obtain ⟨D, ho, hf⟩ := h
  refine wpList_range_own w hg m t hop 2 e keyed64 ht hR b n D hm ho ?_
  intro w' h1 h2 h3
  exact hK w' _ ⟨D, _, h1, hf, fun x hx => (hf x hx).1⟩ ((Fr.refl No w).grown h2 (fun q hq => by cases hq))
theorem wpList_nextV {w : World} {ops : Array Oper} {rest : List Oper} {o : Oper} {a : Act} {Q : Exit → Act → World → Prop} (hg : o.guard = none) (it : Operand) (hop : o.op = Op.next it false) (b r n : Nat) (f : Int → Option Value) (left : Int → Bool) (cnt : Nat)
    (hit : a.eval it = .pointer (some ⟨r, 0, none⟩)) (h : RangeV w b r n f left cnt)
    (hDone : (∀ x, W64 x → left x = false) → wpList Try.prog ops Q rest (a.put o.dst (.tuple #[.bool false])) w)
    (hMore : ∀ (x : Int) (v : Value) (w' : World) (cnt' : Nat), W64 x → left x = true → f x = some v → RangeV w' b r n f (fun y => left y && !decide (y = x)) cnt' → cnt' < cnt → Fr (fun q => q = r) w w' → w'.heap.size = w.heap.size →
      (Instr.entry (.pointer (some ⟨r, 0, none⟩))).run Try.prog w' = .ok (.tuple #[.int .i64 x, v]) w' → wpList Try.prog ops Q rest (a.put o.dst (.tuple #[.bool true, .int .i64 x, v])) w') :
    wpList Try.prog ops Q (o :: rest) a w := by
  obtain ⟨D, lf, h1, h2, h3⟩ := h
  refine wpList_next_ranges w hg it hop 2 keyed64 hR (Value.int .i64) id (fun key kl hkey => by obtain ⟨x, rfl, _⟩ := Maps.keyOf_int_inv Try.underlying2 hkey; exact ⟨x, rfl⟩) (fun v y _ => ⟨v, rfl⟩) b r n D lf cnt hit h1 ?_ ?_
  · intro _ hl
    exact hDone (fun x hx => by rw [← h3 x hx]; exact hl _)
  · intro x v kl y w' cnt' hkey hlk hv hat hrg hlt hgr hsz hen
    obtain ⟨x', ex, rfl, hwx⟩ := Maps.keyOf_int_inv Try.underlying2 hkey
    cases ex
    unfold hR at hv
    simp only [id, Option.some.injEq] at hv
    subst hv
    simp only at hat
    have hlx : left x = true := by rw [← h3 x hwx]; exact hlk
    have hhas : has D (.int .i64 x) = true := has_true_of_atKey hat
    obtain ⟨a1, a2⟩ := h2 x hwx
    rw [hhas] at a1
    cases hfx : f x with
    | none => rw [hfx] at a1; cases a1
    | some u =>
      have e1 := a2 u hfx (.held u)
      rw [hat] at e1
      have e2 := held_inj e1
      subst e2
      exact hMore x v w' cnt' hwx hlx hfx ⟨D, _, hrg, h2, fun y hy => by show (_ && _) = (_ && _); rw [← h3 y hy, int_same]⟩ hlt ((Fr.refl _ w).grown hgr (fun q hq => by injection hq with hq; exact .inr hq.symm)) hsz hen
set_option maxRecDepth 100000 in
theorem RangeV.store {w : World} {b r n : Nat} {f : Int → Option Value} {left : Int → Bool} {cnt : Nat} (h : RangeV w b r n f left cnt) {t e : TypeId} (ht : Try.prog.underlying t = some (.map 2 e)) (hn : n < maxLen) {x : Int} (hx : W64 x) {u0 : Value} (hf0 : f x = some u0) (u : Value) :
    ∃ w', (Instr.mapUpdate t (.map (some b)) (.int .i64 x) u).run Try.prog w = .ok () w' ∧ RangeV w' b r n (fput f x u) left cnt ∧ w.grownBy w' (some b) := by
  obtain ⟨D, lf, h1, h2, h3⟩ := h
  obtain ⟨w', r1, r2, r3⟩ := ranges_store h1 keyed64 ht hn (keyOf_int_mk Try.underlying2 hx) (val := u) (d := .held u) (ps := []) rfl (by rw [(h2 x hx).1, hf0]; rfl)
  obtain ⟨D', ho', hf'⟩ := MapV.put_data h1.owns.isMap h2 r2.owns
  have hD : D' = D.put (.int .i64 x) (.held u) := by
    obtain ⟨es1, c1, b1, F1, s1, d1⟩ := ho'
    obtain ⟨es2, c2, b2, F2, s2, d2⟩ := r2.owns
    rw [b1] at b2
    injection b2 with b2
    injection b2 with b2 b3
    subst b2
    rw [d1, d2]
  subst hD
  exact ⟨w', r1, ⟨_, lf, r2, hf', h3⟩, r3⟩
theorem wp_storeV {w : World} {o : Oper} {a : Act} {K : Act → World → Prop} {Q : Exit → Act → World → Prop} {m k v : Operand} {t e : TypeId} (hop : o.op = Op.mapUpdate t m k v) (ht : Try.prog.underlying t = some (.map 2 e)) {b r n : Nat} {f : Int → Option Value} {left : Int → Bool} {cnt : Nat}
    (h : RangeV w b r n f left cnt) (hm : a.eval m = .map (some b)) (hn : n < maxLen) {x : Int} {u0 u : Value} (hk : a.eval k = .int .i64 x) (hx : W64 x) (hf0 : f x = some u0) (hv : a.eval v = u)
    (hK : ∀ w', RangeV w' b r n (fput f x u) left cnt → w.grownBy w' (some b) → K (a.put o.dst undef) w') : o.wp Try.prog a w K Q := by
  obtain ⟨w', hrun, h1, h2⟩ := h.store ht hn hx hf0 u
  unfold Oper.wp execOp
  simp only [hop, hm, hk, hv, Sem.run_bind, hrun, Sem.run_pure, Result.andThen_ok]
  exact hK w' h1 h2
def fdel (f : Int → Option Value) (x : Int) : Int → Option Value := fun y => if y = x then none else f y
theorem wpList_deleteV {w : World} {ops : Array Oper} {rest : List Oper} {o : Oper} {a : Act} {Q : Exit → Act → World → Prop} (hg : o.guard = none) (m k : Operand) (t e : TypeId) (hop : o.op = Op.call { callee := Callee.builtin Builtin.delete, args := #[m, k], argTypes := #[t, 2] }) (ht : Try.prog.underlying t = some (.map 2 e)) (b r n : Nat) (f : Int → Option Value) (left : Int → Bool) (cnt : Nat)
    (hm : a.eval m = .map (some b)) (h : RangeV w b r n f left cnt) {x : Int} (hk : a.eval k = .int .i64 x) (hx : W64 x) (hl : left x = false)
    (hK : ∀ w' cnt', RangeV w' b r n (fdel f x) left cnt' → cnt' ≤ cnt → Fr (fun q => q = b) w w' → wpList Try.prog ops Q rest (a.put o.dst (.tuple #[])) w') :
    wpList Try.prog ops Q (o :: rest) a w := by
  obtain ⟨D, lf, h1, h2, h3⟩ := h
  refine wpList_delete_ranges w hg m k t 2 hop e keyed64 ht hR b r n D lf cnt hm h1 _ _ hk (keyOf_int_mk Try.underlying2 hx) ?_
  intro w' cnt' r1 r2 r3
  refine hK w' cnt' ⟨_, _, r1, fun y hy => ?_, fun y hy => ?_⟩ r2 ((Fr.refl _ w).grown r3.grown (fun q hq => by injection hq with hq; exact .inr hq.symm))
  · by_cases hyx : y = x
    · subst hyx
      unfold fdel; rw [if_pos rfl]
      exact ⟨has_del_same, fun v hv => by cases hv⟩
    · unfold fdel; rw [if_neg hyx]
      have hne : (Lit.int .i64 y) ≠ .int .i64 x := fun e => hyx (by injection e)
      refine ⟨by rw [has_del_other hne]; exact (h2 y hy).1, fun v hv z => ?_⟩
      rw [atKey_del_other hne]
      exact (h2 y hy).2 v hv z
  · rw [int_same, h3 y hy]
    by_cases hyx : y = x
    · subst hyx; simp [hl]
    · simp [hyx]
end Go.Proofs.Ytifcnjebepipnaa
