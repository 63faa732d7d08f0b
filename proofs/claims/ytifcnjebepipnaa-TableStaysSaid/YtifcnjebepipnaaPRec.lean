/- Records as bytes, plainly; no program in it. No condition. -/
import Derived.Test.YtifcnjebepipnaaPVal
namespace Go.Proofs.Ytifcnjebepipnaa
set_option linter.unusedVariables false
set_option linter.unusedSimpArgs false
open Go.RowKit

structure ChM where
  oop : Int
  gone : Bool
  obj : ObjM
deriving DecidableEq
structure RecM where
  commit : Int
  chs : List ChM
deriving DecidableEq
def noObj : ObjM := ⟨0, [], []⟩
def rightC (c : ChM) : Bool := if c.gone then decide (c.obj = noObj) else rightO c.obj
def chsRight : Int → List ChM → Bool
  | _, [] => true
  | last, c :: r => decide (last < c.oop) && (oopB c.oop && (rightC c && chsRight c.oop r))
def rightR (r : RecM) : Bool := decide (1 ≤ r.commit) && (decide (r.commit ≤ 1099511627776) && (decide (r.chs.length ≤ 4096) && chsRight 0 r.chs))
def chB (c : ChM) : List UInt8 := uintL c.oop.toNat ++ (if c.gone then [1] else 0 :: objB c.obj)
def chsB (l : List ChM) : List UInt8 := l.flatMap chB
theorem chsB_cons (c : ChM) (l : List ChM) : chsB (c :: l) = chB c ++ chsB l := rfl
theorem chsB_append (a b : List ChM) : chsB (a ++ b) = chsB a ++ chsB b := by simp [chsB]
def recB (r : RecM) : List UInt8 := uintL r.commit.toNat ++ uintL r.chs.length ++ chsB r.chs
def chO (s : St) : ChM × St :=
  if (oneO 1 (numO 4096 s).2).1 = 1 then (⟨(numO 4096 s).1, true, noObj⟩, (oneO 1 (numO 4096 s).2).2)
  else (⟨(numO 4096 s).1, false, (objO (oneO 1 (numO 4096 s).2).2).1⟩, (objO (oneO 1 (numO 4096 s).2).2).2)
def chsO : Nat → St → List ChM × St
  | 0, s => ([], s)
  | n + 1, s => match (chO s).2 with
    | none => ([], none)
    | some l => ((chO s).1 :: (chsO n (some l)).1, (chsO n (some l)).2)
theorem chsO_stop {n : Nat} {l : List UInt8} (h : (chO (some l)).2 = none) : chsO (n + 1) (some l) = ([], none) := by rw [chsO, h]
theorem chsO_go {n : Nat} {l r : List UInt8} (h : (chO (some l)).2 = some r) : chsO (n + 1) (some l) = ((chO (some l)).1 :: (chsO n (some r)).1, (chsO n (some r)).2) := by rw [chsO, h]
theorem chO_none : (chO none).2 = none := rfl
theorem chsO_none (n : Nat) : (chsO n none).2 = none := by
  cases n with
  | zero => rfl
  | succ n => rfl
/-- A record that bytes are; none: they are none. -/
def recO (s : St) : RecM × St :=
  (⟨(numO 1099511627776 s).1, (chsO (numO 4096 (numO 1099511627776 s).2).1 (numO 4096 (numO 1099511627776 s).2).2).1⟩, (chsO (numO 4096 (numO 1099511627776 s).2).1 (numO 4096 (numO 1099511627776 s).2).2).2)
def getR (l : List UInt8) : Option RecM := match (recO (some l)).2 with
  | some [] => if rightR (recO (some l)).1 then some (recO (some l)).1 else none
  | _ => none
theorem chO_put (c : ChM) (r : List UInt8) (h1 : oopB c.oop = true) (h2 : rightC c = true) : chO (some (chB c ++ r)) = (c, some r) := by
  obtain ⟨oop, gone, obj⟩ := c
  simp only [oopB, Bool.and_eq_true, decide_eq_true_eq] at h1
  unfold rightC at h2
  simp only at h2
  have e1 : numO 4096 (some (chB ⟨oop, gone, obj⟩ ++ r)) = (oop.toNat, some ((if gone then [1] else 0 :: objB obj) ++ r)) := by
    unfold chB
    simp only
    rw [List.append_assoc]
    exact numO_put _ _ _ (by omega) (by omega)
  unfold chO
  rw [e1]
  simp only
  cases gone with
  | true =>
    simp only [if_true] at h2 ⊢
    have h3 : obj = noObj := by simpa using h2
    subst h3
    rw [List.singleton_append, oneO_put 1 1 r (by decide)]
    simp only
    rw [if_pos (by decide), Int.toNat_of_nonneg (by omega)]
  | false =>
    simp only [Bool.false_eq_true, if_false] at h2 ⊢
    rw [List.cons_append, oneO_put 1 0 _ (by decide)]
    simp only
    rw [if_neg (by decide), objO_put obj r h2, Int.toNat_of_nonneg (by omega)]
theorem chO_get (l r : List UInt8) (c : ChM) (h : chO (some l) = (c, some r)) : l = chB c ++ r := by
  unfold chO at h
  rcases q1 : numO 4096 (some l) with ⟨a, s1⟩
  rw [q1] at h
  simp only at h
  rcases q2 : oneO 1 s1 with ⟨b, s2⟩
  rw [q2] at h
  simp only at h
  have k1 : ∀ l1, s1 = some l1 → l = uintL a ++ l1 := fun l1 e => (numO_get _ _ _ _ (by rw [q1, e])).1
  have k2 : ∀ l1 l2, s1 = some l1 → s2 = some l2 → l1 = UInt8.ofNat b :: l2 ∧ b ≤ 1 := fun l1 l2 e1 e2 => oneO_get 1 b l1 l2 (by rw [← e1, q2, e2])
  split at h
  · rename_i hb
    injection h with h1 h2
    subst h1 h2
    cases s1 with
    | none => unfold oneO at q2; injection q2 with _ q2; cases q2
    | some l1 =>
      rw [k1 l1 rfl, (k2 l1 r rfl rfl).1, hb]
      simp [chB]
  · rename_i hb
    injection h with h1 h2
    cases s2 with
    | none => unfold objO at h2; cases h2
    | some l2 =>
      cases s1 with
      | none => unfold oneO at q2; injection q2 with _ q2; cases q2
      | some l1 =>
        obtain ⟨e2, hb1⟩ := k2 l1 l2 rfl rfl
        have hb0 : b = 0 := by omega
        subst hb0
        have e3 := (objO_get l2 r (objO (some l2)).1 (by rw [← h2])).2
        subst h1
        rw [k1 l1 rfl, e2]
        unfold chB
        simp only [Int.toNat_natCast, Bool.false_eq_true, if_false]
        rw [List.append_assoc, List.cons_append, ← e3]
        rfl
theorem chsO_put : ∀ (l : List ChM) (last : Int) (r : List UInt8), chsRight last l = true → chsO l.length (some (chsB l ++ r)) = (l, some r)
  | [], _, r, _ => rfl
  | c :: l, last, r, h => by
    simp only [chsRight, Bool.and_eq_true] at h
    have h1 := chO_put c (chsB l ++ r) h.2.1 h.2.2.1
    rw [← List.append_assoc] at h1
    rw [List.length_cons, chsB_cons, chsO, h1]
    simp only
    rw [chsO_put l c.oop r h.2.2.2]
theorem chsO_get : ∀ (n : Nat) (l r : List UInt8) (cs : List ChM), chsO n (some l) = (cs, some r) → cs.length = n ∧ l = chsB cs ++ r
  | 0, l, r, cs, h => by
    unfold chsO at h
    injection h with h1 h2
    injection h2 with h2
    subst h1 h2
    exact ⟨rfl, rfl⟩
  | n + 1, l, r, cs, h => by
    unfold chsO at h
    rcases hq : chO (some l) with ⟨v, s⟩
    rw [hq] at h
    cases s with
    | none => simp only at h; injection h with h1 h2; cases h2
    | some l' =>
      simp only at h
      injection h with h1 h2
      have e1 := chO_get l l' v hq
      obtain ⟨h3, h4⟩ := chsO_get n l' r (chsO n (some l')).1 (by rw [← h2])
      subst h1
      exact ⟨by rw [List.length_cons, h3], by rw [chsB_cons, List.append_assoc, ← h4, e1]⟩
theorem rightR_parts {r : RecM} (h : rightR r = true) : 1 ≤ r.commit ∧ r.commit ≤ 1099511627776 ∧ r.chs.length ≤ 4096 ∧ chsRight 0 r.chs = true := by
  unfold rightR at h
  simp only [Bool.and_eq_true, decide_eq_true_eq] at h
  exact ⟨h.1, h.2.1, h.2.2.1, h.2.2.2⟩
theorem getR_put (r : RecM) (h : rightR r = true) : getR (recB r) = some r := by
  obtain ⟨h1, h2, h3, h4⟩ := rightR_parts h
  have e1 : numO 1099511627776 (some (recB r)) = (r.commit.toNat, some (uintL r.chs.length ++ chsB r.chs)) := by
    unfold recB; rw [List.append_assoc]; exact numO_put _ _ _ (by omega) (by omega)
  have e2 : numO 4096 (some (uintL r.chs.length ++ chsB r.chs)) = (r.chs.length, some (chsB r.chs)) := numO_put _ _ _ h3 (by omega)
  have e3 := chsO_put r.chs 0 [] h4
  rw [List.append_nil] at e3
  have e : recO (some (recB r)) = (r, some []) := by
    unfold recO
    rw [e1]
    simp only
    rw [e2]
    simp only
    rw [e3]
    simp only [Int.toNat_of_nonneg (show 0 ≤ r.commit by omega)]
  unfold getR
  rw [e]
  simp only
  rw [if_pos h]
theorem getR_get (l : List UInt8) (r : RecM) (h : getR l = some r) : rightR r = true ∧ recB r = l := by
  unfold getR at h
  rcases q : recO (some l) with ⟨x, s⟩
  rw [q] at h
  match s, q, h with
  | some [], q, h =>
    simp only at h
    split at h
    · rename_i hr
      injection h with h
      subst h
      refine ⟨hr, ?_⟩
      unfold recO at q
      rcases q1 : numO 1099511627776 (some l) with ⟨a, s1⟩
      rw [q1] at q
      simp only at q
      rcases q2 : numO 4096 s1 with ⟨b, s2⟩
      rw [q2] at q
      simp only at q
      injection q with e1 e2
      cases s2 with
      | none => rw [chsO_none] at e2; cases e2
      | some l2 =>
        cases s1 with
        | none => unfold numO at q2; injection q2 with _ q2; cases q2
        | some l1 =>
          have k1 := (numO_get _ _ _ _ q1).1
          have k2 := (numO_get _ _ _ _ q2).1
          obtain ⟨k3, k4⟩ := chsO_get b l2 [] (chsO b (some l2)).1 (by rw [← e2])
          rw [List.append_nil] at k4
          subst e1
          unfold recB
          simp only [Int.toNat_natCast]
          rw [k3, ← k4, List.append_assoc, ← k2, ← k1]
    · cases h
/-- A record as bytes, or none and an error. -/
def putR (r : RecM) : List UInt8 × Int := if rightR r = true then (if 60000 < (recB r).length then ([], 3) else (recB r, 0)) else ([], 1)
theorem putR_no {r : RecM} (h : rightR r = false) : putR r = ([], 1) := by unfold putR; rw [if_neg (by rw [h]; decide)]
theorem putR_big {r : RecM} (h : rightR r = true) (h2 : 60000 < (recB r).length) : putR r = ([], 3) := by unfold putR; rw [if_pos h, if_pos h2]
theorem putR_ok {r : RecM} (h : rightR r = true) (h2 : ¬ 60000 < (recB r).length) : putR r = (recB r, 0) := by unfold putR; rw [if_pos h, if_neg h2]
theorem chsRight_oops : ∀ (l : List ChM) (last : Int), chsRight last l = true → ∀ c ∈ l, oopB c.oop = true ∧ rightC c = true
  | [], _, _, c, hc => by cases hc
  | d :: l, last, h, c, hc => by
    simp only [chsRight, Bool.and_eq_true] at h
    rcases List.mem_cons.1 hc with rfl | hc
    · exact ⟨h.2.1, h.2.2.1⟩
    · exact chsRight_oops l d.oop h.2.2.2 c hc
end Go.Proofs.Ytifcnjebepipnaa
