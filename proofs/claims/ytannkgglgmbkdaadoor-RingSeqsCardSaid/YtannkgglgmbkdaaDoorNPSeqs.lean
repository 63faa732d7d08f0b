/- ring: records that were placed one behind the other are told by Open; plain. No condition. -/
import Derived.Test.YtannkgglgmbkdaaDoorNForm
namespace Go.Proofs.YtannkgglgmbkdaaDoor
set_option linter.unusedVariables false
set_option linter.unusedSimpArgs false
open Go.RowKit

def placed : Int → List (Int × List UInt8) → List Sec
  | _, [] => []
  | seq, p :: ps => recB p.1 seq p.2 ++ placed (seq + 1) ps
theorem placed_snoc : ∀ (ps : List (Int × List UInt8)) (seq : Int) (p : Int × List UInt8), placed seq (ps ++ [p]) = placed seq ps ++ recB p.1 (seq + ps.length) p.2
  | [], seq, p => by simp [placed]
  | q :: ps, seq, p => by
    show recB q.1 seq q.2 ++ placed (seq + 1) (ps ++ [p]) = recB q.1 seq q.2 ++ placed (seq + 1) ps ++ _
    rw [placed_snoc ps, List.append_assoc, List.length_cons, show seq + 1 + (ps.length : Int) = seq + ((ps.length + 1 : Nat) : Int) by omega]
/-- Lifes that rise, from one on up to one. -/
def Rising (top : Int) : Int → List (Int × List UInt8) → Prop
  | _, [] => True
  | was, p :: ps => was ≤ p.1 ∧ p.1 ≤ top ∧ (1 ≤ p.2.length ∧ p.2.length ≤ 60000) ∧ Rising top p.1 ps
theorem Rising.mono {top top' : Int} (h : top ≤ top') : ∀ {ps : List (Int × List UInt8)} {was : Int}, Rising top was ps → Rising top' was ps
  | [], _, _ => True.intro
  | p :: ps, was, hr => ⟨hr.1, by have := hr.2.1; omega, hr.2.2.1, hr.2.2.2.mono h⟩
theorem Rising.snoc {top : Int} {r : List UInt8} (hr1 : 1 ≤ r.length ∧ r.length ≤ 60000) : ∀ {ps : List (Int × List UInt8)} {was : Int}, was ≤ top → Rising top was ps → Rising top was (ps ++ [(top, r)])
  | [], was, hw, _ => ⟨hw, Int.le_refl _, hr1, True.intro⟩
  | p :: ps, was, hw, h => ⟨h.1, h.2.1, h.2.2.1, h.2.2.2.snoc hr1 h.2.1⟩
theorem go_placed (top : Int) (ht : top < 281474976710656) : ∀ (ps : List (Int × List UInt8)) (f : Nat) (was seq : Int) (at_ : Nat) (recs : List (List UInt8)) (m : Nat), 0 ≤ was → Rising top was ps → ps.length < f →
    openGo top f was seq at_ recs (placed seq ps ++ List.replicate m zsec) = (recs ++ ps.map (·.2), seq + ps.length, at_ + (placed seq ps).length)
  | [], f, was, seq, at_, recs, m, _, _, hf => by
    obtain ⟨f, rfl⟩ : ∃ g, f = g + 1 := ⟨f - 1, by simp at hf; omega⟩
    show openGo top (f + 1) was seq at_ recs (List.replicate m zsec) = _
    rw [go_zeros]
    simp [placed]
  | p :: ps, f, was, seq, at_, recs, m, hw, hr, hf => by
    obtain ⟨f, rfl⟩ : ∃ g, f = g + 1 := ⟨f - 1, by simp at hf; omega⟩
    obtain ⟨h1, h2, h3, h4⟩ := hr
    have hg := recGo_recB p.1 seq p.2 (placed (seq + 1) ps ++ List.replicate m zsec) ⟨by omega, by omega⟩ h3.1 h3.2
    have he : placed seq (p :: ps) ++ List.replicate m zsec = recB p.1 seq p.2 ++ (placed (seq + 1) ps ++ List.replicate m zsec) := by rw [placed, List.append_assoc]
    rw [he, openGo_on hg (by omega)]
    have hd : (recB p.1 seq p.2 ++ (placed (seq + 1) ps ++ List.replicate m zsec)).drop (recN p.2.length) = placed (seq + 1) ps ++ List.replicate m zsec := by
      have := recB_len p.1 seq p.2
      rw [← this, List.drop_left]
    rw [hd, go_placed top ht ps f _ _ _ _ m (by omega) h4 (by simp at hf; omega)]
    have hpl : (placed seq (p :: ps)).length = recN p.2.length + (placed (seq + 1) ps).length := by rw [placed, List.length_append, recB_len]
    rw [hpl, List.map_cons, List.append_assoc, List.length_cons]
    refine Prod.ext rfl (Prod.ext ?_ ?_)
    · show seq + 1 + (ps.length : Int) = seq + ((ps.length + 1 : Nat) : Int); omega
    · show at_ + recN p.2.length + (placed (seq + 1) ps).length = at_ + (recN p.2.length + (placed (seq + 1) ps).length); omega
theorem putN_pre : ∀ (ss : List Sec) (a b c : List Sec), b.length = ss.length → putN (a ++ b ++ c) a.length ss = a ++ ss ++ c
  | [], a, b, c, h => by
    obtain rfl := List.eq_nil_of_length_eq_zero h
    rfl
  | s :: ss, a, b, c, h => by
    obtain ⟨x, b, rfl⟩ : ∃ x b', b = x :: b' := by
      cases b with
      | nil => simp at h
      | cons x b => exact ⟨x, b, rfl⟩
    have e1 : (a ++ x :: b ++ c).set a.length s = (a ++ [s]) ++ b ++ c := by
      rw [List.append_assoc, List.set_append_right _ _ (Nat.le_refl _), Nat.sub_self]
      simp
    rw [putN, e1, show a.length + 1 = (a ++ [s]).length by simp, putN_pre ss (a ++ [s]) b c (by simpa using h)]
    simp
/-- The heads of a device whose log is at a life. -/
def heads (n : Nat) : Sec × Sec := if n % 2 = 0 then (headB (kH n), headB (kH (n - 1 : Nat))) else (headB (kH (n - 1 : Nat)), headB (kH n))
/-- A device with records of a log at life n. -/
def Dev (d : DiskM) (n : Nat) (ps : List (Int × List UInt8)) : Prop :=
  Quiet d 300 ∧ 2 ≤ n ∧ Rising n 1 ps ∧ (placed 1 ps).length ≤ 149 ∧ d.now = (heads n).1 :: (heads n).2 :: (placed 1 ps ++ List.replicate (298 - (placed 1 ps).length) zsec)
theorem kH_at {n : Nat} (h : 1 ≤ n ∧ n ≤ 1099511627776) : HeadIn (kH n) := ⟨⟨by show (1 : Int) ≤ n; omega, by show (n : Int) ≤ 1099511627776; omega⟩, .inl rfl, ⟨Int.le_refl 1, (by decide : (1 : Int) ≤ 1099511627776)⟩, ⟨Int.le_refl 1, (by decide : (1 : Int) ≤ 1099511627776)⟩⟩
theorem newest_heads (n : Nat) (h2 : 2 ≤ n) (hm : n ≤ 1099511627776) : newestM (heads n).1 (heads n).2 = (kH n, true) := by
  have i1 := kH_at (n := n) ⟨by omega, hm⟩
  have i2 := kH_at (n := n - 1) ⟨by omega, by omega⟩
  unfold heads
  split
  · show newestM (headB (kH n)) (headB (kH (n - 1 : Nat))) = _
    unfold newestM
    rw [if_neg ?_, getH_headB _ i1, headOk_headB _ i1]
    rintro ⟨_, h | h⟩
    · rw [headOk_headB _ i1] at h; cases h
    · rw [getH_headB _ i1, getH_headB _ i2] at h
      have : (n : Int) < ((n - 1 : Nat) : Int) := h
      omega
  · show newestM (headB (kH (n - 1 : Nat))) (headB (kH n)) = _
    have hlt : (getH (headB (kH (n - 1 : Nat)))).life < (getH (headB (kH n))).life := by
      rw [getH_headB _ i1, getH_headB _ i2]
      show ((n - 1 : Nat) : Int) < (n : Int)
      omega
    unfold newestM
    rw [if_pos ⟨headOk_headB _ i1, .inr hlt⟩, getH_headB _ i1]
theorem heads_next (n : Nat) (h2 : 1 ≤ n) (R : List Sec) : ((heads n).1 :: (heads n).2 :: R).set ((n + 1) % 2) (headB (kH (n + 1 : Nat))) = (heads (n + 1)).1 :: (heads (n + 1)).2 :: R := by
  unfold heads
  rcases Nat.mod_two_eq_zero_or_one n with h | h
  · rw [if_pos h, if_neg (by omega), show (n + 1) % 2 = 1 by omega]
    rfl
  · rw [if_neg (by omega), if_pos (by omega), show (n + 1) % 2 = 0 by omega]
    rfl
theorem Dev.rest {d : DiskM} {n : Nat} {ps : List (Int × List UInt8)} (h : Dev d n ps) : restOf d.now 0 = placed 1 ps ++ List.replicate (149 - (placed 1 ps).length) zsec := by
  obtain ⟨h1, h2, h3, h4, h5⟩ := h
  have hl : d.now.length = 300 := h1.2.2.2
  unfold restOf
  rw [hl, h5]
  show ((placed 1 ps ++ List.replicate (298 - (placed 1 ps).length) zsec)).take 149 = _
  rw [List.take_append, List.take_of_length_le h4, List.take_replicate]
  congr 2
  omega
/-- Opened it tells all records. -/
theorem Dev.opens {d : DiskM} {n : Nat} {ps : List (Int × List UInt8)} (h : Dev d n ps) (hm : n ≤ 1099511627776) (hp : ps.length ≤ 149) : openGo (kH n).life (halfN d.now.length + 1) (kH n).since (kH n).first 0 [] (restOf d.now 0) = (ps.map (·.2), 1 + (ps.length : Int), (placed 1 ps).length) := by
  rw [h.rest, h.1.2.2.2]
  have := go_placed (n : Int) (by omega) ps (halfN 300 + 1) 1 1 0 [] (149 - (placed 1 ps).length) (by decide) h.2.2.1 (by show ps.length < 150; omega)
  rw [List.nil_append, Nat.zero_add] at this
  exact this
/-- The next head laid. -/
theorem Dev.lays {d : DiskM} {n : Nat} {ps : List (Int × List UInt8)} (h : Dev d n ps) : ∃ d', layM d { kH n with life := (kH n).life + 1 } = (d', true) ∧ Dev d' (n + 1) ps := by
  obtain ⟨h1, h2, h3, h4, h5⟩ := h
  have e : ({ kH n with life := (kH n).life + 1 } : HeadM) = kH (n + 1 : Nat) := by show HeadM.mk ((n : Int) + 1) 0 1 1 = HeadM.mk ((n + 1 : Nat) : Int) 0 1 1; congr 1
  rw [e]
  unfold layM
  have e2 : ((kH (n + 1 : Nat)).life % 2).toNat = (n + 1) % 2 := by show (((n + 1 : Nat) : Int) % 2).toNat = _; omega
  rw [e2]
  obtain ⟨d', hs, hq, hn, _⟩ := safely_quiet h1 ((n + 1) % 2) [headB (kH (n + 1 : Nat))]
  refine ⟨d', hs, hq, by omega, h3.mono (by omega), h4, ?_⟩
  rw [hn, h5]
  exact heads_next n (by omega) _
/-- A record laid behind the last. -/
theorem Dev.appends {d : DiskM} {n : Nat} {ps : List (Int × List UInt8)} (h : Dev d n ps) {r : List UInt8} (hr : 1 ≤ r.length ∧ r.length ≤ 60000) (hfit : (placed 1 ps).length + recN r.length ≤ 149) :
    ∃ d', safelyM d (2 + 0 * halfN d.now.length + (placed 1 ps).length) (recB (kH n).life (1 + (ps.length : Int)) r) = (d', true) ∧ Dev d' n (ps ++ [((n : Int), r)]) ∧ (placed 1 (ps ++ [((n : Int), r)])).length = (placed 1 ps).length + recN r.length := by
  obtain ⟨h1, h2, h3, h4, h5⟩ := h
  obtain ⟨d', hs, hq, hn, _⟩ := safely_quiet h1 (2 + 0 * halfN d.now.length + (placed 1 ps).length) (recB (kH n).life (1 + (ps.length : Int)) r)
  have hpl : (placed 1 (ps ++ [((n : Int), r)])).length = (placed 1 ps).length + recN r.length := by rw [placed_snoc, List.length_append, recB_len]
  have hbl : (recB (kH n).life (1 + (ps.length : Int)) r).length = recN r.length := recB_len _ _ _
  refine ⟨d', hs, ⟨hq, h2, h3.snoc hr (by omega), by rw [hpl]; exact hfit, ?_⟩, hpl⟩
  rw [hn, h5, hpl, placed_snoc]
  have e1 : List.replicate (298 - (placed 1 ps).length) zsec = List.replicate (recN r.length) zsec ++ List.replicate (298 - ((placed 1 ps).length + recN r.length)) zsec := by
    rw [List.replicate_append_replicate]; congr 1; omega
  have e2 : (heads n).1 :: (heads n).2 :: (placed 1 ps ++ List.replicate (298 - (placed 1 ps).length) zsec) = ((heads n).1 :: (heads n).2 :: placed 1 ps) ++ List.replicate (recN r.length) zsec ++ List.replicate (298 - ((placed 1 ps).length + recN r.length)) zsec := by
    rw [e1]; simp
  rw [e2, show 2 + 0 * halfN ((heads n).1 :: (heads n).2 :: placed 1 ps ++ List.replicate (recN r.length) zsec ++ List.replicate (298 - ((placed 1 ps).length + recN r.length)) zsec).length + (placed 1 ps).length = ((heads n).1 :: (heads n).2 :: placed 1 ps).length by simp; omega]
  rw [putN_pre _ _ _ _ (by rw [hbl, List.length_replicate])]
  simp only [List.cons_append, List.append_assoc]
  rfl
end Go.Proofs.YtannkgglgmbkdaaDoor
