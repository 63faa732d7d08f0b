/- ring: how a log stands on a device; plain. No condition. ring: a log behind Open, and behind an Append that failed and a crash; plain. No condition. ring: a log behind an Append that went well; plain. No condition. ring: a new log stands; a crash of a device with nothing on the way; plain. No condition. ring: a device that may fail, a log behind a Rewrite that went well or failed; plain. No condition. ring.sum of any records. No condition but size. ring's all of any records, on a device that may fail. No condition but size. ring's Rewrite by any records: no room, or on a device that may fail. No condition but size. -/
import Derived.Test.YtannkgglgmbkdaaDoorJRRingAgainp6
namespace Go.Proofs.YtannkgglgmbkdaaDoor
set_option linter.unusedVariables false
set_option linter.unusedSimpArgs false
open Go.RowKit

/-- The newest head, in its place; the other place's head is older, or none. -/
def HeadsAt (now : List Sec) (h : HeadM) : Prop :=
  HeadIn h ∧ now[(h.life % 2).toNat]? = some (headB h) ∧ ∃ x, now[((h.life + 1) % 2).toNat]? = some x ∧ (headOk x = true → (getH x).life < h.life)
theorem newest_at {now : List Sec} {h : HeadM} (H : HeadsAt now h) : ∃ s0 s1, now[0]? = some s0 ∧ now[1]? = some s1 ∧ newestM s0 s1 = (h, true) := by
  obtain ⟨hin, h1, x, h2, hx⟩ := H
  have hl := hin.1
  have ho := headOk_headB h hin
  have hg := getH_headB h hin
  rcases (show h.life % 2 = 0 ∨ h.life % 2 = 1 by omega) with he | he
  · rw [he] at h1
    rw [show (h.life + 1) % 2 = 1 by omega] at h2
    refine ⟨headB h, x, h1, h2, ?_⟩
    unfold newestM
    rw [if_neg ?_, hg, ho]
    rintro ⟨ha, hb | hb⟩
    · rw [ho] at hb; cases hb
    · rw [hg] at hb
      have := hx ha
      omega
  · rw [he] at h1
    rw [show (h.life + 1) % 2 = 0 by omega] at h2
    refine ⟨x, headB h, h2, h1, ?_⟩
    have hc : headOk x = false ∨ (getH x).life < (getH (headB h)).life := by
      cases hk : headOk x with
      | false => exact .inl rfl
      | true => exact .inr (by rw [hg]; exact hx hk)
    unfold newestM
    rw [if_pos ⟨ho, hc⟩, hg]
/-- The next head laid over the older one. -/
theorem heads_laid {now : List Sec} {h h' : HeadM} (H : HeadsAt now h) (hin : HeadIn h') (hn : h'.life = h.life + 1) : HeadsAt (now.set (h'.life % 2).toNat (headB h')) h' := by
  obtain ⟨hi, h1, x, h2, _⟩ := H
  have hl := hi.1
  have hlt : ((h.life + 1) % 2).toNat < now.length := (List.getElem?_eq_some_iff.1 h2).1
  refine ⟨hin, ?_, headB h, ?_, fun _ => ?_⟩
  · rw [hn, List.getElem?_set, if_pos rfl, if_pos hlt]
  · rw [hn, show (h.life + 1 + 1) % 2 = h.life % 2 by omega, List.getElem?_set_ne (by omega)]
    exact h1
  · rw [getH_headB h hi]
    omega
theorem restOf_get (now : List Sec) (hf i : Nat) : (restOf now hf)[i]? = if i < halfN now.length then now[2 + hf * halfN now.length + i]? else none := by
  unfold restOf
  rw [List.getElem?_take]
  split
  · rw [List.getElem?_drop]
  · rfl
/-- Sectors that are old or of no later life. -/
theorem lives_of {now now' : List Sec} {L : Int} (hl : now'.length = now.length) (h : ∀ (j : Nat) (x : Sec), now'[j]? = some x → now[j]? = some x ∨ secLife x ≤ L) (ho : ∀ x, x ≤ 1 → ∀ s ∈ restOf now x, secLife s ≤ L) : ∀ x, x ≤ 1 → ∀ s ∈ restOf now' x, secLife s ≤ L := by
  intro x hx s hs
  obtain ⟨i, hi⟩ := List.getElem?_of_mem hs
  rw [restOf_get, hl] at hi
  split at hi
  · rename_i hlt
    rcases h _ _ hi with h1 | h1
    · refine ho x hx s (List.mem_of_getElem? (i := i) ?_)
      rw [restOf_get, if_pos hlt]
      exact h1
    · exact h1
  · cases hi
/-- How a log stands: its records in its half, waste behind them, and nothing as young as it in the other half. -/
structure Stand (now : List Sec) (n : Nat) (h : HeadM) (hf : Nat) (ps : List (Int × List UInt8)) : Prop where
  len : now.length = n
  heads : HeadsAt now h
  isHalf : h.half = (hf : Int)
  le1 : hf ≤ 1
  rest : ∃ ss, restOf now hf = placed h.first ps ++ ss ∧ Waste h.since (h.first + ps.length) ss
  since_le : h.since ≤ h.life
  rising : Rising h.life h.since ps
  other : ∀ x, x ≤ 1 → ∀ s ∈ restOf now x, secLife s ≤ h.life
/-- Opened it tells its records. -/
theorem Stand.opens {now : List Sec} {n : Nat} {h : HeadM} {half : Nat} {ps : List (Int × List UInt8)} (H : Stand now n h half ps) (hp : ps.length < halfN now.length + 1) (hs : h.first + ps.length ≤ 1099511627776) :
    openGo h.life (halfN now.length + 1) h.since h.first 0 [] (restOf now half) = (ps.map (·.2), h.first + ps.length, (placed h.first ps).length) := by
  obtain ⟨ss, hr, hw⟩ := H.rest
  obtain ⟨h1, h2, h3, h4⟩ := H.heads.1
  have := go_placedW h.life h.since (by omega) ps (halfN now.length + 1) h.since h.first 0 [] ss (by omega) (Int.le_refl _) (by omega) (by omega) H.rising hw hp
  rw [hr, this]
  simp
end Go.Proofs.YtannkgglgmbkdaaDoor
namespace Go.Proofs.YtannkgglgmbkdaaDoor
set_option linter.unusedVariables false
set_option linter.unusedSimpArgs false
open Go.RowKit

theorem restOf_head (now : List Sec) (hf k : Nat) (s : Sec) (hk : k < 2) : restOf (now.set k s) hf = restOf now hf := by
  apply List.ext_getElem?
  intro i
  rw [restOf_get, restOf_get, List.length_set]
  split
  · rw [List.getElem?_set_ne (by omega)]
  · rfl
theorem Stand.opened {now : List Sec} {n : Nat} {h : HeadM} {hf : Nat} {ps : List (Int × List UInt8)} (H : Stand now n h hf ps) (hm : h.life < 1099511627776) :
    Stand (now.set ((h.life + 1) % 2).toNat (headB { h with life := h.life + 1 })) n { h with life := h.life + 1 } hf ps := by
  obtain ⟨h1, h2, h3, h4⟩ := H.heads.1
  refine ⟨by rw [List.length_set]; exact H.len, heads_laid H.heads ⟨⟨by show 1 ≤ h.life + 1; omega, by show h.life + 1 ≤ _; omega⟩, h2, h3, h4⟩ rfl, H.isHalf, H.le1, ?_, by show h.since ≤ h.life + 1; have := H.since_le; omega, H.rising.mono (by show h.life ≤ h.life + 1; omega), ?_⟩
  · rw [restOf_head _ _ _ _ (by omega)]; exact H.rest
  · intro x hx s hs
    rw [restOf_head _ _ _ _ (by omega)] at hs
    have := H.other x hx s hs
    show secLife s ≤ h.life + 1
    omega
/-- Behind an Append that failed, and a crash, the log stands as it stood. -/
theorem Stand.failed {now now' : List Sec} {n : Nat} {h : HeadM} {hf : Nat} {ps : List (Int × List UInt8)} (H : Stand now n h hf ps) {rec : List UInt8} {m : Nat} {ks : List Bool} (hm : m < recN rec.length) (hs : h.first + ps.length < 281474976710656)
    (hfit : (placed h.first ps).length + recN rec.length ≤ halfN n) (hn : 4 ≤ n)
    (hnow : now' = crashS now (laid (2 + hf * halfN n + (placed h.first ps).length) ((recB h.life (h.first + ps.length) rec).take m)) ks) : Stand now' n h hf ps := by
  have hl' : now'.length = n := by rw [hnow, crashS_len]; exact H.len
  have hin := H.heads.1
  obtain ⟨q1, q2, q3, q4⟩ := hin
  obtain ⟨AT, hAT⟩ : ∃ AT, AT = (placed h.first ps).length := ⟨_, rfl⟩
  have hat : ∀ (k : Nat) (x : Sec), now'[k]? = some x → now[k]? = some x ∨ (2 + hf * halfN n + AT ≤ k ∧ k < 2 + hf * halfN n + AT + m ∧ ∃ j, j + 1 < recN rec.length ∧ x = recSec h.life (h.first + ps.length) rec j) := by
    intro k x hk
    rw [hnow] at hk
    rcases crashS_at _ _ _ k x hk with h1 | h1
    · exact .inl h1
    · right
      rw [← hAT] at h1
      obtain ⟨a1, a2⟩ := laid_mem _ _ _ _ h1
      rw [List.getElem?_take] at a2
      split at a2
      · rename_i hlt
        have hj := (List.getElem?_eq_some_iff.1 a2).1
        rw [recB_len] at hj
        refine ⟨a1, by omega, k - (2 + hf * halfN n + AT), by omega, ?_⟩
        unfold recB at a2
        rw [List.getElem?_map, List.getElem?_range hj] at a2
        simpa using a2.symm
      · cases a2
  have hsame : ∀ k, k < n → (k < 2 + hf * halfN n + AT ∨ 2 + hf * halfN n + AT + m ≤ k) → now'[k]? = now[k]? := by
    intro k hk ho
    obtain ⟨x, hx⟩ : ∃ x, now'[k]? = some x := ⟨_, List.getElem?_eq_getElem (by rw [hl']; exact hk)⟩
    rcases hat k x hx with h1 | ⟨h1, h2, _⟩
    · rw [hx, h1]
    · omega
  have hhalf : halfN n + halfN n + 2 ≤ n := by unfold halfN; omega
  have hle := H.le1
  have hmul : hf * halfN n ≤ halfN n := by
    have : hf * halfN n ≤ 1 * halfN n := Nat.mul_le_mul_right _ hle
    omega
  refine ⟨hl', ?_, H.isHalf, H.le1, ?_, H.since_le, H.rising, ?_⟩
  · obtain ⟨b1, b2, x, b3, b4⟩ := H.heads
    refine ⟨b1, ?_, x, ?_, b4⟩
    · rw [hsame _ (by omega) (.inl (by omega))]; exact b2
    · rw [hsame _ (by omega) (.inl (by omega))]; exact b3
  · obtain ⟨ss, c1, c2⟩ := H.rest
    have hlr : (restOf now hf).length = halfN n := by
      unfold restOf
      rw [List.length_take, List.length_drop, H.len]
      omega
    have hlr' : (restOf now' hf).length = halfN n := by
      unfold restOf
      rw [List.length_take, List.length_drop, hl']
      omega
    refine ⟨(restOf now' hf).drop AT, ?_, ?_⟩
    · have ht : (restOf now' hf).take AT = placed h.first ps := by
        have e : (restOf now hf).take AT = placed h.first ps := by rw [c1, hAT, List.take_left]
        rw [← e]
        apply List.ext_getElem?
        intro i
        rw [List.getElem?_take, List.getElem?_take]
        split
        · rw [restOf_get, restOf_get, hl', H.len]
          split
          · rw [hsame _ (by omega) (.inl (by omega))]
          · rfl
        · rfl
      rw [← ht, List.take_append_drop]
    · intro s hs
      obtain ⟨i, hi, rfl⟩ := List.getElem_of_mem hs
      have hi' := hi
      rw [List.length_drop, hlr'] at hi'
      have hg : (restOf now' hf)[AT + i]? = some ((restOf now' hf).drop AT)[i] := by
        rw [← List.getElem?_drop, List.getElem?_eq_getElem hi]
      rw [restOf_get, hl', if_pos (by omega)] at hg
      rcases hat _ _ hg with h1 | ⟨_, _, j, j1, j2⟩
      · have hold : (restOf now hf)[AT + i]? = some ((restOf now' hf).drop AT)[i] := by rw [restOf_get, H.len, if_pos (by omega)]; exact h1
        rw [c1, List.getElem?_append_right (by omega)] at hold
        exact c2 _ (List.mem_of_getElem? hold)
      · rw [j2]
        exact .inr (.inr (recSec_flag _ _ _ _ ⟨by omega, by omega⟩ j1))
  · refine lives_of (hl'.trans H.len.symm) (fun k x hk => ?_) H.other
    rcases hat _ _ hk with h1 | ⟨_, _, j, j1, j2⟩
    · exact .inl h1
    · right
      rw [j2, (secLife_rec h.life _ rec j ⟨by omega, by omega⟩ ⟨by omega, hs⟩).1]
      exact Int.le_refl _
end Go.Proofs.YtannkgglgmbkdaaDoor
namespace Go.Proofs.YtannkgglgmbkdaaDoor
set_option linter.unusedVariables false
set_option linter.unusedSimpArgs false
open Go.RowKit

theorem putN_get : ∀ (ss now : List Sec) (k j : Nat), k + ss.length ≤ now.length → (putN now k ss)[j]? = if k ≤ j ∧ j < k + ss.length then ss[j - k]? else now[j]?
  | [], now, k, j, _ => by
    rw [putN, if_neg (by simp only [List.length_nil]; omega)]
  | s :: ss, now, k, j, h => by
    rw [List.length_cons] at h
    rw [putN, putN_get ss (now.set k s) (k + 1) j (by rw [List.length_set]; omega), List.length_cons]
    by_cases h1 : j = k
    · subst h1
      rw [if_neg (by omega), if_pos (by omega), List.getElem?_set, if_pos rfl, if_pos (by omega)]
      simp
    · by_cases h2 : k + 1 ≤ j ∧ j < k + 1 + ss.length
      · rw [if_pos h2, if_pos (by omega), show j - k = (j - (k + 1)) + 1 by omega, List.getElem?_cons_succ]
      · rw [if_neg h2, if_neg (by omega), List.getElem?_set_ne (fun e => h1 e.symm)]
theorem Stand.appended {now now' : List Sec} {n : Nat} {h : HeadM} {hf : Nat} {ps : List (Int × List UInt8)} (H : Stand now n h hf ps) {rec : List UInt8} (hr : 1 ≤ rec.length ∧ rec.length ≤ 60000) (hs : h.first + ps.length < 281474976710656)
    (hfit : (placed h.first ps).length + recN rec.length ≤ halfN n) (hn : 4 ≤ n)
    (hnow : now' = putN now (2 + hf * halfN n + (placed h.first ps).length) (recB h.life (h.first + ps.length) rec)) : Stand now' n h hf (ps ++ [(h.life, rec)]) := by
  have hl' : now'.length = n := by rw [hnow, putN_len]; exact H.len
  obtain ⟨q1, q2, q3, q4⟩ := H.heads.1
  obtain ⟨AT, hAT⟩ : ∃ AT, AT = (placed h.first ps).length := ⟨_, rfl⟩
  have hhalf : halfN n + halfN n + 2 ≤ n := by unfold halfN; omega
  have hle := H.le1
  have hmul : hf * halfN n ≤ halfN n := by
    have : hf * halfN n ≤ 1 * halfN n := Nat.mul_le_mul_right _ hle
    omega
  have hbl := recB_len h.life (h.first + ps.length) rec
  have hget : ∀ j, now'[j]? = if 2 + hf * halfN n + AT ≤ j ∧ j < 2 + hf * halfN n + AT + recN rec.length then (recB h.life (h.first + ps.length) rec)[j - (2 + hf * halfN n + AT)]? else now[j]? := fun j => by
    rw [hnow, ← hAT, putN_get _ _ _ _ (by rw [hbl, H.len]; omega), hbl]
  have hpl : placed h.first (ps ++ [(h.life, rec)]) = placed h.first ps ++ recB h.life (h.first + ps.length) rec := placed_snoc _ _ _
  have hpll : (placed h.first (ps ++ [(h.life, rec)])).length = AT + recN rec.length := by rw [hpl, List.length_append, hbl, hAT]
  obtain ⟨ss, c1, c2⟩ := H.rest
  have hri : Rising h.life h.since (ps ++ [(h.life, rec)]) := H.rising.snoc hr H.since_le
  refine ⟨hl', ?_, H.isHalf, H.le1, ?_, H.since_le, hri, ?_⟩
  · obtain ⟨b1, b2, x, b3, b4⟩ := H.heads
    refine ⟨b1, ?_, x, ?_, b4⟩
    · rw [hget, if_neg (by omega)]; exact b2
    · rw [hget, if_neg (by omega)]; exact b3
  · refine ⟨(restOf now' hf).drop (AT + recN rec.length), ?_, ?_⟩
    · have ht : (restOf now' hf).take (AT + recN rec.length) = placed h.first (ps ++ [(h.life, rec)]) := by
        apply List.ext_getElem?
        intro i
        rw [List.getElem?_take]
        split
        · rename_i hi
          rw [restOf_get, hl', if_pos (by omega), hget, hpl]
          by_cases h1 : i < AT
          · rw [if_neg (by omega), List.getElem?_append_left (by omega)]
            have : (restOf now hf)[i]? = (placed h.first ps)[i]? := by rw [c1, List.getElem?_append_left (by omega)]
            rw [← this, restOf_get, H.len, if_pos (by omega)]
          · rw [if_pos (by omega), List.getElem?_append_right (by omega)]
            congr 1
            omega
        · rw [List.getElem?_eq_none (by omega)]
      rw [← ht, List.take_append_drop]
    · intro s hms
      obtain ⟨i, hi, rfl⟩ := List.getElem_of_mem hms
      have hlr' : (restOf now' hf).length ≤ halfN n := by unfold restOf; rw [List.length_take, hl']; omega
      have hi' := hi
      rw [List.length_drop] at hi'
      have hg : (restOf now' hf)[AT + recN rec.length + i]? = some ((restOf now' hf).drop (AT + recN rec.length))[i] := by
        rw [← List.getElem?_drop, List.getElem?_eq_getElem hi]
      rw [restOf_get, hl', if_pos (by omega), hget, if_neg (by omega)] at hg
      have hold : (restOf now hf)[AT + recN rec.length + i]? = some ((restOf now' hf).drop (AT + recN rec.length))[i] := by rw [restOf_get, H.len, if_pos (by omega)]; exact hg
      rw [c1, List.getElem?_append_right (by omega)] at hold
      exact c2.later (Int.le_refl _) (by rw [List.length_append]; simp only [List.length_cons, List.length_nil]; omega) _ (List.mem_of_getElem? hold)
  · refine lives_of (hl'.trans H.len.symm) (fun k x hk => ?_) H.other
    rw [hget] at hk
    split at hk
    · right
      have hm := List.mem_of_getElem? hk
      unfold recB at hm
      obtain ⟨j, _, rfl⟩ := List.mem_map.1 hm
      rw [(secLife_rec h.life _ rec j ⟨by omega, by omega⟩ ⟨by omega, hs⟩).1]
      exact Int.le_refl _
    · exact .inl hk
end Go.Proofs.YtannkgglgmbkdaaDoor
namespace Go.Proofs.YtannkgglgmbkdaaDoor
set_option linter.unusedVariables false
set_option linter.unusedSimpArgs false
open Go.RowKit

theorem crash_quiet {d : DiskM} {n : Nat} (h : Quiet d n) (hs : d.safe = d.now) (ks : List Bool) : crashM d ks = d := by
  obtain ⟨h1, h2, h3, h4⟩ := h
  obtain ⟨safe, now, way, dead, left⟩ := d
  simp only at h1 h2 h3 hs
  subst h1 h2 h3 hs
  rfl
theorem stand_new (n : Nat) (hn : 4 ≤ n) (now : List Sec) (h : now = headB (kH 2) :: headB (kH 1) :: List.replicate (n - 2) zsec) : Stand now n (kH 2) 0 [] := by
  have hl : now.length = n := by rw [h]; simp; omega
  have i2 : HeadIn (kH 2) := kH_in (by decide)
  have i1 : HeadIn (kH 1) := kH_in (by decide)
  have hz : ∀ hf s, s ∈ restOf now hf → s = zsec := by
    intro hf s hs
    unfold restOf at hs
    have h1 := List.mem_of_mem_take hs
    rw [h, show 2 + hf * halfN (headB (kH 2) :: headB (kH 1) :: List.replicate (n - 2) zsec).length = (hf * halfN (headB (kH 2) :: headB (kH 1) :: List.replicate (n - 2) zsec).length) + 1 + 1 by omega, List.drop_succ_cons, List.drop_succ_cons] at h1
    exact List.eq_of_mem_replicate (List.mem_of_mem_drop h1)
  refine ⟨hl, ⟨i2, by rw [h]; rfl, headB (kH 1), by rw [h]; rfl, fun _ => by rw [getH_headB _ i1]; decide⟩, rfl, by decide, ⟨restOf now 0, rfl, fun s hs => .inl ?_⟩, by decide, True.intro, fun x _ s hs => ?_⟩
  · rw [hz 0 s hs, zsec_life]; decide
  · rw [hz _ s hs, zsec_life]; decide
end Go.Proofs.YtannkgglgmbkdaaDoor
namespace Go.Proofs.YtannkgglgmbkdaaDoor
set_option linter.unusedVariables false
set_option linter.unusedSimpArgs false
open Go.RowKit

/-- A device with nothing on the way; it may fail soon. -/
def Calm (d : DiskM) (n : Nat) : Prop := d.dead = false ∧ d.way = [] ∧ d.safe = d.now ∧ d.now.length = n ∧ d.left ≤ 13
theorem Quiet.calm {d : DiskM} {n : Nat} (h : Quiet d n) (hs : d.safe = d.now) : Calm d n := ⟨h.1, h.2.2.1, hs, h.2.2.2, by rw [h.2.1]; omega⟩
theorem putsM_app : ∀ (a b : List Sec) (d : DiskM) (k : Nat), putsM d k (a ++ b) = if (putsM d k a).2 = true then putsM (putsM d k a).1 (k + a.length) b else ((putsM d k a).1, false)
  | [], b, d, k => by
    show putsM d k b = if (d, true).2 = true then putsM d (k + 0) b else _
    rw [if_pos rfl, Nat.add_zero]
  | s :: a, b, d, k => by
    rw [List.cons_append, putsM_cons, putsM_cons]
    by_cases ho : (oneM d k s).2 = true
    · rw [if_pos ho, if_pos ho, putsM_app a b, List.length_cons, show k + 1 + a.length = k + (a.length + 1) by omega]
    · rw [if_neg ho, if_neg ho, if_neg (by simp)]
/-- A write that goes well. -/
theorem puts_yes : ∀ (ss : List Sec) (d : DiskM) (k : Nat), (putsM d k ss).2 = true → (putsM d k ss).1.now = putN d.now k ss ∧ (putsM d k ss).1.safe = d.safe ∧ (putsM d k ss).1.dead = d.dead ∧ (putsM d k ss).1.left ≤ d.left ∧ (putsM d k ss).1.way.length = d.way.length + ss.length
  | [], d, k, _ => ⟨rfl, rfl, rfl, Nat.le_refl _, rfl⟩
  | s :: ss, d, k, h => by
    rw [putsM_cons] at h ⊢
    by_cases ho : (oneM d k s).2 = true
    · rw [if_pos ho] at h ⊢
      obtain ⟨_, _, h3⟩ := oneM_yes ho
      rw [h3] at h ⊢
      obtain ⟨a1, a2, a3, a4, a5⟩ := puts_yes ss _ _ h
      refine ⟨by rw [a1, putN], a2, a3, Nat.le_trans a4 (Nat.sub_le _ _), ?_⟩
      rw [a5, List.length_cons]
      simp
      omega
    · rw [if_neg ho] at h; cases h
/-- A device behind a crash: each sector is as it was, or one that was being written. -/
def Mix (n : Nat) (now : List Sec) (k : Nat) (ss : List Sec) (d : DiskM) : Prop :=
  Quiet d n ∧ d.safe = d.now ∧ ∀ (j : Nat) (x : Sec), d.now[j]? = some x → now[j]? = some x ∨ (k ≤ j ∧ ss[j - k]? = some x)
theorem crash_is (d : DiskM) (n : Nat) (ks : List Bool) (hl : d.safe.length = n) : Quiet (crashM d ks) n ∧ (crashM d ks).safe = (crashM d ks).now :=
  ⟨⟨rfl, rfl, rfl, by show (crashS d.safe d.way ks).length = n; rw [crashS_len]; exact hl⟩, rfl⟩
/-- A write that fails, and a crash. -/
theorem puts_no {d : DiskM} {n : Nat} (h : Calm d n) {k : Nat} {ss : List Sec} (hf : (putsM d k ss).2 = false) : ∃ m, m < ss.length ∧ (putsM d k ss).1.way.length ≤ ss.length ∧ ∀ ks, (crashM (putsM d k ss).1 ks).now = crashS d.now (laid k (ss.take m)) ks ∧ Mix n d.now k ss (crashM (putsM d k ss).1 ks) := by
  obtain ⟨h1, h2, h3, h4, h5⟩ := h
  obtain ⟨m, m1, m2, m3, m4, m5⟩ := putsM_fails ss d k hf
  have hll : ∀ (l : List Sec) (k : Nat), (laid k l).length = l.length := by
    intro l
    induction l with
    | nil => intro k; rfl
    | cons a l ih => intro k; rw [laid, List.length_cons, ih, List.length_cons]
  rw [h2, List.nil_append] at m2
  refine ⟨m, m1, by rw [m2, hll, List.length_take]; omega, fun ks => ?_⟩
  have hn : (crashM (putsM d k ss).1 ks).now = crashS d.now (laid k (ss.take m)) ks := by
    show crashS (putsM d k ss).1.safe (putsM d k ss).1.way ks = _
    rw [m2, m4, h3]
  obtain ⟨q1, q2⟩ := crash_is (putsM d k ss).1 n ks (by rw [m4, h3]; exact h4)
  refine ⟨hn, q1, q2, fun j x hx => ?_⟩
  rw [hn] at hx
  rcases crashS_at _ _ _ j x hx with hx | hx
  · exact .inl hx
  · obtain ⟨a1, a2⟩ := laid_mem _ _ _ _ hx
    rw [List.getElem?_take] at a2
    split at a2
    · exact .inr ⟨a1, a2⟩
    · cases a2
theorem safely_calm {d : DiskM} {n : Nat} (h : Calm d n) (k : Nat) {ss : List Sec} (hne : ss ≠ []) :
    (∃ d', safelyM d k ss = (d', true) ∧ Calm d' n ∧ d'.now = putN d.now k ss) ∨
    (∃ d' m, safelyM d k ss = (d', false) ∧ m < ss.length ∧ d'.way.length ≤ ss.length ∧ ∀ ks, (crashM d' ks).now = crashS d.now (laid k (ss.take m)) ks ∧ Mix n d.now k ss (crashM d' ks)) := by
  unfold safelyM
  by_cases hp : (putsM d k ss).2 = true
  · left
    rw [if_pos hp]
    obtain ⟨a1, a2, a3, a4, a5⟩ := puts_yes ss d k hp
    refine ⟨_, rfl, ⟨a3.trans h.1, rfl, rfl, ?_, Nat.le_trans a4 h.2.2.2.2⟩, a1⟩
    show (putsM d k ss).1.now.length = n
    rw [a1, putN_len]; exact h.2.2.2.1
  · right
    rw [if_neg hp]
    obtain ⟨m, m1, m2, m3⟩ := puts_no h (by simpa using hp)
    exact ⟨_, m, rfl, m1, m2, m3⟩
/-- Sectors written, made safe, then a head laid. -/
def rewM (d : DiskM) (k : Nat) (ss : List Sec) (h : HeadM) : DiskM × Bool :=
  if (putsM d k ss).2 = true then layM { (putsM d k ss).1 with safe := (putsM d k ss).1.now, way := [] } h else ((putsM d k ss).1, false)
theorem rew_calm {d : DiskM} {n : Nat} (h : Calm d n) (k : Nat) (ss : List Sec) (hd : HeadM) (hfit : k + ss.length ≤ n) :
    (∃ d', rewM d k ss hd = (d', true) ∧ Calm d' n ∧ d'.now = (putN d.now k ss).set (hd.life % 2).toNat (headB hd)) ∨
    (∃ d', rewM d k ss hd = (d', false) ∧ d'.way.length ≤ ss.length ∧ ∀ ks, Mix n d.now k ss (crashM d' ks)) := by
  unfold rewM
  by_cases hp : (putsM d k ss).2 = true
  · rw [if_pos hp]
    obtain ⟨a1, a2, a3, a4, a5⟩ := puts_yes ss d k hp
    have hc : Calm { (putsM d k ss).1 with safe := (putsM d k ss).1.now, way := [] } n := by
      refine ⟨a3.trans h.1, rfl, rfl, ?_, Nat.le_trans a4 h.2.2.2.2⟩
      show (putsM d k ss).1.now.length = n
      rw [a1, putN_len]; exact h.2.2.2.1
    unfold layM
    rcases safely_calm hc (hd.life % 2).toNat (ss := [headB hd]) (by simp) with ⟨d', e1, e2, e3⟩ | ⟨d', m, e1, e2, e3, e4⟩
    · left
      refine ⟨d', e1, e2, ?_⟩
      rw [e3]
      show putN (putsM d k ss).1.now _ [headB hd] = _
      rw [a1]; rfl
    · right
      obtain rfl : m = 0 := by simp at e2; exact e2
      have hw : d'.way.length = 0 := by
        have h5 : d' = (putsM { (putsM d k ss).1 with safe := (putsM d k ss).1.now, way := [] } (hd.life % 2).toNat [headB hd]).1 := by
          unfold safelyM at e1
          split at e1
          · injection e1 with _ e; cases e
          · injection e1 with e _; exact e.symm
        obtain ⟨m', m1, m2, _⟩ := putsM_fails [headB hd] { (putsM d k ss).1 with safe := (putsM d k ss).1.now, way := [] } (hd.life % 2).toNat (by
          unfold safelyM at e1
          split at e1
          · injection e1 with _ e; cases e
          · rename_i hx; simpa using hx)
        obtain rfl : m' = 0 := by simp at m1; exact m1
        rw [h5, m2]; rfl
      refine ⟨d', e1, by omega, fun ks => ?_⟩
      obtain ⟨c1, c2, c3, c4⟩ := e4 ks
      refine ⟨c2, c3, fun j x hx => ?_⟩
      rw [c1] at hx
      rw [show crashS ({ (putsM d k ss).1 with safe := (putsM d k ss).1.now, way := [] } : DiskM).now (laid (hd.life % 2).toNat (List.take 0 [headB hd])) ks = putN d.now k ss from a1, putN_get _ _ _ _ (by rw [h.2.2.2.1]; exact hfit)] at hx
      split at hx
      · rename_i hj
        exact .inr ⟨hj.1, hx⟩
      · exact .inl hx
  · rw [if_neg hp]
    right
    obtain ⟨m, m1, m2, m3⟩ := puts_no h (by simpa using hp)
    exact ⟨_, rfl, m2, fun ks => (m3 ks).2⟩
/-- Records that are all of one life. -/
def aged (life : Int) (recs : List (List UInt8)) : List (Int × List UInt8) := recs.map (fun r => (life, r))
theorem aged_snd (life : Int) (recs : List (List UInt8)) : (aged life recs).map (·.2) = recs := by
  unfold aged
  rw [List.map_map]
  exact List.map_id recs
theorem aged_len (life : Int) (recs : List (List UInt8)) : (aged life recs).length = recs.length := List.length_map _
theorem aged_rising (life : Int) : ∀ (recs : List (List UInt8)) (was : Int), was ≤ life → (∀ r ∈ recs, 1 ≤ r.length ∧ r.length ≤ 60000) → Rising life was (aged life recs)
  | [], _, _, _ => True.intro
  | r :: recs, was, hw, hr => ⟨hw, Int.le_refl _, hr r (by simp), aged_rising life recs life (Int.le_refl _) (fun x hx => hr x (by simp [hx]))⟩
theorem placed_life : ∀ (ps : List (Int × List UInt8)) (seq : Int), 0 ≤ seq → seq + ps.length < 281474976710656 → (∀ p ∈ ps, 0 ≤ p.1 ∧ p.1 < 281474976710656) → ∀ s ∈ placed seq ps, ∃ p ∈ ps, secLife s = p.1
  | [], _, _, _, _, s, hs => by cases hs
  | p :: ps, seq, h0, h1, hp, s, hs => by
    rw [List.length_cons] at h1
    rw [placed] at hs
    rcases List.mem_append.1 hs with hs | hs
    · unfold recB at hs
      obtain ⟨j, _, rfl⟩ := List.mem_map.1 hs
      exact ⟨p, by simp, (secLife_rec p.1 seq p.2 j (hp p (by simp)) ⟨h0, by omega⟩).1⟩
    · obtain ⟨q, hq, e⟩ := placed_life ps (seq + 1) (by omega) (by omega) (fun q hq => hp q (by simp [hq])) s hs
      exact ⟨q, by simp [hq], e⟩
theorem aged_life {life seq : Int} {recs : List (List UInt8)} (hl : 0 ≤ life ∧ life < 281474976710656) (h0 : 0 ≤ seq) (h1 : seq + recs.length < 281474976710656) : ∀ s ∈ placed seq (aged life recs), secLife s = life := fun s hs => by
  obtain ⟨p, hp, e⟩ := placed_life (aged life recs) seq h0 (by rw [aged_len]; exact h1) (fun p hp => by unfold aged at hp; obtain ⟨r, _, rfl⟩ := List.mem_map.1 hp; exact hl) s hs
  unfold aged at hp
  obtain ⟨r, _, rfl⟩ := List.mem_map.1 hp
  exact e
/-- A log that stands, but for younger sectors in the other half: as a Rewrite leaves it that failed. -/
structure Near (now : List Sec) (n : Nat) (h : HeadM) (hf : Nat) (ps : List (Int × List UInt8)) : Prop where
  len : now.length = n
  heads : HeadsAt now h
  isHalf : h.half = (hf : Int)
  le1 : hf ≤ 1
  rest : ∃ ss, restOf now hf = placed h.first ps ++ ss ∧ Waste h.since (h.first + ps.length) ss
  since_le : h.since ≤ h.life
  rising : Rising h.life h.since ps
  other : ∀ x, x ≤ 1 → ∀ s ∈ restOf now x, secLife s ≤ h.life + 1
theorem Stand.near {now : List Sec} {n : Nat} {h : HeadM} {hf : Nat} {ps : List (Int × List UInt8)} (H : Stand now n h hf ps) : Near now n h hf ps :=
  ⟨H.len, H.heads, H.isHalf, H.le1, H.rest, H.since_le, H.rising, fun x hx s hs => by have := H.other x hx s hs; omega⟩
theorem Near.opens {now : List Sec} {n : Nat} {h : HeadM} {half : Nat} {ps : List (Int × List UInt8)} (H : Near now n h half ps) (hp : ps.length < halfN now.length + 1) (hs : h.first + ps.length ≤ 1099511627776) :
    openGo h.life (halfN now.length + 1) h.since h.first 0 [] (restOf now half) = (ps.map (·.2), h.first + ps.length, (placed h.first ps).length) := by
  obtain ⟨ss, hr, hw⟩ := H.rest
  obtain ⟨h1, h2, h3, h4⟩ := H.heads.1
  have := go_placedW h.life h.since (by omega) ps (halfN now.length + 1) h.since h.first 0 [] ss (by omega) (Int.le_refl _) (by omega) (by omega) H.rising hw hp
  rw [hr, this]
  simp
theorem Near.opened {now : List Sec} {n : Nat} {h : HeadM} {hf : Nat} {ps : List (Int × List UInt8)} (H : Near now n h hf ps) (hm : h.life < 1099511627776) :
    Stand (now.set ((h.life + 1) % 2).toNat (headB { h with life := h.life + 1 })) n { h with life := h.life + 1 } hf ps := by
  obtain ⟨h1, h2, h3, h4⟩ := H.heads.1
  refine ⟨by rw [List.length_set]; exact H.len, heads_laid H.heads ⟨⟨by show 1 ≤ h.life + 1; omega, by show h.life + 1 ≤ _; omega⟩, h2, h3, h4⟩ rfl, H.isHalf, H.le1, ?_, by show h.since ≤ h.life + 1; have := H.since_le; omega, H.rising.mono (by show h.life ≤ h.life + 1; omega), ?_⟩
  · rw [restOf_head _ _ _ _ (by omega)]; exact H.rest
  · intro x hx s hs
    rw [restOf_head _ _ _ _ (by omega)] at hs
    exact H.other x hx s hs
/-- The place of the other half. -/
theorem half_fit {n hf : Nat} (hn : 4 ≤ n) (hl : hf ≤ 1) : 2 + hf * halfN n + halfN n ≤ n ∧ 2 + (1 - hf) * halfN n + halfN n ≤ n ∧ (hf = 0 ∧ hf * halfN n = 0 ∧ (1 - hf) * halfN n = halfN n ∨ hf = 1 ∧ hf * halfN n = halfN n ∧ (1 - hf) * halfN n = 0) := by
  have : halfN n + halfN n + 2 ≤ n := by unfold halfN; omega
  rcases Nat.lt_or_ge hf 1 with h0 | h0
  · obtain rfl : hf = 0 := by omega
    simp
    omega
  · obtain rfl : hf = 1 := by omega
    simp
    omega
theorem Stand.rewrote {now now' : List Sec} {n : Nat} {h : HeadM} {hf : Nat} {ps : List (Int × List UInt8)} (H : Stand now n h hf ps) {recs : List (List UInt8)} (hr : ∀ r ∈ recs, 1 ≤ r.length ∧ r.length ≤ 60000) (hl : h.life < 1099511627776) (hs : h.first + ps.length + recs.length ≤ 1099511627776)
    (hfit : (placed (h.first + ps.length) (aged (h.life + 1) recs)).length ≤ halfN n) (hn : 4 ≤ n)
    (hnow : now' = (putN now (2 + (1 - hf) * halfN n) (placed (h.first + ps.length) (aged (h.life + 1) recs))).set ((h.life + 1) % 2).toNat (headB ⟨h.life + 1, 1 - h.half, h.first + ps.length, h.life + 1⟩)) :
    Stand now' n ⟨h.life + 1, 1 - h.half, h.first + ps.length, h.life + 1⟩ (1 - hf) (aged (h.life + 1) recs) := by
  obtain ⟨q1, q2, q3, q4⟩ := H.heads.1
  obtain ⟨f1, f2, f3⟩ := half_fit hn H.le1
  have hh := H.isHalf
  have hle := H.le1
  obtain ⟨SS, hSS⟩ : ∃ SS, SS = placed (h.first + ps.length) (aged (h.life + 1) recs) := ⟨_, rfl⟩
  have hlife := aged_life (life := h.life + 1) (seq := h.first + ps.length) (recs := recs) ⟨by omega, by omega⟩ (by omega) (by omega)
  rw [← hSS] at hfit hnow hlife
  obtain ⟨P, hP⟩ : ∃ P, P = 2 + (1 - hf) * halfN n := ⟨_, rfl⟩
  rw [← hP] at hnow f2
  have hget : ∀ j, (putN now P SS)[j]? = if P ≤ j ∧ j < P + SS.length then SS[j - P]? else now[j]? := fun j => putN_get _ _ _ _ (by rw [H.len]; omega)
  have hP2 : 2 ≤ P := by omega
  have hlp : (putN now P SS).length = n := by rw [putN_len]; exact H.len
  have hH : HeadsAt (putN now P SS) h := by
    obtain ⟨b1, b2, x, b3, b4⟩ := H.heads
    refine ⟨b1, ?_, x, ?_, b4⟩
    · rw [hget, if_neg (by omega)]; exact b2
    · rw [hget, if_neg (by omega)]; exact b3
  have hrest : ∀ x, restOf now' x = restOf (putN now P SS) x := fun x => by rw [hnow]; exact restOf_head _ _ _ _ (by omega)
  refine ⟨by rw [hnow, List.length_set]; exact hlp, ?_, by show 1 - h.half = ((1 - hf : Nat) : Int); omega, by omega, ?_, Int.le_refl _, aged_rising _ _ _ (Int.le_refl _) hr, ?_⟩
  · have := heads_laid (h' := ⟨h.life + 1, 1 - h.half, h.first + ps.length, h.life + 1⟩) hH ⟨⟨by show 1 ≤ h.life + 1; omega, by show h.life + 1 ≤ _; omega⟩, by show (1 - h.half = 0 ∨ 1 - h.half = 1); omega, ⟨by show 1 ≤ h.first + ps.length; omega, by show h.first + (ps.length : Int) ≤ _; omega⟩, ⟨by show 1 ≤ h.life + 1; omega, by show h.life + 1 ≤ _; omega⟩⟩ rfl
    rw [hnow]
    exact this
  · show ∃ ss, restOf now' (1 - hf) = placed (h.first + ps.length) (aged (h.life + 1) recs) ++ ss ∧ Waste (h.life + 1) (h.first + ps.length + (aged (h.life + 1) recs).length) ss
    rw [← hSS, hrest]
    refine ⟨(restOf (putN now P SS) (1 - hf)).drop SS.length, ?_, ?_⟩
    · have ht : (restOf (putN now P SS) (1 - hf)).take SS.length = SS := by
        apply List.ext_getElem?
        intro i
        rw [List.getElem?_take]
        split
        · rename_i hi
          rw [restOf_get, hlp, if_pos (by omega), ← hP, hget, if_pos (by omega)]
          congr 1
          omega
        · rw [List.getElem?_eq_none (by omega)]
      have := List.take_append_drop SS.length (restOf (putN now P SS) (1 - hf))
      rw [ht] at this
      exact this.symm
    · intro s hms
      obtain ⟨i, hi⟩ := List.getElem?_of_mem hms
      rw [List.getElem?_drop, restOf_get, hlp] at hi
      split at hi
      · rename_i hlt
        rw [← hP, hget, if_neg (by omega)] at hi
        left
        have := H.other (1 - hf) (by omega) s (List.mem_of_getElem? (i := SS.length + i) (by rw [restOf_get, H.len, if_pos hlt, ← hP]; exact hi))
        omega
      · cases hi
  · show ∀ x, x ≤ 1 → ∀ s ∈ restOf now' x, secLife s ≤ h.life + 1
    intro x hx s hms
    rw [hrest] at hms
    refine lives_of (now := now) (L := h.life + 1) (hlp.trans H.len.symm) (fun j y hy => ?_) (fun x hx s hs => by have := H.other x hx s hs; omega) x hx s hms
    rw [hget] at hy
    split at hy
    · exact .inr (by rw [hlife y (List.mem_of_getElem? hy)]; exact Int.le_refl _)
    · exact .inl hy
/-- Behind a Rewrite that failed, and a crash. -/
theorem Stand.missed {now : List Sec} {d : DiskM} {n : Nat} {h : HeadM} {hf : Nat} {ps : List (Int × List UInt8)} (H : Stand now n h hf ps) {recs : List (List UInt8)} {seq : Int} (hl : h.life < 1099511627776) (h0 : 0 ≤ seq) (hs : seq + recs.length < 281474976710656)
    (hfit : (placed seq (aged (h.life + 1) recs)).length ≤ halfN n) (hn : 4 ≤ n)
    (hm : Mix n now (2 + (1 - hf) * halfN n) (placed seq (aged (h.life + 1) recs)) d) : Near d.now n h hf ps := by
  obtain ⟨q1, q2, q3, q4⟩ := H.heads.1
  obtain ⟨f1, f2, f3⟩ := half_fit hn H.le1
  have hlife := aged_life (life := h.life + 1) (seq := seq) (recs := recs) ⟨by omega, by omega⟩ h0 hs
  generalize placed seq (aged (h.life + 1) recs) = SS at *
  obtain ⟨hq, _, hat⟩ := hm
  have hl' : d.now.length = n := hq.2.2.2
  have hsame : ∀ k, k < n → (k < 2 + (1 - hf) * halfN n ∨ 2 + (1 - hf) * halfN n + SS.length ≤ k) → d.now[k]? = now[k]? := by
    intro k hk ho
    obtain ⟨x, hx⟩ : ∃ x, d.now[k]? = some x := ⟨_, List.getElem?_eq_getElem (by rw [hl']; exact hk)⟩
    rcases hat k x hx with h1 | ⟨h1, h2⟩
    · rw [hx, h1]
    · have := (List.getElem?_eq_some_iff.1 h2).1
      omega
  have hrest : restOf d.now hf = restOf now hf := by
    apply List.ext_getElem?
    intro i
    rw [restOf_get, restOf_get, hl', H.len]
    split
    · exact hsame _ (by omega) (by omega)
    · rfl
  refine ⟨hl', ?_, H.isHalf, H.le1, by rw [hrest]; exact H.rest, H.since_le, H.rising, ?_⟩
  · obtain ⟨b1, b2, x, b3, b4⟩ := H.heads
    refine ⟨b1, ?_, x, ?_, b4⟩
    · rw [hsame _ (by omega) (.inl (by omega))]; exact b2
    · rw [hsame _ (by omega) (.inl (by omega))]; exact b3
  · refine lives_of (hl'.trans H.len.symm) (fun j y hy => ?_) (fun x hx s hs => by have := H.other x hx s hs; omega)
    rcases hat j y hy with h1 | ⟨_, h2⟩
    · exact .inl h1
    · exact .inr (by rw [hlife y (List.mem_of_getElem? h2)]; exact Int.le_refl _)
end Go.Proofs.YtannkgglgmbkdaaDoor
namespace Go.Proofs.YtannkgglgmbkdaaDoor
set_option linter.unusedVariables false
set_option linter.unusedSimpArgs false
open Go.RowKit

/-- How many sectors records take. -/
def sumN (recs : List (List UInt8)) : Nat := (recs.map (fun r => recN r.length)).sum
theorem sumN_cons (r : List UInt8) (recs : List (List UInt8)) : sumN (r :: recs) = recN r.length + sumN recs := by simp [sumN]
theorem sumN_step (recs : List (List UInt8)) {k : Nat} (hk : k < recs.length) : sumN (recs.take (k + 1)) = sumN (recs.take k) + recN recs[k].length := by
  have e : recs.take (k + 1) = recs.take k ++ [recs[k]] := (List.take_append_getElem hk).symm
  unfold sumN
  rw [e, List.map_append, List.sum_append]
  simp only [List.map_cons, List.map_nil, List.sum_cons, List.sum_nil, Nat.add_zero]
theorem sumN_le {recs : List (List UInt8)} (hr : ∀ r ∈ recs, 1 ≤ r.length ∧ r.length ≤ 60000) : sumN recs ≤ recs.length * 536 := by
  induction recs with
  | nil => simp [sumN]
  | cons r recs ih =>
    rw [sumN_cons, List.length_cons]
    have := ih (fun x hx => hr x (by simp [hx]))
    have := hr r (by simp)
    have : recN r.length ≤ 536 := by unfold recN; omega
    omega
theorem placed_len : ∀ (recs : List (List UInt8)) (seq life : Int), (placed seq (aged life recs)).length = sumN recs
  | [], _, _ => rfl
  | r :: recs, seq, life => by
    show (recB life seq r ++ placed (seq + 1) (aged life recs)).length = _
    rw [List.length_append, recB_len, placed_len recs, sumN_cons]
set_option maxRecDepth 100000 in
theorem rsum_calls (w : World) (S : Nat → Prop) (A : Option Addr) (c : Nat) (recs : List (List UInt8)) (cs : List Value) (hA : Rd w S 1 A recs.length cs) (hcs : RecCells w (fun _ => True) recs cs) (hr : ∀ r ∈ recs, 1 ≤ r.length ∧ r.length ≤ 60000) (hl : recs.length ≤ 1000) :
    Calls Tryd.prog 39 #[.slice A recs.length c] w fun e w' => e = .returned (.tuple #[.int .i64 (sumN recs : Int), .bool true]) ∧ w' = w := by
  have g3 : ∀ w, (isAgg 40).run Tryd.prog w = .ok false w := plain_of Tryd.underlying40 rfl
  obtain ⟨n, hn⟩ : ∃ n, n = recs.length := ⟨_, rfl⟩
  have HN := Lib.hid hn
  have HR := Lib.hid hr
  have hsm := sumN_le hr
  have hS : ∀ k, sumN (recs.take k) ≤ 536000 := fun k => by
    have h1 := sumN_le (recs := recs.take k) (fun r h => hr r (List.mem_of_mem_take h))
    have h2 : (recs.take k).length ≤ 1000 := by rw [List.length_take]; omega
    have h3 : (recs.take k).length * 536 ≤ 1000 * 536 := Nat.mul_le_mul_right _ h2
    omega
  have HSM := Lib.hid hS
  rw [← hn] at hA hl ⊢
  have en : decide ((n : Int) ≤ 4096) = true := by simp; omega
  clear hn hr hsm hS
  go_enter Tryd.func39, Tryd.ntmps39
  go_wp2_with fail
  go_loopw [4, 10] (fun s4 i wr => ∃ k : Nat, k ≤ n ∧ i = .int .i64 (k : Int) ∧ s4 = .int .i64 (sumN (recs.take k) : Int) ∧ wr = w) (fun _ i _ => n - (intOf i).toNat)
  case atStart => exact ⟨0, by omega, rfl, rfl, rfl⟩
  case round =>
    obtain ⟨k, hk, rfl, rfl, rfl⟩ := hrel
    by_cases hlt : k < n
    · have ek : decide ((k : Int) < n) = true := by simpa using (by omega : (k : Int) < n)
      obtain ⟨a, u, hAe, _, hu, hc⟩ := hA.at_ hlt
      subst hAe
      have hkr : k < recs.length := by rw [← HN.out]; exact hlt
      obtain ⟨Aa, ca, h1, hra⟩ := hcs.2 k _ (List.getElem?_eq_getElem hkr)
      rw [hu] at h1
      injection h1 with h1
      subst h1
      have hst := sumN_step recs hkr
      have hrk := HR.out _ (List.getElem_mem hkr)
      have hs1 := HSM.out (k + 1)
      obtain ⟨sk, hsk⟩ : ∃ sk, sk = sumN (recs.take k) := ⟨_, rfl⟩
      obtain ⟨m, hm⟩ : ∃ m, m = recs[k].length := ⟨_, rfl⟩
      obtain ⟨rn, hrn⟩ : ∃ rn, rn = recN m := ⟨_, rfl⟩
      rw [hst, ← hsk, ← hm, ← hrn] at hs1
      rw [← hsk, ← hm, ← hrn] at hst
      have HST := Lib.hid hst
      rw [← hm] at hrk hc
      have hrn1 : 1 ≤ rn := by rw [hrn]; unfold recN; omega
      have hsec : ∀ w', Calls Tryd.prog 9 #[.int .i64 (m : Int)] w' fun e w'' => e = .returned (.int .i64 (rn : Int)) ∧ w'' = w' := fun w' => by
        have := sectors_calls (m : Int) w'
        rw [sectorsM_recN hrk.1 hrk.2, ← hrn] at this
        exact this
      have e0 : ((rn : Int) == 0) = false := by rw [beq_eq_false_iff_ne]; omega
      rw [← hsk]
      clear hst hm hrn hsk hu hra
      go_wp2_with fail
      refine (hsec _).mono ?_
      rintro e w1 ⟨rfl, hw1⟩
      replace hw1 := hw1.symm
      subst hw1
      go_wp2_with fail
      go_roundw
      case rel => exact ⟨k + 1, by omega, by go_num, by rw [HST.out]; go_num, by first | trivial | rfl⟩
      case measure => simp [intOf]; omega
    · obtain rfl : k = n := by omega
      have ek : decide ((k : Int) < k) = false := by simp
      have hall : sumN (recs.take k) = sumN recs := by rw [HN.out, List.take_length]
      rw [hall]
      go_wp2_with fail
      go_ret2
      exact ⟨rfl, rfl⟩
end Go.Proofs.YtannkgglgmbkdaaDoor
namespace Go.Proofs.YtannkgglgmbkdaaDoor
set_option linter.unusedVariables false
set_option linter.unusedSimpArgs false
open Go.RowKit

theorem placed_app : ∀ (a b : List (Int × List UInt8)) (seq : Int), placed seq (a ++ b) = placed seq a ++ placed (seq + a.length) b
  | [], b, seq => by simp [placed]
  | p :: a, b, seq => by
    rw [List.cons_append, placed, placed, placed_app a b, List.append_assoc, List.length_cons, show seq + 1 + (a.length : Int) = seq + ((a.length + 1 : Nat) : Int) by omega]
theorem placed_take (life seq : Int) (recs : List (List UInt8)) {k : Nat} (hk : k < recs.length) : placed seq (aged life (recs.take (k + 1))) = placed seq (aged life (recs.take k)) ++ recB life (seq + k) recs[k] := by
  have e : recs.take (k + 1) = recs.take k ++ [recs[k]] := (List.take_append_getElem hk).symm
  rw [e]
  unfold aged
  rw [List.map_append, placed_app, List.length_map, List.length_take, Nat.min_eq_left (Nat.le_of_lt hk)]
  congr 1
  show recB life (seq + k) recs[k] ++ placed _ [] = _
  simp [placed]
theorem rew_stop {d : DiskM} {P : Nat} {seq life : Int} {recs : List (List UInt8)} {h : HeadM} (k : Nat) (hf : (putsM d P (placed seq (aged life (recs.take k)))).2 = false) : rewM d P (placed seq (aged life recs)) h = ((putsM d P (placed seq (aged life (recs.take k)))).1, false) := by
  have e : placed seq (aged life recs) = placed seq (aged life (recs.take k)) ++ placed (seq + (aged life (recs.take k)).length) (aged life (recs.drop k)) := by
    rw [← placed_app]
    unfold aged
    rw [← List.map_append, List.take_append_drop]
  have h2 : putsM d P (placed seq (aged life recs)) = ((putsM d P (placed seq (aged life (recs.take k)))).1, false) := by
    rw [e, putsM_app, if_neg (by rw [hf]; exact Bool.false_ne_true)]
  unfold rewM
  rw [h2, if_neg (by simp)]
theorem puts_step {d : DiskM} {P : Nat} {seq life : Int} {recs : List (List UInt8)} {k : Nat} (hk : k < recs.length) (h : (putsM d P (placed seq (aged life (recs.take k)))).2 = true) :
    putsM d P (placed seq (aged life (recs.take (k + 1)))) = putsM (putsM d P (placed seq (aged life (recs.take k)))).1 (P + sumN (recs.take k)) (recB life (seq + k) recs[k]) := by
  rw [placed_take life seq recs hk, putsM_app, if_pos h, placed_len]
/-- Slices whose room is no less than their length. -/
def CapOk (cs : List Value) : Prop := ∀ (i : Nat) (A : Option Addr) (n c : Nat), cs[i]? = some (Value.slice A n c) → n ≤ c ∧ c ≤ maxLen
/-- What a call answers that writes. -/
def codeOf (ok : Bool) : Int := if ok = true then 0 else 14
def LogIf (ok : Bool) (w : World) (L H : Nat) (l : LogM) : Prop := ok = true → LogAt w L H l
set_option maxHeartbeats 8000000 in
set_option maxRecDepth 100000 in
theorem all_calls (w : World) (X : Nat → Prop) (L H : Nat) (l : LogM) (d d' : DiskM) (ok : Bool) (A : Option Addr) (c : Nat) (recs : List (List UInt8)) (cs : List Value) (half : Nat) (hlg : LogAt w L H l) (hL : ¬ X L) (hd : DiskAt w X H d) (h4 : 4 ≤ d.now.length)
    (hhalf : l.h.half = (half : Int)) (hh1 : half ≤ 1) (hlife : 0 ≤ l.h.life) (hA : Rd w (fun b => ¬ X b ∧ b ≠ L ∧ b < w.heap.size) 1 A recs.length cs) (hcs : RecCells w (fun b => ¬ X b ∧ b ≠ L ∧ b < w.heap.size) recs cs) (hcap : CapOk cs)
    (hr : ∀ r ∈ recs, 1 ≤ r.length ∧ r.length ≤ 60000) (hlen : recs.length ≤ 1000) (hat : l.at_ = 0) (hfit : sumN recs ≤ halfN d.now.length) (hseq : 1 ≤ l.seq ∧ l.seq ≤ 1099511627776) (hdead : d.dead = false) (hway : d.way.length ≤ 4000) (hleft : d.left ≤ 1000000)
    (hs : rewM d (2 + half * halfN d.now.length) (placed l.seq (aged l.h.life recs)) l.h = (d', ok)) :
    Calls Tryd.prog 40 #[.pointer (some ⟨L, 0, none⟩), .slice A recs.length c] w fun e w' => e = .returned (.int .i64 (codeOf ok)) ∧
      LogIf ok w' L H { l with seq := l.seq + recs.length, at_ := sumN recs } ∧ DiskAt w' (fun b => (X b ∧ b < w.heap.size) ∨ w.heap.size ≤ b) H d' ∧ Fr (fun b => X b ∨ b = L) w w' := by
  have g1 : ∀ w, (isAgg 2).run Tryd.prog w = .ok false w := plain_of Tryd.underlying2 rfl
  have g2 := plain_int
  have g3 : ∀ w, (isAgg 40).run Tryd.prog w = .ok false w := plain_of Tryd.underlying40 rfl
  have g4 := plain_pdisk
  have hmax : d.now.length ≤ 4096 := by obtain ⟨gs, cs, gn, cn, A, c, hP⟩ := hd; exact hP.2.2.2.2.2.2.2.2.1
  obtain ⟨⟨life, hf_, first, since⟩, seq, at_, bad⟩ := l
  simp only at hhalf hlife hat hseq hs hlg ⊢
  subst hhalf hat
  obtain ⟨hs1, hs2⟩ := hseq
  obtain ⟨n, hn⟩ : ∃ n, n = recs.length := ⟨_, rfl⟩
  obtain ⟨P, hP⟩ : ∃ P, P = 2 + half * halfN d.now.length := ⟨_, rfl⟩
  have hPfit : P + halfN d.now.length ≤ d.now.length := by rw [hP]; exact (half_fit h4 hh1).1
  rw [← hP] at hs
  have hpall : ∀ k, k ≤ n → sumN (recs.take k) ≤ sumN recs := fun k hk => by
    have e := congrArg sumN (List.take_append_drop k recs)
    have : sumN (recs.take k ++ recs.drop k) = sumN (recs.take k) + sumN (recs.drop k) := by unfold sumN; rw [List.map_append, List.sum_append]
    omega
  have hst : ∀ (w' : World) (Y : Nat → Prop) (dk : DiskM), DiskAt w' Y H dk → dk.now.length = d.now.length → Calls Tryd.prog 34 #[.pointer (some ⟨H, 0, none⟩), .int .i64 (half : Int)] w' fun e w'' => e = .returned (.int .i64 (P : Nat)) ∧ w'' = w' := fun w' Y dk hdk hlk => by
    have := start_calls w' Y H dk half hdk (by omega) (by omega) hh1
    rw [hlk, show 2 + half * ((d.now.length - 2) / 2) = P from hP.symm] at this
    exact this
  obtain ⟨DK, hDK⟩ : ∃ DK : Nat → DiskM × Bool, DK = fun k => putsM d P (placed seq (aged life (recs.take k))) := ⟨_, rfl⟩
  have hD0 : DK 0 = (d, true) := by rw [hDK]; rfl
  have hDstep : ∀ k (hk : k < recs.length), (DK k).2 = true → DK (k + 1) = putsM (DK k).1 (P + sumN (recs.take k)) (recB life (seq + k) recs[k]) := fun k hk h => by
    rw [hDK] at h ⊢
    exact puts_step hk h
  have hDno : ∀ k, (DK k).2 = false → (d', ok) = ((DK k).1, false) := fun k h => by
    rw [← hs]
    rw [hDK] at h ⊢
    exact rew_stop k h
  have hDyes : ∀ k, k ≤ n → (DK k).2 = true → (DK k).1.now.length = d.now.length ∧ (DK k).1.dead = false ∧ (DK k).1.left ≤ d.left ∧ (DK k).1.way.length ≤ 10000 := fun k hk h => by
    rw [hDK] at h ⊢
    obtain ⟨a1, a2, a3, a4, a5⟩ := puts_yes _ _ _ h
    refine ⟨by show (putsM d P _).1.now.length = _; rw [a1, putN_len], a3.trans hdead, a4, ?_⟩
    show (putsM d P _).1.way.length ≤ 10000
    rw [a5, placed_len]
    have := hpall k hk
    have : halfN d.now.length ≤ 4096 := by unfold halfN; omega
    omega
  have hDall : (DK n).2 = true → layM { (DK n).1 with safe := (DK n).1.now, way := [] } ⟨life, (half : Int), first, since⟩ = (d', ok) := fun h => by
    rw [← hs]
    rw [hDK] at h ⊢
    simp only [hn, List.take_length] at h ⊢
    unfold rewM
    rw [if_pos h]
  have HDS := Lib.hid hDstep
  have HDN := Lib.hid hDno
  have HDY := Lib.hid hDyes
  have HDA := Lib.hid hDall
  have HD0 := Lib.hid hD0
  have HN := Lib.hid hn
  have HR := Lib.hid hr
  have HP := Lib.hid hP
  have HPA := Lib.hid hpall
  have HFIT := Lib.hid hfit
  have HCS := Lib.hid hcs
  have HCAP := Lib.hid hcap
  have hX1 : DiskAt w (fun b => (X b ∧ b < w.heap.size) ∨ w.heap.size ≤ b) H (DK 0).1 := by rw [hD0]; exact hd.mono (fun b hb hx => .inl ⟨hx, hb⟩)
  have hLw : L < w.heap.size := Blk.lt hlg
  have hlg0 : LogAt w L H ⟨⟨life, (half : Int), first, since⟩, seq + (0 : Nat), sumN (recs.take 0), bad⟩ := by
    have e : seq + ((0 : Nat) : Int) = seq := by omega
    rw [e]; exact hlg
  rw [← hn] at hA hlen ⊢
  clear hDK hDstep hDno hDyes hDall hD0 hn hr hP hpall hfit hcs hcap hs hd hlg hdead
  go_enter Tryd.func40, Tryd.ntmps40
  go_upto_block 0 with fail
  go_cut [] (fun wx => Hid ((DK n).2 = true) ∧ LogAt wx L H ⟨⟨life, (half : Int), first, since⟩, seq + (n : Nat), sumN recs, bad⟩ ∧ DiskAt wx (fun b => (X b ∧ b < w.heap.size) ∨ w.heap.size ≤ b) H (DK n).1 ∧ Fr (fun b => X b ∨ b = L) w wx)
  case first =>
    go_wp2_with fail
    go_loopw [11] (fun i wr => ∃ k : Nat, k ≤ n ∧ i = .int .i64 (k : Int) ∧ Hid ((DK k).2 = true) ∧ LogAt wr L H ⟨⟨life, (half : Int), first, since⟩, seq + (k : Nat), sumN (recs.take k), bad⟩ ∧ DiskAt wr (fun b => (X b ∧ b < w.heap.size) ∨ w.heap.size ≤ b) H (DK k).1 ∧ Fr (fun b => X b ∨ b = L) w wr) (fun i _ => n - (intOf i).toNat)
    case atStart => exact ⟨0, by omega, rfl, Lib.hid (by rw [HD0.out]), hlg0, hX1, Fr.refl _ _⟩
    case round =>
      obtain ⟨k, hk, rfl, HK, hlgr, hdr, hfr⟩ := hrel
      by_cases hlt : k < n
      · have ek : decide ((k : Int) < n) = true := by simpa using (by omega : (k : Int) < n)
        obtain ⟨a, u, hAe, hSa, hu, hc⟩ := hA.at_ hlt
        subst hAe
        have hkr : k < recs.length := by rw [← HN.out]; exact hlt
        obtain ⟨Aa, ca, h1, hra⟩ := HCS.out.2 k _ (List.getElem?_eq_getElem hkr)
        have hcap := HCAP.out k Aa _ ca h1
        rw [hu] at h1
        injection h1 with h1
        subst h1
        have hst1 := sumN_step recs hkr
        have hrk := HR.out _ (List.getElem_mem hkr)
        have hpa := HPA.out (k + 1) (by omega)
        have hDk := HDS.out k hkr HK.out
        obtain ⟨y1, y2, y3, y4⟩ := HDY.out k hk HK.out
        have hcr := hfr.cell_some hc (fun hn => by rw [block_of_add] at hn; rcases hn with h | h; exact hSa.1 h; exact hSa.2.1 h)
        have hraw : RdB wr (fun b => ¬ X b ∧ b ≠ L ∧ b < w.heap.size) Aa recs[k] := Rd.fr hra hfr (fun b hb hn => hn.elim hb.1 hb.2.1)
        obtain ⟨rec, hrec⟩ : ∃ rec, rec = recs[k] := ⟨_, rfl⟩
        rw [← hrec] at hst1 hrk hDk hcap hraw hcr
        clear hu hc hra hSa
        generalize recs[k] = rx at *
        subst hrec
        obtain ⟨at_, hat⟩ : ∃ at_, at_ = sumN (recs.take k) := ⟨_, rfl⟩
        rw [← hat] at hlgr hst1 hDk
        obtain ⟨rn, hrn⟩ : ∃ rn, rn = recN rec.length := ⟨_, rfl⟩
        have hrn1 : 1 ≤ rn := by rw [hrn]; unfold recN; omega
        have hsec : ∀ w', Calls Tryd.prog 9 #[.int .i64 (rec.length : Int)] w' fun e w'' => e = .returned (.int .i64 (rn : Int)) ∧ w'' = w' := fun w' => by
          have := sectors_calls (rec.length : Int) w'
          rw [sectorsM_recN hrk.1 hrk.2, ← hrn] at this
          exact this
        have hsz := hfr.size
        have hfitk : at_ + rn ≤ halfN d.now.length := by have := HFIT.out; omega
        have hstr : ∀ w', Fr No wr w' → Calls Tryd.prog 34 #[.pointer (some ⟨H, 0, none⟩), .int .i64 (half : Int)] w' fun e w'' => e = .returned (.int .i64 (P : Nat)) ∧ w'' = w' := fun w' hf => hst w' _ _ (hdr.fr0 hf) y1
        have hrecs : ∀ w', Fr No wr w' → Calls Tryd.prog 38 #[.int .i64 life, .int .i64 (seq + (k : Nat)), .slice Aa rec.length ca] w' fun e w'' => ∃ v, e = .returned v ∧ w''.ownsRow w'.heap.size 5 1 v (rn * 128) (U8 (recB life (seq + (k : Nat)) rec).flatten) ∧ Fr No w' w'' := fun w' hf => by
          have h1 := recs_calls w' life (seq + (k : Nat)) Aa ca rec ((Rd.fr0 hraw hf).mono (fun b hb _ => hb) (by decide)) hrk.2 hcap.1 hcap.2
          rw [← hrn] at h1
          exact h1
        have hX2 : DiskAt wr (fun b => ((X b ∧ b < w.heap.size) ∨ w.heap.size ≤ b) ∧ b < wr.heap.size) H (DK k).1 := hdr.mono (fun b hb hx => ⟨hx, hb⟩)
        have hwrite : ∀ w' A' c', DiskAt w' (fun b => ((X b ∧ b < w.heap.size) ∨ w.heap.size ≤ b) ∧ b < wr.heap.size) H (DK k).1 → Rd w' (fun b => ¬ (((X b ∧ b < w.heap.size) ∨ w.heap.size ≤ b) ∧ b < wr.heap.size)) 1 A' (rn * 128) (U8 (recB life (seq + (k : Nat)) rec).flatten) → rn * 128 ≤ c' → c' ≤ maxLen →
            Calls Tryd.prog 45 #[.pointer (some ⟨H, 0, none⟩), .int .i64 ((P + at_ : Nat) : Int), .slice A' (rn * 128) c'] w' (WriteR w' (fun b => ((X b ∧ b < w.heap.size) ∨ w.heap.size ≤ b) ∧ b < wr.heap.size) (Wid (fun b => ((X b ∧ b < w.heap.size) ∨ w.heap.size ≤ b) ∧ b < wr.heap.size) w') H (DK (k + 1))) := fun w' A' c' hd' hr' hc' hcm' => by
          have hbl := recB_len life (seq + (k : Nat)) rec
          rw [← hrn] at hbl
          have h1 := write_calls w' _ (Wid (fun b => ((X b ∧ b < w.heap.size) ∨ w.heap.size ≤ b) ∧ b < wr.heap.size) w') H (DK k).1 (P + at_) (recB life (seq + (k : Nat)) rec) A' c' hd' (by rw [hbl]; exact hr') (recB_128 _ _ _) (by rw [hbl]; exact hc') hcm' (by rw [hbl]; exact hrn1) (by rw [hbl, y1]; omega) (by omega) (by omega) (fun _ hb => .inl hb) (fun _ hb => .inr hb)
          rw [hbl, ← hDk] at h1
          exact h1
        have HAT := Lib.hid (show (P : Int) + (at_ : Int) = ((P + at_ : Nat) : Int) by omega)
        have hb := LogAt.lit hlgr
        have hbl2 : (U8 (recB life (seq + (k : Nat)) rec).flatten).length = rn * 128 := by rw [U8_length, flat_len (recB_128 _ _ _), recB_len, hrn]
        have hrn2 : rn ≤ 2047 := by have : halfN d.now.length ≤ 2047 := (by unfold halfN; omega); omega
        have hat2 : at_ ≤ 2047 := by have : halfN d.now.length ≤ 2047 := (by unfold halfN; omega); omega
        have HST := Lib.hid (show at_ + rn = sumN (recs.take (k + 1)) by rw [hst1, hrn])
        have HATS := Lib.hid hat
        have hPm : P ≤ 4096 := by omega
        generalize U8 (recB life (seq + (k : Nat)) rec).flatten = rv at *
        obtain ⟨sq, hsq⟩ : ∃ sq : Int, sq = seq + (k : Nat) := ⟨_, rfl⟩
        have HSQ := Lib.hid hsq
        have hsq1 : 1 ≤ sq := by omega
        have hsq2 : sq ≤ 1099511628776 := by omega
        rw [← hsq] at hb hrecs
        clear hst1 hDk hraw hrn hat hpa hlgr hdr hsq hfitk hst
        have hLr := hb.lt
        (have y0 := hb.cell 0; have y1 := hb.cell 1; have y2 := hb.cell 2; have y3 := hb.cell 3; have y4 := hb.cell 4; have y5 := hb.cell 5; have y6 := hb.cell 6; have y7 := hb.cell 7; have yf0 := hb.frozen 0; have yf1 := hb.frozen 1; have yf2 := hb.frozen 2; have yf3 := hb.frozen 3; have yf4 := hb.frozen 4; have yf5 := hb.frozen 5; have yf6 := hb.frozen 6; have yf7 := hb.frozen 7; simp only [List.getElem?_toArray, List.getElem?_cons_zero, List.getElem?_cons_succ] at y0 y1 y2 y3 y4 y5 y6 y7)
        go_wp2_with fail
        have hns : ¬ ((((X L ∧ L < w.heap.size) ∨ w.heap.size ≤ L) ∧ L < wr.heap.size) ∨ wr.heap.size ≤ L) := fun h => h.elim (fun h => h.1.elim (fun h => hL h.1) (fun h => by omega)) (fun h => by omega)
        (refine T_begin (fun b => (((X b ∧ b < w.heap.size) ∨ w.heap.size ≤ b) ∧ b < wr.heap.size) ∨ wr.heap.size ≤ b) [0, 1, 2, 3, 4, 5, 6, 7, 8, 9, 10, 11, 12, 14, 15, 16, 17, 19, 20, 21, 22, 23, 24, 25, 26, 27, 28, 13, 18, 29, 30, 31] [13, 29, 30] (by kernel_rfl) (by kernel_rfl) ?_; simp only [pickOps, List.filterMap_cons, List.filterMap_nil, List.getElem?_cons_zero, List.getElem?_cons_succ, Act.put])
        repeat (first | (refine T_skip (by rfl) (by rfl) (fun _ _ _ h => h) ?_; try simp only [Act.put, List.setIfInBounds_toArray, List.set_cons_zero, List.set_cons_succ]) | (refine T_pass (by rfl) (by rfl) ?_; try simp only [Act.put, List.setIfInBounds_toArray, List.set_cons_zero, List.set_cons_succ]) | (refine T_load (by assumption) (by rfl) (by rfl) (fun _ _ _ _ h => h) rfl rfl (by assumption) (by first | exact (fun hn => hn) | assumption) ?_; try simp only [Act.put, List.setIfInBounds_toArray, List.set_cons_zero, List.set_cons_succ]) | (refine T_nil (by rfl) (by rfl) (fun _ _ _ _ h => h) rfl rfl ?_; try simp only [Act.put, List.setIfInBounds_toArray, List.set_cons_zero, List.set_cons_succ]) | (refine T_quietN (by rfl) (by rfl) (by rfl) (by rfl) (fun _ _ _ _ h => h) (fun K hK => ?_); go_big_quiet_op; refine hK _ ?_; clear hK K) | (refine T_two (by rfl) (by rfl) (by rfl) (by rfl) (fun _ _ _ _ h => h) (fun K hK => ?_); go_big_quiet_op; refine ⟨_, fun _ _ => rfl, ?_⟩; refine hK _ ?_; clear hK K; try simp only [Act.put, List.setIfInBounds_toArray, List.set_cons_zero, List.set_cons_succ]) | fail)
        (refine T_call (by rfl) (by rfl) (fun K hK => ?_); go_wp2_with fail)
        refine (hstr _ ((Fr.refl No wr).drew)).mono ?_
        rintro e w2 ⟨rfl, hw2⟩
        replace hw2 := hw2.symm
        subst hw2
        go_wp2_with fail
        (refine hK.out _ _ ((Fr.refl _ _)) ?_; clear hK K; try simp only [Act.put, List.setIfInBounds_toArray, List.set_cons_zero, List.set_cons_succ])
        repeat (first | (refine T_skip (by rfl) (by rfl) (fun _ _ _ h => h) ?_; try simp only [Act.put, List.setIfInBounds_toArray, List.set_cons_zero, List.set_cons_succ]) | (refine T_pass (by rfl) (by rfl) ?_; try simp only [Act.put, List.setIfInBounds_toArray, List.set_cons_zero, List.set_cons_succ]) | (refine T_load (by assumption) (by rfl) (by rfl) (fun _ _ _ _ h => h) rfl rfl (by assumption) (by first | exact (fun hn => hn) | assumption) ?_; try simp only [Act.put, List.setIfInBounds_toArray, List.set_cons_zero, List.set_cons_succ]) | (refine T_nil (by rfl) (by rfl) (fun _ _ _ _ h => h) rfl rfl ?_; try simp only [Act.put, List.setIfInBounds_toArray, List.set_cons_zero, List.set_cons_succ]) | (refine T_quietN (by rfl) (by rfl) (by rfl) (by rfl) (fun _ _ _ _ h => h) (fun K hK => ?_); go_big_quiet_op; refine hK _ ?_; clear hK K) | (refine T_two (by rfl) (by rfl) (by rfl) (by rfl) (fun _ _ _ _ h => h) (fun K hK => ?_); go_big_quiet_op; refine ⟨_, fun _ _ => rfl, ?_⟩; refine hK _ ?_; clear hK K; try simp only [Act.put, List.setIfInBounds_toArray, List.set_cons_zero, List.set_cons_succ]) | fail)
        try rw [HAT.out]
        (refine T_call (by rfl) (by rfl) (fun K hK => ?_); go_wp2_with fail)
        refine (hrecs _ ((Fr.refl No wr).drew)).mono ?_
        rintro e w3 ⟨v, rfl, hown3, hf3⟩
        obtain ⟨A3, c3, rfl, hc3, hc3m, hA3⟩ := own_form hown3
        go_wp2_with fail
        (refine hK.out _ _ ((hf3.mono (fun _ _ hn => hn.elim))) ?_; clear hK K; try simp only [Act.put, List.setIfInBounds_toArray, List.set_cons_zero, List.set_cons_succ])
        have hF3 : Fr No wr w3 := (Fr.refl No wr).drew.tr hf3
        have hrn5 : rn * 128 ≤ 524288 := by omega
        have hrd3 : Rd w3 (fun b => ¬ (((X b ∧ b < w.heap.size) ∨ w.heap.size ≤ b) ∧ b < wr.heap.size)) 1 A3 (rn * 128) rv := (own_rd hown3 (by omega)).mono (fun b hb hx hh => by
          have h1 := (hown3.lt b (by rcases A3 with _ | ad; cases hx; injection hx with hx; exact congrArg some hx)).1
          have h2 : wr.heap.size ≤ b := h1
          have := hh.2
          omega) (by decide)
        (refine T_call (by rfl) (by rfl) (fun K hK => ?_); go_wp2_with fail)
        refine (hwrite _ _ _ (hX2.fr0 hF3) hrd3 hc3 hc3m).mono ?_
        rintro e w4 ⟨rfl, hd4, hf4⟩
        have hlg4 := ((Blk.fr0 hb hF3).fr hf4 (fun h => h.1.elim (fun h => hL h.1) (fun h => by omega)))
        have hF4 : Fr (fun b => X b ∨ b = L) w w4 := hfr.trans ((hF3.mono (T := fun b => ((X b ∧ b < w.heap.size) ∨ w.heap.size ≤ b) ∧ b < wr.heap.size) (fun _ _ hn => hn.elim)).trans hf4 (fun b _ hb => hb)) (fun b hbw hb => hb.1.elim (fun h => .inl h.1) (fun h => by omega))
        have hsz4 : wr.heap.size ≤ w4.heap.size := Nat.le_trans hF3.size hf4.size
        have hd5 : DiskAt w4 (fun b => (X b ∧ b < w.heap.size) ∨ w.heap.size ≤ b) H (DK (k + 1)).1 := hd4.mono (fun b _ hb => hb.elim (fun h => h.1) (fun h => .inr (by have := hF3.size; omega)))
        have hf4' := hf4.mono (T := fun b => (((X b ∧ b < w.heap.size) ∨ w.heap.size ≤ b) ∧ b < wr.heap.size) ∨ wr.heap.size ≤ b) (fun _ _ hb => .inl hb)
        clear y0 y1 y2 y3 y4 y5 y6 y7 yf0 yf1 yf2 yf3 yf4 yf5 yf6 yf7 hrd3 hf3 hd4 hf4 hown3 hA3 hF3 hwrite hrecs hstr hX2 hcr hfr
        by_cases hok : (DK (k + 1)).2 = true
        · rw [if_pos hok]
          have HOK := Lib.hid hok
          clear hok
          go_wp2_with fail
          (refine hK.out _ _ (hf4') ?_; clear hK K; try simp only [Act.put, List.setIfInBounds_toArray, List.set_cons_zero, List.set_cons_succ])
          repeat (first | (refine T_skip (by rfl) (by rfl) (fun _ _ _ h => h) ?_; try simp only [Act.put, List.setIfInBounds_toArray, List.set_cons_zero, List.set_cons_succ]) | (refine T_pass (by rfl) (by rfl) ?_; try simp only [Act.put, List.setIfInBounds_toArray, List.set_cons_zero, List.set_cons_succ]) | (refine T_load (by assumption) (by rfl) (by rfl) (fun _ _ _ _ h => h) rfl rfl (by assumption) (by first | exact (fun hn => hn) | assumption) ?_; try simp only [Act.put, List.setIfInBounds_toArray, List.set_cons_zero, List.set_cons_succ]) | (refine T_nil (by rfl) (by rfl) (fun _ _ _ _ h => h) rfl rfl ?_; try simp only [Act.put, List.setIfInBounds_toArray, List.set_cons_zero, List.set_cons_succ]) | (refine T_quietN (by rfl) (by rfl) (by rfl) (by rfl) (fun _ _ _ _ h => h) (fun K hK => ?_); go_big_quiet_op; refine hK _ ?_; clear hK K) | (refine T_two (by rfl) (by rfl) (by rfl) (by rfl) (fun _ _ _ _ h => h) (fun K hK => ?_); go_big_quiet_op; refine ⟨_, fun _ _ => rfl, ?_⟩; refine hK _ ?_; clear hK K; try simp only [Act.put, List.setIfInBounds_toArray, List.set_cons_zero, List.set_cons_succ]) | fail)
          refine T_done ?_
          clear hb hf4'
          go_wp2_with fail
          (have y0 := hlg4.cell 0; have y1 := hlg4.cell 1; have y2 := hlg4.cell 2; have y3 := hlg4.cell 3; have y4 := hlg4.cell 4; have y5 := hlg4.cell 5; have y6 := hlg4.cell 6; have y7 := hlg4.cell 7; have yf0 := hlg4.frozen 0; have yf1 := hlg4.frozen 1; have yf2 := hlg4.frozen 2; have yf3 := hlg4.frozen 3; have yf4 := hlg4.frozen 4; have yf5 := hlg4.frozen 5; have yf6 := hlg4.frozen 6; have yf7 := hlg4.frozen 7; simp only [List.getElem?_toArray, List.getElem?_cons_zero, List.getElem?_cons_succ] at y0 y1 y2 y3 y4 y5 y6 y7)
          have HAR := Lib.hid (show (at_ : Int) + (rn : Int) = ((at_ + rn : Nat) : Int) by omega)
          refine T_begin2 No [10] [0, 1, 2, 3, 4, 5, 6, 7, 8, 9, 10] [6, 10] (by kernel_rfl) (by kernel_rfl) ?_
          simp only [pickOps, List.filterMap_cons, List.filterMap_nil, List.getElem?_cons_zero, List.getElem?_cons_succ, Act.put]
          have hlg5d := hlg4.drew
          have hfLd : Fr No w4 w4.drew := (Fr.refl No w4).drew
          have hszd : w4.drew.heap.size = w4.heap.size := rfl
          clear y0 y1 y2 y3 y4 y5 y6 y7 yf0 yf1 yf2 yf3 yf4 yf5 yf6 yf7
          generalize w4.drew = w6 at *
          (have y0 := hlg5d.cell 0; have y1 := hlg5d.cell 1; have y2 := hlg5d.cell 2; have y3 := hlg5d.cell 3; have y4 := hlg5d.cell 4; have y5 := hlg5d.cell 5; have y6 := hlg5d.cell 6; have y7 := hlg5d.cell 7; have yf0 := hlg5d.frozen 0; have yf1 := hlg5d.frozen 1; have yf2 := hlg5d.frozen 2; have yf3 := hlg5d.frozen 3; have yf4 := hlg5d.frozen 4; have yf5 := hlg5d.frozen 5; have yf6 := hlg5d.frozen 6; have yf7 := hlg5d.frozen 7; simp only [List.getElem?_toArray, List.getElem?_cons_zero, List.getElem?_cons_succ] at y0 y1 y2 y3 y4 y5 y6 y7)
          repeat (first | (refine T_skip (by rfl) (by rfl) (fun _ _ _ h => h) ?_; try simp only [Act.put, List.setIfInBounds_toArray, List.set_cons_zero, List.set_cons_succ]) | (refine T_pass (by rfl) (by rfl) ?_; try simp only [Act.put, List.setIfInBounds_toArray, List.set_cons_zero, List.set_cons_succ]) | (refine T_load (by assumption) (by rfl) (by rfl) (fun _ _ _ _ h => h) rfl rfl (by assumption) (by first | exact (fun hn => hn) | assumption) ?_; try simp only [Act.put, List.setIfInBounds_toArray, List.set_cons_zero, List.set_cons_succ]) | (refine T_nil (by rfl) (by rfl) (fun _ _ _ _ h => h) rfl rfl ?_; try simp only [Act.put, List.setIfInBounds_toArray, List.set_cons_zero, List.set_cons_succ]) | (refine T_quietN (by rfl) (by rfl) (by rfl) (by rfl) (fun _ _ _ _ h => h) (fun K hK => ?_); go_big_quiet_op; refine hK _ ?_; clear hK K) | (refine T_two (by rfl) (by rfl) (by rfl) (by rfl) (fun _ _ _ _ h => h) (fun K hK => ?_); go_big_quiet_op; refine ⟨_, fun _ _ => rfl, ?_⟩; refine hK _ ?_; clear hK K; try simp only [Act.put, List.setIfInBounds_toArray, List.set_cons_zero, List.set_cons_succ]) | fail)
          (refine T_call (by rfl) (by rfl) (fun K hK => ?_); go_wp2_with fail)
          refine (hsec _).mono ?_
          rintro e w7 ⟨rfl, hw7⟩
          replace hw7 := hw7.symm
          subst hw7
          go_wp2_with fail
          (refine hK.out _ _ ((Fr.refl _ _)) ?_; clear hK K; try simp only [Act.put, List.setIfInBounds_toArray, List.set_cons_zero, List.set_cons_succ])
          repeat (first | (refine T_skip (by rfl) (by rfl) (fun _ _ _ h => h) ?_; try simp only [Act.put, List.setIfInBounds_toArray, List.set_cons_zero, List.set_cons_succ]) | (refine T_pass (by rfl) (by rfl) ?_; try simp only [Act.put, List.setIfInBounds_toArray, List.set_cons_zero, List.set_cons_succ]) | (refine T_load (by assumption) (by rfl) (by rfl) (fun _ _ _ _ h => h) rfl rfl (by assumption) (by first | exact (fun hn => hn) | assumption) ?_; try simp only [Act.put, List.setIfInBounds_toArray, List.set_cons_zero, List.set_cons_succ]) | (refine T_nil (by rfl) (by rfl) (fun _ _ _ _ h => h) rfl rfl ?_; try simp only [Act.put, List.setIfInBounds_toArray, List.set_cons_zero, List.set_cons_succ]) | (refine T_quietN (by rfl) (by rfl) (by rfl) (by rfl) (fun _ _ _ _ h => h) (fun K hK => ?_); go_big_quiet_op; refine hK _ ?_; clear hK K) | (refine T_two (by rfl) (by rfl) (by rfl) (by rfl) (fun _ _ _ _ h => h) (fun K hK => ?_); go_big_quiet_op; refine ⟨_, fun _ _ => rfl, ?_⟩; refine hK _ ?_; clear hK K; try simp only [Act.put, List.setIfInBounds_toArray, List.set_cons_zero, List.set_cons_succ]) | fail)
          refine T_turn No [] (by rfl) (by rfl) (by rfl) (fun K hK => ?_)
          go_wp2_with fail
          refine hK.out _ _ ?_
          clear hK K
          try simp only [Act.put, List.setIfInBounds_toArray, List.set_cons_zero, List.set_cons_succ]
          refine T_done ?_
          have hlg7 : Blk (w6.setCell ⟨L, 6, none⟩ (.int .i64 ((at_ : Int) + (rn : Int)))) L 71 #[.pointer (some ⟨H, 0, none⟩), .int .i64 life, .int .i64 (half : Int), .int .i64 first, .int .i64 since, .int .i64 sq, .int .i64 ((at_ : Int) + (rn : Int)), .bool bad] := hlg5d.put 6 _
          have hfL7 : Fr (fun b => b = L) w4 (w6.setCell ⟨L, 6, none⟩ (.int .i64 ((at_ : Int) + (rn : Int)))) := (hfLd.mono (T := fun b => b = L) (fun _ _ hn => hn.elim)).set (p := ⟨L, 6, none⟩) (.inr rfl) _
          clear y0 y1 y2 y3 y4 y5 y6 y7 yf0 yf1 yf2 yf3 yf4 yf5 yf6 yf7 hlg5d hfLd
          generalize w6.setCell ⟨L, 6, none⟩ (.int .i64 ((at_ : Int) + (rn : Int))) = w8 at *
          (have y0 := hlg7.cell 0; have y1 := hlg7.cell 1; have y2 := hlg7.cell 2; have y3 := hlg7.cell 3; have y4 := hlg7.cell 4; have y5 := hlg7.cell 5; have y6 := hlg7.cell 6; have y7 := hlg7.cell 7; have yf0 := hlg7.frozen 0; have yf1 := hlg7.frozen 1; have yf2 := hlg7.frozen 2; have yf3 := hlg7.frozen 3; have yf4 := hlg7.frozen 4; have yf5 := hlg7.frozen 5; have yf6 := hlg7.frozen 6; have yf7 := hlg7.frozen 7; simp only [List.getElem?_toArray, List.getElem?_cons_zero, List.getElem?_cons_succ] at y0 y1 y2 y3 y4 y5 y6 y7)
          have hq1 : sq + 1 ≤ 9223372036854775807 := by omega
          go_wp2_with fail
          have hlg9 : Blk (w8.setCell ⟨L, 5, none⟩ (.int .i64 (sq + 1))) L 71 #[.pointer (some ⟨H, 0, none⟩), .int .i64 life, .int .i64 (half : Int), .int .i64 first, .int .i64 since, .int .i64 (sq + 1), .int .i64 ((at_ : Int) + (rn : Int)), .bool bad] := hlg7.put 5 _
          have hfL9 : Fr (fun b => b = L) w4 (w8.setCell ⟨L, 5, none⟩ (.int .i64 (sq + 1))) := hfL7.set (p := ⟨L, 5, none⟩) (.inr rfl) _
          rw [HAR.out, HST.out, show sq + 1 = seq + ((k + 1 : Nat) : Int) by have := HSQ.out; omega] at hlg9
          rw [show sq + 1 = seq + ((k + 1 : Nat) : Int) by have := HSQ.out; omega] at hfL9
          go_roundw
          case rel =>
            rw [show sq + 1 = seq + ((k + 1 : Nat) : Int) by have := HSQ.out; omega]
            exact ⟨k + 1, by omega, by go_num, HOK, hlg9, hd5.fr hfL9 (fun b hX e => by rw [e] at hX; exact hX.elim (fun h => hL h.1) (fun h => by omega)), hF4.trans hfL9 (fun b _ hb => .inr hb)⟩
          case measure => simp [intOf]; omega
        · rw [if_neg hok]
          have hno := HDN.out (k + 1) (by simpa using hok)
          injection hno with hn1 hn2
          subst hn1 hn2
          clear hok
          go_wp2_with fail
          (refine hK.out _ _ (hf4') ?_; clear hK K; try simp only [Act.put, List.setIfInBounds_toArray, List.set_cons_zero, List.set_cons_succ])
          repeat (first | (refine T_skip (by rfl) (by rfl) (fun _ _ _ h => h) ?_; try simp only [Act.put, List.setIfInBounds_toArray, List.set_cons_zero, List.set_cons_succ]) | (refine T_pass (by rfl) (by rfl) ?_; try simp only [Act.put, List.setIfInBounds_toArray, List.set_cons_zero, List.set_cons_succ]) | (refine T_load (by assumption) (by rfl) (by rfl) (fun _ _ _ _ h => h) rfl rfl (by assumption) (by first | exact (fun hn => hn) | assumption) ?_; try simp only [Act.put, List.setIfInBounds_toArray, List.set_cons_zero, List.set_cons_succ]) | (refine T_nil (by rfl) (by rfl) (fun _ _ _ _ h => h) rfl rfl ?_; try simp only [Act.put, List.setIfInBounds_toArray, List.set_cons_zero, List.set_cons_succ]) | (refine T_quietN (by rfl) (by rfl) (by rfl) (by rfl) (fun _ _ _ _ h => h) (fun K hK => ?_); go_big_quiet_op; refine hK _ ?_; clear hK K) | (refine T_two (by rfl) (by rfl) (by rfl) (by rfl) (fun _ _ _ _ h => h) (fun K hK => ?_); go_big_quiet_op; refine ⟨_, fun _ _ => rfl, ?_⟩; refine hK _ ?_; clear hK K; try simp only [Act.put, List.setIfInBounds_toArray, List.set_cons_zero, List.set_cons_succ]) | fail)
          refine T_done ?_
          go_wp2_with fail
          go_ret
          exact ⟨rfl, fun h => (by cases h), hd5, hF4⟩
      · obtain rfl : k = n := by omega
        have ek : decide ((k : Int) < k) = false := by simp
        have hall : sumN (recs.take k) = sumN recs := by rw [HN.out, List.take_length]
        rw [hall] at hlgr
        go_wp2_with fail
        go_meet
        case rel => exact ⟨HK, hlgr, hdr, hfr⟩
  case rest =>
    obtain ⟨HK, hlgc, hdc, hfc⟩ := hcut
    obtain ⟨y1, y2, y3, y4⟩ := HDY.out n (Nat.le_refl _) HK.out
    have hlay := HDA.out HK.out
    have hszc := hfc.size
    have hX2 : DiskAt wc (fun b => ((X b ∧ b < w.heap.size) ∨ w.heap.size ≤ b) ∧ b < wc.heap.size) H (DK n).1 := hdc.mono (fun b hb hx => ⟨hx, hb⟩)
    have hfl := flush_calls wc _ H (DK n).1 hX2 y2
    have hly : ∀ w' Y, DiskAt w' Y H { (DK n).1 with safe := (DK n).1.now, way := [] } → Calls Tryd.prog 37 #[.pointer (some ⟨H, 0, none⟩), headV ⟨life, (half : Int), first, since⟩] w' (WriteR w' Y (Wid Y w') H (d', ok)) := fun w' Y hdy => by
      have h1 := lay_calls w' Y H _ ⟨life, (half : Int), first, since⟩ hdy hlife (by show 2 ≤ (DK n).1.now.length; omega) (by show ([] : List (Nat × Sec)).length ≤ 50000; simp) (by show (DK n).1.left ≤ 1000000; omega)
      rw [hlay] at h1
      exact h1
    unfold headV at hly
    have hb := LogAt.lit hlgc
    have hLc := hb.lt
    clear hlay y1 y2 y3 y4 hdc hlgc hX2 hst
    (have y0 := hb.cell 0; have y1 := hb.cell 1; have y2 := hb.cell 2; have y3 := hb.cell 3; have y4 := hb.cell 4; have y5 := hb.cell 5; have y6 := hb.cell 6; have y7 := hb.cell 7; have yf0 := hb.frozen 0; have yf1 := hb.frozen 1; have yf2 := hb.frozen 2; have yf3 := hb.frozen 3; have yf4 := hb.frozen 4; have yf5 := hb.frozen 5; have yf6 := hb.frozen 6; have yf7 := hb.frozen 7; simp only [List.getElem?_toArray, List.getElem?_cons_zero, List.getElem?_cons_succ] at y0 y1 y2 y3 y4 y5 y6 y7)
    go_wp2_with fail
    refine hfl.mono ?_
    rintro e w1 ⟨rfl, hd1, hf1⟩
    have hnL : ¬ (((X L ∧ L < w.heap.size) ∨ w.heap.size ≤ L) ∧ L < wc.heap.size) := fun h => h.1.elim (fun h => hL h.1) (fun h => by omega)
    have hb1 := hb.fr hf1 hnL
    have hsz1 := hf1.size
    clear y0 y1 y2 y3 y4 y5 y6 y7 yf0 yf1 yf2 yf3 yf4 yf5 yf6 yf7
    (have y0 := hb1.cell 0; have y1 := hb1.cell 1; have y2 := hb1.cell 2; have y3 := hb1.cell 3; have y4 := hb1.cell 4; have y5 := hb1.cell 5; have y6 := hb1.cell 6; have y7 := hb1.cell 7; have yf0 := hb1.frozen 0; have yf1 := hb1.frozen 1; have yf2 := hb1.frozen 2; have yf3 := hb1.frozen 3; have yf4 := hb1.frozen 4; have yf5 := hb1.frozen 5; have yf6 := hb1.frozen 6; have yf7 := hb1.frozen 7; simp only [List.getElem?_toArray, List.getElem?_cons_zero, List.getElem?_cons_succ] at y0 y1 y2 y3 y4 y5 y6 y7)
    have hc1 := hb1.cells 1 [.int .i64 life, .int .i64 (half : Int), .int .i64 first, .int .i64 since] (fun j u hu => by
      rcases j with _ | _ | _ | _ | j
      · exact hu
      · exact hu
      · exact hu
      · exact hu
      · simp at hu)
    have hns : ¬ ((((X L ∧ L < w.heap.size) ∨ w.heap.size ≤ L) ∧ L < wc.heap.size) ∨ w1.heap.size ≤ L) := fun h => h.elim hnL (fun h => by omega)
    go_wp2_with fail
    (refine T_begin (fun b => (((X b ∧ b < w.heap.size) ∨ w.heap.size ≤ b) ∧ b < wc.heap.size) ∨ w1.heap.size ≤ b) [0, 1, 2, 3, 4, 5, 6, 7, 8, 9] [8] (by kernel_rfl) (by kernel_rfl) ?_; simp only [pickOps, List.filterMap_cons, List.filterMap_nil, List.getElem?_cons_zero, List.getElem?_cons_succ, Act.put])
    repeat (first | (refine T_skip (by rfl) (by rfl) (fun _ _ _ h => h) ?_; try simp only [Act.put, List.setIfInBounds_toArray, List.set_cons_zero, List.set_cons_succ]) | (refine T_pass (by rfl) (by rfl) ?_; try simp only [Act.put, List.setIfInBounds_toArray, List.set_cons_zero, List.set_cons_succ]) | (refine T_load (by assumption) (by rfl) (by rfl) (fun _ _ _ _ h => h) rfl rfl (by assumption) (by first | exact (fun hn => hn) | assumption) ?_; try simp only [Act.put, List.setIfInBounds_toArray, List.set_cons_zero, List.set_cons_succ]) | (refine T_nil (by rfl) (by rfl) (fun _ _ _ _ h => h) rfl rfl ?_; try simp only [Act.put, List.setIfInBounds_toArray, List.set_cons_zero, List.set_cons_succ]) | (refine T_quietN (by rfl) (by rfl) (by rfl) (by rfl) (fun _ _ _ _ h => h) (fun K hK => ?_); go_big_quiet_op; refine hK _ ?_; clear hK K) | (refine T_two (by rfl) (by rfl) (by rfl) (by rfl) (fun _ _ _ _ h => h) (fun K hK => ?_); go_big_quiet_op; refine ⟨_, fun _ _ => rfl, ?_⟩; refine hK _ ?_; clear hK K; try simp only [Act.put, List.setIfInBounds_toArray, List.set_cons_zero, List.set_cons_succ]) | fail)
    (refine T_loadA (cs := [.int .i64 life, .int .i64 (half : Int), .int .i64 first, .int .i64 since]) ag_head (by rfl) (by rfl) (fun _ _ _ _ h => h) rfl rfl rfl hc1 hns ?_; try simp only [Act.put, List.setIfInBounds_toArray, List.set_cons_zero, List.set_cons_succ])
    (refine T_call (by rfl) (by rfl) (fun K hK => ?_); go_wp2_with fail)
    refine (hly _ _ (hd1.fr0 (Fr.refl No w1).drew)).mono ?_
    rintro e w2 ⟨he2, hd2, hf2⟩
    rw [show (if (d', ok).2 = true then (0 : Int) else 14) = codeOf ok from rfl] at he2
    subst he2
    go_wp2_with fail
    (refine hK.out _ _ (hf2.mono (fun b _ hb => .inl hb)) ?_; clear hK K; try simp only [Act.put, List.setIfInBounds_toArray, List.set_cons_zero, List.set_cons_succ])
    repeat (first | (refine T_skip (by rfl) (by rfl) (fun _ _ _ h => h) ?_; try simp only [Act.put, List.setIfInBounds_toArray, List.set_cons_zero, List.set_cons_succ]) | (refine T_pass (by rfl) (by rfl) ?_; try simp only [Act.put, List.setIfInBounds_toArray, List.set_cons_zero, List.set_cons_succ]) | (refine T_load (by assumption) (by rfl) (by rfl) (fun _ _ _ _ h => h) rfl rfl (by assumption) (by first | exact (fun hn => hn) | assumption) ?_; try simp only [Act.put, List.setIfInBounds_toArray, List.set_cons_zero, List.set_cons_succ]) | (refine T_nil (by rfl) (by rfl) (fun _ _ _ _ h => h) rfl rfl ?_; try simp only [Act.put, List.setIfInBounds_toArray, List.set_cons_zero, List.set_cons_succ]) | (refine T_quietN (by rfl) (by rfl) (by rfl) (by rfl) (fun _ _ _ _ h => h) (fun K hK => ?_); go_big_quiet_op; refine hK _ ?_; clear hK K) | (refine T_two (by rfl) (by rfl) (by rfl) (by rfl) (fun _ _ _ _ h => h) (fun K hK => ?_); go_big_quiet_op; refine ⟨_, fun _ _ => rfl, ?_⟩; refine hK _ ?_; clear hK K; try simp only [Act.put, List.setIfInBounds_toArray, List.set_cons_zero, List.set_cons_succ]) | fail)
    refine T_done ?_
    go_wp2_with fail
    go_ret
    refine ⟨rfl, fun _ => ?_, hd2.mono (fun b _ hb => hb.elim (fun h => h.1) (fun h => .inr (by have : w1.drew.heap.size = w1.heap.size := rfl; omega))), ?_⟩
    · exact hb1.drew.fr hf2 hnL
    · exact hfc.trans ((hf1.trans ((Fr.refl _ w1).drew.trans hf2 (fun _ _ hb => hb)) (fun b _ hb => hb))) (fun b hbw hb => hb.1.elim (fun h => .inl h.1) (fun h => by omega))
end Go.Proofs.YtannkgglgmbkdaaDoor
namespace Go.Proofs.YtannkgglgmbkdaaDoor
set_option linter.unusedVariables false
set_option linter.unusedSimpArgs false
open Go.RowKit

set_option maxRecDepth 100000 in
set_option maxHeartbeats 8000000 in
theorem rewrite_full (w : World) (X S : Nat → Prop) (L H : Nat) (l : LogM) (d : DiskM) (A : Option Addr) (c : Nat) (recs : List (List UInt8)) (cs : List Value) (hlg : LogAt w L H l) (hbad : l.bad = false) (hd : DiskAt w X H d) (h4 : 4 ≤ d.now.length)
    (hA : Rd w S 1 A recs.length cs) (hcs : RecCells w S recs cs) (hr : ∀ r ∈ recs, 1 ≤ r.length ∧ r.length ≤ 60000) (hlen : recs.length ≤ 1000) (hno : halfN d.now.length < sumN recs) :
    Calls Tryd.prog 21 #[.pointer (some ⟨L, 0, none⟩), .slice A recs.length c] w fun e w' => e = .returned (.int .i64 4) ∧ Fr No w w' := by
  have g1 : ∀ w, (isAgg 2).run Tryd.prog w = .ok false w := plain_of Tryd.underlying2 rfl
  have g2 := plain_int
  have g4 := plain_pdisk
  have hmax : d.now.length ≤ 4096 := by obtain ⟨gs, cs, gn, cn, A, c, hP⟩ := hd; exact hP.2.2.2.2.2.2.2.2.1
  have hhf := half_calls w X H d hd (by omega) hmax
  have hsum := rsum_calls w S A c recs cs hA (hcs.mono (fun _ _ _ => trivial)) hr hlen
  have hb := hlg.lit
  obtain ⟨⟨life, half, first, since⟩, seq, at_, bad⟩ := l
  simp only at hbad hb
  subst hbad
  have hno2 : (d.now.length - 2) / 2 < sumN recs := hno
  clear hno hA hcs hr hlg hd
  generalize sumN recs = sn at *
  generalize recs.length = n at *
  generalize (d.now.length - 2) / 2 = hn at *
  have e0 : decide ((hn : Int) < (sn : Int)) = true := by simp; omega
  (have y0 := hb.cell 0; have y1 := hb.cell 1; have y2 := hb.cell 2; have y3 := hb.cell 3; have y4 := hb.cell 4; have y5 := hb.cell 5; have y6 := hb.cell 6; have y7 := hb.cell 7; have yf0 := hb.frozen 0; have yf1 := hb.frozen 1; have yf2 := hb.frozen 2; have yf3 := hb.frozen 3; have yf4 := hb.frozen 4; have yf5 := hb.frozen 5; have yf6 := hb.frozen 6; have yf7 := hb.frozen 7; simp only [List.getElem?_toArray, List.getElem?_cons_zero, List.getElem?_cons_succ] at y0 y1 y2 y3 y4 y5 y6 y7)
  go_enter Tryd.func21, Tryd.ntmps21
  go_wp2_with fail
  refine hsum.mono ?_
  rintro e w1 ⟨rfl, hw1⟩
  replace hw1 := hw1.symm
  subst hw1
  go_wp2_with fail
  refine hhf.mono ?_
  rintro e w1 ⟨rfl, hw1⟩
  replace hw1 := hw1.symm
  subst hw1
  go_wp2_with fail
  go_ret
  exact ⟨rfl, Fr.refl _ _⟩
set_option maxRecDepth 100000 in
set_option maxHeartbeats 8000000 in
theorem rewrite_calls (w : World) (X : Nat → Prop) (L H : Nat) (l : LogM) (d d' : DiskM) (ok : Bool) (A : Option Addr) (c : Nat) (recs : List (List UInt8)) (cs : List Value) (half : Nat) (hlg : LogAt w L H l) (hbad : l.bad = false) (hL : ¬ X L) (hd : DiskAt w X H d) (h4 : 4 ≤ d.now.length)
    (hhalf : l.h.half = (half : Int)) (hh1 : half ≤ 1) (hlife : 1 ≤ l.h.life ∧ l.h.life < 1099511627776) (hA : Rd w (fun b => ¬ X b ∧ b ≠ L ∧ b < w.heap.size) 1 A recs.length cs) (hcs : RecCells w (fun b => ¬ X b ∧ b ≠ L ∧ b < w.heap.size) recs cs) (hcap : CapOk cs)
    (hr : ∀ r ∈ recs, 1 ≤ r.length ∧ r.length ≤ 60000) (hlen : recs.length ≤ 1000) (hfit : sumN recs ≤ halfN d.now.length) (hseq : 1 ≤ l.seq ∧ l.seq + recs.length ≤ 1099511627776) (hdead : d.dead = false) (hway : d.way.length ≤ 4000) (hleft : d.left ≤ 1000000)
    (hs : rewM d (2 + (1 - half) * halfN d.now.length) (placed l.seq (aged (l.h.life + 1) recs)) ⟨l.h.life + 1, 1 - l.h.half, l.seq, l.h.life + 1⟩ = (d', ok)) :
    Calls Tryd.prog 21 #[.pointer (some ⟨L, 0, none⟩), .slice A recs.length c] w fun e w' => e = .returned (.int .i64 (codeOf ok)) ∧
      LogIf ok w' L H ⟨⟨l.h.life + 1, 1 - l.h.half, l.seq, l.h.life + 1⟩, l.seq + recs.length, sumN recs, false⟩ ∧ DiskAt w' (fun b => (X b ∧ b < w.heap.size) ∨ w.heap.size < b) H d' ∧ Fr (fun b => X b ∨ b = L) w w' := by
  have g1 : ∀ w, (isAgg 2).run Tryd.prog w = .ok false w := plain_of Tryd.underlying2 rfl
  have g2 := plain_int
  have g4 := plain_pdisk
  have hmax : d.now.length ≤ 4096 := by obtain ⟨gs, cs, gn, cn, A, c, hP⟩ := hd; exact hP.2.2.2.2.2.2.2.2.1
  have hX1 : DiskAt w (fun b => X b ∧ b < w.heap.size) H d := hd.mono (fun b hb hx => ⟨hx, hb⟩)
  have hhf := half_calls w X H d hd (by omega) hmax
  have hsum := rsum_calls w _ A c recs cs hA (hcs.mono (fun _ _ _ => trivial)) hr hlen
  have hLw0 : L < w.heap.size := Blk.lt hlg
  have hal : ∀ w' L', L' = w.heap.size → Fr No w w' → LogAt w' L' H ⟨⟨l.h.life + 1, 1 - l.h.half, l.seq, l.h.life + 1⟩, l.seq, 0, false⟩ → Calls Tryd.prog 40 #[.pointer (some ⟨L', 0, none⟩), .slice A recs.length c] w' fun e w'' => e = .returned (.int .i64 (codeOf ok)) ∧
      LogIf ok w'' L' H ⟨⟨l.h.life + 1, 1 - l.h.half, l.seq, l.h.life + 1⟩, l.seq + recs.length, sumN recs, false⟩ ∧ DiskAt w'' (fun b => ((X b ∧ b < w.heap.size) ∧ b < w'.heap.size) ∨ w'.heap.size ≤ b) H d' ∧ Fr (fun b => (X b ∧ b < w.heap.size) ∨ b = L') w' w'' := fun w' L' hL' hf h1 => by
    have hz := hf.size
    exact all_calls w' _ L' H ⟨⟨l.h.life + 1, 1 - l.h.half, l.seq, l.h.life + 1⟩, l.seq, 0, false⟩ d d' ok A c recs cs (1 - half) h1 (fun h => by have := h.2; omega) (hX1.fr0 hf) h4 (by show 1 - l.h.half = ((1 - half : Nat) : Int); omega) (by omega) (by show 0 ≤ l.h.life + 1; omega)
      ((Rd.fr0 hA hf).mono (fun b _ hb => ⟨fun h => hb.1 h.1, by have := hb.2.2; omega, by have := hb.2.2; omega⟩) (by decide)) ((hcs.fr hf (fun _ _ hn => hn)).mono (fun b _ hb => ⟨fun h => hb.1 h.1, by have := hb.2.2; omega, by have := hb.2.2; omega⟩)) hcap hr hlen rfl hfit ⟨hseq.1, by show l.seq ≤ 1099511627776; omega⟩ hdead hway hleft hs
  have hb := hlg.lit
  have hLw := hb.lt
  obtain ⟨⟨life, hf_, first, since⟩, seq, at_, bad⟩ := l
  simp only at hbad hlife hhalf hseq hb hal ⊢
  subst hbad hhalf
  obtain ⟨hl1, hl2⟩ := hlife
  obtain ⟨hs1, hs2⟩ := hseq
  have hfit2 : sumN recs ≤ (d.now.length - 2) / 2 := hfit
  clear hs hlg hA hcs hr hfit hcap hway hleft
  generalize sumN recs = sn at *
  generalize recs.length = n at *
  generalize (d.now.length - 2) / 2 = hn at *
  have e0 : decide ((hn : Int) < (sn : Int)) = false := by simp; omega
  have e1 : (life == 1099511627776) = false := by rw [beq_eq_false_iff_ne]; omega
  have e2 : decide (1099511627776 - (n : Int) < seq) = false := by simp; omega
  have r0 : wrap64 (1099511627776 - (n : Int)) = 1099511627776 - (n : Int) := by unfold wrap64; omega
  have r1 : life + 1 ≤ 9223372036854775807 := by omega
  have r2 : -9223372036854775808 ≤ 1 - (half : Int) := by omega
  have r3 : 1 - (half : Int) ≤ 9223372036854775807 := by omega
  (have y0 := hb.cell 0; have y1 := hb.cell 1; have y2 := hb.cell 2; have y3 := hb.cell 3; have y4 := hb.cell 4; have y5 := hb.cell 5; have y6 := hb.cell 6; have y7 := hb.cell 7; have yf0 := hb.frozen 0; have yf1 := hb.frozen 1; have yf2 := hb.frozen 2; have yf3 := hb.frozen 3; have yf4 := hb.frozen 4; have yf5 := hb.frozen 5; have yf6 := hb.frozen 6; have yf7 := hb.frozen 7; simp only [List.getElem?_toArray, List.getElem?_cons_zero, List.getElem?_cons_succ] at y0 y1 y2 y3 y4 y5 y6 y7)
  go_enter Tryd.func21, Tryd.ntmps21
  go_wp2_with fail
  refine hsum.mono ?_
  rintro e w1 ⟨rfl, hw1⟩
  replace hw1 := hw1.symm
  subst hw1
  go_wp2_with fail
  refine hhf.mono ?_
  rintro e w1 ⟨rfl, hw1⟩
  replace hw1 := hw1.symm
  subst hw1
  go_wp2_with fail
  (refine T_begin No [0, 1, 2, 3, 4, 5, 6, 7, 8, 9, 10, 11, 12, 13, 14, 15, 16, 17, 18, 19, 20, 21, 22, 23, 24, 25, 26, 27, 28, 29, 30, 31, 32, 33] [32] (by kernel_rfl) (by kernel_rfl) ?_; simp only [pickOps, List.filterMap_cons, List.filterMap_nil, List.getElem?_cons_zero, List.getElem?_cons_succ, Act.put])
  repeat (first | (refine T_skip (by rfl) (by rfl) (fun _ _ _ h => h) ?_; try simp only [Act.put, List.setIfInBounds_toArray, List.set_cons_zero, List.set_cons_succ]) | (refine T_pass (by rfl) (by rfl) ?_; try simp only [Act.put, List.setIfInBounds_toArray, List.set_cons_zero, List.set_cons_succ]) | (refine T_load (by assumption) (by rfl) (by rfl) (fun _ _ _ _ h => h) rfl rfl (by assumption) (by first | exact (fun hn => hn) | assumption) ?_; try simp only [Act.put, List.setIfInBounds_toArray, List.set_cons_zero, List.set_cons_succ]) | (refine T_nil (by rfl) (by rfl) (fun _ _ _ _ h => h) rfl rfl ?_; try simp only [Act.put, List.setIfInBounds_toArray, List.set_cons_zero, List.set_cons_succ]) | (refine T_quietN (by rfl) (by rfl) (by rfl) (by rfl) (fun _ _ _ _ h => h) (fun K hK => ?_); go_big_quiet_op; refine hK _ ?_; clear hK K) | (refine T_two (by rfl) (by rfl) (by rfl) (by rfl) (fun _ _ _ _ h => h) (fun K hK => ?_); go_big_quiet_op; refine ⟨_, fun _ _ => rfl, ?_⟩; refine hK _ ?_; clear hK K; try simp only [Act.put, List.setIfInBounds_toArray, List.set_cons_zero, List.set_cons_succ]) | fail)
  (refine T_call (by rfl) (by rfl) (fun K hK => ?_); go_wp2_with fail)
  (refine hK.out _ _ (((Fr.refl _ _).alloc _)) ?_; clear hK K; try simp only [Act.put, List.setIfInBounds_toArray, List.set_cons_zero, List.set_cons_succ])
  repeat (first | (refine T_skip (by rfl) (by rfl) (fun _ _ _ h => h) ?_; try simp only [Act.put, List.setIfInBounds_toArray, List.set_cons_zero, List.set_cons_succ]) | (refine T_pass (by rfl) (by rfl) ?_; try simp only [Act.put, List.setIfInBounds_toArray, List.set_cons_zero, List.set_cons_succ]) | (refine T_load (by assumption) (by rfl) (by rfl) (fun _ _ _ _ h => h) rfl rfl (by assumption) (by first | exact (fun hn => hn) | assumption) ?_; try simp only [Act.put, List.setIfInBounds_toArray, List.set_cons_zero, List.set_cons_succ]) | (refine T_nil (by rfl) (by rfl) (fun _ _ _ _ h => h) rfl rfl ?_; try simp only [Act.put, List.setIfInBounds_toArray, List.set_cons_zero, List.set_cons_succ]) | (refine T_quietN (by rfl) (by rfl) (by rfl) (by rfl) (fun _ _ _ _ h => h) (fun K hK => ?_); go_big_quiet_op; refine hK _ ?_; clear hK K) | (refine T_two (by rfl) (by rfl) (by rfl) (by rfl) (fun _ _ _ _ h => h) (fun K hK => ?_); go_big_quiet_op; refine ⟨_, fun _ _ => rfl, ?_⟩; refine hK _ ?_; clear hK K; try simp only [Act.put, List.setIfInBounds_toArray, List.set_cons_zero, List.set_cons_succ]) | fail)
  refine T_done ?_
  have hlx : LogAt (w.drew.alloc (.cells (logC H ⟨⟨life + 1, 1 - (half : Int), seq, life + 1⟩, seq, 0, false⟩).toArray 71)) w.heap.size H ⟨⟨life + 1, 1 - (half : Int), seq, life + 1⟩, seq, 0, false⟩ := Blk.new w.drew _ _
  have hfx : Fr No w (w.drew.alloc (.cells (logC H ⟨⟨life + 1, 1 - (half : Int), seq, life + 1⟩, seq, 0, false⟩).toArray 71)) := ((Fr.refl No w).drew).alloc _
  have hszx : (w.drew.alloc (.cells (logC H ⟨⟨life + 1, 1 - (half : Int), seq, life + 1⟩, seq, 0, false⟩).toArray 71)).heap.size = w.heap.size + 1 := by show (w.drew.heap.push _).size = _; rw [Array.size_push]; rfl
  have hbx : Blk (w.drew.alloc (.cells (logC H ⟨⟨life + 1, 1 - (half : Int), seq, life + 1⟩, seq, 0, false⟩).toArray 71)) L 71 _ := hb.fr0 hfx
  clear y0 y1 y2 y3 y4 y5 y6 y7 yf0 yf1 yf2 yf3 yf4 yf5 yf6 yf7 hhf hd
  go_wp2_with fail
  refine (hal _ _ rfl hfx hlx).mono ?_
  rintro e w4 ⟨he4, hlx4, hd4, hf4⟩
  have hz4 := hf4.size
  rw [hszx] at hd4 hz4
  have hb4 := hbx.fr hf4 (fun h => h.elim (fun h => hL h.1) (fun h => by omega))
  have hF4 : Fr X w w4 := (hfx.mono (T := X) (fun _ _ hn => hn.elim)).trans hf4 (fun b hbw hb => hb.elim (fun h => h.1) (fun h => by omega))
  have hd5 : DiskAt w4 (fun b => (X b ∧ b < w.heap.size) ∨ w.heap.size < b) H d' := hd4.mono (fun b _ hb => hb.elim (fun h => .inl h.1) (fun h => .inr (by omega)))
  clear hbx hlx hfx hszx hf4 hd4 hal hX1
  (have y0 := hb4.cell 0; have y1 := hb4.cell 1; have y2 := hb4.cell 2; have y3 := hb4.cell 3; have y4 := hb4.cell 4; have y5 := hb4.cell 5; have y6 := hb4.cell 6; have y7 := hb4.cell 7; have yf0 := hb4.frozen 0; have yf1 := hb4.frozen 1; have yf2 := hb4.frozen 2; have yf3 := hb4.frozen 3; have yf4 := hb4.frozen 4; have yf5 := hb4.frozen 5; have yf6 := hb4.frozen 6; have yf7 := hb4.frozen 7; simp only [List.getElem?_toArray, List.getElem?_cons_zero, List.getElem?_cons_succ] at y0 y1 y2 y3 y4 y5 y6 y7)
  cases ok with
  | false =>
    rw [show codeOf false = 14 from rfl] at he4
    subst he4
    go_wp2_with fail
    have hfL : Fr (fun b => b = L) w4 (w4.setCell ⟨L, 7, none⟩ (.bool true)) := (Fr.refl (fun b => b = L) w4).set (p := ⟨L, 7, none⟩) (.inr rfl) _
    go_ret
    exact ⟨rfl, fun h => (by cases h), hd5.fr hfL (fun b hX e => by rw [e] at hX; exact hX.elim (fun h => hL h.1) (fun h => by omega)), (hF4.mono (T := fun b => X b ∨ b = L) (fun b _ hb => .inl hb)).trans hfL (fun b _ hb => .inr hb)⟩
  | true =>
    have hlx4' : Blk w4 w.heap.size 71 (logC H ⟨⟨life + 1, 1 - (half : Int), seq, life + 1⟩, seq + n, sn, false⟩).toArray := hlx4 rfl
    rw [show codeOf true = 0 from rfl] at he4
    subst he4
    go_upto_region 13 with fail
    have hb5 : Blk (w4.setCell ⟨L, 7, none⟩ (.bool false)) L 71 #[.pointer (some ⟨H, 0, none⟩), .int .i64 life, .int .i64 (half : Int), .int .i64 first, .int .i64 since, .int .i64 seq, .int .i64 (at_ : Int), .bool false] := hb4.put 7 _
    have hfL : Fr (fun b => b = L) w4 (w4.setCell ⟨L, 7, none⟩ (.bool false)) := (Fr.refl (fun b => b = L) w4).set (p := ⟨L, 7, none⟩) (.inr rfl) _
    clear y0 y1 y2 y3 y4 y5 y6 y7 yf0 yf1 yf2 yf3 yf4 yf5 yf6 yf7 hb4 hlx4
    generalize w4.setCell ⟨L, 7, none⟩ (.bool false) = w5 at *
    have hne : ¬ (w.heap.size = L) := by omega
    have hlx5 := hlx4'.fr hfL hne
    (have y0 := hb5.cell 0; have y1 := hb5.cell 1; have y2 := hb5.cell 2; have y3 := hb5.cell 3; have y4 := hb5.cell 4; have y5 := hb5.cell 5; have y6 := hb5.cell 6; have y7 := hb5.cell 7; have yf0 := hb5.frozen 0; have yf1 := hb5.frozen 1; have yf2 := hb5.frozen 2; have yf3 := hb5.frozen 3; have yf4 := hb5.frozen 4; have yf5 := hb5.frozen 5; have yf6 := hb5.frozen 6; have yf7 := hb5.frozen 7; simp only [List.getElem?_toArray, List.getElem?_cons_zero, List.getElem?_cons_succ] at y0 y1 y2 y3 y4 y5 y6 y7)
    go_wp2_with (first
      | (refine wpList_ldA ag_log rfl _ rfl ⟨w.heap.size, 0, none⟩ (logC H ⟨⟨life + 1, 1 - (half : Int), seq, life + 1⟩, seq + n, sn, false⟩) rfl rfl hlx5.all ?_)
      | (refine wpList_stA ag_log.info rfl _ _ rfl L 0 _ _ (logC H ⟨⟨life + 1, 1 - (half : Int), seq, life + 1⟩, seq + n, sn, false⟩) _ rfl rfl rfl rfl (by intro u hu; simp [logC] at hu; rcases hu with rfl | rfl | rfl | rfl | rfl | rfl | rfl | rfl <;> rfl) hb5 (Nat.le_refl 8) ?_; intro w6 hb6 hg6 hz6)
      | fail)
    rw [splice_all _ _ (by rfl)] at hb6
    have hf6 : Fr (fun b => b = L) w4 w6 := hfL.grown hg6 (fun q hq => by injection hq with hq; exact .inr hq.symm)
    go_ret
    exact ⟨rfl, fun _ => hb6, hd5.fr hf6 (fun b hX e => by rw [e] at hX; exact hX.elim (fun h => hL h.1) (fun h => by omega)), (hF4.mono (T := fun b => X b ∨ b = L) (fun b _ hb => .inl hb)).trans hf6 (fun b _ hb => .inr hb)⟩
end Go.Proofs.YtannkgglgmbkdaaDoor
