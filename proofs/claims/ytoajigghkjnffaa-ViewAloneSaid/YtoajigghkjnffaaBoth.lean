/- lapidarylaw12.both: a table of records, and the reference's. No condition but size. -/
import Derived.Test.YtoajigghkjnffaaRTabApply
import Derived.Test.YtoajigghkjnffaaTabApply
import Derived.Test.YtoajigghkjnffaaVwGiven
namespace Go.Proofs.Ytoajigghkjnffaa
set_option linter.unusedVariables false
set_option linter.unusedSimpArgs false
open Go.RowKit

def tabOf (l : List RecM) : TabM := l.foldl (fun t r => (applyM t r).1) tab0
def rtabOf (l : List RecM) : RTabM := l.foldl (fun t r => (rapplyM t r).1) rtab0
theorem tabOf_snoc (l : List RecM) (r : RecM) : tabOf (l ++ [r]) = (applyM (tabOf l) r).1 := by unfold tabOf; rw [List.foldl_append]; rfl
theorem rtabOf_snoc (l : List RecM) (r : RecM) : rtabOf (l ++ [r]) = (rapplyM (rtabOf l) r).1 := by unfold rtabOf; rw [List.foldl_append]; rfl
theorem applyM_n2 (t : TabM) (r : RecM) : (applyM t r).1.n ≤ t.n + 4096 := by
  cases hr : rightR r with
  | false => rw [applyM_bad hr]; exact Nat.le_add_right _ _
  | true =>
    have := applyM_n t r
    have := (rightR_four hr).2.2.1
    omega
theorem rapplyM_n (t : RTabM) (r : RecM) : (rapplyM t r).1.w.length ≤ t.w.length + 4096 ∧ (rapplyM t r).1.l.length ≤ t.l.length + 1 := by
  cases hr : rightR r with
  | false => rw [rapplyM_bad hr]; exact ⟨Nat.le_add_right _ _, Nat.le_add_right _ _⟩
  | true =>
    have h4 := (rightR_four hr).2.2.1
    by_cases h2 : r.commit ≤ t.en
    · rw [rapplyM_old hr h2]; exact ⟨Nat.le_add_right _ _, Nat.le_add_right _ _⟩
    · rw [rapplyM_yes hr h2]
      refine ⟨?_, ?_⟩
      · show (t.w ++ r.chs.map _).length ≤ _
        rw [List.length_append, List.length_map]; omega
      · show (t.l ++ [r]).length ≤ _
        simp
theorem tab0_ok : TabOk tab0 := by
  intro x
  exact ⟨List.Pairwise.nil, by intro v hv; exact absurd hv List.not_mem_nil, Nat.le_refl _, by intro v hv; exact absurd hv List.not_mem_nil⟩
theorem tabOf_ok : ∀ (l : List RecM) (t : TabM), TabOk t → TabOk (l.foldl (fun t r => (applyM t r).1) t)
  | [], t, h => h
  | r :: l, t, h => tabOf_ok l _ (applyM_ok h)
theorem RecC.len {w : World} {S : Nat → Prop} {cs : List Value} {r : RecM} (h : RecC w S cs r) : cs.length = 2 := by
  obtain ⟨_, _, rfl, _⟩ := h; rfl
theorem RecsC.at_ {w : World} {S : Nat → Prop} : ∀ {ts : List RecM} {xs : List Value} {k : Nat} (_ : RecsC w S xs ts) (hk : k < ts.length), ∃ cs, RecC w S cs ts[k] ∧ ∀ j u, cs[j]? = some u → xs[k * 2 + j]? = some u
  | [], _, _, _, hk => absurd hk (by simp)
  | t :: ts, xs, 0, ⟨cs, rest, e, hc, hr⟩, _ => ⟨cs, hc, fun j u hu => by
      subst e
      rw [Nat.zero_mul, Nat.zero_add, List.getElem?_append_left (List.getElem?_eq_some_iff.1 hu).1]; exact hu⟩
  | t :: ts, xs, k + 1, ⟨cs, rest, e, hc, hr⟩, hk => by
      obtain ⟨cs', hc', hj⟩ := RecsC.at_ (k := k) hr (by simpa using hk)
      refine ⟨cs', by simpa using hc', fun j u hu => ?_⟩
      subst e
      rw [List.getElem?_append_right (by rw [hc.len]; omega), hc.len, show (k + 1) * 2 + j - 2 = k * 2 + j by omega]
      exact hj j u hu
/-- A slice of records. -/
def RdRec (w : World) (S : Nat → Prop) (A : Option Addr) (ts : List RecM) : Prop := ∃ xs, Rd w S 2 A ts.length xs ∧ RecsC w S xs ts
theorem RdRec.fr {w w' : World} {S T : Nat → Prop} {A : Option Addr} {ts : List RecM} (h : RdRec w S A ts) (hf : Fr T w w') (hd : ∀ b, S b → ¬ T b) : RdRec w' S A ts := by
  obtain ⟨xs, h1, h2⟩ := h; exact ⟨xs, h1.fr hf hd, h2.keep hf hd⟩
theorem RdRec.fr0 {w w' : World} {S : Nat → Prop} {A : Option Addr} {ts : List RecM} (h : RdRec w S A ts) (hf : Fr No w w') : RdRec w' S A ts := h.fr hf (fun _ _ hn => hn)
theorem RdRec.le {w : World} {S : Nat → Prop} {A : Option Addr} {ts : List RecM} (h : RdRec w S A ts) : ts.length ≤ 211106232532992 := by
  obtain ⟨xs, h1, _⟩ := h; exact h1.le
theorem RdRec.at_ {w : World} {S : Nat → Prop} {A : Option Addr} {ts : List RecM} (h : RdRec w S A ts) {k : Nat} (hk : k < ts.length) :
    ∃ g o cs, A = some ⟨g, o, none⟩ ∧ RecC w S cs ts[k] ∧ (∀ j u, cs[j]? = some u → w.cell? ((⟨g, o + k * 2, none⟩ : Addr).add j) = some u) ∧ cs.length = 2 := by
  obtain ⟨xs, h1, h2⟩ := h
  obtain ⟨g, o, hA, hS, hc⟩ := h1.plain (by omega) (by decide)
  obtain ⟨cs, hcs, hj⟩ := h2.at_ hk
  exact ⟨g, o, cs, hA, hcs, addr5 _ _ _ (fun j u hu => by have := hc _ u (hj j u hu); rwa [← Nat.add_assoc] at this), hcs.len⟩
theorem take_snocR (l : List RecM) (k : Nat) (h : k < l.length) : l.take (k + 1) = l.take k ++ [l[k]] := by
  rw [List.take_succ_eq_append_getElem h]
set_option maxHeartbeats 4000000 in
set_option maxRecDepth 100000 in
theorem both_calls (S : Nat → Prop) (A : Option Addr) (c : Nat) (l : List RecM) (w : World) (h : RdRec w S A l) (hS : ∀ b, S b → b < w.heap.size) (ok : ∀ r ∈ l, RecOk r) :
    Calls Try.prog 15 #[.slice A l.length c] w fun e w' => ∃ (p q : Nat) (T O T2 O2 : Nat → Prop), e = .returned (.tuple #[.pointer (some ⟨p, 0, none⟩), .pointer (some ⟨q, 0, none⟩)]) ∧ TabAt w' T O p (tabOf (l.take 12)) ∧ RTabAt w' T2 O2 q (rtabOf (l.take 12)) ∧
      (∀ b, T b ∨ O b ∨ T2 b ∨ O2 b → w.heap.size ≤ b) ∧ (∀ b, T b → ¬ T2 b ∧ ¬ O2 b) ∧ (∀ b, T2 b → ¬ O b) ∧ Fr No w w' := by
  have hle := h.le
  have HOK := Lib.hid ok
  clear ok
  go_enter Try.func15, Try.ntmps15
  go_wp2_with fail
  refine (tnew_calls _).mono ?_
  rintro e w1 ⟨p, rfl, hT1, hf1⟩
  go_wp2_with fail
  refine (rnew_calls _).mono ?_
  rintro e w2 ⟨q, rfl, hR2, hf2⟩
  have hT2 := hT1.fr0 hf2
  have hF2 := hf1.tr hf2
  have hz1 := hf1.size
  have hz2 := hf2.size
  clear hT1
  go_wp2_with fail
  go_loopw [6] (fun i wr => ∃ (k : Nat) (T O T2 O2 : Nat → Prop), k ≤ l.length ∧ k ≤ 12 ∧ i = .int .i64 (k : Int) ∧ TabAt wr T O p (tabOf (l.take k)) ∧ RTabAt wr T2 O2 q (rtabOf (l.take k)) ∧ (tabOf (l.take k)).n ≤ k * 4096 ∧ (rtabOf (l.take k)).w.length ≤ k * 4096 ∧ (rtabOf (l.take k)).l.length ≤ k ∧
      (∀ b, T b ∨ O b ∨ T2 b ∨ O2 b → w.heap.size ≤ b) ∧ (∀ b, T b → ¬ T2 b ∧ ¬ O2 b) ∧ (∀ b, T2 b → ¬ O b) ∧ Fr No w wr) (fun i _ => l.length - (intOf i).toNat)
  case atStart =>
    refine ⟨0, _, _, _, _, by omega, by omega, rfl, hT2, hR2, Nat.le_refl _, Nat.le_refl _, Nat.le_refl _, ?_, ?_, ?_, hF2⟩
    · rintro b (hb | hb | hb | hb)
      · exact hb.1
      · exact hb.elim
      · omega
      · exact hb.elim
    · exact fun b hb => ⟨by omega, fun hn => hn⟩
    · exact fun b hb hn => hn
  case round =>
    obtain ⟨k, T, O, T2, O2, hk, hk12, rfl, hT, hR, hn1, hn2, hn3, hall, hd1, hd2, hf⟩ := hrel
    by_cases hlt : k < l.length
    · have ek : decide ((k : Int) < l.length) = true := by simpa using (by omega : (k : Int) < l.length)
      by_cases h12 : k < 12
      · have ek2 : decide ((k : Int) < 12) = true := by simpa using (by omega : (k : Int) < 12)
        obtain ⟨g, o, cs, rfl, hcs, hcell, hcl⟩ := (h.fr0 hf).at_ hlt
        have hok := HOK.out _ (List.getElem_mem hlt)
        have HT := Lib.hid (take_snocR l k hlt)
        generalize l[k] = r at *
        go_wp2_with (first
          | (refine wpList_ldA ag_recr rfl _ rfl ⟨g, o + k * 2, none⟩ cs rfl hcl hcell ?_)
          | fail)
        refine (given12_calls S cs r _ hcs hok).mono ?_
        rintro e w3 ⟨cs3, rfl, hr3, hf3⟩
        have hT3 := hT.fr0 hf3
        have hR3 := hR.fr0 hf3
        have hz3 := hf3.size
        have hRl := hR.lt
        have hTl := hT.lt
        go_wp2_with fail
        refine (tapply_calls _ T O _ p _ cs3 r hT3 hr3 (fun b hb hTb => by have := hTl.1 b hTb; omega) (by omega)).mono ?_
        rintro e w4 ⟨rfl, T', O', hT4, hT', hO', hf4⟩
        have hF4 : Fr No w w4 := (hf.tr hf3).trans hf4 (fun b hb hTb => by have := hall b (.inl hTb); omega)
        have hz4 := hf4.size
        have hR4 := hR3.fr hf4 (fun b hb hTb => (hd1 b hTb).1 hb) (fun b hb hTb => (hd1 b hTb).2 hb)
        have hcell4 : ∀ j u, cs[j]? = some u → w4.cell? ((⟨g, o + k * 2, none⟩ : Addr).add j) = some u := fun j u hu => by
          have h1 := hcell j u hu
          refine hf4.cell_some (hf3.cell_some h1 (fun hn => hn)) (fun hTb => ?_)
          rw [block_of_add] at hTb
          have h2 := hall _ (.inl hTb)
          obtain ⟨g', o', cs', hA', hcs', hcell', hcl'⟩ := h.at_ hlt
          injection hA' with hA'
          injection hA' with e1 e2
          subst e1 e2
          have hb0 := World.block_lt_of_cell? w _ (hcell' 0 _ (List.getElem?_eq_getElem (by omega)))
          rw [block_of_add] at hb0
          simp only at hb0 h2
          omega
        have hcs4 := (hcs.fr0 hf3).fr hf4 (fun b hb hTb => by have := hS b hb; have := hall b (.inl hTb); omega)
        go_wp2_with (first
          | (refine wpList_ldA ag_recr rfl _ rfl ⟨g, o + k * 2, none⟩ cs rfl hcl hcell4 ?_)
          | fail)
        refine (rapply_calls _ T2 O2 S q _ cs r hR4 hcs4 (fun b hb hTb => by have := hS b hb; have := hall b (.inr (.inr (.inl hTb))); omega) (by omega) (by omega)).mono ?_
        rintro e w5 ⟨rfl, T2', O2', hR5, hT2', hO2', hf5⟩
        have hF5 : Fr No w w5 := hF4.trans hf5 (fun b hb hTb => by have := hall b (.inr (.inr (.inl hTb))); omega)
        have hT4l := hT4.lt
        have hT5 := hT4.fr hf5 (fun b hb hTb => by
          rcases hT' b hb with h9 | h9
          · exact (hd1 b h9).1 hTb
          · have := hRl.1 b hTb; omega) (fun b hb hTb => by
          rcases hO' b hb with h9 | h9
          · exact hd2 b hTb h9
          · have := hRl.1 b hTb; omega)
        have ha1 := applyM_n2 (tabOf (l.take k)) r
        have ha2 := rapplyM_n (rtabOf (l.take k)) r
        have hwz := hf.size
        go_wp2_with fail
        go_roundw
        case rel =>
          refine ⟨k + 1, T', O', T2', O2', by omega, by omega, by go_num, by rw [HT.out, tabOf_snoc]; exact hT5, by rw [HT.out, rtabOf_snoc]; exact hR5, by rw [HT.out, tabOf_snoc]; omega, by rw [HT.out, rtabOf_snoc]; omega, by rw [HT.out, rtabOf_snoc]; omega, ?_, ?_, ?_, hF5⟩
          · rintro b (hb | hb | hb | hb)
            · rcases hT' b hb with h9 | h9
              · exact hall b (.inl h9)
              · omega
            · rcases hO' b hb with h9 | h9
              · exact hall b (.inr (.inl h9))
              · omega
            · rcases hT2' b hb with h9 | h9
              · exact hall b (.inr (.inr (.inl h9)))
              · omega
            · rcases hO2' b hb with h9 | h9
              · exact hall b (.inr (.inr (.inr h9)))
              · omega
          · intro b hb
            have hbl := hT4l.1 b hb
            refine ⟨fun h8 => ?_, fun h8 => ?_⟩
            · rcases hT2' b h8 with h9 | h9
              · rcases hT' b hb with h7 | h7
                · exact (hd1 b h7).1 h9
                · have := hRl.1 b h9; omega
              · omega
            · rcases hO2' b h8 with h9 | h9
              · rcases hT' b hb with h7 | h7
                · exact (hd1 b h7).2 h9
                · have := hRl.2.1 b h9; omega
              · omega
          · intro b hb h8
            have hbl := hT4l.2.1 b h8
            rcases hT2' b hb with h9 | h9
            · rcases hO' b h8 with h7 | h7
              · exact hd2 b h9 h7
              · have := hRl.1 b h9; omega
            · omega
        case measure => simp [intOf]; omega
      · obtain rfl : k = 12 := by omega
        have ek2 : decide ((12 : Int) < 12) = false := by decide
        go_wp2
        go_ret2
        exact ⟨p, q, T, O, T2, O2, rfl, hT, hR, hall, hd1, hd2, hf⟩
    · obtain rfl : k = l.length := by omega
      have ek : decide ((l.length : Int) < l.length) = false := by simp
      go_wp2
      go_ret2
      have e12 : l.take 12 = l.take l.length := by rw [List.take_of_length_le (by omega), List.take_length]
      exact ⟨p, q, T, O, T2, O2, rfl, by rw [e12]; exact hT, by rw [e12]; exact hR, hall, hd1, hd2, hf⟩
end Go.Proofs.Ytoajigghkjnffaa
