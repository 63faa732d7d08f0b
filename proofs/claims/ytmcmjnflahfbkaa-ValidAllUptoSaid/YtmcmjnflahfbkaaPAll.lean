/- What valid.All comes to, and that those stand as if each had run at once. No condition. -/
import Derived.Test.YtmcmjnflahfbkaaVSerial
namespace Go.Proofs.Ytmcmjnflahfbkaa
set_option linter.unusedVariables false
set_option linter.unusedSimpArgs false
open Go.RowKit Go.Maps

def accM (ds : List Txn) (t : Txn) : Bool := (checkM ds t).isNone && (decide (0 ≤ t.base) && decide (t.base ≤ 1099511627776))
def nextC (last : Int) (t : Txn) : Int := max last t.base + 1
def took (last : Int) (t : Txn) : Txn := ⟨t.base, nextC last t, t.reads, t.writes⟩
def stepA (s : List Txn × Int) (t : Txn) : List Txn × Int := if accM s.1 t = true then (s.1 ++ [took s.2 t], nextC s.2 t) else s
def allS (ts : List Txn) : List Txn × Int := ts.foldl stepA ([], 0)
theorem allS_snoc (ts : List Txn) (t : Txn) : allS (ts ++ [t]) = stepA (allS ts) t := by simp [allS, List.foldl_append]
/-- What the steps keep. -/
def InvA (s : List Txn × Int) : Prop := 0 ≤ s.2 ∧ (∀ d ∈ s.1, d.commit ≤ s.2) ∧ ∀ d ∈ s.1, clashes s.1 d (betw d) = []
theorem clashes_app2 (a b : List Txn) (t : Txn) (p : Int → Bool) : clashes (a ++ b) t p = clashes a t p ++ clashes b t p := by
  unfold clashes; rw [List.filter_append, List.flatMap_append]
theorem clashes_none1 (d t : Txn) (p : Int → Bool) (h : p d.commit = false) : clashes [d] t p = [] := by
  unfold clashes; simp [List.filter_cons, h]
theorem clashes_less {ts : List Txn} {t : Txn} {p q : Int → Bool} (hpq : ∀ c, q c = true → p c = true) (h : clashes ts t p = []) : clashes ts t q = [] := by
  induction ts with
  | nil => rfl
  | cons d ts ih =>
    rw [show d :: ts = [d] ++ ts from rfl, clashes_app2] at h ⊢
    obtain ⟨h1, h2⟩ := List.append_eq_nil_iff.1 h
    rw [ih h2, List.append_nil]
    by_cases hq : q d.commit = true
    · have hp := hpq _ hq
      unfold clashes at h1 ⊢
      simpa [List.filter_cons, hp, hq] using h1
    · exact clashes_none1 d t q (by simpa using hq)
theorem minL_nil_of {l : List Int} (h : minL l = none) : l = [] := minL_none.1 h
theorem stepA_inv {s : List Txn × Int} (t : Txn) (h : InvA s) : InvA (stepA s t) := by
  unfold stepA
  split
  · rename_i hacc
    obtain ⟨h0, h1, h2⟩ := h
    simp only [accM, Bool.and_eq_true, decide_eq_true_eq, Option.isNone_iff_eq_none] at hacc
    obtain ⟨hq, hb0, hb1⟩ := hacc
    have hgt : s.2 < nextC s.2 t := by unfold nextC; omega
    have hcl : clashes s.1 t (sinceP t.base) = [] := minL_nil_of hq
    refine ⟨by simp only; unfold nextC; omega, fun d hd => ?_, fun d hd => ?_⟩
    · simp only at hd ⊢
      rcases List.mem_append.1 hd with hd | hd
      · have := h1 d hd; omega
      · obtain rfl := List.mem_singleton.1 hd
        exact Int.le_refl _
    · simp only at hd ⊢
      rw [clashes_app2]
      rcases List.mem_append.1 hd with hd | hd
      · rw [h2 d hd, List.nil_append]
        refine clashes_none1 _ _ _ ?_
        have := h1 d hd
        show (decide (d.base < nextC s.2 t) && decide (nextC s.2 t < d.commit)) = false
        rw [show decide (nextC s.2 t < d.commit) = false from decide_eq_false (by omega), Bool.and_false]
      · obtain rfl := List.mem_singleton.1 hd
        rw [clashes_none1 (took s.2 t) (took s.2 t) _ (by simp [betw]), List.append_nil]
        have h3 : clashes s.1 (took s.2 t) (betw (took s.2 t)) = clashes s.1 t (betw (took s.2 t)) := rfl
        rw [h3]
        refine clashes_less (p := sinceP t.base) (fun c hc => ?_) hcl
        simp only [betw, took, Bool.and_eq_true] at hc
        exact hc.1
  · exact h
/-- What is known of it for the walk. -/
def BndA (ts : List Txn) (k : Nat) (s : List Txn × Int) : Prop := InvA s ∧ s.2 ≤ 1099511627776 + k ∧ s.1.length ≤ k ∧ bulkT s.1 ≤ bulkT (ts.take k) ∧ ∀ d ∈ s.1, TxnOk d
theorem bnd_start (ts : List Txn) : BndA ts 0 ([], 0) := ⟨⟨by simp, by simp, by simp⟩, by simp, by simp, by simp, by simp⟩
theorem bnd_step {ts : List Txn} {k : Nat} {s : List Txn × Int} (hk : k < ts.length) (ok : ∀ d ∈ ts, TxnOk d) (h : BndA ts k s) : BndA ts (k + 1) (stepA s ts[k]) := by
  obtain ⟨h1, h2, h3, h4, h5⟩ := h
  have htk : ts.take (k + 1) = ts.take k ++ [ts[k]] := by rw [List.take_add_one, List.getElem?_eq_getElem hk]; rfl
  refine ⟨stepA_inv _ h1, ?_⟩
  rw [htk, bulkT_app]
  unfold stepA
  split
  · rename_i hacc
    simp only [accM, Bool.and_eq_true, decide_eq_true_eq] at hacc
    refine ⟨by simp only; unfold nextC; omega, by simp; omega, ?_, fun d hd => ?_⟩
    · simp only; rw [bulkT_app]
      have : bulkT [took s.2 ts[k]] = bulkT [ts[k]] := by simp [bulkT, took]
      omega
    · rcases List.mem_append.1 hd with hd | hd
      · exact h5 d hd
      · obtain rfl := List.mem_singleton.1 hd
        have := ok _ (List.getElem_mem hk)
        exact ⟨this.1, this.2.1, this.2.2.1, this.2.2.2⟩
  · exact ⟨by omega, by omega, by omega, h5⟩
theorem serM_all {all : List Txn} : ∀ (r : List Txn) (i : Nat), (∀ d ∈ r, clashes all d (betw d) = []) → serM all r i = (i + r.length, 0, true)
  | [], i, _ => rfl
  | d :: r, i, h => by
    rw [serM_miss (by rw [h d (by simp)]; rfl), serM_all r (i + 1) (fun x hx => h x (by simp [hx]))]
    simp; omega
theorem serM_inv {s : List Txn × Int} (h : InvA s) : serM s.1 s.1 0 = (s.1.length, 0, true) := by
  rw [serM_all s.1 0 h.2.2]; simp
end Go.Proofs.Ytmcmjnflahfbkaa
