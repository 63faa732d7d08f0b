/- Lists of records in memory. No condition. -/
import Derived.Test.YtifcnjebepipnaaCh
namespace Go.Proofs.Ytifcnjebepipnaa
set_option linter.unusedVariables false
set_option linter.unusedSimpArgs false
open Go.RowKit

/-- Cells, two by two, that read as records. -/
def RecsC (w : World) (S : Nat → Prop) : List Value → List RecM → Prop
  | xs, [] => xs = []
  | xs, t :: ts => ∃ cs rest, xs = cs ++ rest ∧ RecC w S cs t ∧ RecsC w S rest ts
theorem RecsC.keep {w w' : World} {S T : Nat → Prop} (hf : Fr T w w') (hd : ∀ b, S b → ¬ T b) : ∀ {ts : List RecM} {xs : List Value}, RecsC w S xs ts → RecsC w' S xs ts
  | [], _, h => h
  | t :: ts, _, ⟨cs, rest, e, hc, hr⟩ => ⟨cs, rest, e, hc.fr hf hd, RecsC.keep hf hd hr⟩
theorem RecsC.mono {w : World} {S T : Nat → Prop} (hS : ∀ b, b < w.heap.size → S b → T b) : ∀ {ts : List RecM} {xs : List Value}, RecsC w S xs ts → RecsC w T xs ts
  | [], _, h => h
  | t :: ts, _, ⟨cs, rest, e, hc, hr⟩ => ⟨cs, rest, e, hc.mono hS, RecsC.mono hS hr⟩
theorem RecsC.snoc {w : World} {S : Nat → Prop} {cs : List Value} {c : RecM} (hc : RecC w S cs c) : ∀ {ts : List RecM} {xs : List Value}, RecsC w S xs ts → RecsC w S (xs ++ cs) (ts ++ [c])
  | [], _, h => by rw [h]; exact ⟨cs, [], by simp, hc, rfl⟩
  | t :: ts, _, ⟨c0, rest, e, h0, hr⟩ => ⟨c0, rest ++ cs, by rw [e, List.append_assoc], h0, RecsC.snoc hc hr⟩
theorem RecC.len {w : World} {S : Nat → Prop} {cs : List Value} {r : RecM} (h : RecC w S cs r) : cs.length = 2 := by
  obtain ⟨_, _, rfl, _⟩ := h; rfl
theorem RecsC.at_ {w : World} {S : Nat → Prop} : ∀ {ts : List RecM} {xs : List Value} {k : Nat} (_ : RecsC w S xs ts) (hk : k < ts.length), ∃ cs, RecC w S cs ts[k] ∧ ∀ j u, cs[j]? = some u → xs[k * 2 + j]? = some u
  | [], _, _, _, hk => absurd hk (by simp)
  | t :: ts, xs, 0, ⟨cs, rest, e, hc, hr⟩, _ => ⟨cs, hc, fun j u hu => by
      subst e
      rw [Nat.zero_mul, Nat.zero_add, List.getElem?_append_left (List.getElem?_eq_some_iff.1 hu).1]; exact hu⟩
  | t :: ts, xs, k + 1, ⟨cs, rest, e, hc, hr⟩, hk => by
      obtain ⟨cs', hc', hj⟩ := RecsC.at_ (k := k) hr (by simpa using hk)
      refine ⟨cs', by simpa using hc', fun j u hu => ?_⟩
      subst e
      rw [List.getElem?_append_right (by rw [hc.len]; omega), hc.len, show (k + 1) * 2 + j - 2 = k * 2 + j by omega]
      exact hj j u hu
/-- A slice of records. -/
def RdRec (w : World) (S : Nat → Prop) (A : Option Addr) (ts : List RecM) : Prop := ∃ xs, Rd w S 2 A ts.length xs ∧ RecsC w S xs ts
theorem RdRec.fr {w w' : World} {S T : Nat → Prop} {A : Option Addr} {ts : List RecM} (h : RdRec w S A ts) (hf : Fr T w w') (hd : ∀ b, S b → ¬ T b) : RdRec w' S A ts := by
  obtain ⟨xs, h1, h2⟩ := h; exact ⟨xs, h1.fr hf hd, h2.keep hf hd⟩
theorem RdRec.fr0 {w w' : World} {S : Nat → Prop} {A : Option Addr} {ts : List RecM} (h : RdRec w S A ts) (hf : Fr No w w') : RdRec w' S A ts := h.fr hf (fun _ _ hn => hn)
theorem RdRec.le {w : World} {S : Nat → Prop} {A : Option Addr} {ts : List RecM} (h : RdRec w S A ts) : ts.length ≤ 211106232532992 := by
  obtain ⟨xs, h1, _⟩ := h; exact h1.le
theorem RdRec.at_ {w : World} {S : Nat → Prop} {A : Option Addr} {ts : List RecM} (h : RdRec w S A ts) {k : Nat} (hk : k < ts.length) :
    ∃ g o cs, A = some ⟨g, o, none⟩ ∧ RecC w S cs ts[k] ∧ (∀ j u, cs[j]? = some u → w.cell? ((⟨g, o + k * 2, none⟩ : Addr).add j) = some u) ∧ cs.length = 2 := by
  obtain ⟨xs, h1, h2⟩ := h
  obtain ⟨g, o, hA, hS, hc⟩ := h1.plain (by omega) (by decide)
  obtain ⟨cs, hcs, hj⟩ := h2.at_ hk
  exact ⟨g, o, cs, hA, hcs, addr5 _ _ _ (fun j u hu => by have := hc _ u (hj j u hu); rwa [← Nat.add_assoc] at this), hcs.len⟩
theorem take_snocR (l : List RecM) (k : Nat) (h : k < l.length) : l.take (k + 1) = l.take k ++ [l[k]] := by
  rw [List.take_succ_eq_append_getElem h]
end Go.Proofs.Ytifcnjebepipnaa
