/- Lists of acts (chapter 12) in memory. No condition. -/
import Derived.Test.YtoajigghkjnffaaBoth
namespace Go.Proofs.Ytoajigghkjnffaa
set_option linter.unusedVariables false
set_option linter.unusedSimpArgs false
open Go.RowKit

structure ActM where
  kind : Int
  oop : Int
  o : ObjM
  r : RecM
abbrev tAct : TypeId := 52
theorem ag_act : AggOf Try.prog tAct 7 := ⟨⟨_, Try.underlying52, rfl⟩, by kernel_rfl⟩
def ActC (w : World) (S : Nat → Prop) (cs : List Value) (a : ActM) : Prop :=
  ∃ A c D d E e, cs = [.int .i64 a.kind, .int .i64 a.oop, .int .i64 a.o.cls, .slice A a.o.slots.length c, .slice D a.o.bytes.length d, .int .i64 a.r.commit, .slice E a.r.chs.length e] ∧ RdV w S A a.o.slots ∧ RdB w S D a.o.bytes ∧ RdCh w S E a.r.chs
theorem ActC.len {w : World} {S : Nat → Prop} {cs : List Value} {a : ActM} (h : ActC w S cs a) : cs.length = 7 := by
  obtain ⟨A, c, D, d, E, e, rfl, _⟩ := h; rfl
theorem ActC.fr {w w' : World} {S T : Nat → Prop} {cs : List Value} {a : ActM} (h : ActC w S cs a) (hf : Fr T w w') (hd : ∀ b, S b → ¬ T b) : ActC w' S cs a := by
  obtain ⟨A, c, D, d, E, e, rfl, h1, h2, h3⟩ := h
  exact ⟨A, c, D, d, E, e, rfl, Rd.fr h1 hf hd, Rd.fr h2 hf hd, h3.fr hf hd⟩
def ActsC (w : World) (S : Nat → Prop) : List Value → List ActM → Prop
  | xs, [] => xs = []
  | xs, t :: ts => ∃ cs rest, xs = cs ++ rest ∧ ActC w S cs t ∧ ActsC w S rest ts
theorem ActsC.fr {w w' : World} {S T : Nat → Prop} (hf : Fr T w w') (hd : ∀ b, S b → ¬ T b) : ∀ {ts : List ActM} {xs : List Value}, ActsC w S xs ts → ActsC w' S xs ts
  | [], _, h => h
  | t :: ts, _, ⟨cs, rest, e, hc, hr⟩ => ⟨cs, rest, e, hc.fr hf hd, ActsC.fr hf hd hr⟩
theorem ActsC.at_ {w : World} {S : Nat → Prop} : ∀ {ts : List ActM} {xs : List Value} {k : Nat} (_ : ActsC w S xs ts) (hk : k < ts.length), ∃ cs, ActC w S cs ts[k] ∧ ∀ j u, cs[j]? = some u → xs[k * 7 + j]? = some u
  | t :: ts, _, 0, ⟨cs, rest, e, hc, hr⟩, _ => ⟨cs, hc, fun j u hu => by
      obtain ⟨hj, _⟩ := List.getElem?_eq_some_iff.1 hu
      rw [e, Nat.zero_mul, Nat.zero_add, List.getElem?_append_left hj]; exact hu⟩
  | t :: ts, _, k + 1, ⟨cs, rest, e, hc, hr⟩, hk => by
    obtain ⟨cs', h1, h2⟩ := ActsC.at_ hr (k := k) (by simpa using hk)
    refine ⟨cs', by simpa using h1, fun j u hu => ?_⟩
    have hl := hc.len
    rw [e, List.getElem?_append_right (by omega), hl, show (k + 1) * 7 + j - 7 = k * 7 + j by omega]
    exact h2 j u hu
def RdAct (w : World) (S : Nat → Prop) (A : Option Addr) (ts : List ActM) : Prop := ∃ xs, Rd w S 7 A ts.length xs ∧ ActsC w S xs ts
theorem RdAct.fr {w w' : World} {S T : Nat → Prop} {A : Option Addr} {ts : List ActM} (h : RdAct w S A ts) (hf : Fr T w w') (hd : ∀ b, S b → ¬ T b) : RdAct w' S A ts := by
  obtain ⟨xs, h1, h2⟩ := h; exact ⟨xs, h1.fr hf hd, h2.fr hf hd⟩
theorem RdAct.fr0 {w w' : World} {S : Nat → Prop} {A : Option Addr} {ts : List ActM} (h : RdAct w S A ts) (hf : Fr No w w') : RdAct w' S A ts := h.fr hf (fun _ _ hn => hn)
theorem RdAct.le {w : World} {S : Nat → Prop} {A : Option Addr} {ts : List ActM} (h : RdAct w S A ts) : ts.length ≤ 211106232532992 := by
  obtain ⟨xs, h1, h2⟩ := h; exact h1.2.1
theorem RdAct.at_ {w : World} {S : Nat → Prop} {A : Option Addr} {ts : List ActM} (h : RdAct w S A ts) {k : Nat} (hk : k < ts.length) :
    ∃ g o cs, A = some ⟨g, o, none⟩ ∧ S g ∧ ActC w S cs ts[k] ∧ ∀ j u, cs[j]? = some u → w.cell? ((⟨g, o + k * 7, none⟩ : Addr).add j) = some u := by
  obtain ⟨xs, h1, h2⟩ := h
  obtain ⟨g, o, hA, hS, hc⟩ := h1.plain (by omega) (by decide)
  obtain ⟨cs, hcs, hj⟩ := h2.at_ hk
  exact ⟨g, o, cs, hA, hS, hcs, addr5 _ _ _ (fun j u hu => by have := hc _ u (hj j u hu); rwa [← Nat.add_assoc] at this)⟩
def ActOk (a : ActM) : Prop := W64 a.oop ∧ (a.o.slots.length * 16 ≤ 140737488351232 ∧ a.o.bytes.length ≤ 140737488351232) ∧ RecOk a.r ∧ -9223372036854775808 ≤ a.kind ∧ a.kind ≤ 9223372036854775807
end Go.Proofs.Ytoajigghkjnffaa
