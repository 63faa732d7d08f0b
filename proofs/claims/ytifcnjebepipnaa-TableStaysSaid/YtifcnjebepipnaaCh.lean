/- Changes and records in memory. No condition. -/
import Derived.Test.YtifcnjebepipnaaOCopy
import Derived.Test.YtifcnjebepipnaaPRec
namespace Go.Proofs.Ytifcnjebepipnaa
set_option linter.unusedVariables false
set_option linter.unusedSimpArgs false
open Go.RowKit

/-- A change's five cells. -/
def ChC (w : World) (S : Nat → Prop) (cs : List Value) (c : ChM) : Prop :=
  ∃ A n D m, cs = [.int .i64 c.oop, .bool c.gone, .int .i64 c.obj.cls, .slice A c.obj.slots.length n, .slice D c.obj.bytes.length m] ∧ RdV w S A c.obj.slots ∧ RdB w S D c.obj.bytes
theorem ChC.len {w : World} {S : Nat → Prop} {cs : List Value} {c : ChM} (h : ChC w S cs c) : cs.length = 5 := by
  obtain ⟨_, _, _, _, rfl, _, _⟩ := h; rfl
theorem ChC.one {w : World} {S : Nat → Prop} {cs : List Value} {c : ChM} (h : ChC w S cs c) : ∀ u ∈ cs, u.oneCell' = true := by
  obtain ⟨_, _, _, _, rfl, _, _⟩ := h
  intro u hu; simp at hu; rcases hu with rfl | rfl | rfl | rfl | rfl <;> rfl
theorem ChC.keep {w w' : World} {S T : Nat → Prop} {cs : List Value} {c : ChM} (h : ChC w S cs c) (hf : Fr T w w') (hd : ∀ b, S b → ¬ T b) : ChC w' S cs c := by
  obtain ⟨A, n, D, m, e, h1, h2⟩ := h; exact ⟨A, n, D, m, e, Rd.fr h1 hf hd, Rd.fr h2 hf hd⟩
theorem ChC.mono {w : World} {S T : Nat → Prop} {cs : List Value} {c : ChM} (h : ChC w S cs c) (hS : ∀ b, b < w.heap.size → S b → T b) : ChC w T cs c := by
  obtain ⟨A, n, D, m, e, h1, h2⟩ := h; exact ⟨A, n, D, m, e, Rd.mono h1 hS (by decide), Rd.mono h2 hS (by decide)⟩
theorem ChC.lt {w : World} {S : Nat → Prop} {cs : List Value} {c : ChM} (h : ChC w S cs c) : ChC w (fun b => S b ∧ b < w.heap.size) cs c := by
  obtain ⟨A, n, D, m, e, h1, h2⟩ := h; exact ⟨A, n, D, m, e, Rd.lt h1 (by decide), Rd.lt h2 (by decide)⟩
theorem ChC.obj {w : World} {S : Nat → Prop} {cs : List Value} {c : ChM} (h : ChC w S cs c) : ∃ oc, cs = .int .i64 c.oop :: .bool c.gone :: oc ∧ ObjC w S oc c.obj := by
  obtain ⟨A, n, D, m, e, h1, h2⟩ := h; exact ⟨_, e, A, n, D, m, rfl, h1, h2⟩
/-- Cells, five by five, that read as changes. -/
def ChsC (w : World) (S : Nat → Prop) : List Value → List ChM → Prop
  | xs, [] => xs = []
  | xs, t :: ts => ∃ cs rest, xs = cs ++ rest ∧ ChC w S cs t ∧ ChsC w S rest ts
theorem ChsC.keep {w w' : World} {S T : Nat → Prop} (hf : Fr T w w') (hd : ∀ b, S b → ¬ T b) : ∀ {ts : List ChM} {xs : List Value}, ChsC w S xs ts → ChsC w' S xs ts
  | [], _, h => h
  | t :: ts, _, ⟨cs, rest, e, hc, hr⟩ => ⟨cs, rest, e, hc.keep hf hd, ChsC.keep hf hd hr⟩
theorem ChsC.mono {w : World} {S T : Nat → Prop} (hS : ∀ b, b < w.heap.size → S b → T b) : ∀ {ts : List ChM} {xs : List Value}, ChsC w S xs ts → ChsC w T xs ts
  | [], _, h => h
  | t :: ts, _, ⟨cs, rest, e, hc, hr⟩ => ⟨cs, rest, e, hc.mono hS, ChsC.mono hS hr⟩
theorem ChsC.lt {w : World} {S : Nat → Prop} : ∀ {ts : List ChM} {xs : List Value}, ChsC w S xs ts → ChsC w (fun b => S b ∧ b < w.heap.size) xs ts
  | [], _, h => h
  | t :: ts, _, ⟨cs, rest, e, hc, hr⟩ => ⟨cs, rest, e, hc.lt, ChsC.lt hr⟩
theorem ChsC.one {w : World} {S : Nat → Prop} : ∀ {ts : List ChM} {xs : List Value}, ChsC w S xs ts → ∀ u ∈ xs, u.oneCell' = true
  | [], _, h => by intro u hu; rw [h] at hu; cases hu
  | t :: ts, _, ⟨cs, rest, e, hc, hr⟩ => by
    intro u hu
    rw [e] at hu
    rcases List.mem_append.1 hu with hu | hu
    · exact hc.one u hu
    · exact ChsC.one hr u hu
theorem ChsC.snoc {w : World} {S : Nat → Prop} {cs : List Value} {c : ChM} (hc : ChC w S cs c) : ∀ {ts : List ChM} {xs : List Value}, ChsC w S xs ts → ChsC w S (xs ++ cs) (ts ++ [c])
  | [], _, h => by rw [h]; exact ⟨cs, [], by simp, hc, rfl⟩
  | t :: ts, _, ⟨c0, rest, e, h0, hr⟩ => ⟨c0, rest ++ cs, by rw [e, List.append_assoc], h0, ChsC.snoc hc hr⟩
theorem ChsC.at_ {w : World} {S : Nat → Prop} : ∀ {ts : List ChM} {xs : List Value} {k : Nat} (_ : ChsC w S xs ts) (hk : k < ts.length), ∃ cs, ChC w S cs ts[k] ∧ ∀ j u, cs[j]? = some u → xs[k * 5 + j]? = some u
  | [], _, _, _, hk => absurd hk (by simp)
  | t :: ts, xs, 0, ⟨cs, rest, e, hc, hr⟩, _ => ⟨cs, hc, fun j u hu => by
      subst e
      rw [Nat.zero_mul, Nat.zero_add, List.getElem?_append_left (List.getElem?_eq_some_iff.1 hu).1]; exact hu⟩
  | t :: ts, xs, k + 1, ⟨cs, rest, e, hc, hr⟩, hk => by
      obtain ⟨cs', hc', hj⟩ := ChsC.at_ (k := k) hr (by simpa using hk)
      refine ⟨cs', by simpa using hc', fun j u hu => ?_⟩
      subst e
      rw [List.getElem?_append_right (by rw [hc.len]; omega), hc.len, show (k + 1) * 5 + j - 5 = k * 5 + j by omega]
      exact hj j u hu
/-- A slice of changes. -/
def RdCh (w : World) (S : Nat → Prop) (A : Option Addr) (ts : List ChM) : Prop := ∃ xs, Rd w S 5 A ts.length xs ∧ ChsC w S xs ts
theorem RdCh.fr {w w' : World} {S T : Nat → Prop} {A : Option Addr} {ts : List ChM} (h : RdCh w S A ts) (hf : Fr T w w') (hd : ∀ b, S b → ¬ T b) : RdCh w' S A ts := by
  obtain ⟨xs, h1, h2⟩ := h; exact ⟨xs, h1.fr hf hd, h2.keep hf hd⟩
theorem RdCh.fr0 {w w' : World} {S : Nat → Prop} {A : Option Addr} {ts : List ChM} (h : RdCh w S A ts) (hf : Fr No w w') : RdCh w' S A ts := h.fr hf (fun _ _ hn => hn)
theorem RdCh.mono {w : World} {S T : Nat → Prop} {A : Option Addr} {ts : List ChM} (h : RdCh w S A ts) (hS : ∀ b, b < w.heap.size → S b → T b) : RdCh w T A ts := by
  obtain ⟨xs, h1, h2⟩ := h; exact ⟨xs, h1.mono hS (by decide), h2.mono hS⟩
theorem RdCh.lt {w : World} {S : Nat → Prop} {A : Option Addr} {ts : List ChM} (h : RdCh w S A ts) : RdCh w (fun b => S b ∧ b < w.heap.size) A ts := by
  obtain ⟨xs, h1, h2⟩ := h; exact ⟨xs, h1.lt (by decide), h2.lt⟩
theorem RdCh.le {w : World} {S : Nat → Prop} {A : Option Addr} {ts : List ChM} (h : RdCh w S A ts) : ts.length ≤ 211106232532992 := by
  obtain ⟨xs, h1, _⟩ := h; exact h1.le
theorem RdCh.nil_ {w : World} {S : Nat → Prop} {A : Option Addr} : RdCh w S A [] := ⟨[], Rd.nil_, rfl⟩
/-- The k-th change's five cells. -/
theorem RdCh.at_ {w : World} {S : Nat → Prop} {A : Option Addr} {ts : List ChM} (h : RdCh w S A ts) {k : Nat} (hk : k < ts.length) :
    ∃ g o Av n D m, A = some ⟨g, o, none⟩ ∧ S g ∧ (∀ j u, [Value.int .i64 ts[k].oop, .bool ts[k].gone, .int .i64 ts[k].obj.cls, .slice Av ts[k].obj.slots.length n, .slice D ts[k].obj.bytes.length m][j]? = some u → w.cell? ⟨g, o + k * 5 + j, none⟩ = some u) ∧ RdV w S Av ts[k].obj.slots ∧ RdB w S D ts[k].obj.bytes := by
  obtain ⟨xs, h1, h2⟩ := h
  obtain ⟨g, o, hA, hS, hc⟩ := h1.plain (by omega) (by decide)
  obtain ⟨cs, ⟨Av, n, D, m, rfl, hr, hw⟩, hj⟩ := h2.at_ hk
  exact ⟨g, o, Av, n, D, m, hA, hS, fun j u hu => by have := hc _ u (hj j u hu); rwa [← Nat.add_assoc] at this, hr, hw⟩
theorem addr5 (g a : Nat) (cs : List Value) {w : World} (h : ∀ j u, cs[j]? = some u → w.cell? ⟨g, a + j, none⟩ = some u) : ∀ j u, cs[j]? = some u → w.cell? ((⟨g, a, none⟩ : Addr).add j) = some u := by
  intro j u hu
  have e : (⟨g, a, none⟩ : Addr).add j = ⟨g, a + j, none⟩ := by unfold Addr.add; split <;> simp_all
  rw [e]; exact h j u hu
/-- A record's two cells. -/
def RecC (w : World) (S : Nat → Prop) (cs : List Value) (r : RecM) : Prop := ∃ A c, cs = [.int .i64 r.commit, .slice A r.chs.length c] ∧ RdCh w S A r.chs
theorem RecC.fr {w w' : World} {S T : Nat → Prop} {cs : List Value} {r : RecM} (h : RecC w S cs r) (hf : Fr T w w') (hd : ∀ b, S b → ¬ T b) : RecC w' S cs r := by
  obtain ⟨A, c, e, h1⟩ := h; exact ⟨A, c, e, h1.fr hf hd⟩
theorem RecC.fr0 {w w' : World} {S : Nat → Prop} {cs : List Value} {r : RecM} (h : RecC w S cs r) (hf : Fr No w w') : RecC w' S cs r := h.fr hf (fun _ _ hn => hn)
theorem RecC.mono {w : World} {S T : Nat → Prop} {cs : List Value} {r : RecM} (h : RecC w S cs r) (hS : ∀ b, b < w.heap.size → S b → T b) : RecC w T cs r := by
  obtain ⟨A, c, e, h1⟩ := h; exact ⟨A, c, e, h1.mono hS⟩
theorem RecC.lt {w : World} {S : Nat → Prop} {cs : List Value} {r : RecM} (h : RecC w S cs r) : RecC w (fun b => S b ∧ b < w.heap.size) cs r := by
  obtain ⟨A, c, e, h1⟩ := h; exact ⟨A, c, e, h1.lt⟩
/-- Changes that are gathered in a row of the call's own; what they hold is new too, and lies apart from the row. -/
def ChRow (w : World) (T : TypeId) (base : Nat) (v : Value) (l : List ChM) : Prop :=
  ∃ xs, w.ownsRow base T 5 v l.length xs ∧ ChsC w (fun b => base ≤ b ∧ ¬ v.ownBlock = some b) xs l
theorem ChRow.start (w : World) (T : TypeId) (base : Nat) : ChRow w T base (.slice none 0 0) [] := ⟨[], World.ownsRow_nil _ _ _ _, rfl⟩
theorem ChRow.fr {S : Nat → Prop} {w w' : World} {T : TypeId} {base : Nat} {v : Value} {l : List ChM} (h : ChRow w T base v l) (hf : Fr S w w') (hS : ∀ b, base ≤ b → ¬ S b) : ChRow w' T base v l := by
  obtain ⟨xs, h1, h2⟩ := h
  exact ⟨xs, own_fr h1 hf (fun b hb => hS b (h1.lt b hb).1), h2.keep hf (fun b hb => hS b hb.1)⟩
theorem ChRow.fr0 {w w' : World} {T : TypeId} {base : Nat} {v : Value} {l : List ChM} (h : ChRow w T base v l) (hf : Fr No w w') : ChRow w' T base v l := h.fr hf (fun _ _ hn => hn)
theorem ChRow.app {w w' : World} {T : TypeId} {base : Nat} {v v' : Value} {l : List ChM} {xs cs : List Value} {c : ChM} (hc : ChsC w (fun b => base ≤ b ∧ ¬ v.ownBlock = some b) xs l) (hx : ChC w (fun b => base ≤ b ∧ ¬ v.ownBlock = some b) cs c)
    (hown : w'.ownsRow base T 5 v' (l.length + 1) (xs ++ cs)) (hg : w.grownBy w' v.ownBlock) (hat : Hid (v'.ownBlock = v.ownBlock ∨ v'.ownBlock = some w.heap.size)) : ChRow w' T base v' (l ++ [c]) := by
  have h1 := (ChsC.snoc hx hc).lt
  have hf : Fr (fun b => v.ownBlock = some b) w w' := (Fr.refl _ w).grown hg (fun q hq => .inr hq)
  have h2 := h1.keep hf (fun b hb hT => hb.1.2 hT)
  refine ⟨xs ++ cs, by rw [List.length_append]; exact hown, h2.mono (fun b _ hb => ⟨hb.1.1, fun e => ?_⟩)⟩
  rcases hat.out with h3 | h3
  · exact hb.1.2 (h3 ▸ e)
  · rw [h3] at e; injection e with e; have := hb.2; omega
theorem ChRow.rd {w : World} {T : TypeId} {base c : Nat} {A : Option Addr} {l : List ChM} (h : ChRow w T base (.slice A l.length c) l) (hl : l.length ≤ 211106232532992) : RdCh w (fun b => base ≤ b) A l := by
  obtain ⟨xs, h1, h2⟩ := h
  obtain ⟨_, _, e, _, _, hA⟩ := own_form h1
  injection e with e1 e2 e3
  subst e1 e3
  exact ⟨xs, (own_rd h1 hl).mono (fun b _ hb => (h1.lt b ((hA b).2 hb)).1) (by decide), h2.mono (fun b _ hb => hb.1)⟩
end Go.Proofs.Ytifcnjebepipnaa
