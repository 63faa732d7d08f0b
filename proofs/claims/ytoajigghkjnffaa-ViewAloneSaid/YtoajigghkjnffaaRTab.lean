/- The reference's table in memory; New, Apply. No condition but size. -/
import Derived.Test.YtoajigghkjnffaaTabApply
import Derived.Test.YtoajigghkjnffaaRefCp
namespace Go.Proofs.Ytoajigghkjnffaa
set_option linter.unusedVariables false
set_option linter.unusedSimpArgs false
open Go.RowKit

structure RTabM where
  fr : Int
  en : Int
  base : List ChM
  l : List RecM
  w : List (Int × Int)
def rtab0 : RTabM := ⟨0, 0, [], [], []⟩
def pairs (l : List (Int × Int)) : List Value := l.flatMap fun p => [.int .i64 p.1, .int .i64 p.2]
theorem pairs_snoc (l : List (Int × Int)) (p : Int × Int) : pairs (l ++ [p]) = pairs l ++ [.int .i64 p.1, .int .i64 p.2] := by simp [pairs]
abbrev tChr : TypeId := 71
abbrev tRecr : TypeId := 50
abbrev tWhen : TypeId := 109
theorem so_chr : SliceOf Try.prog 48 tChr (.agg #[.int .i64 0, .bool false, .int .i64 0, .slice none 0 0, .slice none 0 0]) 5 72 := ⟨Try.underlying48, by kernel_rfl, rfl, by decide, by decide, by decide⟩
theorem so_recr : SliceOf Try.prog 32 tRecr (.agg #[.int .i64 0, .slice none 0 0]) 2 32 := ⟨Try.underlying32, by kernel_rfl, rfl, by decide, by decide, by decide⟩
theorem so_when : SliceOf Try.prog 56 tWhen (.agg #[.int .i64 0, .int .i64 0]) 2 16 := ⟨Try.underlying56, by kernel_rfl, rfl, by decide, by decide, by decide⟩
theorem plain_lwhen : ∀ w, (isAgg 56).run Try.prog w = .ok false w := plain_of Try.underlying56 rfl
theorem plain_lrecr : ∀ w, (isAgg 32).run Try.prog w = .ok false w := plain_of Try.underlying32 rfl
/-- Cells, two by two, that read as records. -/
def RecsC (w : World) (S : Nat → Prop) : List Value → List RecM → Prop
  | xs, [] => xs = []
  | xs, t :: ts => ∃ cs rest, xs = cs ++ rest ∧ RecC w S cs t ∧ RecsC w S rest ts
theorem RecsC.keep {w w' : World} {S T : Nat → Prop} (hf : Fr T w w') (hd : ∀ b, S b → ¬ T b) : ∀ {ts : List RecM} {xs : List Value}, RecsC w S xs ts → RecsC w' S xs ts
  | [], _, h => h
  | t :: ts, _, ⟨cs, rest, e, hc, hr⟩ => ⟨cs, rest, e, hc.fr hf hd, RecsC.keep hf hd hr⟩
theorem RecsC.mono {w : World} {S T : Nat → Prop} (hS : ∀ b, b < w.heap.size → S b → T b) : ∀ {ts : List RecM} {xs : List Value}, RecsC w S xs ts → RecsC w T xs ts
  | [], _, h => h
  | t :: ts, _, ⟨cs, rest, e, hc, hr⟩ => ⟨cs, rest, e, hc.mono hS, RecsC.mono hS hr⟩
theorem RecsC.snoc {w : World} {S : Nat → Prop} {cs : List Value} {c : RecM} (hc : RecC w S cs c) : ∀ {ts : List RecM} {xs : List Value}, RecsC w S xs ts → RecsC w S (xs ++ cs) (ts ++ [c])
  | [], _, h => by rw [h]; exact ⟨cs, [], by simp, hc, rfl⟩
  | t :: ts, _, ⟨c0, rest, e, h0, hr⟩ => ⟨c0, rest ++ cs, by rw [e, List.append_assoc], h0, RecsC.snoc hc hr⟩
structure RTabP (w : World) (T O : Nat → Prop) (q : Nat) (Bv Lv Wv : Value) (t : RTabM) : Prop where
  blk : Blk w q 58 #[.int .i64 t.fr, .int .i64 t.en, Bv, Lv, Wv]
  base : ∃ A c, Bv = .slice A t.base.length c ∧ RdCh w O A t.base
  lrow : ∃ xs, w.ownsRow 0 tRecr 2 Lv t.l.length xs ∧ RecsC w O xs t.l
  wrow : w.ownsRow 0 tWhen 2 Wv t.w.length (pairs t.w)
  inT : T q ∧ (∀ b, Lv.ownBlock = some b → T b ∧ b ≠ q) ∧ (∀ b, Wv.ownBlock = some b → T b ∧ b ≠ q) ∧ ∀ b, Lv.ownBlock = some b → ¬ Wv.ownBlock = some b
  off : ∀ b, T b → b < w.heap.size ∧ ¬ O b
  offO : ∀ b, O b → b < w.heap.size
def RTabAt (w : World) (T O : Nat → Prop) (q : Nat) (t : RTabM) : Prop := ∃ Bv Lv Wv, RTabP w T O q Bv Lv Wv t
theorem RTabP.fr {w w' : World} {S T O : Nat → Prop} {q : Nat} {Bv Lv Wv : Value} {t : RTabM} (h : RTabP w T O q Bv Lv Wv t) (hf : Fr S w w') (h1 : ∀ b, T b → ¬ S b) (h2 : ∀ b, O b → ¬ S b) : RTabP w' T O q Bv Lv Wv t where
  blk := h.blk.fr hf (h1 _ h.inT.1)
  base := by obtain ⟨A, c, e, hr⟩ := h.base; exact ⟨A, c, e, hr.fr hf h2⟩
  lrow := by obtain ⟨xs, a, b⟩ := h.lrow; exact ⟨xs, own_fr a hf (fun b hb => h1 b (h.inT.2.1 b hb).1), b.keep hf h2⟩
  wrow := own_fr h.wrow hf (fun b hb => h1 b (h.inT.2.2.1 b hb).1)
  inT := h.inT
  off := fun b hb => ⟨Nat.lt_of_lt_of_le (h.off b hb).1 hf.size, (h.off b hb).2⟩
  offO := fun b hb => Nat.lt_of_lt_of_le (h.offO b hb) hf.size
theorem RTabAt.fr {w w' : World} {S T O : Nat → Prop} {q : Nat} {t : RTabM} (h : RTabAt w T O q t) (hf : Fr S w w') (h1 : ∀ b, T b → ¬ S b) (h2 : ∀ b, O b → ¬ S b) : RTabAt w' T O q t := by
  obtain ⟨_, _, _, hP⟩ := h
  exact ⟨_, _, _, hP.fr hf h1 h2⟩
theorem RTabAt.fr0 {w w' : World} {T O : Nat → Prop} {q : Nat} {t : RTabM} (h : RTabAt w T O q t) (hf : Fr No w w') : RTabAt w' T O q t := h.fr hf (fun _ _ hn => hn) (fun _ _ hn => hn)
theorem RTabAt.lt {w : World} {T O : Nat → Prop} {q : Nat} {t : RTabM} (h : RTabAt w T O q t) : (∀ b, T b → b < w.heap.size) ∧ (∀ b, O b → b < w.heap.size) ∧ T q := by
  obtain ⟨_, _, _, hP⟩ := h
  exact ⟨fun b hb => (hP.off b hb).1, hP.offO, hP.inT.1⟩
def rapplyM (t : RTabM) (r : RecM) : RTabM × Int :=
  if rightR r = true then
    if r.commit ≤ t.en then (t, 5)
    else ({ t with en := r.commit, l := t.l ++ [r], w := t.w ++ r.chs.map (fun c => (c.oop, r.commit)) }, 0)
  else (t, 1)
theorem rapplyM_bad {t : RTabM} {r : RecM} (h : rightR r = false) : rapplyM t r = (t, 1) := by unfold rapplyM; rw [if_neg (by rw [h]; decide)]
theorem rapplyM_old {t : RTabM} {r : RecM} (h : rightR r = true) (h2 : r.commit ≤ t.en) : rapplyM t r = (t, 5) := by unfold rapplyM; rw [if_pos h, if_pos h2]
theorem rapplyM_yes {t : RTabM} {r : RecM} (h : rightR r = true) (h2 : ¬ r.commit ≤ t.en) : rapplyM t r = ({ t with en := r.commit, l := t.l ++ [r], w := t.w ++ r.chs.map (fun c => (c.oop, r.commit)) }, 0) := by unfold rapplyM; rw [if_pos h, if_neg h2]

theorem rnew_calls (w : World) :
    Calls Try.prog 38 #[] w fun e w' => ∃ q, e = .returned (.pointer (some ⟨q, 0, none⟩)) ∧ RTabAt w' (fun b => w.heap.size ≤ b ∧ b < w'.heap.size) No q rtab0 ∧ Fr No w w' := by
  go_enter Try.func38, Try.ntmps38
  go_wp2
  go_ret
  refine ⟨_, rfl, ⟨.slice none 0 0, .slice none 0 0, .slice none 0 0, ?_⟩, (Fr.refl No w).alloc _⟩
  exact { blk := Blk.new _ _ _
          base := ⟨none, 0, rfl, RdCh.nil_⟩
          lrow := ⟨[], World.ownsRow_nil _ _ _ _, rfl⟩
          wrow := World.ownsRow_nil _ _ _ _
          inT := by simp [Value.ownBlock]
          off := fun b hb => ⟨hb.2, fun hn => hn⟩
          offO := fun b hb => hb.elim }
end Go.Proofs.Ytoajigghkjnffaa
