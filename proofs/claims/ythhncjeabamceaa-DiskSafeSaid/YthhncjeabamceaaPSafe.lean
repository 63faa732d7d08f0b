/- What DiskSafe comes to, as plain data; a piece cut out of bytes. No condition. -/
import Derived.Test.YthhncjeabamceaaDAct
namespace Go.Proofs.Ythhncjeabamceaa
set_option linter.unusedVariables false
set_option linter.unusedSimpArgs false
open Go.RowKit

/-- Each write that is not safe is marked. -/
def WInv (way : List (Nat × Sec)) (wl : List Bool) : Prop := ∀ p ∈ way, ∃ c : UInt8, p.2 = fsec c ∧ wl[p.1 * 256 + c.toNat]? = some true
def Grow (wl wl' : List Bool) : Prop := ∀ i : Nat, wl[i]? = some true → wl'[i]? = some true
theorem Grow.refl (wl : List Bool) : Grow wl wl := fun _ h => h
theorem Grow.trans {a b c : List Bool} (h : Grow a b) (k : Grow b c) : Grow a c := fun i hi => k i (h i hi)
theorem Grow.set (wl : List Bool) (i : Nat) : Grow wl (wl.set i true) := fun j hj => by
  rw [List.getElem?_set]
  split
  · rename_i h; subst h
    have := (List.getElem?_eq_some_iff.1 hj).1
    rw [if_pos this]
  · exact hj
theorem WInv.grow {way : List (Nat × Sec)} {wl wl' : List Bool} (h : WInv way wl) (g : Grow wl wl') : WInv way wl' := fun p hp => by
  obtain ⟨c, h1, h2⟩ := h p hp; exact ⟨c, h1, g _ h2⟩
theorem WInv.act {d : DiskM} {a : Int} {n : Nat} {c : UInt8} {wl wl' : List Bool} (h : WInv d.way wl) (g : Grow wl wl') (hm : ∀ m, m < n → wl'[(a.toNat + m) * 256 + c.toNat]? = some true) : WInv (actM d a n c).way wl' := fun p hp => by
  rcases act_mem hp with hp | ⟨_, _, h2, h3, h4, _⟩
  · exact (h.grow g) p hp
  · refine ⟨c, h2, ?_⟩
    have := hm (p.1 - a.toNat) (by omega)
    rwa [show a.toNat + (p.1 - a.toNat) = p.1 by omega] at this
theorem WInv.bad {d : DiskM} {a : Int} {n : Nat} {c : UInt8} {wl : List Bool} (h : WInv d.way wl) (hb : badAt d a n = true) : WInv (actM d a n c).way wl := by
  unfold actM; rw [if_pos hb]; exact h
theorem crashS_len (S : List Sec) (way : List (Nat × Sec)) (ks : List Bool) : (crashS S way ks).length = S.length := by
  induction way generalizing S ks with
  | nil => rfl
  | cons p way ih => rw [crashS, ih]; split <;> simp
/-- Behind a crash a sector is as it was safe, or as a write of it left it. -/
theorem crash_from (S : List Sec) (way : List (Nat × Sec)) (ks : List Bool) (i : Nat) : (crashS S way ks)[i]? = S[i]? ∨ ∃ p ∈ way, p.1 = i ∧ (crashS S way ks)[i]? = some p.2 := by
  induction way generalizing S ks with
  | nil => exact .inl rfl
  | cons p way ih =>
    rw [crashS]
    rcases ih (if ks.headD false = true then S.set p.1 p.2 else S) ks.tail with h | ⟨q, hq, h1, h2⟩
    · rw [h]
      split
      · by_cases hi : p.1 = i
        · by_cases hl : i < S.length
          · refine .inr ⟨p, by simp, hi, ?_⟩
            rw [List.getElem?_set, if_pos hi, if_pos (by omega)]
          · refine .inl ?_
            rw [List.getElem?_set, if_pos hi, if_neg (by omega), List.getElem?_eq_none (by omega)]
        · exact .inl (by rw [List.getElem?_set, if_neg hi])
      · exact .inl rfl
    · exact .inr ⟨q, List.mem_cons_of_mem _ hq, h1, h2⟩
theorem BLs_set (wl : List Bool) (i : Nat) : (BLs wl).toArray.setIfInBounds i (.bool true) = (BLs (wl.set i true)).toArray := by
  simp [BLs, List.map_set]
/-- A piece cut out of a slice. -/
theorem run_cut {P : Program} {t e : TypeId} (hu : P.underlying t = some (.slice e)) (hs : (P.info? e).map (·.size) = some 1) (w : World) (g n c lo hi : Nat) (kl kh : IntKind) (h1 : lo ≤ hi) (h2 : hi ≤ c) (h3 : lo < c) :
    (Instr.sliceAt t (.slice (some ⟨g, 0, none⟩) n c) (some (.int kl (lo : Int))) (some (.int kh (hi : Int))) none).run P w = .ok (.slice (some ⟨g, lo, none⟩) (hi - lo) (c - lo)) w := by
  cases hq : P.info? e with
  | none => simp [hq] at hs
  | some i =>
    have hi1 : i.size = 1 := by simpa [hq] using hs
    have e1 : ((lo : Int) ≤ (hi : Int)) := by omega
    have e2 : ((hi : Int) ≤ (c : Int)) := by omega
    have e3 : ¬ (c = lo) := by omega
    have ea : (⟨g, 0, none⟩ : Addr).add lo = ⟨g, lo, none⟩ := add_plain g lo
    simp [Instr.sliceAt, Instr.slice, Instr.sliceBounds, Instr.sliceBound, run_underlying hu, asIntOf, sizeOf, typeInfo, hq, hi1, e3, ea, h1, h2]
theorem wpList_cut {P : Program} {w : World} {ops : Array Oper} {rest : List Oper} {o : Oper} {a : Go.Act} {Q : Exit → Go.Act → World → Prop} {t e : TypeId} (hu : P.underlying t = some (.slice e)) (hs : (P.info? e).map (·.size) = some 1) (g n c lo hi : Nat) {kl kh : IntKind} (h1 : lo ≤ hi) (h2 : hi ≤ c) (h3 : lo < c)
    (hw : Region.wanted o (yielded ops a.tmps) = true) {x y z : Operand} (ho : o.op = .slice t x (some y) (some z) none) (hx : a.eval x = .slice (some ⟨g, 0, none⟩) n c) (hy : a.eval y = .int kl (lo : Int)) (hz : a.eval z = .int kh (hi : Int))
    (h : wpList P ops Q rest (a.put o.dst (.slice (some ⟨g, lo, none⟩) (hi - lo) (c - lo))) w) : wpList P ops Q (o :: rest) a w := by
  refine BigFrame.wpList_want hw fun K hK => ?_
  unfold Oper.wp execOp
  simp only [ho, hx, hy, hz, Option.map_some, Option.map_none, Sem.run_bind, run_cut hu hs w g n c lo hi kl kh h1 h2 h3, Result.andThen_ok, Sem.run_pure]
  exact hK _ _ h
theorem T_cut {P : Program} {S : Nat → Prop} {ops : Array Oper} {Q : Exit → Go.Act → World → Prop} {ms : List Nat} {ord calls : List Nat} {k : Nat} {l : List Oper} {o : Oper} {a : Go.Act} {w : World} {t e : TypeId} (hu : P.underlying t = some (.slice e)) (hs : (P.info? e).map (·.size) = some 1) (g n c lo hi : Nat) {kl kh : IntKind} (h1 : lo ≤ hi) (h2 : hi ≤ c) (h3 : lo < c)
    (hc : calls.contains (ord.getD k 0) = false) (hw : Region.wanted o (yielded ops a.tmps) = true) (hQ : ∀ v c a w, Q (.panic c) (a.put o.dst v) w → Q (.panic c) a w)
    {x y z : Operand} (ho : o.op = .slice t x (some y) (some z) none) (hx : a.eval x = .slice (some ⟨g, 0, none⟩) n c) (hy : a.eval y = .int kl (lo : Int)) (hz : a.eval z = .int kh (hi : Int))
    (h : wpT P S ops Q ms ord calls (k + 1) l (a.put o.dst (.slice (some ⟨g, lo, none⟩) (hi - lo) (c - lo))) w) (hxm : calls.contains (ord.getD k 0 + 1000) = false := by rfl) : wpT P S ops Q ms ord calls k (o :: l) a w := by
  refine T_take hc hw (hQ _) (fun w' hf => ?_) h hxm
  unfold execOp
  simp only [ho, hx, hy, hz, Option.map_some, Option.map_none, Sem.run_bind, run_cut hu hs w' g n c lo hi kl kh h1 h2 h3, Result.andThen_ok, Sem.run_pure]
theorem T_neqStr {P : Program} {S : Nat → Prop} {ops : Array Oper} {Q : Exit → Go.Act → World → Prop} {ms : List Nat} {ord calls : List Nat} {k : Nat} {l : List Oper} {o : Oper} {a : Go.Act} {w : World} {s t : List UInt8} {b : Bool} (hst : b = decide (s ≠ t)) {ty : TypeId} {x y : Operand} {ty2 : TypeId}
    (hc : calls.contains (ord.getD k 0) = false) (hw : Region.wanted o (yielded ops a.tmps) = true) (hQ : ∀ v c a w, Q (.panic c) (a.put o.dst v) w → Q (.panic c) a w)
    (ho : o.op = .binOp .neq ty x y ty2) (hx : a.eval x = .string ⟨s.toArray⟩) (hy : a.eval y = .string ⟨t.toArray⟩)
    (h : wpT P S ops Q ms ord calls (k + 1) l (a.put o.dst (.bool b)) w) (hxm : calls.contains (ord.getD k 0 + 1000) = false := by rfl) : wpT P S ops Q ms ord calls k (o :: l) a w := by
  subst hst
  refine T_take hc hw (hQ _) (fun w' hf => ?_) h hxm
  unfold execOp
  by_cases he : s = t
  · subst he; simp [ho, hx, hy, eqGuard, binOp, Op.stringOp]
  · have hne : ¬ ((ByteArray.mk s.toArray) = (ByteArray.mk t.toArray)) := fun h2 => he (by injection h2 with h2; simpa using h2)
    simp [ho, hx, hy, eqGuard, binOp, Op.stringOp, he]
/-- A byte as an int. -/
theorem T_byte {S : Nat → Prop} {ops : Array Oper} {Q : Exit → Go.Act → World → Prop} {ms : List Nat} {ord calls : List Nat} {k : Nat} {l : List Oper} {o : Oper} {a : Go.Act} {w : World} {b : UInt8}
    (hc : calls.contains (ord.getD k 0) = false) (hw : Region.wanted o (yielded ops a.tmps) = true) (hQ : ∀ v c a w, Q (.panic c) (a.put o.dst v) w → Q (.panic c) a w)
    {x : Operand} (ho : o.op = .convert 5 3 x) (hx : a.eval x = .int .u8 (b.toNat : Int))
    (h : wpT Try.prog S ops Q ms ord calls (k + 1) l (a.put o.dst (.int .i64 (b.toNat : Int))) w) (hxm : calls.contains (ord.getD k 0 + 1000) = false := by rfl) : wpT Try.prog S ops Q ms ord calls k (o :: l) a w := by
  refine T_take hc hw (hQ _) (fun w' hf => ?_) h hxm
  have hb := b.toNat_lt
  have hwr : IntKind.i64.wrap (b.toNat : Int) = b.toNat := by rw [IntKind.wrap_i64]; omega
  unfold execOp
  simp [ho, hx, convert, run_underlying Try.underlying5, run_underlying Try.underlying3, Conv.intToInt, hwr]
end Go.Proofs.Ythhncjeabamceaa
