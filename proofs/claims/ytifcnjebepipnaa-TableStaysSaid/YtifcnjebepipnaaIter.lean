/- Laws at the operation inside a fence: a struct's load, a range over a map of any elements. table.all's iterator. No condition but size. -/
import Derived.RangeFuncNested
import Derived.RangeFuncBound
import Derived.RangeFuncCalls
import Derived.RangeFuncLeaves
import Derived.Shelf.Abstract
import Derived.Shelf.RegionOpen
import Derived.WalkKit
import Derived.OwnWalkIn
import Derived.TacticsInMore
import Derived.LoopNIn
import Derived.LoopIn
import Derived.Maps.AppendAt
import Derived.Sort.MapsRangeIn
import Derived.Test.YtifcnjebepipnaaRange
import Derived.Test.YtifcnjebepipnaaTabAt2
namespace Go.Proofs.Ytifcnjebepipnaa
set_option linter.unusedVariables false
set_option linter.unusedSimpArgs false
open Go.RowKit Go.Maps Go.Shelf
attribute [local go_sem] Oper.semAt_some

section
variable {F : Fence} {nF : Nat} {P : Program} {T : TypeId} {size : Nat}
theorem wpListIn_ldA (he : AggOf P T size) {ops : Array Oper} {rest : List Oper} {o : Oper} {a : Act} {w : World} {Q : Exit → Act → World → Prop} (hw : Region.wanted o (yielded ops a.tmps) = true) (x : Operand) (ho : o.op = .load T x)
    (ad : Addr) (cs : List Value) (hx : a.eval x = .pointer (some ad)) (hl : cs.length = size) (hc : ∀ j u, cs[j]? = some u → w.cell? (ad.add j) = some u)
    (h : wpListIn F nF P ops Q rest (a.put o.dst (.agg cs.toArray)) w) : wpListIn F nF P ops Q (o :: rest) a w := by
  refine BigFrame.wpListIn_want hw fun K hK => ?_
  unfold Oper.wpIn
  refine ⟨by simp [Oper.about, ho], ?_⟩
  rw [Oper.semAt_plain F _ _ (by rw [ho]; intro c hc'; cases hc')]
  unfold execOp
  simp only [ho, hx, Instr.loadAt, Instr.sureAddr, Sem.run_bind, Sem.run_pure, Result.andThen_ok, run_ldA he w ad cs hl hc]
  exact hK _ _ h
theorem wpListIn_app {t e : TypeId} {z : Value} {bytes : Nat} (he : SliceOf P t e z size bytes) {w : World} {ops : Array Oper} {rest : List Oper} {o : Oper} {a : Act} {Q : Exit → Act → World → Prop} (hw : Region.wanted o (yielded ops a.tmps) = true)
    {base : Nat} {v : Value} {n : Nat} {xs : List Value} (hown : w.ownsRow base e size v n xs)
    {S : Nat → Prop} {A : Option Addr} {m c : Nat} {news : List Value} (hr : Rd w S size A m news) (h1 : ∀ u ∈ news, u.oneCell' = true)
    (hbytes : (n + m) * bytes ≤ 140737488355328) (hbase : base ≤ w.heap.size)
    {s x : Operand} (ho : o.op = .call { callee := .builtin .append, args := #[s, x], argTypes := #[t, t] })
    (hs : a.eval s = v) (hx : a.eval x = .slice A m c)
    (h : ∀ v' w', w'.ownsRow base e size v' (n + m) (xs ++ news) → w.grownBy w' v.ownBlock → Hid (v'.ownBlock = v.ownBlock ∨ v'.ownBlock = some w.heap.size) → wpListIn F nF P ops Q rest (a.put o.dst v') w') : wpListIn F nF P ops Q (o :: rest) a w := by
  obtain ⟨v', w', hrun, h2, h3, h4⟩ := run_app_at (P := P) w he o.type base v n xs hown S A m c news hr h1 hbytes hbase
  refine BigFrame.wpListIn_want hw fun K hK => ?_
  unfold Oper.wpIn
  refine ⟨by simp [Oper.about, ho, resolve, Target.leads, Sem.run_pure], ?_⟩
  rw [Oper.semAt_plain F _ _ (by rw [ho]; intro c hc'; cases hc')]
  unfold execOp
  simp only [ho, resolve, invoke, builtin, Sem.run_bind, Sem.run_pure, Result.andThen_ok, List.map_toArray, List.map_cons, List.map_nil, hs, hx, hrun]
  exact hK _ _ (h v' w' h2 h3 (Lib.hid h4))
end
theorem wpListIn_rangeV {F : Fence} {nF : Nat} {w : World} {ops : Array Oper} {rest : List Oper} {o : Oper} {a : Act} {Q : Exit → Act → World → Prop} (hg : o.guard = none) (m : Operand) (t e : TypeId) (hop : o.op = Op.range t m) (ht : Try.prog.underlying t = some (.map 2 e)) (b n : Nat) (f : Int → Option Value)
    (hm : a.eval m = .map (some b)) (h : MapV w b n f)
    (hK : ∀ w' cnt, RangeV w' b w.heap.size n f (fun x => (f x).isSome) cnt → cnt ≤ n → w.grownBy w' none → wpListIn F nF Try.prog ops Q rest (a.put o.dst (.pointer (some ⟨w.heap.size, 0, none⟩))) w') :
    wpListIn F nF Try.prog ops Q (o :: rest) a w := by
  obtain ⟨D, ho, hf⟩ := h
  refine wpListIn_range_own w hg m t hop 2 e keyed64 ht hR b n D hm ho ?_
  intro w' h1 h2 h3
  exact hK w' _ ⟨D, _, h1, hf, fun x hx => (hf x hx).1⟩ ho.size_le h2
theorem wpListIn_nextV {F : Fence} {nF : Nat} {w : World} {ops : Array Oper} {rest : List Oper} {o : Oper} {a : Act} {Q : Exit → Act → World → Prop} (hg : o.guard = none) (it : Operand) (hop : o.op = Op.next it false) (b r n : Nat) (f : Int → Option Value) (left : Int → Bool) (cnt : Nat)
    (hit : a.eval it = .pointer (some ⟨r, 0, none⟩)) (h : RangeV w b r n f left cnt)
    (hDone : (∀ x, W64 x → left x = false) → wpListIn F nF Try.prog ops Q rest (a.put o.dst (.tuple #[.bool false])) w)
    (hMore : ∀ (x : Int) (v : Value) (w' : World) (cnt' : Nat), W64 x → left x = true → f x = some v → RangeV w' b r n f (fun y => left y && !decide (y = x)) cnt' → cnt' < cnt → w.grownBy w' (some r) → w'.heap.size = w.heap.size →
      (Instr.entry (.pointer (some ⟨r, 0, none⟩))).run Try.prog w' = .ok (.tuple #[.int .i64 x, v]) w' → wpListIn F nF Try.prog ops Q rest (a.put o.dst (.tuple #[.bool true, .int .i64 x, v])) w') :
    wpListIn F nF Try.prog ops Q (o :: rest) a w := by
  obtain ⟨D, lf, h1, h2, h3⟩ := h
  refine wpListIn_next_ranges w hg it hop 2 keyed64 hR (Value.int .i64) id (fun key kl hkey => by obtain ⟨x, rfl, _⟩ := Maps.keyOf_int_inv Try.underlying2 hkey; exact ⟨x, rfl⟩) (fun v y _ => ⟨v, rfl⟩) b r n D lf cnt hit h1 ?_ ?_
  · intro _ hl
    exact hDone (fun x hx => by rw [← h3 x hx]; exact hl _)
  · intro x v kl y w' cnt' hkey hlk hv hat hrg hlt hgr hsz hen
    obtain ⟨x', ex, rfl, hwx⟩ := Maps.keyOf_int_inv Try.underlying2 hkey
    cases ex
    unfold hR at hv
    simp only [id, Option.some.injEq] at hv
    subst hv
    simp only at hat
    have hlx : left x = true := by rw [← h3 x hwx]; exact hlk
    have hhas : has D (.int .i64 x) = true := has_true_of_atKey hat
    obtain ⟨a1, a2⟩ := h2 x hwx
    rw [hhas] at a1
    cases hfx : f x with
    | none => rw [hfx] at a1; cases a1
    | some u =>
      have e1 := a2 u hfx (.held u)
      rw [hat] at e1
      have e2 := held_inj e1
      subst e2
      exact hMore x v w' cnt' hwx hlx hfx ⟨D, _, hrg, h2, fun y hy => by show (_ && _) = (_ && _); rw [← h3 y hy, int_same]⟩ hlt hgr hsz hen
theorem RangeV.walk {w : World} {b r n : Nat} {f : Int → Option Value} {left : Int → Bool} {cnt : Nat} (h : RangeV w b r n f left cnt) : ∃ o : Obj, w.heap[r]? = some o ∧ o.isWalk = true := by
  obtain ⟨D, lf, h1, _⟩ := h
  exact h1.iter_walk
theorem RangeV.of_walks {w w' : World} {b r n : Nat} {f : Int → Option Value} {left : Int → Bool} {cnt : Nat} (h : RangeV w b r n f left cnt) (hk : KeepsWalks w w') : RangeV w' b r n f left cnt := by
  obtain ⟨D, lf, h1, h2⟩ := h
  exact ⟨D, lf, h1.of_walks hk, h2⟩
theorem Fr.grownNone {w w' : World} (h : Fr No w w') : w.grownBy w' none := ⟨h.os, h.tape, h.output, h.size, fun k hk _ => h.block k hk (fun hn => hn)⟩
theorem Fr.ofBelow {n₀ : Nat} {w w' : World} (h : Below n₀ w w') : Fr (fun b => n₀ ≤ b) w w' := ⟨h.os, h.tape, h.output, h.size, fun k _ hn => h.block k (by omega)⟩
/-- Is an oop an object behind a commit. -/
def liveV (t : TabM) (c x : Int) : Bool := match verM t c x with | some v => !v.gone | none => false
def LiveKeys (t : TabM) (c : Int) (ks : List Int) : Prop := ks.Nodup ∧ (∀ x ∈ ks, W64 x) ∧ ∀ x, W64 x → (x ∈ ks ↔ liveV t c x = true)
/-- What a round keeps. -/
def KpA (n₀ bc : Nat) (A B : World) : Prop := KeepsWalks A B ∧ Below n₀ A B ∧ B.heap[bc]? = A.heap[bc]?
abbrev encA (x : Int × Value) : Array Value := #[.int .i64 x.1, x.2]
theorem liveV_none {t : TabM} {c x : Int} (h : t.vs x = []) : liveV t c x = false := by
  have e : verM t c x = none := by unfold verM behM; rw [h]; rfl
  unfold liveV
  rw [e]
theorem liveV_zero {t : TabM} {c x : Int} (h : behM (t.vs x) c = 0) : liveV t c x = false := by
  have e : verM t c x = none := by unfold verM; rw [if_pos h]
  unfold liveV
  rw [e]
theorem liveV_succ {t : TabM} {c x : Int} {j : Nat} (h : behM (t.vs x) c = j + 1) (hj : j < (t.vs x).length) : liveV t c x = !(t.vs x)[j].gone := by
  have e : verM t c x = some (t.vs x)[j] := by unfold verM; rw [if_neg (by omega), h, Nat.add_sub_cancel, List.getElem?_eq_getElem hj]
  unfold liveV
  rw [e]
set_option maxRecDepth 100000 in
set_option maxHeartbeats 4000000 in
theorem all1_in (n : Nat) (hn : 3 ≤ n) (l bt bc n₀ : Nat) (p mb wb : Nat) (T O : Nat → Prop) (f g : Int → Option Value) (t : TabM) (c : Int) (J Jx : List (Int × Value) → World → Prop)
    (hY : ∀ pre x W, J pre W → pre.length < t.n → YieldAt Fence.wide (n - 1) Try.prog l (encA x) W fun e W' => (e = .returned (.bool true) ∧ J (pre ++ [x]) W' ∧ KpA n₀ bc W W') ∨ (e = .returned (.bool false) ∧ Jx (pre ++ [x]) W'))
    (W : World) (hJ : AbidesFrom W.heap.size J) (hbt : W.cell? ⟨bt, 0, none⟩ = some (.pointer (some ⟨p, 0, none⟩))) (hbc : W.cell? ⟨bc, 0, none⟩ = some (.int .i64 c)) (hP : TabP W T O p mb wb f g t) (ok : TabOk t) (htn : t.n ≤ 1000000)
    (hT0 : ∀ b, T b → b < n₀) (hO0 : ∀ b, O b → b < n₀) (hbn : n₀ ≤ bc) (h0 : J [] W) :
    CallsIn Fence.wide n Try.prog 43 #[.func (.yield l) #[] #[], .pointer (some ⟨bt, 0, none⟩), .pointer (some ⟨bc, 0, none⟩)] W fun e W' => (∃ v, e = .returned v) ∧
      ((∃ xs, LiveKeys t c (xs.map (·.1)) ∧ J xs W') ∨ (∃ pre, True ∧ Jx pre W')) := by
  have hbk := hP.blk
  (have y0 := hbk.cell 0; have y1 := hbk.cell 1; have y2 := hbk.cell 2; have y3 := hbk.cell 3; have yf0 := hbk.frozen 0; have yf1 := hbk.frozen 1; have yf2 := hbk.frozen 2; have yf3 := hbk.frozen 3; simp only [List.getElem?_toArray, List.getElem?_cons_zero, List.getElem?_cons_succ] at y0 y1 y2 y3)
  have hbcl : bc < W.heap.size := World.block_lt_of_cell? W _ hbc
  have hn0 : n₀ ≤ W.heap.size := by omega
  refine callsIn_of_wp Try.func43 rfl trivial ?_ rfl
  simp only [Try.ntmps43, List.size_toArray, List.length_cons, List.length_nil, Nat.reduceAdd, Nat.reduceSub, Array.replicate_succ, Array.replicate_zero, List.push_toArray, List.append_toArray, List.nil_append, List.cons_append]
  gi_wp2_with (first
    | (gi_at_range; refine wpListIn_rangeV rfl _ _ _ rfl Try.underlying56 mb t.n f rfl hP.vers ?_; intro w0 cnt0 hR0 hc0 hg0)
    | gi_in)
  go_frame
  gi_loopw [4, 5] (fun _ _ wr => ∃ (left : Int → Bool) (cnt : Nat) (ps : List (Int × Value)), RangeV wr mb W.heap.size t.n f left cnt ∧ ps.length + cnt ≤ t.n ∧ (ps.map (·.1)).Nodup ∧ Hid (∀ x ∈ ps.map (·.1), W64 x) ∧ Hid (∀ x, W64 x → (x ∈ ps.map (·.1) ↔ left x = false ∧ liveV t c x = true)) ∧ J ps wr ∧ Below n₀ W wr ∧ wr.cell? ⟨bc, 0, none⟩ = some (.int .i64 c)) (fun _ _ wr => wr.rangeLeft mb W.heap.size)
  case atStart =>
    refine ⟨_, _, [], hR0, by simpa using hc0, by simp, Lib.hid (by simp), Lib.hid (fun x hx => ?_), hJ [] W w0 none h0 hg0 (fun r e => by cases e), (Below.refl _ _).grown hg0 hn0 (fun k e => by cases e), hg0.cell hbc (by simp)⟩
    constructor
    · intro h; simp at h
    · rintro ⟨h1, h2⟩
      exfalso
      cases hfx : f x with
      | some v => rw [hfx] at h1; cases h1
      | none =>
        have := hP.row x hx
        rw [hfx] at this
        rw [liveV_none this.nil_] at h2
        cases h2
  case round =>
    obtain ⟨left, cnt, ps, hR, hcs, hnd, HW, HK, hJs, hB, hcb⟩ := hrel
    have hcnt := hR.left_eq
    gi_wp2_with (first
      | (gi_at_next; refine wpListIn_nextV rfl _ rfl mb W.heap.size t.n f left cnt rfl hR ?_ ?_)
      | gi_in)
    · intro hdone
      have hL : LiveKeys t c (ps.map (·.1)) := ⟨hnd, HW.out, fun x hx => by rw [HK.out x hx, hdone x hx]; simp⟩
      have HL := Lib.hid hL
      clear hR hdone hL
      gi_wp2
      go_end0
      exact ⟨⟨_, rfl⟩, .inl ⟨ps, HL.out, hJs⟩⟩
    · intro x v w1 cnt1 hx hlx hfx hR1 hlt1 hg1 hz1 hen
      have hrw : W.heap.size ≤ W.heap.size := Nat.le_refl _
      have hJ1 : J ps w1 := hJ ps wr w1 (some W.heap.size) hJs hg1 (fun r e => by cases e; exact ⟨Nat.le_refl _, hR.walk⟩)
      have hB1 : Below n₀ W w1 := hB.grown hg1 (Nat.le_trans hn0 hB.size) (fun k e => by cases e; exact hn0)
      have hcb1 : w1.cell? ⟨bc, 0, none⟩ = some (.int .i64 c) := hg1.cell hcb (by simp; omega)
      obtain ⟨hsort, _, hlen, _⟩ := ok x
      have hP1 := hP.fr (Fr.ofBelow hB1) (fun b hb hn => by have := hT0 b hb; omega) (fun b hb hn => by have := hO0 b hb; omega)
      rcases hP1.row x hx with ⟨h1, _⟩ | ⟨v', xs, h1, hne, hown, hchs, hbT⟩
      · rw [hfx] at h1; cases h1
      rw [hfx] at h1
      injection h1 with h1
      subst h1
      have HL0 := Lib.hid (show behM (t.vs x) c = 0 → liveV t c x = false from liveV_zero)
      have HL1 := Lib.hid (show ∀ j, behM (t.vs x) c = j + 1 → ∀ hj : j < (t.vs x).length, liveV t c x = !(t.vs x)[j].gone from fun j h hj => liveV_succ h hj)
      have hsmall := hP.small x
      generalize t.vs x = l at *
      obtain ⟨A, cap, rfl, hlc, hcm, _⟩ := own_form hown
      have hrd : RdCh w1 (fun _ => True) A l := ⟨xs, (own_rd hown (by omega)).mono (fun _ _ _ => trivial) (by decide), hchs.mono (fun _ _ _ => trivial)⟩
      have HS := Lib.hid hsort
      clear hsort hR hP1
      gi_wp2_with fail
      refine ⟨trivial, fun _ => by omega, ?_⟩
      refine (callsIn_wide.2 (behind_calls (fun _ => True) A cap l c w1 hrd HS.out (by omega))).mono ?_
      rintro e w2 ⟨rfl, hf2⟩
      have hJ2 : J ps w2 := hJ ps w1 w2 none hJ1 hf2.grownNone (fun r e => by cases e)
      have hB2 : Below n₀ W w2 := hB1.grown hf2.grownNone (Nat.le_trans hn0 hB1.size) (fun k e => by cases e)
      have hcb2 : w2.cell? ⟨bc, 0, none⟩ = some (.int .i64 c) := hf2.cell_some hcb1 (fun hn => hn)
      have hR2 := hR1.fr0 hf2
      have hrd2 := hrd.fr0 hf2
      clear hR1 hJ1 hB1 hcb1 hrd
      have hkl := behM_le l c
      have hnew : ∀ (b : Bool), liveV t c x = b → b = false → ∀ y, W64 y → (y ∈ ps.map (·.1) ↔ (left y && !decide (y = x)) = false ∧ liveV t c y = true) := fun b h1 h2 y hy => by
        rw [HK.out y hy]
        by_cases hyx : y = x
        · subst hyx; rw [h1, h2]; simp
        · simp [hyx]
      have HNEW := Lib.hid hnew
      clear hnew
      cases hk : behM l c with
      | zero =>
        have HN := Lib.hid (HNEW.out _ (HL0.out hk) rfl)
        clear hk HL0 HL1
        simp only [Int.natCast_zero]
        gi_wp2_with fail
        refine ⟨fun _ h => (by cases h), ?_⟩
        gi_wp2_with fail
        go_roundw
        case rel => exact ⟨_, cnt1, ps, hR2, by omega, hnd, HW, HN, hJ2, hB2, hcb2⟩
        case measure => rw [hR2.left_eq]; omega
      | succ j =>
        have hjl : j < l.length := by omega
        have HM := Lib.hid (HL1.out j hk hjl)
        obtain ⟨ga, of, Av, nn, D, mm, rfl, _, hcell, hsl, hby⟩ := hrd2.at_ hjl
        have ekj : ((j + 1 : Nat) : Int) = (j : Int) + 1 := by omega
        have ek0 : decide ((0 : Int) < (j : Int) + 1) = true := decide_eq_true (by omega)
        have ek1 : (j : Int) + 1 - 1 = j := by omega
        rw [ekj]
        clear hk HL0 HL1 ekj
        generalize l[j] = v at *
        have ekl : decide ((j : Int) < l.length) = true := by simpa using (by omega : (j : Int) < l.length)
        have hc1 := hcell 1 _ rfl
        have hobc : ∀ j_1 u, [Value.int .i64 v.obj.cls, .slice Av v.obj.slots.length nn, .slice D v.obj.bytes.length mm][j_1]? = some u → w2.cell? ((⟨ga, of + j * 5 + 2, none⟩ : Addr).add j_1) = some u := addr5 _ _ _ (fun j_1 u hu => by
          have := hcell (j_1 + 2) u (by simpa using hu)
          rwa [show of + j * 5 + (j_1 + 2) = of + j * 5 + 2 + j_1 by omega] at this)
        clear hcell
        cases hg : v.gone with
        | true =>
          rw [hg] at hc1
          have HN := Lib.hid (HNEW.out _ (HM.out) (by rw [hg]; rfl))
          clear hg
          gi_wp2_with fail
          refine ⟨fun _ h => (by cases h), ?_⟩
          gi_wp2_with fail
          go_roundw
          case rel => exact ⟨_, cnt1, ps, hR2, by omega, hnd, HW, HN, hJ2, hB2, hcb2⟩
          case measure => rw [hR2.left_eq]; omega
        | false =>
          rw [hg] at hc1
          have HLV : Hid (liveV t c x = true) := Lib.hid (HM.out.trans (by rw [hg]; rfl))
          have hxn : x ∉ ps.map (·.1) := fun hm => by
            have := ((HK.out x hx).1 hm).1
            rw [hlx] at this
            cases this
          have HNN := Lib.hid hxn
          clear hg hxn
          obtain ⟨fn, tmps, assign, body, hy, hRd⟩ := hY ps (x, .agg #[.int .i64 v.obj.cls, .slice Av v.obj.slots.length nn, .slice D v.obj.bytes.length mm]) w2 hJ2 (by omega)
          dsimp only [encA] at hy
          gi_wp2_with (first
            | (refine wpListIn_ldA ag_obj rfl _ rfl ⟨ga, of + j * 5 + 2, none⟩ _ rfl rfl hobc ?_)
            | gi_in)
          refine ⟨fun _ => by omega, ?_⟩
          refine hRd.mono ?_
          rintro e W3 (⟨rfl, hJ3, hk3⟩ | ⟨rfl, hJx3⟩)
          · gi_wp2
            have hR3 := hR2.of_walks hk3.1
            have hB3 : Below n₀ W W3 := hB2.trans hk3.2.1
            have hcb3 : W3.cell? ⟨bc, 0, none⟩ = some (.int .i64 c) := (World.cell?_of_block hk3.2.2).trans hcb2
            go_roundw
            case rel =>
              refine ⟨_, cnt1, ps ++ [(x, _)], hR3, by simp; omega, ?_, Lib.hid (fun y hy => ?_), Lib.hid (fun y hy => ?_), hJ3, hB3, hcb3⟩
              · rw [List.map_append, List.nodup_append]
                refine ⟨hnd, by simp, fun a ha b hb => ?_⟩
                simp at hb
                subst hb
                exact fun e => HNN.out (e ▸ ha)
              · rw [List.map_append, List.mem_append] at hy
                rcases hy with hy | hy
                · exact HW.out y hy
                · simp at hy; subst hy; exact hx
              · rw [List.map_append, List.mem_append, HK.out y hy]
                by_cases hyx : y = x
                · subst hyx
                  simp [HLV.out]
                · simp [hyx]
            case measure => rw [hR3.left_eq]; omega
          · gi_wp2
            refine bodyPost_ret (results_none rfl _ _ _) rfl ?_
            exact ⟨⟨_, rfl⟩, .inr ⟨_, trivial, hJx3⟩⟩
end Go.Proofs.Ytifcnjebepipnaa
