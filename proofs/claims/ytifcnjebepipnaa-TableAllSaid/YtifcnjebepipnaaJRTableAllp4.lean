/- table.Forget. No condition but size. table.First, Changed; lapidarylaw11.known. No condition. Laws at the operation inside a fence: a struct's load, a range over a map of any elements. table.all's iterator. No condition but size. Lists of int64 in memory; a span of numbers; rising lists are one where they have the same. No condition. Layings of the library's own functions at this seat's numbers. No condition. table.Oops: all objects behind a commit, rising. No condition but size. Records that come to a table, plainly: what stands behind a commit stays. No condition. -/
import Derived.Test.YtifcnjebepipnaaJRTableAllp3
import Derived.RangeFuncNested
import Derived.RangeFuncBound
import Derived.RangeFuncCalls
import Derived.RangeFuncLeaves
import Derived.Shelf.Abstract
import Derived.Shelf.RegionOpen
import Derived.WalkKit
import Derived.OwnWalkIn
import Derived.TacticsInMore
import Derived.LoopNIn
import Derived.LoopIn
import Derived.Maps.AppendAt
import Derived.Sort.MapsRangeIn
import Derived.Test.YtifcnjebepipnaaJRTableAllp2
import Derived.Test.YtifcnjebepipnaaProg
import Derived.Test.YtifcnjebepipnaaJRTableAllp0
import Derived.Shelf.SortM.Plain
import Derived.Shelf.SortM.SortNone
import Derived.Lib.SlKeysI
namespace Go.Proofs.Ytifcnjebepipnaa
set_option linter.unusedVariables false
set_option linter.unusedSimpArgs false
open Go.RowKit

/-- How many of some versions are forgotten. -/
def cutK (l : List ChM) (c : Int) : Nat :=
  match l[behM l c - 1]? with
  | some v => if (v.gone && decide (v.oop ≤ c)) = true then behM l c - 1 + 1 else behM l c - 1
  | none => behM l c - 1
def cutL (l : List ChM) (c : Int) : List ChM := l.drop (cutK l c)
theorem cutK_le (l : List ChM) (c : Int) : cutK l c ≤ l.length := by
  have := behM_le l c
  unfold cutK
  split
  · rename_i v hv
    obtain ⟨h, _⟩ := List.getElem?_eq_some_iff.1 hv
    split <;> omega
  · omega
theorem cutL_nil (c : Int) : cutL [] c = [] := by simp [cutL]
def forgetM (t : TabM) (c : Int) : TabM × Int :=
  if (decide (t.first ≤ c) && decide (c ≤ t.last)) = true then (⟨c, t.last, fun x => cutL (t.vs x) c, t.wh, t.n⟩, 0) else (t, 13)
theorem forgetM_no {t : TabM} {c : Int} (h : (decide (t.first ≤ c) && decide (c ≤ t.last)) = false) : forgetM t c = (t, 13) := by unfold forgetM; rw [if_neg (by rw [h]; decide)]
theorem forgetM_yes {t : TabM} {c : Int} (h : (decide (t.first ≤ c) && decide (c ≤ t.last)) = true) : forgetM t c = (⟨c, t.last, fun x => cutL (t.vs x) c, t.wh, t.n⟩, 0) := by unfold forgetM; rw [if_pos h]
theorem forgetM_ok {t : TabM} {c : Int} (h : TabOk t) : TabOk (forgetM t c).1 := by
  cases ha : (decide (t.first ≤ c) && decide (c ≤ t.last)) with
  | false => rw [forgetM_no ha]; exact h
  | true =>
    rw [forgetM_yes ha]
    intro x
    obtain ⟨a1, a2, a3, a4⟩ := h x
    refine ⟨a1.sublist (List.drop_sublist _ _), fun v hv => a2 v (List.mem_of_mem_drop hv), ?_, fun v hv => a4 v (List.mem_of_mem_drop hv)⟩
    show (cutL (t.vs x) c).length ≤ t.n
    unfold cutL; rw [List.length_drop]; omega
theorem vclone_calls (S : Nat → Prop) (A : Option Addr) (c n : Nat) (xs : List Value) (w : World) (h : Rd w S 5 A n xs) (h1 : ∀ u ∈ xs, u.oneCell' = true) (hb : n * 72 ≤ 140737488355328) :
    Calls Try.prog 32 #[.slice A n c] w fun e w' => ∃ v, e = .returned v ∧ w'.ownsRow w.heap.size tVer 5 v n xs ∧ Fr No w w' := by
  have hle := h.2.1
  have E := fun (w : World) (a : Option Addr) (n c n' c' : Nat) => Lib.run_eql_slice_nil (P := Try.prog) w tVers tVer a n c n' c' Try.underlying63
  cases A with
  | none =>
    have hn : n = 0 := by
      rcases Nat.eq_zero_or_pos n with h0 | h0
      · exact h0
      · obtain ⟨ad, hh, _⟩ := h.2.2 h0
        cases hh
    subst hn
    obtain rfl : xs = [] := List.eq_nil_of_length_eq_zero (by simpa using h.1)
    go_enter Try.func32, Try.ntmps32
    go_wp2
    go_ret
    exact ⟨_, rfl, World.ownsRow_nil _ _ _ _, Fr.refl _ _⟩
  | some ad =>
    go_enter Try.func32, Try.ntmps32
    go_wp2_with (refine wpList_app so_ver (World.ownsRow_made w #[] 0 (Nat.le_refl _) (Nat.zero_le _) rfl) (Rd.alloc h _) h1 (by omega) (by simp) rfl rfl rfl rfl ?_; intro v2 w2 hown2 hg2 hat2)
    go_ret
    exact ⟨v2, rfl, by simpa using hown2, ((Fr.refl No w).alloc _).grown hg2 (by simp [Value.ownBlock])⟩
/-- Cells that read as changes, from one of them on. -/
theorem ChsC.drop {w : World} {S : Nat → Prop} : ∀ {ts : List ChM} {xs : List Value} (k : Nat), ChsC w S xs ts → ChsC w S (xs.drop (k * 5)) (ts.drop k)
  | ts, xs, 0, h => by simpa using h
  | [], xs, k + 1, h => by
    have : xs = [] := h
    subst this; simp; rfl
  | t :: ts, xs, k + 1, ⟨cs, rest, e, hc, hr⟩ => by
    have hl := hc.len
    have := ChsC.drop k hr
    rw [List.drop_succ_cons, e, show (k + 1) * 5 = cs.length + k * 5 by omega, List.drop_append, List.drop_eq_nil_of_le (by omega), List.nil_append, Nat.add_sub_cancel_left]
    exact this
/-- What one oop's entry has come to: a row of its own. -/
def CutAt (w : World) (O : Nat → Prop) (B : Nat) (v : Value) (l : List ChM) : Prop :=
  ∃ xs, w.ownsRow B tVer 5 v l.length xs ∧ ChsC w O xs l
theorem CutAt.fr {S : Nat → Prop} {w w' : World} {O : Nat → Prop} {B : Nat} {v : Value} {l : List ChM} (h : CutAt w O B v l) (hf : Fr S w w') (h1 : ∀ b, B ≤ b → ¬ S b) (h2 : ∀ b, O b → ¬ S b) : CutAt w' O B v l := by
  obtain ⟨xs, a, b⟩ := h
  exact ⟨xs, own_fr a hf (fun q hq => h1 q (a.lt q hq).1), b.keep hf h2⟩
theorem CutAt.slice {w : World} {O : Nat → Prop} {B : Nat} {v : Value} {l : List ChM} (h : CutAt w O B v l) : ∃ A c, v = .slice A l.length c := by
  obtain ⟨xs, a, b⟩ := h
  obtain ⟨A, c, e, _⟩ := own_form a
  exact ⟨A, c, e⟩
theorem Rd.cutAt {w : World} {S : Nat → Prop} {g o n c k : Nat} {xs : List Value} (h : Rd w S 5 (some ⟨g, o, none⟩) n xs) (hk : k ≤ n) (hc : n ≤ c) : Rd w S 5 (if c = k then some ⟨g, o, none⟩ else some ((⟨g, o, none⟩ : Addr).add (k * 5))) (n - k) (xs.drop (k * 5)) := by
  have := Rd.cut h hk hc
  simpa using this

theorem Rd.cutP {w : World} {S : Nat → Prop} {g o n k : Nat} {xs : List Value} (h : Rd w S 5 (some ⟨g, o, none⟩) n xs) (hk : k ≤ n) : Rd w S 5 (some ⟨g, o + k * 5, none⟩) (n - k) (xs.drop (k * 5)) := by
  have h1 := Rd.cut h hk (Nat.le_succ n)
  have e : (⟨g, o, none⟩ : Addr).add (k * 5) = ⟨g, o + k * 5, none⟩ := by unfold Addr.add; split <;> simp_all
  rw [if_neg (by omega), Option.map_some, e] at h1
  exact h1
theorem Rd.cut0 {w : World} {S : Nat → Prop} {A B : Option Addr} {n k : Nat} {xs : List Value} (h : Rd w S 5 A n xs) (hk : n ≤ k) : Rd w S 5 B (n - k) (xs.drop (k * 5)) := by
  have hl := h.1
  have e1 : n - k = 0 := by omega
  have e2 : xs.drop (k * 5) = [] := List.drop_eq_nil_of_le (by omega)
  rw [e1, e2]; exact Rd.nil_
theorem forget_round {O : Nat → Prop} {w w0 wr w1 w2 w3 w4 : World} {mb n : Nat} {f fc : Int → Option Value} {left : Int → Bool} {cnt1 : Nat} {c x : Int} {v v3 : Value} {t : TabM} {l : List ChM} {xs : List Value} {K : Nat}
    (hx : W64 x) (hlx : left x = true) (hfx : fc x = some v) (hl : t.vs x = l) (HL : Hid (∀ x, W64 x → left x = true → fc x = f x))
    (HD : Hid (∀ x, W64 x → left x = false → (fc x = none ∧ f x = none) ∨ ∃ v, fc x = some v ∧ CutAt wr O w0.heap.size v (cutL (t.vs x) c)))
    (HA : Hid (∀ x y v u b, W64 x → W64 y → x ≠ y → left x = false → left y = false → fc x = some v → fc y = some u → v.ownBlock = some b → ¬ u.ownBlock = some b))
    (hf : Fr (fun q => q = mb) w wr) (hz : w0.heap.size ≤ wr.heap.size) (hf1 : Fr (fun q => q = w.heap.size) wr w1) (hz1 : w1.heap.size = wr.heap.size) (hz0 : w.heap.size ≤ w0.heap.size)
    (hmbw : mb < w.heap.size) (hOmb : ∀ b, O b → ¬ b = mb) (hOw : ∀ b, O b → b < w.heap.size) (hf13 : Fr No w1 w3) (hR4 : RangeV w4 mb w.heap.size n (fput fc x v3) (fun y => left y && !decide (y = x)) cnt1) (hg4 : w3.grownBy w4 (some mb))
    (hown3 : w3.ownsRow w2.heap.size tVer 5 v3 (l.length - K) (xs.drop (K * 5))) (hch : ChsC w2 O (xs.drop (K * 5)) (l.drop K)) (hck : cutK l c = K) (hz2 : w1.heap.size ≤ w2.heap.size) (hf23 : Fr No w2 w3) (hr0 : w.heap.size < w0.heap.size) :
    ∃ (fc : Int → Option Value) (left : Int → Bool) (cnt : Nat), RangeV w4 mb w.heap.size n fc left cnt ∧ Hid (∀ x, W64 x → left x = true → fc x = f x) ∧ Hid (∀ x, W64 x → left x = false → (fc x = none ∧ f x = none) ∨ ∃ v, fc x = some v ∧ CutAt w4 O w0.heap.size v (cutL (t.vs x) c)) ∧
      Hid (∀ x y v u b, W64 x → W64 y → x ≠ y → left x = false → left y = false → fc x = some v → fc y = some u → v.ownBlock = some b → ¬ u.ownBlock = some b) ∧ Fr (fun q => q = mb) w w4 ∧ w0.heap.size ≤ w4.heap.size := by
  have hf4 : Fr (fun q => q = mb) w3 w4 := (Fr.refl _ w3).grown hg4 (fun q hq => by injection hq with hq; exact .inr hq.symm)
  have hz3 := hf13.size
  have hz4 := hf4.size
  have hF : Fr (fun q => q = mb) w w4 := ((hf.trans hf1 (fun q hq hT => by omega)).trans hf13 (fun _ _ hn => hn.elim)).trans hf4 (fun _ _ h => h)
  have hold : ∀ y u, W64 y → left y = false → fc y = some u → CutAt wr O w0.heap.size u (cutL (t.vs y) c) := fun y u hy h1 h2 => by
    rcases HD.out y hy h1 with ⟨h3, _⟩ | ⟨u', h3, h4⟩
    · rw [h3] at h2; cases h2
    · rw [h3] at h2; injection h2 with h2; subst h2; exact h4
  have hblk : ∀ y u b, W64 y → left y = false → fc y = some u → u.ownBlock = some b → b < wr.heap.size := fun y u b hy h1 h2 h3 => by
    obtain ⟨xs', h4, _⟩ := hold y u hy h1 h2
    exact (h4.lt b h3).2
  have hnl : ∀ y, (left y && !decide (y = x)) = false → y = x ∨ (y ≠ x ∧ left y = false) := fun y h => by
    by_cases hyx : y = x
    · exact .inl hyx
    · refine .inr ⟨hyx, ?_⟩
      simpa [hyx] using h
  refine ⟨fput fc x v3, _, cnt1, hR4, Lib.hid (fun y hy h => ?_), Lib.hid (fun y hy h => ?_), Lib.hid (fun y z a u b hy hz' hne h1 h2 h3 h4 h5 h6 => ?_), hF, by omega⟩
  · simp only [Bool.and_eq_true, Bool.not_eq_true', decide_eq_false_iff_not] at h
    rw [fput_other _ _ h.2]
    exact HL.out y hy h.1
  · rcases hnl y h with rfl | ⟨hyx, hly⟩
    · refine .inr ⟨v3, fput_same _ _ _, ?_⟩
      rw [hl]
      refine ⟨xs.drop (K * 5), ?_, ?_⟩
      · unfold cutL
        rw [hck, List.length_drop]
        exact own_down (own_fr hown3 hf4 (fun b hb e => by have := (hown3.lt b hb).1; omega)) (by omega)
      · unfold cutL
        rw [hck]
        exact (hch.keep hf23 (fun _ _ hn => hn)).keep hf4 hOmb
    · rw [fput_other _ _ hyx]
      rcases HD.out y hy hly with h3 | ⟨u, h3, h4⟩
      · exact .inl h3
      · exact .inr ⟨u, h3, ((h4.fr hf1 (fun b hb e => by omega) (fun b hb e => by have := hOw b hb; omega)).fr hf13 (fun _ _ hn => hn) (fun _ _ hn => hn)).fr hf4 (fun b hb e => by omega) hOmb⟩
  · have hv3 : ∀ b, v3.ownBlock = some b → w2.heap.size ≤ b := fun b hb => (hown3.lt b hb).1
    rcases hnl y h1 with rfl | ⟨hyx, hly⟩
    · rcases hnl z h2 with rfl | ⟨hzx, hlz⟩
      · exact hne rfl
      · rw [fput_same] at h3
        rw [fput_other _ _ hzx] at h4
        injection h3 with h3
        subst h3
        have := hv3 b h5
        have := hblk z u b hz' hlz h4 h6
        omega
    · rw [fput_other _ _ hyx] at h3
      rcases hnl z h2 with rfl | ⟨hzx, hlz⟩
      · rw [fput_same] at h4
        injection h4 with h4
        subst h4
        have := hv3 b h6
        have := hblk y a b hy hly h3 h5
        omega
      · rw [fput_other _ _ hzx] at h4
        exact HA.out y z a u b hy hz' hne hly hlz h3 h4 h5 h6
set_option maxHeartbeats 4000000 in
set_option maxRecDepth 100000 in
theorem tforget_calls (w : World) (T O : Nat → Prop) (p : Nat) (t : TabM) (c : Int) (h : TabAt w T O p t) (ok : TabOk t) (hn : t.n ≤ 1000000) :
    Calls Try.prog 21 #[.pointer (some ⟨p, 0, none⟩), .int .i64 c] w fun e w' => e = .returned (.int .i64 (forgetM t c).2) ∧ ∃ T', TabAt w' T' O p (forgetM t c).1 ∧ (∀ b, T' b → T b ∨ w.heap.size ≤ b) ∧ Fr T w w' := by
  obtain ⟨mb, wb, f, g, hP⟩ := h
  have hbk := hP.blk
  (have p0 := hbk.cell 0; have p1 := hbk.cell 1; have p2 := hbk.cell 2; have p3 := hbk.cell 3; have pf0 := hbk.frozen 0; have pf1 := hbk.frozen 1; have pf2 := hbk.frozen 2; have pf3 := hbk.frozen 3; simp only [List.getElem?_toArray, List.getElem?_cons_zero, List.getElem?_cons_succ] at p0 p1 p2 p3)
  have hask := asked_calls w p t.first t.last c _ _ hbk
  cases ha : (decide (t.first ≤ c) && decide (c ≤ t.last)) with
  | false =>
    rw [ha] at hask
    rw [forgetM_no ha]
    clear ha
    go_enter Try.func21, Try.ntmps21
    go_wp2_with fail
    refine hask.mono ?_
    rintro e w1 ⟨rfl, hw1⟩
    have hw1 := hw1.symm
    subst hw1
    go_wp2
    go_ret
    exact ⟨rfl, T, ⟨mb, wb, f, g, hP⟩, fun b hb => .inl hb, Fr.refl _ _⟩
  | true =>
    rw [ha] at hask
    rw [forgetM_yes ha]
    clear ha
    go_enter Try.func21, Try.ntmps21
    go_wp2_with fail
    refine hask.mono ?_
    rintro e w1 ⟨rfl, hw1⟩
    have hw1 := hw1.symm
    subst hw1
    go_wp2_with (first
      | (refine wpList_rangeV rfl _ _ _ rfl Try.underlying56 mb t.n f rfl hP.vers ?_; intro w0 cnt0 hR0 hf0)
      | fail)
    have hz0 := hf0.size
    have hr0 := hR0.lt
    go_frame
    have hfw0 : Fr No w w0 := hf0
    have hmb : T mb := hP.inT.2.1
    have hTw := fun b (hb : T b) => (hP.off b hb).1
    have hmbw := hTw mb hmb
    have hOmb : ∀ b, O b → ¬ b = mb := fun b hb e => (hP.off mb hmb).2 (e ▸ hb)
    have hOw := hP.offO
    have HROW := Lib.hid hP.row
    go_loopw [7] (fun s wr => ∃ (fc : Int → Option Value) (left : Int → Bool) (cnt : Nat), RangeV wr mb w.heap.size t.n fc left cnt ∧ Hid (∀ x, W64 x → left x = true → fc x = f x) ∧ Hid (∀ x, W64 x → left x = false → (fc x = none ∧ f x = none) ∨ ∃ v, fc x = some v ∧ CutAt wr O w0.heap.size v (cutL (t.vs x) c)) ∧
      Hid (∀ x y v u b, W64 x → W64 y → x ≠ y → left x = false → left y = false → fc x = some v → fc y = some u → v.ownBlock = some b → ¬ u.ownBlock = some b) ∧ Fr (fun q => q = mb) w wr ∧ w0.heap.size ≤ wr.heap.size) (fun _ wr => wr.rangeLeft mb w.heap.size)
    case atStart =>
      refine ⟨f, _, cnt0, hR0, Lib.hid (fun x _ _ => rfl), Lib.hid (fun x _ hl => ?_), Lib.hid (fun x y v u b _ _ _ hl _ hv _ => ?_), hfw0.mono (fun _ _ hn => hn.elim), Nat.le_refl _⟩
      · cases hfx : f x with
        | none => exact .inl ⟨rfl, rfl⟩
        | some v => rw [hfx] at hl; cases hl
      · rw [hv] at hl; cases hl
    case round =>
      obtain ⟨fc, left, cnt, hR, HL, HD, HA, hf, hz⟩ := hrel
      have hcnt := hR.left_eq
      go_wp2_with (first
        | (refine wpList_nextV rfl _ rfl mb w.heap.size t.n fc left cnt rfl hR ?_ ?_)
        | fail)
      · intro hdone
        have hslices : ∀ x, W64 x → ∀ v, fc x = some v → ∃ A m c, v = .slice A m c := fun x hx v hv => by
          rcases HD.out x hx (hdone x hx) with ⟨h1, _⟩ | ⟨u, h1, h2⟩
          · rw [h1] at hv; cases hv
          · rw [h1] at hv; injection hv with hv; subst hv
            obtain ⟨A, c', e⟩ := h2.slice
            exact ⟨A, _, c', e⟩
        have hM := hR.map
        have HDONE := Lib.hid hdone
        have HSL := Lib.hid hslices
        have hbr := hbk.fr hf (fun e => hP.inT.2.2.2.1 e)
        (have y0 := hbr.cell 0; have y1 := hbr.cell 1; have y2 := hbr.cell 2; have y3 := hbr.cell 3; have yf0 := hbr.frozen 0; have yf1 := hbr.frozen 1; have yf2 := hbr.frozen 2; have yf3 := hbr.frozen 3; simp only [List.getElem?_toArray, List.getElem?_cons_zero, List.getElem?_cons_succ] at y0 y1 y2 y3)
        clear hR hdone hslices
        go_wp2_with fail
        refine (sweep_calls wr mb t.n fc hM HSL.out).mono ?_
        rintro e w5 ⟨rfl, hM5, hf5⟩
        have hb5 := hbr.fr hf5 (fun e => hP.inT.2.2.2.1 e)
        (have z0 := hb5.cell 0; have z1 := hb5.cell 1; have z2 := hb5.cell 2; have z3 := hb5.cell 3; have zf0 := hb5.frozen 0; have zf1 := hb5.frozen 1; have zf2 := hb5.frozen 2; have zf3 := hb5.frozen 3; simp only [List.getElem?_toArray, List.getElem?_cons_zero, List.getElem?_cons_succ] at z0 z1 z2 z3)
        go_wp2
        go_ret
        have hF5 : Fr (fun q => q = mb) w w5 := hf.trans hf5 (fun _ _ h => h)
        have hS : Fr (fun q => q = p) w5 (w5.setCell ⟨p, 0, none⟩ (.int .i64 c)) := Fr.set (S := fun q => q = p) (Fr.refl _ w5) (p := ⟨p, 0, none⟩) (.inr rfl) _
        have hFT : Fr T w (w5.setCell ⟨p, 0, none⟩ (.int .i64 c)) := (hF5.mono (fun b _ hb => hb ▸ hmb)).trans hS (fun b _ hb => hb ▸ hP.inT.1)
        obtain ⟨i1, i2, i3, i4, i5, i6⟩ := hP.inT
        have hwS : ∀ b, b ≠ mb → b ≠ p → b < w.heap.size → (w5.setCell ⟨p, 0, none⟩ (.int .i64 c)).heap[b]? = w.heap[b]? := fun b h1 h2 h3 => (hS.block b (Nat.lt_of_lt_of_le h3 hF5.size) h2).trans (hF5.block b h3 h1)
        have hcut : ∀ x, W64 x → (fc x = none ∧ f x = none) ∨ ∃ v, fc x = some v ∧ CutAt (w5.setCell ⟨p, 0, none⟩ (.int .i64 c)) O w0.heap.size v (cutL (t.vs x) c) := fun x hx => by
          rcases HD.out x hx (HDONE.out x hx) with h1 | ⟨v, h1, h2⟩
          · exact .inl h1
          · exact .inr ⟨v, h1, (h2.fr hf5 (fun b hb e => by omega) hOmb).fr hS (fun b hb e => by have := hTw p i1; omega) (fun b hb e => (hP.off p i1).2 (e ▸ hb))⟩
        refine ⟨rfl, fun b => (b = p ∨ b = mb ∨ b = wb) ∨ w.heap.size ≤ b ∧ b < (w5.setCell ⟨p, 0, none⟩ (.int .i64 c)).heap.size, ⟨mb, wb, sweepV fc, g, ?_⟩, fun b hb => ?_, hFT⟩
        · exact { blk := by simpa using hb5.put 0 (.int .i64 c)
                  vers := hM5.fr hS (fun e => i4 e.symm)
                  when := (hP.when.fr hF5 (fun e => i6 e.symm)).fr hS (fun e => i5 e.symm)
                  row := fun x hx => by
                    rcases hcut x hx with ⟨h1, h2⟩ | ⟨v, h1, xs, h3, h4⟩
                    · have h5 : t.vs x = [] := by have := hP.row x hx; rw [h2] at this; exact this.nil_
                      refine .inl ⟨by simp [sweepV, h1], ?_⟩
                      show cutL (t.vs x) c = []
                      rw [h5, cutL_nil]
                    · show RowAt _ _ O (sweepV fc x) (cutL (t.vs x) c)
                      by_cases hnil : cutL (t.vs x) c = []
                      · refine .inl ⟨?_, hnil⟩
                        obtain ⟨A, c', e, _⟩ := own_form h3
                        subst e
                        simp [sweepV, h1, Option.filter, emptyV, hnil]
                      · obtain ⟨A, c', e, _⟩ := own_form h3
                        have hl : ¬ (cutL (t.vs x) c).length = 0 := fun h => hnil (List.length_eq_zero_iff.1 h)
                        refine .inr ⟨v, xs, ?_, hnil, own_down h3 (Nat.zero_le _), h4, fun b hb => ?_⟩
                        · subst e
                          simp [sweepV, h1, Option.filter, emptyV, hl]
                        · have hlt := h3.lt b hb
                          have b1 := hTw p i1; have b2 := hTw mb i2; have b3 := hTw wb i3
                          exact ⟨.inr ⟨by omega, hlt.2⟩, by omega, by omega, by omega⟩
                  at_ := hP.at_
                  apart := fun x y v u b hx hy hne hv hu hb hub => by
                    have q1 : fc x = some v := by
                      unfold sweepV at hv
                      cases hfx : fc x with
                      | none => rw [hfx] at hv; cases hv
                      | some v' => rw [hfx, Option.filter_eq_some_iff] at hv; exact hv.1
                    have q2 : fc y = some u := by
                      unfold sweepV at hu
                      cases hfx : fc y with
                      | none => rw [hfx] at hu; cases hu
                      | some v' => rw [hfx, Option.filter_eq_some_iff] at hu; exact hu.1
                    exact HA.out x y v u b hx hy hne (HDONE.out x hx) (HDONE.out y hy) q1 q2 hb hub
                  inT := ⟨.inl (.inl rfl), .inl (.inr (.inl rfl)), .inl (.inr (.inr rfl)), i4, i5, i6⟩
                  off := fun b hb => by
                    have hsz := hFT.size
                    rcases hb with (rfl | rfl | rfl) | ⟨h1, h2⟩
                    · exact ⟨Nat.lt_of_lt_of_le (hTw _ i1) hsz, (hP.off _ i1).2⟩
                    · exact ⟨Nat.lt_of_lt_of_le (hTw _ i2) hsz, (hP.off _ i2).2⟩
                    · exact ⟨Nat.lt_of_lt_of_le (hTw _ i3) hsz, (hP.off _ i3).2⟩
                    · exact ⟨h2, fun hO => by have := hOw b hO; omega⟩
                  offO := fun b hb => Nat.lt_of_lt_of_le (hOw b hb) hFT.size
                  small := fun x => by
                    show (cutL (t.vs x) c).length ≤ t.n
                    have := hP.small x
                    unfold cutL; rw [List.length_drop]; omega }
        · rcases hb with (rfl | rfl | rfl) | ⟨h1, _⟩
          · exact .inl i1
          · exact .inl i2
          · exact .inl i3
          · exact .inr h1
      · intro x v w1 cnt1 hx hlx hfx hR1 hlt1 hf1 hz1 hen
        have hfx' : f x = some v := by rw [← hfx, HL.out x hx hlx]
        obtain ⟨hsort, _, hlen, _⟩ := ok x
        have hF1 : Fr (fun q => q = mb) w w1 := hf.trans hf1 (fun q hq hT => by omega)
        rcases HROW.out x hx with ⟨h1, _⟩ | ⟨v', xs, h1, hne, hown, hchs, hbT⟩
        · rw [hfx'] at h1; cases h1
        rw [hfx'] at h1
        injection h1 with h1
        subst h1
        have hown1 := own_fr hown hF1 (fun b hb e => (hbT b hb).2.2.1 e)
        have hchs1 := hchs.keep hF1 hOmb
        have hxs1 := ChsC.one hchs
        generalize hl : t.vs x = l at *
        have hl0 : 0 < l.length := by
          rcases Nat.eq_zero_or_pos l.length with h0 | h0
          · exact absurd (List.length_eq_zero_iff.1 h0) hne
          · exact h0
        obtain ⟨A, cap, rfl, hlc, hcm, _⟩ := own_form hown1
        have hrd0 : Rd w1 (fun _ => True) 5 A l.length xs := (own_rd hown1 (by omega)).mono (fun _ _ _ => trivial) (by decide)
        obtain ⟨ga, of, rfl, _, _⟩ := hrd0.plain hl0 (by decide)
        have hrd : RdCh w1 (fun _ => True) (some ⟨ga, of, none⟩) l := ⟨xs, hrd0, hchs1.mono (fun _ _ _ => trivial)⟩
        have HS := Lib.hid hsort
        have hb1 := hbk.fr hF1 (fun e => hP.inT.2.2.2.1 e)
        clear hsort hR
        go_wp2_with fail
        refine (behind_calls _ (some ⟨ga, of, none⟩) cap l c _ hrd HS.out (by omega)).mono ?_
        rintro e w2 ⟨rfl, hf2⟩
        have hkl := behM_le l c
        obtain ⟨k, hk⟩ : ∃ k, k = behM l c - 1 := ⟨_, rfl⟩
        have hkl' : k < l.length := by omega
        have hmax := Lib.hid (show (k : Int) = max 0 ((behM l c : Int) - 1) by omega)
        have HCK := Lib.hid (show cutK l c = if (l[k].gone && decide (l[k].oop ≤ c)) = true then k + 1 else k by
          subst hk
          unfold cutK
          rw [List.getElem?_eq_getElem hkl'])
        have HK := Lib.hid hk
        clear hk
        obtain ⟨_, _, Av, nn, D, mm, e9, _, hcell, _, _⟩ := (hrd.fr0 hf2).at_ hkl'
        injection e9 with e9
        injection e9 with e91 e92
        subst e91 e92
        generalize l[k] = ver at *
        have hc0 := hcell 0 _ rfl
        have hc1 := hcell 1 _ rfl
        simp only [Nat.add_zero] at hc0
        clear hcell
        have ekl : decide ((k : Int) < l.length) = true := by simpa using (by omega : (k : Int) < l.length)
        have hF2 := hF1.trans hf2 (fun _ _ hn => hn.elim)
        have hR2 := hR1.fr0 hf2
        have hb2 := hb1.fr0 hf2
        have hz2 := hf2.size
        have hz1' : w1.heap.size = wr.heap.size := hz1
        have hrd2 := hrd0.fr0 hf2
        have hchs2 := hchs1.keep hf2 (fun _ _ hn => hn)
        (have y0 := hb2.cell 0; have y1 := hb2.cell 1; have y2 := hb2.cell 2; have y3 := hb2.cell 3; have yf0 := hb2.frozen 0; have yf1 := hb2.frozen 1; have yf2 := hb2.frozen 2; have yf3 := hb2.frozen 3; simp only [List.getElem?_toArray, List.getElem?_cons_zero, List.getElem?_cons_succ] at y0 y1 y2 y3)
        have g1 := plain_mver
        clear hR1 hb1
        go_upto_region 9 with (first
          | (refine wpList_max 0 ((behM l c : Int) - 1) (k : Int) hmax.out rfl rfl rfl rfl ?_)
          | fail)
        clear hmax
        cases hg : ver.gone with
        | false =>
          rw [hg] at hc1
          have HCK' : Hid (cutK l c = k) := Lib.hid (by rw [HCK.out, hg]; rfl)
          clear hg HCK
          go_upto_region 11 with fail
          have hkk : k ≤ l.length := by omega
          refine T_begin2 No [9] [0, 1, 2, 3, 4, 5, 6, 7, 8, 9] [8, 9] (by kernel_rfl) (by kernel_rfl) ?_
          simp only [pickOps, List.filterMap_cons, List.filterMap_nil, List.getElem?_cons_zero, List.getElem?_cons_succ, Act.put]
          repeat (first | (refine T_skip (by rfl) (by rfl) (fun _ _ _ h => h) ?_; try simp only [Act.put, List.setIfInBounds_toArray, List.set_cons_zero, List.set_cons_succ]) | (refine T_pass (by rfl) (by rfl) ?_; try simp only [Act.put, List.setIfInBounds_toArray, List.set_cons_zero, List.set_cons_succ]) | (refine T_load (by assumption) (by rfl) (by rfl) (fun _ _ _ _ h => h) rfl rfl (by assumption) (by first | exact (fun hn => hn) | assumption) ?_; try simp only [Act.put, List.setIfInBounds_toArray, List.set_cons_zero, List.set_cons_succ]) | (refine T_nil (by rfl) (by rfl) (fun _ _ _ _ h => h) rfl rfl ?_; try simp only [Act.put, List.setIfInBounds_toArray, List.set_cons_zero, List.set_cons_succ]) | (refine T_quietN (by rfl) (by rfl) (by rfl) (by rfl) (fun _ _ _ _ h => h) (fun K hK => ?_); go_big_quiet_op; refine hK _ ?_; clear hK K) | (refine T_two (by rfl) (by rfl) (by rfl) (by rfl) (fun _ _ _ _ h => h) (fun K hK => ?_); go_big_quiet_op; refine ⟨_, fun _ _ => rfl, ?_⟩; refine hK _ ?_; clear hK K; try simp only [Act.put, List.setIfInBounds_toArray, List.set_cons_zero, List.set_cons_succ]) | fail)
          refine T_call (by rfl) (by rfl) (fun K hK => ?_)
          go_wp2_with fail
          refine (vclone_calls _ _ _ (l.length - (k)) _ _ (Rd.cutP hrd2.drew hkk) (fun u hu => hxs1 u (List.mem_of_mem_drop hu)) (by omega)).mono ?_
          rintro e w3 ⟨v3, rfl, hown3, hf3⟩
          go_wp2_with fail
          (refine hK.out _ _ (hf3) ?_; clear hK K; try simp only [Act.put, List.setIfInBounds_toArray, List.set_cons_zero, List.set_cons_succ])
          have hfd : Fr No w2 w2.drew := (Fr.refl No w2).drew
          have hf23 := hfd.tr hf3
          have hR3 := hR2.fr0 hf23
          have hd2 : w2.drew.heap.size = w2.heap.size := rfl
          rw [hd2] at hown3
          refine T_turn No [] (by rfl) (by rfl) (by rfl) (fun K hK => ?_)
          refine wp_storeV rfl Try.underlying56 hR3 rfl (by simp only [maxLen]; omega) rfl hx hfx rfl ?_
          intro w4 hR4 hg4
          refine hK.out _ _ ?_
          clear hK K
          try simp only [Act.put, List.setIfInBounds_toArray, List.set_cons_zero, List.set_cons_succ]
          refine T_done ?_
          have hnew := forget_round (O := O) (w1 := w1) (w2 := w2) hx hlx hfx (l := l) hl HL HD HA hf hz hf1 hz1' hz0 hmbw hOmb hOw (hf2.tr hf23) hR4 hg4 hown3 (ChsC.drop (k) hchs2) HCK'.out hz2 hf23 hr0.1
          go_wp2_with fail
          go_roundw
          case rel => first | exact hnew | ((repeat apply Exists.intro); exact ⟨hnew, rfl⟩)
          case measure => rw [hR4.left_eq]; omega
        | true =>
          rw [hg] at hc1
          by_cases hc : ver.oop ≤ c
          · have ec : decide (ver.oop ≤ c) = true := by simpa using hc
            have HCK' : Hid (cutK l c = k + 1) := Lib.hid (by rw [HCK.out, hg, ec]; rfl)
            clear hg HCK hc
            go_upto_region 11 with fail
            rw [show (k : Int) + 1 = ((k + 1 : Nat) : Int) by omega]
            have hkk : k + 1 ≤ l.length := by omega
            refine T_begin2 No [9] [0, 1, 2, 3, 4, 5, 6, 7, 8, 9] [8, 9] (by kernel_rfl) (by kernel_rfl) ?_
            simp only [pickOps, List.filterMap_cons, List.filterMap_nil, List.getElem?_cons_zero, List.getElem?_cons_succ, Act.put]
            repeat (first | (refine T_skip (by rfl) (by rfl) (fun _ _ _ h => h) ?_; try simp only [Act.put, List.setIfInBounds_toArray, List.set_cons_zero, List.set_cons_succ]) | (refine T_pass (by rfl) (by rfl) ?_; try simp only [Act.put, List.setIfInBounds_toArray, List.set_cons_zero, List.set_cons_succ]) | (refine T_load (by assumption) (by rfl) (by rfl) (fun _ _ _ _ h => h) rfl rfl (by assumption) (by first | exact (fun hn => hn) | assumption) ?_; try simp only [Act.put, List.setIfInBounds_toArray, List.set_cons_zero, List.set_cons_succ]) | (refine T_nil (by rfl) (by rfl) (fun _ _ _ _ h => h) rfl rfl ?_; try simp only [Act.put, List.setIfInBounds_toArray, List.set_cons_zero, List.set_cons_succ]) | (refine T_quietN (by rfl) (by rfl) (by rfl) (by rfl) (fun _ _ _ _ h => h) (fun K hK => ?_); go_big_quiet_op; refine hK _ ?_; clear hK K) | (refine T_two (by rfl) (by rfl) (by rfl) (by rfl) (fun _ _ _ _ h => h) (fun K hK => ?_); go_big_quiet_op; refine ⟨_, fun _ _ => rfl, ?_⟩; refine hK _ ?_; clear hK K; try simp only [Act.put, List.setIfInBounds_toArray, List.set_cons_zero, List.set_cons_succ]) | fail)
            refine T_call (by rfl) (by rfl) (fun K hK => ?_)
            go_wp2_with fail
            · refine (vclone_calls _ _ _ (l.length - (k + 1)) _ _ (Rd.cut0 hrd2.drew (by omega)) (fun u hu => hxs1 u (List.mem_of_mem_drop hu)) (by omega)).mono ?_
              rintro e w3 ⟨v3, rfl, hown3, hf3⟩
              go_wp2_with fail
              (refine hK.out _ _ (hf3) ?_; clear hK K; try simp only [Act.put, List.setIfInBounds_toArray, List.set_cons_zero, List.set_cons_succ])
              have hfd : Fr No w2 w2.drew := (Fr.refl No w2).drew
              have hf23 := hfd.tr hf3
              have hR3 := hR2.fr0 hf23
              have hd2 : w2.drew.heap.size = w2.heap.size := rfl
              rw [hd2] at hown3
              refine T_turn No [] (by rfl) (by rfl) (by rfl) (fun K hK => ?_)
              refine wp_storeV rfl Try.underlying56 hR3 rfl (by simp only [maxLen]; omega) rfl hx hfx rfl ?_
              intro w4 hR4 hg4
              refine hK.out _ _ ?_
              clear hK K
              try simp only [Act.put, List.setIfInBounds_toArray, List.set_cons_zero, List.set_cons_succ]
              refine T_done ?_
              have hnew := forget_round (O := O) (w1 := w1) (w2 := w2) hx hlx hfx (l := l) hl HL HD HA hf hz hf1 hz1' hz0 hmbw hOmb hOw (hf2.tr hf23) hR4 hg4 hown3 (ChsC.drop (k + 1) hchs2) HCK'.out hz2 hf23 hr0.1
              go_wp2_with fail
              go_roundw
              case rel => first | exact hnew | ((repeat apply Exists.intro); exact ⟨hnew, rfl⟩)
              case measure => rw [hR4.left_eq]; omega
            · refine (vclone_calls _ _ _ (l.length - (k + 1)) _ _ (Rd.cutP hrd2.drew hkk) (fun u hu => hxs1 u (List.mem_of_mem_drop hu)) (by omega)).mono ?_
              rintro e w3 ⟨v3, rfl, hown3, hf3⟩
              go_wp2_with fail
              (refine hK.out _ _ (hf3) ?_; clear hK K; try simp only [Act.put, List.setIfInBounds_toArray, List.set_cons_zero, List.set_cons_succ])
              have hfd : Fr No w2 w2.drew := (Fr.refl No w2).drew
              have hf23 := hfd.tr hf3
              have hR3 := hR2.fr0 hf23
              have hd2 : w2.drew.heap.size = w2.heap.size := rfl
              rw [hd2] at hown3
              refine T_turn No [] (by rfl) (by rfl) (by rfl) (fun K hK => ?_)
              refine wp_storeV rfl Try.underlying56 hR3 rfl (by simp only [maxLen]; omega) rfl hx hfx rfl ?_
              intro w4 hR4 hg4
              refine hK.out _ _ ?_
              clear hK K
              try simp only [Act.put, List.setIfInBounds_toArray, List.set_cons_zero, List.set_cons_succ]
              refine T_done ?_
              have hnew := forget_round (O := O) (w1 := w1) (w2 := w2) hx hlx hfx (l := l) hl HL HD HA hf hz hf1 hz1' hz0 hmbw hOmb hOw (hf2.tr hf23) hR4 hg4 hown3 (ChsC.drop (k + 1) hchs2) HCK'.out hz2 hf23 hr0.1
              go_wp2_with fail
              go_roundw
              case rel => first | exact hnew | ((repeat apply Exists.intro); exact ⟨hnew, rfl⟩)
              case measure => rw [hR4.left_eq]; omega
          · have ec : decide (ver.oop ≤ c) = false := by simpa using hc
            have HCK' : Hid (cutK l c = k) := Lib.hid (by rw [HCK.out, hg, ec]; rfl)
            clear hg HCK hc
            go_upto_region 11 with fail
            have hkk : k ≤ l.length := by omega
            refine T_begin2 No [9] [0, 1, 2, 3, 4, 5, 6, 7, 8, 9] [8, 9] (by kernel_rfl) (by kernel_rfl) ?_
            simp only [pickOps, List.filterMap_cons, List.filterMap_nil, List.getElem?_cons_zero, List.getElem?_cons_succ, Act.put]
            repeat (first | (refine T_skip (by rfl) (by rfl) (fun _ _ _ h => h) ?_; try simp only [Act.put, List.setIfInBounds_toArray, List.set_cons_zero, List.set_cons_succ]) | (refine T_pass (by rfl) (by rfl) ?_; try simp only [Act.put, List.setIfInBounds_toArray, List.set_cons_zero, List.set_cons_succ]) | (refine T_load (by assumption) (by rfl) (by rfl) (fun _ _ _ _ h => h) rfl rfl (by assumption) (by first | exact (fun hn => hn) | assumption) ?_; try simp only [Act.put, List.setIfInBounds_toArray, List.set_cons_zero, List.set_cons_succ]) | (refine T_nil (by rfl) (by rfl) (fun _ _ _ _ h => h) rfl rfl ?_; try simp only [Act.put, List.setIfInBounds_toArray, List.set_cons_zero, List.set_cons_succ]) | (refine T_quietN (by rfl) (by rfl) (by rfl) (by rfl) (fun _ _ _ _ h => h) (fun K hK => ?_); go_big_quiet_op; refine hK _ ?_; clear hK K) | (refine T_two (by rfl) (by rfl) (by rfl) (by rfl) (fun _ _ _ _ h => h) (fun K hK => ?_); go_big_quiet_op; refine ⟨_, fun _ _ => rfl, ?_⟩; refine hK _ ?_; clear hK K; try simp only [Act.put, List.setIfInBounds_toArray, List.set_cons_zero, List.set_cons_succ]) | fail)
            refine T_call (by rfl) (by rfl) (fun K hK => ?_)
            go_wp2_with fail
            refine (vclone_calls _ _ _ (l.length - (k)) _ _ (Rd.cutP hrd2.drew hkk) (fun u hu => hxs1 u (List.mem_of_mem_drop hu)) (by omega)).mono ?_
            rintro e w3 ⟨v3, rfl, hown3, hf3⟩
            go_wp2_with fail
            (refine hK.out _ _ (hf3) ?_; clear hK K; try simp only [Act.put, List.setIfInBounds_toArray, List.set_cons_zero, List.set_cons_succ])
            have hfd : Fr No w2 w2.drew := (Fr.refl No w2).drew
            have hf23 := hfd.tr hf3
            have hR3 := hR2.fr0 hf23
            have hd2 : w2.drew.heap.size = w2.heap.size := rfl
            rw [hd2] at hown3
            refine T_turn No [] (by rfl) (by rfl) (by rfl) (fun K hK => ?_)
            refine wp_storeV rfl Try.underlying56 hR3 rfl (by simp only [maxLen]; omega) rfl hx hfx rfl ?_
            intro w4 hR4 hg4
            refine hK.out _ _ ?_
            clear hK K
            try simp only [Act.put, List.setIfInBounds_toArray, List.set_cons_zero, List.set_cons_succ]
            refine T_done ?_
            have hnew := forget_round (O := O) (w1 := w1) (w2 := w2) hx hlx hfx (l := l) hl HL HD HA hf hz hf1 hz1' hz0 hmbw hOmb hOw (hf2.tr hf23) hR4 hg4 hown3 (ChsC.drop (k) hchs2) HCK'.out hz2 hf23 hr0.1
            go_wp2_with fail
            go_roundw
            case rel => first | exact hnew | ((repeat apply Exists.intro); exact ⟨hnew, rfl⟩)
            case measure => rw [hR4.left_eq]; omega
end Go.Proofs.Ytifcnjebepipnaa
namespace Go.Proofs.Ytifcnjebepipnaa
set_option linter.unusedVariables false
set_option linter.unusedSimpArgs false
open Go.RowKit

theorem tfirst_calls (w : World) (p : Nat) (first last : Int) (m1 m2 : Value) (h : Blk w p 59 #[.int .i64 first, .int .i64 last, m1, m2]) :
    Calls Try.prog 11 #[.pointer (some ⟨p, 0, none⟩)] w fun e w' => e = .returned (.int .i64 first) ∧ w' = w := by
  (have p0 := h.cell 0; have p1 := h.cell 1; have p2 := h.cell 2; have p3 := h.cell 3; have pf0 := h.frozen 0; have pf1 := h.frozen 1; have pf2 := h.frozen 2; have pf3 := h.frozen 3; simp only [List.getElem?_toArray, List.getElem?_cons_zero, List.getElem?_cons_succ] at p0 p1 p2 p3)
  go_enter Try.func11, Try.ntmps11
  go_wp2
  go_ret
  exact ⟨rfl, rfl⟩
theorem zero_i64 (w : World) : (zeroValue 2).run Try.prog w = .ok (.int .i64 0) w := by kernel_rfl
def changedM (t : TabM) (x : Int) : Int := (t.wh x).getD 0
theorem changed_calls (w : World) (T O : Nat → Prop) (p : Nat) (t : TabM) (x : Int) (h : TabAt w T O p t) (hx : W64 x) :
    Calls Try.prog 22 #[.pointer (some ⟨p, 0, none⟩), .int .i64 x] w fun e w' => e = .returned (.int .i64 (changedM t x)) ∧ w' = w := by
  obtain ⟨mb, wb, f, g, hP⟩ := h
  have hbk := hP.blk
  (have p0 := hbk.cell 0; have p1 := hbk.cell 1; have p2 := hbk.cell 2; have p3 := hbk.cell 3; have pf0 := hbk.frozen 0; have pf1 := hbk.frozen 1; have pf2 := hbk.frozen 2; have pf3 := hbk.frozen 3; simp only [List.getElem?_toArray, List.getElem?_cons_zero, List.getElem?_cons_succ] at p0 p1 p2 p3)
  have hlk := hP.when.look Try.underlying57 (zero_i64 _) hx
  rw [hP.at_ x hx] at hlk
  have e1 : ((t.wh x).map (Value.int .i64)).getD (.int .i64 0) = .int .i64 (changedM t x) := by
    unfold changedM
    cases t.wh x <;> rfl
  rw [e1] at hlk
  clear e1
  go_enter Try.func22, Try.ntmps22
  go_wp2
  go_ret
  exact ⟨rfl, rfl⟩
def kr1 : RecM := ⟨1, [⟨5, false, ⟨1, [], []⟩⟩]⟩
def kr2 : RecM := ⟨2, [⟨5, false, ⟨2, [], []⟩⟩]⟩
def kk1 : TabM := (applyM tab0 kr1).1
def kk2 : TabM := (applyM kk1 kr2).1
def kk3 : TabM := (forgetM kk2 2).1
theorem kt1 : (applyM tab0 kr1).2 = 0 := by rfl
theorem kt2 : (applyM kk1 kr2).2 = 0 := by rfl
theorem kt3 : (forgetM kk2 2).2 = 0 := by rfl
theorem kt4 : atM kk2 1 5 = (⟨1, [], []⟩, 0) := by rfl
theorem kt5 : atM kk2 2 5 = (⟨2, [], []⟩, 0) := by rfl
theorem kt6 : atM kk3 1 5 = (noObj, 13) := by rfl
theorem kt7 : changedM kk3 5 = 2 := by rfl
theorem tab0_ok0 : TabOk tab0 := by
  intro x
  exact ⟨List.Pairwise.nil, (fun v hv => by cases hv), Nat.le_refl _, (fun v hv => by cases hv)⟩
theorem kk2_ok : TabOk kk2 := applyM_ok (applyM_ok tab0_ok0)
theorem kk3_ok : TabOk kk3 := forgetM_ok kk2_ok
theorem kk_n : kk1.n = 1 ∧ kk2.n = 2 ∧ kk3.n = 2 := ⟨by rfl, by rfl, by rfl⟩
/-- A record of one change in memory. -/
theorem k_rec {w : World} {g : Nat} {com cl : Int} (h1 : Blk w g 62 #[.int .i64 5, .bool false, .int .i64 cl, .slice none 0 0, .slice none 0 0]) :
    RecC w (fun b => b = g) [.int .i64 com, .slice (some ⟨g, 0, none⟩) 1 1] ⟨com, [⟨5, false, ⟨cl, [], []⟩⟩]⟩ := by
  have r1 := h1.rd (size := 5) (n := 1) (by rfl) (by decide)
  exact ⟨some ⟨g, 0, none⟩, 1, rfl, ⟨_, r1, [.int .i64 5, .bool false, .int .i64 cl, .slice none 0 0, .slice none 0 0], [], rfl, ⟨none, 0, none, 0, rfl, Rd.nil_, Rd.nil_⟩, rfl⟩⟩
abbrev tObj : TypeId := 38
theorem ObjOwn.lit6 {w : World} {B : Nat} {cs : List Value} {o : ObjM} (h : ObjOwn w B cs o) : ∃ A c D d, cs = [.int .i64 o.cls, .slice A o.slots.length c, .slice D o.bytes.length d] := by
  obtain ⟨A, c, D, d, M, e, _⟩ := h; exact ⟨A, c, D, d, e⟩
set_option maxHeartbeats 4000000 in
set_option maxRecDepth 100000 in
theorem known11_calls (w : World) :
    Calls Try.prog 16 #[] w fun e w' => e = .returned (.bool true) ∧ Fr No w w' := by
  go_enter Try.func16, Try.ntmps16
  go_wp2_with fail
  refine (tnew_calls w).mono ?_
  rintro e w1 ⟨p, rfl, hT1, hf1⟩
  have hz1 := hf1.size
  have hTl1 := hT1.lt
  go_wp2_with fail
  have hfA : Fr No w1 (((w1.alloc (.cells #[.int .i64 1, .slice none 0 0, .slice none 0 0] tObj)).alloc (.cells #[.int .i64 2, .slice none 0 0, .slice none 0 0] tObj)).alloc (.cells #[.int .i64 5, .bool false, .int .i64 1, .slice none 0 0, .slice none 0 0] 62)) := (((Fr.refl No w1).alloc _).alloc _).alloc _
  have hcA : Blk (((w1.alloc (.cells #[.int .i64 1, .slice none 0 0, .slice none 0 0] tObj)).alloc (.cells #[.int .i64 2, .slice none 0 0, .slice none 0 0] tObj)).alloc (.cells #[.int .i64 5, .bool false, .int .i64 1, .slice none 0 0, .slice none 0 0] 62)) (w1.heap.size + 1 + 1) 62 #[.int .i64 5, .bool false, .int .i64 1, .slice none 0 0, .slice none 0 0] := Blk.newAt (by simp)
  have hbA : Blk (((w1.alloc (.cells #[.int .i64 1, .slice none 0 0, .slice none 0 0] tObj)).alloc (.cells #[.int .i64 2, .slice none 0 0, .slice none 0 0] tObj)).alloc (.cells #[.int .i64 5, .bool false, .int .i64 1, .slice none 0 0, .slice none 0 0] 62)) (w1.heap.size + 1) tObj #[.int .i64 2, .slice none 0 0, .slice none 0 0] := (Blk.newAt (by simp)).alloc _
  have hzA := hcA.lt
  generalize hwA : (((w1.alloc (.cells #[.int .i64 1, .slice none 0 0, .slice none 0 0] tObj)).alloc (.cells #[.int .i64 2, .slice none 0 0, .slice none 0 0] tObj)).alloc (.cells #[.int .i64 5, .bool false, .int .i64 1, .slice none 0 0, .slice none 0 0] 62)) = wA at *
  clear hwA
  have hTA := hT1.fr0 hfA
  have hFA := hf1.tr hfA
  generalize hTT : (fun b => w.heap.size ≤ b ∧ b < w1.heap.size) = T1 at *
  have hTd : ∀ b, T1 b → w.heap.size ≤ b ∧ b < w1.heap.size := fun b hb => by rw [← hTT] at hb; exact hb
  clear hTT
  refine (tapply_calls wA T1 No _ p tab0 [.int .i64 1, .slice (some ⟨w1.heap.size + 1 + 1, 0, none⟩) 1 1] kr1 hTA (k_rec hcA) (fun b hb hT => by have := hTd b hT; omega) (by decide)).mono ?_
  rintro e w2 ⟨rfl, T2, O2, hT2, hq2, ho2, hf2⟩
  rw [kt1]
  have hT2 : TabAt w2 T2 O2 p kk1 := hT2
  have hF2 : Fr No w w2 := hFA.trans hf2 (fun b hb hT => by have := hTd b hT; omega)
  have hzw := hFA.size
  have hbA2 := hbA.fr hf2 (fun hT => by have := hTd _ hT; omega)
  have hT2d : ∀ b, T2 b → w.heap.size ≤ b ∧ b ≠ w1.heap.size + 1 := fun b hb => by
    rcases hq2 b hb with h | h
    · have := hTd b h; omega
    · omega
  have hO2d : ∀ b, O2 b → w.heap.size ≤ b := fun b hb => by
    rcases ho2 b hb with h | h
    · exact h.elim
    · omega
  (have y0 := hbA2.cell 0; have y1 := hbA2.cell 1; have y2 := hbA2.cell 2; have yf0 := hbA2.frozen 0; have yf1 := hbA2.frozen 1; have yf2 := hbA2.frozen 2; simp only [List.getElem?_toArray, List.getElem?_cons_zero, List.getElem?_cons_succ] at y0 y1 y2)
  have hlA := hbA2.all
  have hT2l := hT2.lt
  go_wp2_with (first
    | (refine wpList_ldA ag_obj rfl _ rfl ⟨w1.heap.size + 1, 0, none⟩ [.int .i64 2, .slice none 0 0, .slice none 0 0] rfl rfl hlA ?_)
    | fail)
  have hfB : Fr No w2 (w2.alloc (.cells #[.int .i64 5, .bool false, .int .i64 2, .slice none 0 0, .slice none 0 0] 62)) := (Fr.refl No w2).alloc _
  have hcB := Blk.new w2 62 #[.int .i64 5, .bool false, .int .i64 2, .slice none 0 0, .slice none 0 0]
  refine (tapply_calls _ T2 O2 _ p kk1 [.int .i64 2, .slice (some ⟨w2.heap.size, 0, none⟩) 1 1] kr2 (hT2.fr0 hfB) (k_rec hcB) (fun b hb hT => by have := hT2l.1 b hT; omega) (by rw [kk_n.1]; decide)).mono ?_
  rintro e w3 ⟨rfl, T3, O3, hT3, hq3, ho3, hf3⟩
  rw [kt2]
  have hT3 : TabAt w3 T3 O3 p kk2 := hT3
  have hF3 : Fr No w w3 := (hF2.tr hfB).trans hf3 (fun b hb hT => by have := hT2d b hT; omega)
  have hzB := (hF2.tr hfB).size
  have hT3d : ∀ b, T3 b → w.heap.size ≤ b := fun b hb => by
    rcases hq3 b hb with h | h
    · exact (hT2d b h).1
    · omega
  have hn2 : kk2.n ≤ 1000000 := by rw [kk_n.2.1]; decide
  have hn3 : kk3.n ≤ 1000000 := by rw [kk_n.2.2]; decide
  go_wp2_with fail
  refine (tat_calls w3 T3 O3 p kk2 1 5 hT3 kk2_ok hn2 (by decide)).mono ?_
  rw [kt4]
  rintro e w4 ⟨cs4, rfl, hown4, hf4⟩
  obtain ⟨A4, c4, D4, d4, rfl⟩ := hown4.lit6
  have hb5 := Blk.new w4 tObj #[.int .i64 1, .slice A4 0 c4, .slice D4 0 d4]
  have hf45 : Fr No w4 (w4.alloc (.cells #[.int .i64 1, .slice A4 0 c4, .slice D4 0 d4] tObj)) := (Fr.refl No w4).alloc _
  have hT5 := hT3.fr0 (hf4.tr hf45)
  go_wp2_with fail
  refine (tat_calls _ T3 O3 p kk2 2 5 hT5 kk2_ok hn2 (by decide)).mono ?_
  rw [kt5]
  rintro e w6 ⟨cs6, rfl, hown6, hf6⟩
  obtain ⟨A6, c6, D6, d6, rfl⟩ := hown6.lit6
  have hb7 := Blk.new w6 tObj #[.int .i64 2, .slice A6 0 c6, .slice D6 0 d6]
  have hf67 : Fr No w6 (w6.alloc (.cells #[.int .i64 2, .slice A6 0 c6, .slice D6 0 d6] tObj)) := (Fr.refl No w6).alloc _
  have hT7 := hT5.fr0 (hf6.tr hf67)
  have hb57 := hb5.fr0 (hf6.tr hf67)
  have hF7 := ((hF3.tr hf4).tr hf45).tr (hf6.tr hf67)
  have hz3 := hf3.size
  have hz4 := hf4.size
  have hz67 := hf67.size
  have hz6 := hf6.size
  have hz45 := hf45.size
  have hT3l := hT3.lt
  go_wp2_with fail
  refine (tforget_calls _ T3 O3 p kk2 2 hT7 kk2_ok hn2).mono ?_
  rw [kt3]
  rintro e w8 ⟨rfl, T8, hT8, hq8, hf8⟩
  have hT8 : TabAt w8 T8 O3 p kk3 := hT8
  have hF8 : Fr No w w8 := hF7.trans hf8 (fun b hb hT => by have := hT3d b hT; omega)
  have k5 := hb57.fr hf8 (fun hT => by have := hT3l.1 _ hT; omega)
  have k7 := hb7.fr hf8 (fun hT => by have := hT3l.1 _ hT; omega)
  go_wp2_with fail
  refine (tat_calls w8 T8 O3 p kk3 1 5 hT8 kk3_ok hn3 (by decide)).mono ?_
  rw [kt6]
  rintro e w9 ⟨cs9, rfl, hown9, hf9⟩
  obtain ⟨A9, c9, D9, d9, rfl⟩ := hown9.lit6
  have hf9A : Fr No w9 (w9.alloc (.cells #[.int .i64 noObj.cls, .slice A9 noObj.slots.length c9, .slice D9 noObj.bytes.length d9] tObj)) := (Fr.refl No w9).alloc _
  have hTA' := hT8.fr0 (hf9.tr hf9A)
  have k5' := (k5.fr0 (hf9.tr hf9A)).cell 0
  have k7' := (k7.fr0 (hf9.tr hf9A)).cell 0
  simp only [List.getElem?_toArray, List.getElem?_cons_zero] at k5' k7'
  go_wp2_with fail
  refine (changed_calls _ T8 O3 p kk3 5 hTA' (by decide)).mono ?_
  rw [kt7]
  rintro e wB ⟨rfl, hwB⟩
  have hwB := hwB.symm
  subst hwB
  obtain ⟨mb, wb, hbk⟩ := hTA'.blk
  go_wp2_with fail
  refine (tlast_calls _ p _ _ _ _ hbk).mono ?_
  rw [show kk3.last = 2 from rfl]
  rintro e wC ⟨rfl, hwC⟩
  have hwC := hwC.symm
  subst hwC
  go_wp2
  go_ret
  exact ⟨rfl, (hF8.tr hf9).tr hf9A⟩
end Go.Proofs.Ytifcnjebepipnaa
namespace Go.Proofs.Ytifcnjebepipnaa
set_option linter.unusedVariables false
set_option linter.unusedSimpArgs false
open Go.RowKit Go.Maps Go.Shelf
attribute [local go_sem] Oper.semAt_some

section
variable {F : Fence} {nF : Nat} {P : Program} {T : TypeId} {size : Nat}
theorem wpListIn_ldA (he : AggOf P T size) {ops : Array Oper} {rest : List Oper} {o : Oper} {a : Act} {w : World} {Q : Exit → Act → World → Prop} (hw : Region.wanted o (yielded ops a.tmps) = true) (x : Operand) (ho : o.op = .load T x)
    (ad : Addr) (cs : List Value) (hx : a.eval x = .pointer (some ad)) (hl : cs.length = size) (hc : ∀ j u, cs[j]? = some u → w.cell? (ad.add j) = some u)
    (h : wpListIn F nF P ops Q rest (a.put o.dst (.agg cs.toArray)) w) : wpListIn F nF P ops Q (o :: rest) a w := by
  refine BigFrame.wpListIn_want hw fun K hK => ?_
  unfold Oper.wpIn
  refine ⟨by simp [Oper.about, ho], ?_⟩
  rw [Oper.semAt_plain F _ _ (by rw [ho]; intro c hc'; cases hc')]
  unfold execOp
  simp only [ho, hx, Instr.loadAt, Instr.sureAddr, Sem.run_bind, Sem.run_pure, Result.andThen_ok, run_ldA he w ad cs hl hc]
  exact hK _ _ h
theorem wpListIn_app {t e : TypeId} {z : Value} {bytes : Nat} (he : SliceOf P t e z size bytes) {w : World} {ops : Array Oper} {rest : List Oper} {o : Oper} {a : Act} {Q : Exit → Act → World → Prop} (hw : Region.wanted o (yielded ops a.tmps) = true)
    {base : Nat} {v : Value} {n : Nat} {xs : List Value} (hown : w.ownsRow base e size v n xs)
    {S : Nat → Prop} {A : Option Addr} {m c : Nat} {news : List Value} (hr : Rd w S size A m news) (h1 : ∀ u ∈ news, u.oneCell' = true)
    (hbytes : (n + m) * bytes ≤ 140737488355328) (hbase : base ≤ w.heap.size)
    {s x : Operand} (ho : o.op = .call { callee := .builtin .append, args := #[s, x], argTypes := #[t, t] })
    (hs : a.eval s = v) (hx : a.eval x = .slice A m c)
    (h : ∀ v' w', w'.ownsRow base e size v' (n + m) (xs ++ news) → w.grownBy w' v.ownBlock → Hid (v'.ownBlock = v.ownBlock ∨ v'.ownBlock = some w.heap.size) → wpListIn F nF P ops Q rest (a.put o.dst v') w') : wpListIn F nF P ops Q (o :: rest) a w := by
  obtain ⟨v', w', hrun, h2, h3, h4⟩ := run_app_at (P := P) w he o.type base v n xs hown S A m c news hr h1 hbytes hbase
  refine BigFrame.wpListIn_want hw fun K hK => ?_
  unfold Oper.wpIn
  refine ⟨by simp [Oper.about, ho, resolve, Target.leads, Sem.run_pure], ?_⟩
  rw [Oper.semAt_plain F _ _ (by rw [ho]; intro c hc'; cases hc')]
  unfold execOp
  simp only [ho, resolve, invoke, builtin, Sem.run_bind, Sem.run_pure, Result.andThen_ok, List.map_toArray, List.map_cons, List.map_nil, hs, hx, hrun]
  exact hK _ _ (h v' w' h2 h3 (Lib.hid h4))
end
theorem wpListIn_rangeV {F : Fence} {nF : Nat} {w : World} {ops : Array Oper} {rest : List Oper} {o : Oper} {a : Act} {Q : Exit → Act → World → Prop} (hg : o.guard = none) (m : Operand) (t e : TypeId) (hop : o.op = Op.range t m) (ht : Try.prog.underlying t = some (.map 2 e)) (b n : Nat) (f : Int → Option Value)
    (hm : a.eval m = .map (some b)) (h : MapV w b n f)
    (hK : ∀ w' cnt, RangeV w' b w.heap.size n f (fun x => (f x).isSome) cnt → cnt ≤ n → w.grownBy w' none → wpListIn F nF Try.prog ops Q rest (a.put o.dst (.pointer (some ⟨w.heap.size, 0, none⟩))) w') :
    wpListIn F nF Try.prog ops Q (o :: rest) a w := by
  obtain ⟨D, ho, hf⟩ := h
  refine wpListIn_range_own w hg m t hop 2 e keyed64 ht hR b n D hm ho ?_
  intro w' h1 h2 h3
  exact hK w' _ ⟨D, _, h1, hf, fun x hx => (hf x hx).1⟩ ho.size_le h2
theorem wpListIn_nextV {F : Fence} {nF : Nat} {w : World} {ops : Array Oper} {rest : List Oper} {o : Oper} {a : Act} {Q : Exit → Act → World → Prop} (hg : o.guard = none) (it : Operand) (hop : o.op = Op.next it false) (b r n : Nat) (f : Int → Option Value) (left : Int → Bool) (cnt : Nat)
    (hit : a.eval it = .pointer (some ⟨r, 0, none⟩)) (h : RangeV w b r n f left cnt)
    (hDone : (∀ x, W64 x → left x = false) → wpListIn F nF Try.prog ops Q rest (a.put o.dst (.tuple #[.bool false])) w)
    (hMore : ∀ (x : Int) (v : Value) (w' : World) (cnt' : Nat), W64 x → left x = true → f x = some v → RangeV w' b r n f (fun y => left y && !decide (y = x)) cnt' → cnt' < cnt → w.grownBy w' (some r) → w'.heap.size = w.heap.size →
      (Instr.entry (.pointer (some ⟨r, 0, none⟩))).run Try.prog w' = .ok (.tuple #[.int .i64 x, v]) w' → wpListIn F nF Try.prog ops Q rest (a.put o.dst (.tuple #[.bool true, .int .i64 x, v])) w') :
    wpListIn F nF Try.prog ops Q (o :: rest) a w := by
  obtain ⟨D, lf, h1, h2, h3⟩ := h
  refine wpListIn_next_ranges w hg it hop 2 keyed64 hR (Value.int .i64) id (fun key kl hkey => by obtain ⟨x, rfl, _⟩ := Maps.keyOf_int_inv Try.underlying2 hkey; exact ⟨x, rfl⟩) (fun v y _ => ⟨v, rfl⟩) b r n D lf cnt hit h1 ?_ ?_
  · intro _ hl
    exact hDone (fun x hx => by rw [← h3 x hx]; exact hl _)
  · intro x v kl y w' cnt' hkey hlk hv hat hrg hlt hgr hsz hen
    obtain ⟨x', ex, rfl, hwx⟩ := Maps.keyOf_int_inv Try.underlying2 hkey
    cases ex
    unfold hR at hv
    simp only [id, Option.some.injEq] at hv
    subst hv
    simp only at hat
    have hlx : left x = true := by rw [← h3 x hwx]; exact hlk
    have hhas : has D (.int .i64 x) = true := has_true_of_atKey hat
    obtain ⟨a1, a2⟩ := h2 x hwx
    rw [hhas] at a1
    cases hfx : f x with
    | none => rw [hfx] at a1; cases a1
    | some u =>
      have e1 := a2 u hfx (.held u)
      rw [hat] at e1
      have e2 := held_inj e1
      subst e2
      exact hMore x v w' cnt' hwx hlx hfx ⟨D, _, hrg, h2, fun y hy => by show (_ && _) = (_ && _); rw [← h3 y hy, int_same]⟩ hlt hgr hsz hen
theorem RangeV.walk {w : World} {b r n : Nat} {f : Int → Option Value} {left : Int → Bool} {cnt : Nat} (h : RangeV w b r n f left cnt) : ∃ o : Obj, w.heap[r]? = some o ∧ o.isWalk = true := by
  obtain ⟨D, lf, h1, _⟩ := h
  exact h1.iter_walk
theorem RangeV.of_walks {w w' : World} {b r n : Nat} {f : Int → Option Value} {left : Int → Bool} {cnt : Nat} (h : RangeV w b r n f left cnt) (hk : KeepsWalks w w') : RangeV w' b r n f left cnt := by
  obtain ⟨D, lf, h1, h2⟩ := h
  exact ⟨D, lf, h1.of_walks hk, h2⟩
theorem Fr.grownNone {w w' : World} (h : Fr No w w') : w.grownBy w' none := ⟨h.os, h.tape, h.output, h.size, fun k hk _ => h.block k hk (fun hn => hn)⟩
theorem Fr.ofBelow {n₀ : Nat} {w w' : World} (h : Below n₀ w w') : Fr (fun b => n₀ ≤ b) w w' := ⟨h.os, h.tape, h.output, h.size, fun k _ hn => h.block k (by omega)⟩
/-- Is an oop an object behind a commit. -/
def liveV (t : TabM) (c x : Int) : Bool := match verM t c x with | some v => !v.gone | none => false
def LiveKeys (t : TabM) (c : Int) (ks : List Int) : Prop := ks.Nodup ∧ (∀ x ∈ ks, W64 x) ∧ ∀ x, W64 x → (x ∈ ks ↔ liveV t c x = true)
/-- What a round keeps. -/
def KpA (n₀ bc : Nat) (A B : World) : Prop := KeepsWalks A B ∧ Below n₀ A B ∧ B.heap[bc]? = A.heap[bc]?
abbrev encA (x : Int × Value) : Array Value := #[.int .i64 x.1, x.2]
theorem liveV_none {t : TabM} {c x : Int} (h : t.vs x = []) : liveV t c x = false := by
  have e : verM t c x = none := by unfold verM behM; rw [h]; rfl
  unfold liveV
  rw [e]
theorem liveV_zero {t : TabM} {c x : Int} (h : behM (t.vs x) c = 0) : liveV t c x = false := by
  have e : verM t c x = none := by unfold verM; rw [if_pos h]
  unfold liveV
  rw [e]
theorem liveV_succ {t : TabM} {c x : Int} {j : Nat} (h : behM (t.vs x) c = j + 1) (hj : j < (t.vs x).length) : liveV t c x = !(t.vs x)[j].gone := by
  have e : verM t c x = some (t.vs x)[j] := by unfold verM; rw [if_neg (by omega), h, Nat.add_sub_cancel, List.getElem?_eq_getElem hj]
  unfold liveV
  rw [e]
set_option maxRecDepth 100000 in
set_option maxHeartbeats 4000000 in
theorem all1_in (n : Nat) (hn : 3 ≤ n) (l bt bc n₀ : Nat) (p mb wb : Nat) (T O : Nat → Prop) (f g : Int → Option Value) (t : TabM) (c : Int) (J Jx : List (Int × Value) → World → Prop)
    (hY : ∀ pre x W, J pre W → pre.length < t.n → YieldAt Fence.wide (n - 1) Try.prog l (encA x) W fun e W' => (e = .returned (.bool true) ∧ J (pre ++ [x]) W' ∧ KpA n₀ bc W W') ∨ (e = .returned (.bool false) ∧ Jx (pre ++ [x]) W'))
    (W : World) (hJ : AbidesFrom W.heap.size J) (hbt : W.cell? ⟨bt, 0, none⟩ = some (.pointer (some ⟨p, 0, none⟩))) (hbc : W.cell? ⟨bc, 0, none⟩ = some (.int .i64 c)) (hP : TabP W T O p mb wb f g t) (ok : TabOk t) (htn : t.n ≤ 1000000)
    (hT0 : ∀ b, T b → b < n₀) (hO0 : ∀ b, O b → b < n₀) (hbn : n₀ ≤ bc) (h0 : J [] W) :
    CallsIn Fence.wide n Try.prog 43 #[.func (.yield l) #[] #[], .pointer (some ⟨bt, 0, none⟩), .pointer (some ⟨bc, 0, none⟩)] W fun e W' => (∃ v, e = .returned v) ∧
      ((∃ xs, LiveKeys t c (xs.map (·.1)) ∧ J xs W') ∨ (∃ pre, True ∧ Jx pre W')) := by
  have hbk := hP.blk
  (have y0 := hbk.cell 0; have y1 := hbk.cell 1; have y2 := hbk.cell 2; have y3 := hbk.cell 3; have yf0 := hbk.frozen 0; have yf1 := hbk.frozen 1; have yf2 := hbk.frozen 2; have yf3 := hbk.frozen 3; simp only [List.getElem?_toArray, List.getElem?_cons_zero, List.getElem?_cons_succ] at y0 y1 y2 y3)
  have hbcl : bc < W.heap.size := World.block_lt_of_cell? W _ hbc
  have hn0 : n₀ ≤ W.heap.size := by omega
  refine callsIn_of_wp Try.func43 rfl trivial ?_ rfl
  simp only [Try.ntmps43, List.size_toArray, List.length_cons, List.length_nil, Nat.reduceAdd, Nat.reduceSub, Array.replicate_succ, Array.replicate_zero, List.push_toArray, List.append_toArray, List.nil_append, List.cons_append]
  gi_wp2_with (first
    | (gi_at_range; refine wpListIn_rangeV rfl _ _ _ rfl Try.underlying56 mb t.n f rfl hP.vers ?_; intro w0 cnt0 hR0 hc0 hg0)
    | gi_in)
  go_frame
  gi_loopw [4, 5] (fun _ _ wr => ∃ (left : Int → Bool) (cnt : Nat) (ps : List (Int × Value)), RangeV wr mb W.heap.size t.n f left cnt ∧ ps.length + cnt ≤ t.n ∧ (ps.map (·.1)).Nodup ∧ Hid (∀ x ∈ ps.map (·.1), W64 x) ∧ Hid (∀ x, W64 x → (x ∈ ps.map (·.1) ↔ left x = false ∧ liveV t c x = true)) ∧ J ps wr ∧ Below n₀ W wr ∧ wr.cell? ⟨bc, 0, none⟩ = some (.int .i64 c)) (fun _ _ wr => wr.rangeLeft mb W.heap.size)
  case atStart =>
    refine ⟨_, _, [], hR0, by simpa using hc0, by simp, Lib.hid (by simp), Lib.hid (fun x hx => ?_), hJ [] W w0 none h0 hg0 (fun r e => by cases e), (Below.refl _ _).grown hg0 hn0 (fun k e => by cases e), hg0.cell hbc (by simp)⟩
    constructor
    · intro h; simp at h
    · rintro ⟨h1, h2⟩
      exfalso
      cases hfx : f x with
      | some v => rw [hfx] at h1; cases h1
      | none =>
        have := hP.row x hx
        rw [hfx] at this
        rw [liveV_none this.nil_] at h2
        cases h2
  case round =>
    obtain ⟨left, cnt, ps, hR, hcs, hnd, HW, HK, hJs, hB, hcb⟩ := hrel
    have hcnt := hR.left_eq
    gi_wp2_with (first
      | (gi_at_next; refine wpListIn_nextV rfl _ rfl mb W.heap.size t.n f left cnt rfl hR ?_ ?_)
      | gi_in)
    · intro hdone
      have hL : LiveKeys t c (ps.map (·.1)) := ⟨hnd, HW.out, fun x hx => by rw [HK.out x hx, hdone x hx]; simp⟩
      have HL := Lib.hid hL
      clear hR hdone hL
      gi_wp2
      go_end0
      exact ⟨⟨_, rfl⟩, .inl ⟨ps, HL.out, hJs⟩⟩
    · intro x v w1 cnt1 hx hlx hfx hR1 hlt1 hg1 hz1 hen
      have hrw : W.heap.size ≤ W.heap.size := Nat.le_refl _
      have hJ1 : J ps w1 := hJ ps wr w1 (some W.heap.size) hJs hg1 (fun r e => by cases e; exact ⟨Nat.le_refl _, hR.walk⟩)
      have hB1 : Below n₀ W w1 := hB.grown hg1 (Nat.le_trans hn0 hB.size) (fun k e => by cases e; exact hn0)
      have hcb1 : w1.cell? ⟨bc, 0, none⟩ = some (.int .i64 c) := hg1.cell hcb (by simp; omega)
      obtain ⟨hsort, _, hlen, _⟩ := ok x
      have hP1 := hP.fr (Fr.ofBelow hB1) (fun b hb hn => by have := hT0 b hb; omega) (fun b hb hn => by have := hO0 b hb; omega)
      rcases hP1.row x hx with ⟨h1, _⟩ | ⟨v', xs, h1, hne, hown, hchs, hbT⟩
      · rw [hfx] at h1; cases h1
      rw [hfx] at h1
      injection h1 with h1
      subst h1
      have HL0 := Lib.hid (show behM (t.vs x) c = 0 → liveV t c x = false from liveV_zero)
      have HL1 := Lib.hid (show ∀ j, behM (t.vs x) c = j + 1 → ∀ hj : j < (t.vs x).length, liveV t c x = !(t.vs x)[j].gone from fun j h hj => liveV_succ h hj)
      have hsmall := hP.small x
      generalize t.vs x = l at *
      obtain ⟨A, cap, rfl, hlc, hcm, _⟩ := own_form hown
      have hrd : RdCh w1 (fun _ => True) A l := ⟨xs, (own_rd hown (by omega)).mono (fun _ _ _ => trivial) (by decide), hchs.mono (fun _ _ _ => trivial)⟩
      have HS := Lib.hid hsort
      clear hsort hR hP1
      gi_wp2_with fail
      refine ⟨trivial, fun _ => by omega, ?_⟩
      refine (callsIn_wide.2 (behind_calls (fun _ => True) A cap l c w1 hrd HS.out (by omega))).mono ?_
      rintro e w2 ⟨rfl, hf2⟩
      have hJ2 : J ps w2 := hJ ps w1 w2 none hJ1 hf2.grownNone (fun r e => by cases e)
      have hB2 : Below n₀ W w2 := hB1.grown hf2.grownNone (Nat.le_trans hn0 hB1.size) (fun k e => by cases e)
      have hcb2 : w2.cell? ⟨bc, 0, none⟩ = some (.int .i64 c) := hf2.cell_some hcb1 (fun hn => hn)
      have hR2 := hR1.fr0 hf2
      have hrd2 := hrd.fr0 hf2
      clear hR1 hJ1 hB1 hcb1 hrd
      have hkl := behM_le l c
      have hnew : ∀ (b : Bool), liveV t c x = b → b = false → ∀ y, W64 y → (y ∈ ps.map (·.1) ↔ (left y && !decide (y = x)) = false ∧ liveV t c y = true) := fun b h1 h2 y hy => by
        rw [HK.out y hy]
        by_cases hyx : y = x
        · subst hyx; rw [h1, h2]; simp
        · simp [hyx]
      have HNEW := Lib.hid hnew
      clear hnew
      cases hk : behM l c with
      | zero =>
        have HN := Lib.hid (HNEW.out _ (HL0.out hk) rfl)
        clear hk HL0 HL1
        simp only [Int.natCast_zero]
        gi_wp2_with fail
        refine ⟨fun _ h => (by cases h), ?_⟩
        gi_wp2_with fail
        go_roundw
        case rel => exact ⟨_, cnt1, ps, hR2, by omega, hnd, HW, HN, hJ2, hB2, hcb2⟩
        case measure => rw [hR2.left_eq]; omega
      | succ j =>
        have hjl : j < l.length := by omega
        have HM := Lib.hid (HL1.out j hk hjl)
        obtain ⟨ga, of, Av, nn, D, mm, rfl, _, hcell, hsl, hby⟩ := hrd2.at_ hjl
        have ekj : ((j + 1 : Nat) : Int) = (j : Int) + 1 := by omega
        have ek0 : decide ((0 : Int) < (j : Int) + 1) = true := decide_eq_true (by omega)
        have ek1 : (j : Int) + 1 - 1 = j := by omega
        rw [ekj]
        clear hk HL0 HL1 ekj
        generalize l[j] = v at *
        have ekl : decide ((j : Int) < l.length) = true := by simpa using (by omega : (j : Int) < l.length)
        have hc1 := hcell 1 _ rfl
        have hobc : ∀ j_1 u, [Value.int .i64 v.obj.cls, .slice Av v.obj.slots.length nn, .slice D v.obj.bytes.length mm][j_1]? = some u → w2.cell? ((⟨ga, of + j * 5 + 2, none⟩ : Addr).add j_1) = some u := addr5 _ _ _ (fun j_1 u hu => by
          have := hcell (j_1 + 2) u (by simpa using hu)
          rwa [show of + j * 5 + (j_1 + 2) = of + j * 5 + 2 + j_1 by omega] at this)
        clear hcell
        cases hg : v.gone with
        | true =>
          rw [hg] at hc1
          have HN := Lib.hid (HNEW.out _ (HM.out) (by rw [hg]; rfl))
          clear hg
          gi_wp2_with fail
          refine ⟨fun _ h => (by cases h), ?_⟩
          gi_wp2_with fail
          go_roundw
          case rel => exact ⟨_, cnt1, ps, hR2, by omega, hnd, HW, HN, hJ2, hB2, hcb2⟩
          case measure => rw [hR2.left_eq]; omega
        | false =>
          rw [hg] at hc1
          have HLV : Hid (liveV t c x = true) := Lib.hid (HM.out.trans (by rw [hg]; rfl))
          have hxn : x ∉ ps.map (·.1) := fun hm => by
            have := ((HK.out x hx).1 hm).1
            rw [hlx] at this
            cases this
          have HNN := Lib.hid hxn
          clear hg hxn
          obtain ⟨fn, tmps, assign, body, hy, hRd⟩ := hY ps (x, .agg #[.int .i64 v.obj.cls, .slice Av v.obj.slots.length nn, .slice D v.obj.bytes.length mm]) w2 hJ2 (by omega)
          dsimp only [encA] at hy
          gi_wp2_with (first
            | (refine wpListIn_ldA ag_obj rfl _ rfl ⟨ga, of + j * 5 + 2, none⟩ _ rfl rfl hobc ?_)
            | gi_in)
          refine ⟨fun _ => by omega, ?_⟩
          refine hRd.mono ?_
          rintro e W3 (⟨rfl, hJ3, hk3⟩ | ⟨rfl, hJx3⟩)
          · gi_wp2
            have hR3 := hR2.of_walks hk3.1
            have hB3 : Below n₀ W W3 := hB2.trans hk3.2.1
            have hcb3 : W3.cell? ⟨bc, 0, none⟩ = some (.int .i64 c) := (World.cell?_of_block hk3.2.2).trans hcb2
            go_roundw
            case rel =>
              refine ⟨_, cnt1, ps ++ [(x, _)], hR3, by simp; omega, ?_, Lib.hid (fun y hy => ?_), Lib.hid (fun y hy => ?_), hJ3, hB3, hcb3⟩
              · rw [List.map_append, List.nodup_append]
                refine ⟨hnd, by simp, fun a ha b hb => ?_⟩
                simp at hb
                subst hb
                exact fun e => HNN.out (e ▸ ha)
              · rw [List.map_append, List.mem_append] at hy
                rcases hy with hy | hy
                · exact HW.out y hy
                · simp at hy; subst hy; exact hx
              · rw [List.map_append, List.mem_append, HK.out y hy]
                by_cases hyx : y = x
                · subst hyx
                  simp [HLV.out]
                · simp [hyx]
            case measure => rw [hR3.left_eq]; omega
          · gi_wp2
            refine bodyPost_ret (results_none rfl _ _ _) rfl ?_
            exact ⟨⟨_, rfl⟩, .inr ⟨_, trivial, hJx3⟩⟩
end Go.Proofs.Ytifcnjebepipnaa
namespace Go.Proofs.Ytifcnjebepipnaa
set_option linter.unusedVariables false
set_option linter.unusedSimpArgs false
open Go.RowKit

def I64 (l : List Int) : List Value := l.map (Value.int .i64)
theorem I64_length (l : List Int) : (I64 l).length = l.length := by simp [I64]
theorem I64_append (a b : List Int) : I64 (a ++ b) = I64 a ++ I64 b := by simp [I64]
theorem I64_one (l : List Int) : ∀ u ∈ I64 l, u.oneCell' = true := by
  intro u hu
  obtain ⟨x, _, rfl⟩ := List.mem_map.1 hu
  rfl
/-- A []int64 that reads as l. -/
def RdI (w : World) (S : Nat → Prop) (A : Option Addr) (l : List Int) : Prop := Rd w S 1 A l.length (I64 l)
theorem RdI.at_ {w : World} {S : Nat → Prop} {A : Option Addr} {l : List Int} {k : Nat} (h : RdI w S A l) (hk : k < l.length) : ∃ ad, A = some ad ∧ S ad.block ∧ w.cell? (ad.add k) = some (.int .i64 l[k]) := by
  obtain ⟨ad, u, e, hb, hx, hc⟩ := Rd.at_ h hk
  have : (I64 l)[k]? = some (.int .i64 l[k]) := by simp [I64, hk]
  rw [this] at hx
  obtain rfl := Option.some.inj hx
  exact ⟨ad, e, hb, hc⟩
theorem RdI.le {w : World} {S : Nat → Prop} {A : Option Addr} {l : List Int} (h : RdI w S A l) : l.length ≤ 211106232532992 := h.2.1
theorem RdI.fr0 {w w' : World} {S : Nat → Prop} {A : Option Addr} {l : List Int} (h : RdI w S A l) (hf : Fr No w w') : RdI w' S A l := Rd.fr0 h hf
theorem own_rdI {w : World} {base c : Nat} {e : TypeId} {A : Option Addr} {l : List Int} (h : w.ownsRow base e 1 (.slice A l.length c) l.length (I64 l)) (hn : l.length ≤ 211106232532992) : RdI w (fun b => A.map (·.block) = some b) A l := own_rd h hn
theorem so_i64 : SliceOf Try.prog 41 2 (.int .i64 0) 1 8 := ⟨Try.underlying41, by kernel_rfl, rfl, by decide, by decide, by decide⟩
theorem rd_new1 {w : World} {g : Nat} {v : Value} {e : TypeId} (h : g = w.heap.size) : Rd (w.alloc (.cells #[v] e)) (fun b => b = g) 1 (some ⟨g, 0, none⟩) 1 [v] := by
  subst h
  exact (Blk.new w e #[v]).rd (size := 1) (n := 1) (by rfl) (by decide)
/-- A row of int64 of the call's own. -/
def IRow (w : World) (base : Nat) (v : Value) (l : List Int) : Prop := w.ownsRow base 2 1 v l.length (I64 l)
theorem IRow.fr0 {w w' : World} {base : Nat} {v : Value} {l : List Int} (h : IRow w base v l) (hf : Fr No w w') : IRow w' base v l := own_fr0 h hf
theorem IRow.fr {S : Nat → Prop} {w w' : World} {base : Nat} {v : Value} {l : List Int} (h : IRow w base v l) (hf : Fr S w w') (hs : ∀ b, base ≤ b → ¬ S b) : IRow w' base v l := own_fr h hf (fun b hb => hs b (h.lt _ hb).1)
theorem IRow.rd {w : World} {base : Nat} {v : Value} {l : List Int} (h : IRow w base v l) (hl : l.length ≤ 211106232532992) : ∃ A c, v = .slice A l.length c ∧ RdI w (fun b => base ≤ b) A l := by
  obtain ⟨A, c, rfl, _, _, _⟩ := own_form h
  refine ⟨A, c, rfl, Rd.mono (own_rdI h hl) (fun b _ hb => ?_) (by decide)⟩
  cases A with
  | none => cases hb
  | some ad =>
    simp only [Option.map_some] at hb
    exact (World.ownsRow.lt h b hb).1

/-- Those of n numbers from a on of which p holds, rising. -/
def upI (p : Int → Bool) (a : Int) (n : Nat) : List Int := ((List.range n).map (fun i : Nat => a + (i : Int))).filter p
theorem upI_sorted (p : Int → Bool) (a : Int) (n : Nat) : (upI p a n).Pairwise (· < ·) := by
  unfold upI
  refine List.Pairwise.filter _ ?_
  refine List.pairwise_map.2 ?_
  exact (List.pairwise_lt_range (n := n)).imp (fun {x y} h => by omega)
theorem upI_mem (p : Int → Bool) (a : Int) (n : Nat) (x : Int) : x ∈ upI p a n ↔ (a ≤ x ∧ x < a + n) ∧ p x = true := by
  unfold upI
  rw [List.mem_filter, List.mem_map]
  constructor
  · rintro ⟨⟨i, hi, rfl⟩, hp⟩
    have := List.mem_range.1 hi
    exact ⟨⟨by omega, by omega⟩, hp⟩
  · rintro ⟨⟨h1, h2⟩, hp⟩
    exact ⟨⟨(x - a).toNat, List.mem_range.2 (by omega), by omega⟩, hp⟩
theorem upI_len (p : Int → Bool) (a : Int) (n : Nat) : (upI p a n).length ≤ n := by
  unfold upI
  refine Nat.le_trans (List.length_filter_le _ _) ?_
  simp
theorem upI_congr {p q : Int → Bool} {a : Int} {n : Nat} (h : ∀ x, a ≤ x → x < a + n → p x = q x) : upI p a n = upI q a n := by
  unfold upI
  refine List.filter_congr fun x hx => ?_
  obtain ⟨i, hi, rfl⟩ := List.mem_map.1 hx
  have := List.mem_range.1 hi
  exact h _ (by omega) (by omega)
theorem upI_none {p : Int → Bool} {a : Int} {n : Nat} (h : ∀ x, a ≤ x → x < a + n → p x = false) : upI p a n = [] := by
  unfold upI
  refine List.filter_eq_nil_iff.2 fun x hx => ?_
  obtain ⟨i, hi, rfl⟩ := List.mem_map.1 hx
  have := List.mem_range.1 hi
  rw [h _ (by omega) (by omega)]
  exact Bool.false_ne_true
theorem rising_ext : ∀ {l m : List Int}, l.Pairwise (· < ·) → m.Pairwise (· < ·) → (∀ x, x ∈ l ↔ x ∈ m) → l = m := by
  intro l m h1 h2 h
  refine List.Perm.eq_of_pairwise (le := (· < ·)) (fun a b _ _ x y => by omega) h1 h2 ?_
  exact (List.perm_ext_iff_of_nodup (h1.imp (fun {a b} hab => by omega)) (h2.imp (fun {a b} hab => by omega))).2 h
end Go.Proofs.Ytifcnjebepipnaa
namespace Go.Proofs.Ytifcnjebepipnaa
set_option linter.unusedVariables false
set_option linter.unusedSimpArgs false
set_option linter.unusedVariables false
open Go.Shelf
def sortL_ren : Go.Shelf.Ren := ⟨fun | 5 => 30 | 7 => 44 | 8 => 45 | 10 => 50 | 11 => 51 | 12 => 52 | 13 => 53 | 14 => 54 | 15 => 55 | 16 => 56 | 17 => 57 | 18 => 58 | 19 => 59 | 20 => 60 | 30 => 66 | 31 => 67 | 32 => 68 | 33 => 69 | 34 => 70 | 35 => 71 | 40 => 73 | n => n, fun | 0 => 0 | 3 => 3 | 4 => 4 | 5 => 5 | 9 => 9 | 22 => 41 | 23 => 41 | 25 => 2 | 32 => 90 | 35 => 95 | 36 => 96 | 41 => 84 | 44 => 102 | 46 => 104 | 53 => 109 | 57 => 113 | 63 => 116 | 64 => 117 | n => n, fun n => n⟩
theorem sortL : SlLaysM.n5 Try.prog sortL_ren := {
  mixed := by kernel_rfl
  f5 := ⟨Try.f30.name, by decide, Try.func30.trans (congrArg some (by kernel_rfl))⟩
  f7 := ⟨Try.f44.name, by decide, Try.func44.trans (congrArg some (by kernel_rfl))⟩
  f8 := Try.func45.trans (congrArg some (by kernel_rfl))
  f10 := ⟨Try.f50.name, by decide, Try.func50.trans (congrArg some (by kernel_rfl))⟩
  f11 := ⟨Try.f51.name, by decide, Try.func51.trans (congrArg some (by kernel_rfl))⟩
  f12 := ⟨Try.f52.name, by decide, Try.func52.trans (congrArg some (by kernel_rfl))⟩
  f13 := ⟨Try.f53.name, by decide, Try.func53.trans (congrArg some (by kernel_rfl))⟩
  f14 := ⟨Try.f54.name, by decide, Try.func54.trans (congrArg some (by kernel_rfl))⟩
  f15 := ⟨Try.f55.name, by decide, Try.func55.trans (congrArg some (by kernel_rfl))⟩
  f16 := ⟨Try.f56.name, by decide, Try.func56.trans (congrArg some (by kernel_rfl))⟩
  f17 := ⟨Try.f57.name, by decide, Try.func57.trans (congrArg some (by kernel_rfl))⟩
  f18 := ⟨Try.f58.name, by decide, Try.func58.trans (congrArg some (by kernel_rfl))⟩
  f19 := Try.func59.trans (congrArg some (by kernel_rfl))
  f20 := Try.func60.trans (congrArg some (by kernel_rfl))
  f30 := ⟨Try.f66.name, by decide, Try.func66.trans (congrArg some (by kernel_rfl))⟩
  f31 := Try.func67.trans (congrArg some (by kernel_rfl))
  f32 := Try.func68.trans (congrArg some (by kernel_rfl))
  f33 := ⟨Try.f69.name, by decide, Try.func69.trans (congrArg some (by kernel_rfl))⟩
  f34 := ⟨Try.f70.name, by decide, Try.func70.trans (congrArg some (by kernel_rfl))⟩
  f35 := ⟨Try.f71.name, by decide, Try.func71.trans (congrArg some (by kernel_rfl))⟩
  f40 := ⟨Try.f73.name, by decide, Try.func73.trans (congrArg some (by kernel_rfl))⟩
  t0 := Try.underlying0
  a0 := Try.isAgg0
  z0 := Try.sizeOf0
  v0 := Try.zeroValue0
  t3 := Try.underlying3
  a3 := Try.isAgg3
  z3 := Try.sizeOf3
  v3 := Try.zeroValue3
  t4 := Try.underlying4
  a4 := Try.isAgg4
  z4 := Try.sizeOf4
  v4 := Try.zeroValue4
  t5 := Try.underlying5
  a5 := Try.isAgg5
  z5 := Try.sizeOf5
  v5 := Try.zeroValue5
  t9 := Try.underlying9
  a9 := Try.isAgg9
  z9 := Try.sizeOf9
  v9 := Try.zeroValue9
  t22 := Try.underlying41
  a22 := Try.isAgg41
  z22 := Try.sizeOf41
  v22 := Try.zeroValue41
  t23 := Try.underlying41
  a23 := Try.isAgg41
  z23 := Try.sizeOf41
  v23 := Try.zeroValue41
  t25 := Try.underlying2
  a25 := Try.isAgg2
  z25 := Try.sizeOf2
  v25 := Try.zeroValue2
  t32 := Try.underlying90
  a32 := Try.isAgg90
  z32 := Try.sizeOf90
  v32 := Try.zeroValue90
  t35 := Try.underlying95
  a35 := Try.isAgg95
  z35 := Try.sizeOf95
  v35 := Try.zeroValue95
  t36 := Try.underlying96
  a36 := Try.isAgg96
  z36 := Try.sizeOf96
  v36 := Try.zeroValue96
  t41 := Try.underlying84
  a41 := Try.isAgg84
  z41 := Try.sizeOf84
  v41 := Try.zeroValue84
  t44 := Try.underlying102
  a44 := Try.isAgg102
  z44 := Try.sizeOf102
  v44 := Try.zeroValue102
  t46 := Try.underlying104
  a46 := Try.isAgg104
  z46 := Try.sizeOf104
  v46 := Try.zeroValue104
  t53 := Try.underlying109
  a53 := Try.isAgg109
  z53 := Try.sizeOf109
  v53 := Try.zeroValue109
  t57 := Try.underlying113
  a57 := Try.isAgg113
  z57 := Try.sizeOf113
  v57 := Try.zeroValue113
  t63 := Try.underlying116
  a63 := Try.isAgg116
  z63 := Try.sizeOf116
  v63 := Try.zeroValue116
  t64 := Try.underlying117
  a64 := Try.isAgg117
  z64 := Try.sizeOf117
  v64 := Try.zeroValue117 }
end Go.Proofs.Ytifcnjebepipnaa
namespace Go.Proofs.Ytifcnjebepipnaa
set_option linter.unusedVariables false
set_option linter.unusedSimpArgs false
open Go.RowKit Go.Maps Go.Shelf Go.Sort
attribute [local go_sem] Oper.semAt_some

theorem tall_calls (w : World) (p : Option Addr) (c : Int) :
    Calls Try.prog 29 #[.pointer p, .int .i64 c] w fun e w' => e = .returned (.func (.func 43) #[] #[.pointer (some ⟨w.heap.size, 0, none⟩), .pointer (some ⟨w.heap.size + 1, 0, none⟩)]) ∧ w' = (w.alloc (.cells #[.pointer p] 23)).alloc (.cells #[.int .i64 c] 2) := by
  go_enter Try.func29, Try.ntmps29
  go_wp2
  go_ret
  exact ⟨rfl, rfl⟩
/-- What Oops answers. -/
def OopsL (t : TabM) (c : Int) (l : List Int) : Prop :=
  if (decide (t.first ≤ c) && decide (c ≤ t.last)) = true then l.Pairwise (· < ·) ∧ (∀ x ∈ l, W64 x) ∧ ∀ x, W64 x → (x ∈ l ↔ liveV t c x = true) else l = []
theorem OopsL.unique {t : TabM} {c : Int} {l m : List Int} (h1 : OopsL t c l) (h2 : OopsL t c m) : l = m := by
  unfold OopsL at h1 h2
  split at h1
  · rename_i ha
    rw [if_pos ha] at h2
    refine rising_ext h1.1 h2.1 (fun x => ?_)
    constructor
    · intro hx
      have hw := h1.2.1 x hx
      exact (h2.2.2 x hw).2 ((h1.2.2 x hw).1 hx)
    · intro hx
      have hw := h2.2.1 x hx
      exact (h1.2.2 x hw).2 ((h2.2.2 x hw).1 hx)
  · rename_i ha
    rw [if_neg ha] at h2
    rw [h1, h2]
theorem sorted_rising2 {l : List Int} (h : l.Nodup) : (l.mergeSort (fun x y => decide (x ≤ y))).Pairwise (· < ·) := by
  have h1 : (l.mergeSort (fun x y => decide (x ≤ y))).Pairwise (fun a b => decide (a ≤ b) = true) := List.pairwise_mergeSort (le := fun x y : Int => decide (x ≤ y)) (fun a b c h1 h2 => by simp only [decide_eq_true_eq] at *; omega) (fun a b => by simp only [Bool.or_eq_true, decide_eq_true_eq]; omega) l
  have h2 : (l.mergeSort (fun x y => decide (x ≤ y))).Nodup := (List.mergeSort_perm l _).nodup_iff.2 h
  exact (h1.and h2).imp (fun {a b} ⟨x, y⟩ => by simp only [decide_eq_true_eq] at x; omega)
theorem live_sorted {t : TabM} {c : Int} {ks : List Int} (h : LiveKeys t c ks) (ha : (decide (t.first ≤ c) && decide (c ≤ t.last)) = true) : OopsL t c (ks.mergeSort (fun x y => decide (x ≤ y))) := by
  unfold OopsL
  rw [if_pos ha]
  obtain ⟨h1, h2, h3⟩ := h
  refine ⟨sorted_rising2 h1, fun x hx => h2 x (List.mem_mergeSort.1 hx), fun x hx => ?_⟩
  rw [List.mem_mergeSort]
  exact h3 x hx
theorem all_stops (w : World) (n : Nat) (hn : 3 ≤ n) (bt bc n₀ : Nat) (p mb wb : Nat) (T O : Nat → Prop) (f g : Int → Option Value) (t : TabM) (c : Int) (hbt : w.cell? ⟨bt, 0, none⟩ = some (.pointer (some ⟨p, 0, none⟩))) (hbc : w.cell? ⟨bc, 0, none⟩ = some (.int .i64 c)) (hP : TabP w T O p mb wb f g t) (ok : TabOk t) (htn : t.n ≤ 1000000)
    (hT0 : ∀ b, T b → b < n₀) (hO0 : ∀ b, O b → b < n₀) (hbn : n₀ ≤ bc) :
    SeqStopsK Fence.wide n Try.prog 43 #[.pointer (some ⟨bt, 0, none⟩), .pointer (some ⟨bc, 0, none⟩)] encA (KpA n₀ bc) (fun xs => LiveKeys t c (xs.map (·.1))) (fun _ => True) t.n w := fun l J Jx W hW hJ _ hY h0 =>
  all1_in n hn l bt bc n₀ p mb wb T O f g t c J Jx hY W hJ ((hW.cell (p := ⟨bt, 0, none⟩) (World.block_lt_of_cell? w _ hbt)).trans hbt) ((hW.cell (p := ⟨bc, 0, none⟩) (World.block_lt_of_cell? w _ hbc)).trans hbc) (hP.fr (Fr.of_below (S := No) hW) (fun _ _ hn => hn) (fun _ _ hn => hn)) ok htn hT0 hO0 hbn h0
set_option maxRecDepth 100000 in
set_option maxHeartbeats 4000000 in
theorem oops_calls (w : World) (T O : Nat → Prop) (p : Nat) (t : TabM) (c : Int) (h : TabAt w T O p t) (ok : TabOk t) (htn : t.n ≤ 1000000) :
    Calls Try.prog 13 #[.pointer (some ⟨p, 0, none⟩), .int .i64 c] w fun e w' => ∃ v l, e = .returned v ∧ OopsL t c l ∧ IRow w' w.heap.size v l ∧ Fr No w w' ∧ l.length ≤ t.n := by
  obtain ⟨mb, wb, f, g, hP⟩ := h
  have hbk := hP.blk
  have hask := asked_calls w p t.first t.last c _ _ hbk
  cases ha : (decide (t.first ≤ c) && decide (c ≤ t.last)) with
  | false =>
    rw [ha] at hask
    have HL : Hid (OopsL t c []) := Lib.hid (by unfold OopsL; rw [if_neg (by rw [ha]; decide)])
    clear ha
    go_enter Try.func13, Try.ntmps13
    go_wp2_with fail
    refine hask.mono ?_
    rintro e w1 ⟨rfl, hw1⟩
    have hw1 := hw1.symm
    subst hw1
    go_wp2
    go_ret
    exact ⟨_, [], rfl, HL.out, World.ownsRow_nil _ _ _ _, Fr.refl _ _, Nat.zero_le _⟩
  | true =>
    rw [ha] at hask
    have HA := Lib.hid ha
    clear ha
    refine (callsIn_wide (n := 8)).1 ?_
    refine callsIn_of_wp_marks Try.func13 rfl trivial ?_ rfl
    simp only [Try.ntmps13, List.size_toArray, List.length_cons, List.length_nil, Nat.reduceAdd, Nat.reduceSub, Array.replicate_succ, Array.replicate_zero, List.push_toArray, List.append_toArray, List.nil_append, List.cons_append]
    gi_wp2_with fail
    refine ⟨trivial, (callsIn_wide.2 hask).mono ?_⟩
    rintro e w1 ⟨rfl, hw1⟩
    have hw1 := hw1.symm
    subst hw1
    gi_wp2_with fail
    refine ⟨trivial, (callsIn_wide.2 (tall_calls _ _ c)).mono ?_⟩
    rintro e w2 ⟨rfl, hw2⟩
    have hw2 := hw2.symm
    subst hw2
    gi_wp2_with fail
    have hf3 : Fr No w (((w.alloc (.cells #[.slice none 0 0] 41)).alloc (.cells #[.pointer (some ⟨p, 0, none⟩)] 23)).alloc (.cells #[.int .i64 c] 2)) := (((Fr.refl No w).alloc _).alloc _).alloc _
    have hbl : Blk (((w.alloc (.cells #[.slice none 0 0] 41)).alloc (.cells #[.pointer (some ⟨p, 0, none⟩)] 23)).alloc (.cells #[.int .i64 c] 2)) w.heap.size 41 #[.slice none 0 0] := ((Blk.new w _ _).alloc _).alloc _
    have hbt : Blk (((w.alloc (.cells #[.slice none 0 0] 41)).alloc (.cells #[.pointer (some ⟨p, 0, none⟩)] 23)).alloc (.cells #[.int .i64 c] 2)) (w.heap.size + 1) 23 #[.pointer (some ⟨p, 0, none⟩)] := (Blk.newAt (by simp)).alloc _
    have hbc : Blk (((w.alloc (.cells #[.slice none 0 0] 41)).alloc (.cells #[.pointer (some ⟨p, 0, none⟩)] 23)).alloc (.cells #[.int .i64 c] 2)) (w.heap.size + 1 + 1) 2 #[.int .i64 c] := Blk.newAt (by simp)
    have hz3 : (((w.alloc (.cells #[.slice none 0 0] 41)).alloc (.cells #[.pointer (some ⟨p, 0, none⟩)] 23)).alloc (.cells #[.int .i64 c] 2)).heap.size = w.heap.size + 1 + 1 + 1 := by simp
    generalize hw3 : (((w.alloc (.cells #[.slice none 0 0] 41)).alloc (.cells #[.pointer (some ⟨p, 0, none⟩)] 23)).alloc (.cells #[.int .i64 c] 2)) = w3 at *
    clear hw3
    have hz3a : w.heap.size + 1 + 1 + 1 ≤ w3.heap.size := by omega
    have hz3b : w3.heap.size ≤ w.heap.size + 1 + 1 + 1 := by omega
    clear hz3
    have hP3 := hP.fr hf3 (fun _ _ hn => hn) (fun _ _ hn => hn)
    have hTw : ∀ b, T b → b < w.heap.size := fun b hb => (hP.off b hb).1
    have hOw : ∀ b, O b → b < w.heap.size := hP.offO
    have hct := hbt.cell 0
    have hcc := hbc.cell 0
    simp only [List.getElem?_toArray, List.getElem?_cons_zero] at hct hcc
    refine wpIn_rangeFunc_ownF (F := Fence.wide) (n := 8) rfl (by omega) (gf := 43) (lb := #[.pointer (some ⟨w.heap.size + 1, 0, none⟩), .pointer (some ⟨w.heap.size + 1 + 1, 0, none⟩)]) rfl trivial (enters_of Try.func43 (by kernel_rfl) rfl)
      (all_stops w3 7 (by omega) (w.heap.size + 1) (w.heap.size + 1 + 1) w.heap.size p mb wb T O f g t c hct hcc hP3 ok htn hTw hOw (by omega))
      (fun {A B C} h k => ⟨h.1.trans k.1, h.2.1.trans k.2.1, k.2.2.trans h.2.2⟩)
      (fun W l o o' hl h ho hw => ⟨KeepsWalks.putObj _ h hw, (Below.refl _ W).grown (grownBy_putObj' W l o') (by have := (Array.getElem?_eq_some_iff.1 h).1; omega) (fun k e => by cases e; omega), World.putObj_heap_other (by omega)⟩)
      (Below.refl _ _) (fun _ => rfl)
      (fun pre W => (∃ v, Blk W w.heap.size 41 #[v] ∧ W.ownsRow w3.heap.size 2 1 v pre.length (I64 (pre.map (·.1)))) ∧ Below w.heap.size w W ∧ w3.heap.size ≤ W.heap.size ∧ pre.length ≤ t.n)
      (fun _ _ _ => False)
      (fun s A B row hs hg hr => by
        obtain ⟨⟨v, hb, hrow⟩, hB, hsz, hn⟩ := hs
        refine ⟨⟨v, hb.grown hg (fun e => ?_), hrow.kept hg ?_⟩, hB.grown hg hB.size (fun k e => by have := (hr k e).1; omega), Nat.le_trans hsz hg.size, hn⟩
        · obtain ⟨_, o, ho, hc⟩ := hr _ e.symm
          rw [show A.heap[w.heap.size]? = _ from hb] at ho
          injection ho with ho
          subst ho
          cases hc
        · rcases hown : v.ownBlock with _ | q
          · exact .inl rfl
          · refine .inr (fun e => ?_)
            obtain ⟨_, o, ho, hc⟩ := hr q e.symm
            rcases hrow.2 with ⟨e2, _⟩ | ⟨g2, cap2, cur2, e2, _, hg2, _⟩
            · subst e2; cases hown
            · subst e2
              simp only [Value.ownBlock] at hown
              injection hown with hown
              subst hown
              rw [hg2] at ho
              injection ho with ho
              subst ho
              cases hc)
      (fun _ _ _ _ _ hs _ _ => hs)
      ⟨⟨_, hbl, World.ownsRow_nil _ _ _ _⟩, hf3.below, Nat.le_refl _, Nat.zero_le _⟩
      (fun x => { tmps := #[.pointer (some ⟨p, 0, none⟩), .int .i64 c, undef, undef, .slice none 0 0, .pointer (some ⟨w.heap.size, 0, none⟩), .int .i64 x.1, .pointer (some ⟨p, 0, none⟩), .bool false, .bool false, .pointer (some ⟨p, 0, none⟩), .int .i64 c, .bool true, .bool false, .bool false, .pointer (some ⟨p, 0, none⟩), .int .i64 c, .func (.func 43) #[] #[.pointer (some ⟨w.heap.size + 1, 0, none⟩), .pointer (some ⟨w.heap.size + 1 + 1, 0, none⟩)], .int .i64 x.1, x.2, undef, undef, undef, undef, undef, undef, undef], defers := [] }) ?assign ?body ?done ?stop
    case assign =>
      intro l x W K hK
      gi_wp2
      exact hK
    case body =>
      rintro l pre x W ⟨⟨v, hb, hrow⟩, hB, hsz, hn⟩ hlt
      have hc := hb.cell 0
      have hfz := hb.frozen 0
      simp only [List.getElem?_toArray, List.getElem?_cons_zero] at hc
      have hbW := hb.lt
      gi_wp2_with (first
        | (refine wpListIn_app so_i64 rfl (hrow.alloc _) (rd_new1 (by simp)) (by intro u hu; simp at hu; subst hu; rfl) (by omega) (by simp; omega) rfl rfl rfl ?_; intro v5 w5 hown5 hg5 hat5; have hb5 := (hb.alloc (.cells #[.int .i64 x.1] 2)).grown hg5 (fun e => by have := (hrow.lt _ e.symm).1; omega); have hc5 := hb5.cell 0; have hfz5 := hb5.frozen 0; simp only [List.getElem?_toArray, List.getElem?_cons_zero] at hc5; obtain ⟨A5, c5, rfl, hc5a, hc5b, hA5⟩ := own_form hown5)
        | gi_in)
      have hcr : ∀ (j : Nat) (o : Obj), v.ownBlock = some j → (W.alloc (.cells #[.int .i64 x.1] 2)).heap[j]? = some o → o.isCells = true := fun j o hj ho => by
        rcases (hrow.alloc (.cells #[.int .i64 x.1] 2)).2 with ⟨e2, _⟩ | ⟨g2, cap2, cur2, e2, _, hg2, _⟩
        · subst e2; cases hj
        · subst e2
          simp only [Value.ownBlock] at hj
          injection hj with hj
          subst hj
          rw [hg2] at ho
          injection ho with ho
          subst ho
          rfl
      have hKO : KeepsOthers W (w5.setCell ⟨w.heap.size, 0, none⟩ (.slice A5 (pre.length + 1) c5)) := ((KeepsOthers.alloc W _).trans (KeepsOthers.of_grownBy hg5 hcr)).trans (KeepsOthers.setCell _ _ _)
      have hF : Fr (fun b => b = w.heap.size ∨ w3.heap.size ≤ b) W (w5.setCell ⟨w.heap.size, 0, none⟩ (.slice A5 (pre.length + 1) c5)) := Fr.set (S := fun b => b = w.heap.size ∨ w3.heap.size ≤ b) (((Fr.refl _ W).alloc _).grown hg5 (fun q hq => .inr (.inr (hrow.lt q hq).1))) (p := ⟨w.heap.size, 0, none⟩) (.inr (.inl rfl)) _
      have hBW : Below w.heap.size W (w5.setCell ⟨w.heap.size, 0, none⟩ (.slice A5 (pre.length + 1) c5)) := ⟨hF.os, hF.tape, hF.output, hF.size, fun k hk => hF.block k (by omega) (by omega)⟩
      have hfS : Fr (fun b => b = w.heap.size) w5 (w5.setCell ⟨w.heap.size, 0, none⟩ (.slice A5 (pre.length + 1) c5)) := Fr.set (S := fun b => b = w.heap.size) (Fr.refl _ w5) (p := ⟨w.heap.size, 0, none⟩) (.inr rfl) _
      refine ⟨hKO, ⟨hKO.walks, hBW, hF.block _ (by omega) (by omega)⟩, ⟨⟨_, hb5.put 0 _, ?_⟩, hB.trans hBW, Nat.le_trans hsz hF.size, by simp; omega⟩⟩
      have h9 := own_fr hown5 hfS (fun b hb e => by have := (hown5.lt b hb).1; omega)
      rw [List.length_append, List.map_append, I64_append]
      exact h9
    case done =>
      rintro D xs W hD hL ⟨⟨v, hb, hrow⟩, hB, hsz, hn⟩ hK
      have hc := hb.cell 0
      simp only [List.getElem?_toArray, List.getElem?_cons_zero] at hc
      have hml : (xs.map (·.1)).length = xs.length := by simp
      have HS := live_sorted hL HA.out
      rcases hrow.2 with ⟨rfl, hz⟩ | ⟨gb, cap, cur, rfl, hbase, hgb, r1, r2, r3, r4⟩
      · have hxs : xs = [] := List.eq_nil_of_length_eq_zero hz
        subst hxs
        have cS : ∀ W, CallsIn Fence.wide 7 Try.prog 30 #[.slice none 0 0] W fun e w' => e = .returned (.tuple #[]) ∧ w' = W := fun W => callsIn_wide.2 (AnyM.slices_Sort_int_none sortL none 0 W)
        gi_wp2_with fail
        refine ⟨trivial, (cS W).mono ?_⟩
        rintro e w5 ⟨rfl, hw5⟩
        have hw5 := hw5.symm
        subst hw5
        gi_wp2
        refine ⟨by simp, .inl ⟨_, _, rfl, run_takeDeferred hK, ?_⟩⟩
        exact ⟨_, results_tmp rfl _ _ _, .slice none 0 0, [], rfl, by simpa using HS, (show IRow _ _ (.slice none 0 0) [] from World.ownsRow_nil _ _ _ _), Fr.of_below (hB.trans ((Below.refl _ W).grown (grownBy_putObj' W D _) hB.size (fun k e => by cases e; omega))), Nat.zero_le _⟩
      · have hH : Sort.Holds encZ W gb 0 (xs.map (·.1)).toArray := holds_of_block_i hgb (by rw [hml]; rw [Nat.mul_one] at r4; exact r4)
        have hgl : gb < W.heap.size := (Array.getElem?_eq_some_iff.1 hgb).1
        have cS := AnyM.slices_Sort_int sortL gb 0 cap (xs.map (·.1)) W hH hgl (by rw [hml]; omega)
        change Calls Try.prog 30 _ _ _ at cS
        have cS := (callsIn_wide (n := 7)).2 cS
        rw [hml] at cS
        gi_wp2_with fail
        refine ⟨trivial, cS.mono ?_⟩
        rintro e w5 ⟨rfl, nn, os, hw5⟩
        have hgr : W.grownBy w5 (some gb) := by rw [hw5]; exact grownBy_sorted_i _
        have hown5 : w5.ownsRow w3.heap.size 2 1 (.slice (some ⟨gb, 0, none⟩) xs.length cap) xs.length (((xs.map (·.1)).mergeSort fun x y => decide (x ≤ y)).map encZ) := by
          rw [hw5]
          have := ownsRow_sorted_i (w := W) (base := w3.heap.size) (n := nn) (e := 2) (os := os) (ss := xs.map (·.1)) (ts := (xs.map (·.1)).mergeSort fun x y => decide (x ≤ y)) (by simp) hbase hgb (by rw [hml]; exact r1) r2 r3
          rwa [hml] at this
        clear hw5
        have hb5 := hb.grown hgr (fun e => by injection e with e; omega)
        have hc5 := hb5.cell 0
        simp only [List.getElem?_toArray, List.getElem?_cons_zero] at hc5
        have hK5 : w5.heap[D]? = some (.deferred (some [])) := (hgr.block D (Array.getElem?_eq_some_iff.1 hK).1 (fun e => by
          injection e with e
          subst e
          rw [hgb] at hK
          cases hK)).trans hK
        gi_wp2
        refine ⟨by simp, .inl ⟨_, _, rfl, run_takeDeferred hK5, ?_⟩⟩
        have hB5 : Below w.heap.size w w5 := hB.trans ((Below.refl _ W).grown hgr hB.size (fun k e => by cases e; omega))
        have h9 := ownsRow_putObj hown5 (.deferred none) hK5 rfl
        refine ⟨_, results_tmp rfl _ _ _, _, _, rfl, HS, ?_, Fr.of_below (hB5.trans ((Below.refl _ w5).grown (grownBy_putObj' w5 D _) hB5.size (fun k e => by cases e; omega))), by simp; exact hn⟩
        have hlen : ((xs.map (·.1)).mergeSort fun x y => decide (x ≤ y)).length = xs.length := by simp
        unfold IRow
        rw [hlen]
        exact own_down h9 hf3.size
    case stop =>
      rintro D c pre W _ _ h _
      exact h.elim
end Go.Proofs.Ytifcnjebepipnaa
namespace Go.Proofs.Ytifcnjebepipnaa
set_option linter.unusedVariables false
set_option linter.unusedSimpArgs false
open Go.RowKit

def applyAll (t : TabM) (l : List RecM) : TabM := l.foldl (fun t r => (applyM t r).1) t
theorem applyAll_snoc (t : TabM) (l : List RecM) (r : RecM) : applyAll t (l ++ [r]) = (applyM (applyAll t l) r).1 := by unfold applyAll; rw [List.foldl_append]; rfl
theorem applyM_n3 (t : TabM) (r : RecM) : (applyM t r).1.n ≤ t.n + 4096 := by
  cases hr : rightR r with
  | false => rw [applyM_bad hr]; exact Nat.le_add_right _ _
  | true =>
    have := applyM_n t r
    have := (rightR_four hr).2.2.1
    omega
theorem applyAll_n : ∀ (l : List RecM) (t : TabM), (applyAll t l).n ≤ t.n + l.length * 4096
  | [], t => by simp [applyAll]
  | r :: l, t => by
    have h1 := applyAll_n l (applyM t r).1
    have h2 := applyM_n3 t r
    show (applyAll (applyM t r).1 l).n ≤ _
    rw [List.length_cons]; omega
theorem applyAll_ok : ∀ (l : List RecM) (t : TabM), TabOk t → TabOk (applyAll t l)
  | [], t, h => h
  | r :: l, t, h => applyAll_ok l _ (applyM_ok h)
theorem applyM_first (t : TabM) (r : RecM) : (applyM t r).1.first = t.first ∧ t.last ≤ (applyM t r).1.last := by
  cases hr : rightR r with
  | false => rw [applyM_bad hr]; exact ⟨rfl, Int.le_refl _⟩
  | true =>
    by_cases h2 : r.commit ≤ t.last
    · rw [applyM_old hr h2]; exact ⟨rfl, Int.le_refl _⟩
    · rw [applyM_yes hr h2]
      refine ⟨(fold_first r.commit r.chs t).1, ?_⟩
      show t.last ≤ r.commit
      omega
theorem applyAll_first : ∀ (l : List RecM) (t : TabM), (applyAll t l).first = t.first ∧ t.last ≤ (applyAll t l).last
  | [], t => ⟨rfl, Int.le_refl _⟩
  | r :: l, t => by
    obtain ⟨h1, h2⟩ := applyAll_first l (applyM t r).1
    obtain ⟨h3, h4⟩ := applyM_first t r
    exact ⟨h1.trans h3, Int.le_trans h4 h2⟩
theorem fold_vs2 (com x : Int) : ∀ (l : List ChM) (t : TabM), ∃ m : List ChM, (l.foldl (stepT com) t).vs x = t.vs x ++ m ∧ ∀ v ∈ m, v.oop = com
  | [], t => ⟨[], by simp, fun v hv => by cases hv⟩
  | c :: l, t => by
    obtain ⟨m, h1, h2⟩ := fold_vs2 com x l (stepT com t c)
    rw [List.foldl_cons, h1]
    by_cases h : x = c.oop
    · have e : (stepT com t c).vs x = t.vs x ++ [⟨com, c.gone, c.obj⟩] := if_pos h
      rw [e]
      refine ⟨⟨com, c.gone, c.obj⟩ :: m, by simp, fun v hv => ?_⟩
      rcases List.mem_cons.1 hv with rfl | hv
      · rfl
      · exact h2 v hv
    · have e : (stepT com t c).vs x = t.vs x := if_neg h
      rw [e]
      exact ⟨m, rfl, h2⟩
theorem applyM_vs (t : TabM) (r : RecM) (x : Int) : ∃ m : List ChM, (applyM t r).1.vs x = t.vs x ++ m ∧ ∀ v ∈ m, t.last < v.oop := by
  cases hr : rightR r with
  | false => rw [applyM_bad hr]; exact ⟨[], by simp, fun v hv => by cases hv⟩
  | true =>
    by_cases h2 : r.commit ≤ t.last
    · rw [applyM_old hr h2]; exact ⟨[], by simp, fun v hv => by cases hv⟩
    · rw [applyM_yes hr h2]
      obtain ⟨m, h3, h4⟩ := fold_vs2 r.commit x r.chs t
      exact ⟨m, h3, fun v hv => by rw [h4 v hv]; omega⟩
theorem applyAll_vs : ∀ (l : List RecM) (t : TabM) (x : Int), ∃ m : List ChM, (applyAll t l).vs x = t.vs x ++ m ∧ ∀ v ∈ m, t.last < v.oop
  | [], t, x => ⟨[], by simp [applyAll], fun v hv => by cases hv⟩
  | r :: l, t, x => by
    obtain ⟨m1, h1, h2⟩ := applyM_vs t r x
    obtain ⟨m2, h3, h4⟩ := applyAll_vs l (applyM t r).1 x
    have h5 := (applyM_first t r).2
    refine ⟨m1 ++ m2, ?_, fun v hv => ?_⟩
    · show (applyAll (applyM t r).1 l).vs x = _
      rw [h3, h1, List.append_assoc]
    · rcases List.mem_append.1 hv with hv | hv
      · exact h2 v hv
      · have := h4 v hv; omega
theorem verM_app {t u : TabM} {c x : Int} {m : List ChM} (h : u.vs x = t.vs x ++ m) (hm : ∀ v ∈ m, c < v.oop) : verM u c x = verM t c x := by
  have e : behM (t.vs x ++ m) c = behM (t.vs x) c := by
    unfold behM
    have e0 : m.countP (fun v => decide (v.oop ≤ c)) = 0 := List.countP_eq_zero.2 (fun v hv => by have := hm v hv; simp; omega)
    rw [List.countP_append, e0, Nat.add_zero]
  have hle := behM_le (t.vs x) c
  unfold verM
  rw [h, e]
  split
  · rfl
  · rw [List.getElem?_append_left (by omega)]
theorem stays_ver (l : List RecM) (t : TabM) {c x : Int} (hc : c ≤ t.last) : verM (applyAll t l) c x = verM t c x := by
  obtain ⟨m, h1, h2⟩ := applyAll_vs l t x
  exact verM_app h1 (fun v hv => by have := h2 v hv; omega)
theorem stays_at (l : List RecM) (t : TabM) {c : Int} (h1 : t.first ≤ c) (hc : c ≤ t.last) (x : Int) : atM (applyAll t l) c x = atM t c x := by
  obtain ⟨h3, h4⟩ := applyAll_first l t
  unfold atM
  rw [stays_ver l t hc, h3, if_pos (by simp; omega), if_pos (by simp; omega)]
theorem stays_oops (l : List RecM) (t : TabM) {c : Int} (h1 : t.first ≤ c) (hc : c ≤ t.last) {ks : List Int} (h : OopsL (applyAll t l) c ks) : OopsL t c ks := by
  obtain ⟨h3, h4⟩ := applyAll_first l t
  unfold OopsL at h ⊢
  rw [h3, if_pos (by simp; omega)] at h
  rw [if_pos (by simp; omega)]
  refine ⟨h.1, h.2.1, fun x hx => ?_⟩
  rw [h.2.2 x hx]
  unfold liveV
  rw [stays_ver l t hc]
theorem atM_small0 {t : TabM} (h : TabOk t) (c x : Int) : (atM t c x).1.slots.length ≤ 256 ∧ (atM t c x).1.bytes.length ≤ 1024 := by
  have hn : noObj.slots.length ≤ 256 ∧ noObj.bytes.length ≤ 1024 := ⟨by decide, by decide⟩
  unfold atM
  split
  · split
    · rename_i v hv
      unfold verM at hv
      split at hv
      · cases hv
      · split
        · exact hn
        · exact (h x).2.2.2 v (List.mem_of_getElem? hv)
    · exact hn
  · exact hn
end Go.Proofs.Ytifcnjebepipnaa
