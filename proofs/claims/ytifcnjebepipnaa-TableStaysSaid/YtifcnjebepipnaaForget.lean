/- table.Forget. No condition but size. -/
import Derived.Test.YtifcnjebepipnaaSweep11
import Derived.Test.YtifcnjebepipnaaTabApply
namespace Go.Proofs.Ytifcnjebepipnaa
set_option linter.unusedVariables false
set_option linter.unusedSimpArgs false
open Go.RowKit

/-- How many of some versions are forgotten. -/
def cutK (l : List ChM) (c : Int) : Nat :=
  match l[behM l c - 1]? with
  | some v => if (v.gone && decide (v.oop ≤ c)) = true then behM l c - 1 + 1 else behM l c - 1
  | none => behM l c - 1
def cutL (l : List ChM) (c : Int) : List ChM := l.drop (cutK l c)
theorem cutK_le (l : List ChM) (c : Int) : cutK l c ≤ l.length := by
  have := behM_le l c
  unfold cutK
  split
  · rename_i v hv
    obtain ⟨h, _⟩ := List.getElem?_eq_some_iff.1 hv
    split <;> omega
  · omega
theorem cutL_nil (c : Int) : cutL [] c = [] := by simp [cutL]
def forgetM (t : TabM) (c : Int) : TabM × Int :=
  if (decide (t.first ≤ c) && decide (c ≤ t.last)) = true then (⟨c, t.last, fun x => cutL (t.vs x) c, t.wh, t.n⟩, 0) else (t, 13)
theorem forgetM_no {t : TabM} {c : Int} (h : (decide (t.first ≤ c) && decide (c ≤ t.last)) = false) : forgetM t c = (t, 13) := by unfold forgetM; rw [if_neg (by rw [h]; decide)]
theorem forgetM_yes {t : TabM} {c : Int} (h : (decide (t.first ≤ c) && decide (c ≤ t.last)) = true) : forgetM t c = (⟨c, t.last, fun x => cutL (t.vs x) c, t.wh, t.n⟩, 0) := by unfold forgetM; rw [if_pos h]
theorem forgetM_ok {t : TabM} {c : Int} (h : TabOk t) : TabOk (forgetM t c).1 := by
  cases ha : (decide (t.first ≤ c) && decide (c ≤ t.last)) with
  | false => rw [forgetM_no ha]; exact h
  | true =>
    rw [forgetM_yes ha]
    intro x
    obtain ⟨a1, a2, a3, a4⟩ := h x
    refine ⟨a1.sublist (List.drop_sublist _ _), fun v hv => a2 v (List.mem_of_mem_drop hv), ?_, fun v hv => a4 v (List.mem_of_mem_drop hv)⟩
    show (cutL (t.vs x) c).length ≤ t.n
    unfold cutL; rw [List.length_drop]; omega
theorem vclone_calls (S : Nat → Prop) (A : Option Addr) (c n : Nat) (xs : List Value) (w : World) (h : Rd w S 5 A n xs) (h1 : ∀ u ∈ xs, u.oneCell' = true) (hb : n * 72 ≤ 140737488355328) :
    Calls Try.prog 32 #[.slice A n c] w fun e w' => ∃ v, e = .returned v ∧ w'.ownsRow w.heap.size tVer 5 v n xs ∧ Fr No w w' := by
  have hle := h.2.1
  have E := fun (w : World) (a : Option Addr) (n c n' c' : Nat) => Lib.run_eql_slice_nil (P := Try.prog) w tVers tVer a n c n' c' Try.underlying63
  cases A with
  | none =>
    have hn : n = 0 := by
      rcases Nat.eq_zero_or_pos n with h0 | h0
      · exact h0
      · obtain ⟨ad, hh, _⟩ := h.2.2 h0
        cases hh
    subst hn
    obtain rfl : xs = [] := List.eq_nil_of_length_eq_zero (by simpa using h.1)
    go_enter Try.func32, Try.ntmps32
    go_wp2
    go_ret
    exact ⟨_, rfl, World.ownsRow_nil _ _ _ _, Fr.refl _ _⟩
  | some ad =>
    go_enter Try.func32, Try.ntmps32
    go_wp2_with (refine wpList_app so_ver (World.ownsRow_made w #[] 0 (Nat.le_refl _) (Nat.zero_le _) rfl) (Rd.alloc h _) h1 (by omega) (by simp) rfl rfl rfl rfl ?_; intro v2 w2 hown2 hg2 hat2)
    go_ret
    exact ⟨v2, rfl, by simpa using hown2, ((Fr.refl No w).alloc _).grown hg2 (by simp [Value.ownBlock])⟩
/-- Cells that read as changes, from one of them on. -/
theorem ChsC.drop {w : World} {S : Nat → Prop} : ∀ {ts : List ChM} {xs : List Value} (k : Nat), ChsC w S xs ts → ChsC w S (xs.drop (k * 5)) (ts.drop k)
  | ts, xs, 0, h => by simpa using h
  | [], xs, k + 1, h => by
    have : xs = [] := h
    subst this; simp; rfl
  | t :: ts, xs, k + 1, ⟨cs, rest, e, hc, hr⟩ => by
    have hl := hc.len
    have := ChsC.drop k hr
    rw [List.drop_succ_cons, e, show (k + 1) * 5 = cs.length + k * 5 by omega, List.drop_append, List.drop_eq_nil_of_le (by omega), List.nil_append, Nat.add_sub_cancel_left]
    exact this
/-- What one oop's entry has come to: a row of its own. -/
def CutAt (w : World) (O : Nat → Prop) (B : Nat) (v : Value) (l : List ChM) : Prop :=
  ∃ xs, w.ownsRow B tVer 5 v l.length xs ∧ ChsC w O xs l
theorem CutAt.fr {S : Nat → Prop} {w w' : World} {O : Nat → Prop} {B : Nat} {v : Value} {l : List ChM} (h : CutAt w O B v l) (hf : Fr S w w') (h1 : ∀ b, B ≤ b → ¬ S b) (h2 : ∀ b, O b → ¬ S b) : CutAt w' O B v l := by
  obtain ⟨xs, a, b⟩ := h
  exact ⟨xs, own_fr a hf (fun q hq => h1 q (a.lt q hq).1), b.keep hf h2⟩
theorem CutAt.slice {w : World} {O : Nat → Prop} {B : Nat} {v : Value} {l : List ChM} (h : CutAt w O B v l) : ∃ A c, v = .slice A l.length c := by
  obtain ⟨xs, a, b⟩ := h
  obtain ⟨A, c, e, _⟩ := own_form a
  exact ⟨A, c, e⟩
theorem Rd.cutAt {w : World} {S : Nat → Prop} {g o n c k : Nat} {xs : List Value} (h : Rd w S 5 (some ⟨g, o, none⟩) n xs) (hk : k ≤ n) (hc : n ≤ c) : Rd w S 5 (if c = k then some ⟨g, o, none⟩ else some ((⟨g, o, none⟩ : Addr).add (k * 5))) (n - k) (xs.drop (k * 5)) := by
  have := Rd.cut h hk hc
  simpa using this

theorem Rd.cutP {w : World} {S : Nat → Prop} {g o n k : Nat} {xs : List Value} (h : Rd w S 5 (some ⟨g, o, none⟩) n xs) (hk : k ≤ n) : Rd w S 5 (some ⟨g, o + k * 5, none⟩) (n - k) (xs.drop (k * 5)) := by
  have h1 := Rd.cut h hk (Nat.le_succ n)
  have e : (⟨g, o, none⟩ : Addr).add (k * 5) = ⟨g, o + k * 5, none⟩ := by unfold Addr.add; split <;> simp_all
  rw [if_neg (by omega), Option.map_some, e] at h1
  exact h1
theorem Rd.cut0 {w : World} {S : Nat → Prop} {A B : Option Addr} {n k : Nat} {xs : List Value} (h : Rd w S 5 A n xs) (hk : n ≤ k) : Rd w S 5 B (n - k) (xs.drop (k * 5)) := by
  have hl := h.1
  have e1 : n - k = 0 := by omega
  have e2 : xs.drop (k * 5) = [] := List.drop_eq_nil_of_le (by omega)
  rw [e1, e2]; exact Rd.nil_
theorem forget_round {O : Nat → Prop} {w w0 wr w1 w2 w3 w4 : World} {mb n : Nat} {f fc : Int → Option Value} {left : Int → Bool} {cnt1 : Nat} {c x : Int} {v v3 : Value} {t : TabM} {l : List ChM} {xs : List Value} {K : Nat}
    (hx : W64 x) (hlx : left x = true) (hfx : fc x = some v) (hl : t.vs x = l) (HL : Hid (∀ x, W64 x → left x = true → fc x = f x))
    (HD : Hid (∀ x, W64 x → left x = false → (fc x = none ∧ f x = none) ∨ ∃ v, fc x = some v ∧ CutAt wr O w0.heap.size v (cutL (t.vs x) c)))
    (HA : Hid (∀ x y v u b, W64 x → W64 y → x ≠ y → left x = false → left y = false → fc x = some v → fc y = some u → v.ownBlock = some b → ¬ u.ownBlock = some b))
    (hf : Fr (fun q => q = mb) w wr) (hz : w0.heap.size ≤ wr.heap.size) (hf1 : Fr (fun q => q = w.heap.size) wr w1) (hz1 : w1.heap.size = wr.heap.size) (hz0 : w.heap.size ≤ w0.heap.size)
    (hmbw : mb < w.heap.size) (hOmb : ∀ b, O b → ¬ b = mb) (hOw : ∀ b, O b → b < w.heap.size) (hf13 : Fr No w1 w3) (hR4 : RangeV w4 mb w.heap.size n (fput fc x v3) (fun y => left y && !decide (y = x)) cnt1) (hg4 : w3.grownBy w4 (some mb))
    (hown3 : w3.ownsRow w2.heap.size tVer 5 v3 (l.length - K) (xs.drop (K * 5))) (hch : ChsC w2 O (xs.drop (K * 5)) (l.drop K)) (hck : cutK l c = K) (hz2 : w1.heap.size ≤ w2.heap.size) (hf23 : Fr No w2 w3) (hr0 : w.heap.size < w0.heap.size) :
    ∃ (fc : Int → Option Value) (left : Int → Bool) (cnt : Nat), RangeV w4 mb w.heap.size n fc left cnt ∧ Hid (∀ x, W64 x → left x = true → fc x = f x) ∧ Hid (∀ x, W64 x → left x = false → (fc x = none ∧ f x = none) ∨ ∃ v, fc x = some v ∧ CutAt w4 O w0.heap.size v (cutL (t.vs x) c)) ∧
      Hid (∀ x y v u b, W64 x → W64 y → x ≠ y → left x = false → left y = false → fc x = some v → fc y = some u → v.ownBlock = some b → ¬ u.ownBlock = some b) ∧ Fr (fun q => q = mb) w w4 ∧ w0.heap.size ≤ w4.heap.size := by
  have hf4 : Fr (fun q => q = mb) w3 w4 := (Fr.refl _ w3).grown hg4 (fun q hq => by injection hq with hq; exact .inr hq.symm)
  have hz3 := hf13.size
  have hz4 := hf4.size
  have hF : Fr (fun q => q = mb) w w4 := ((hf.trans hf1 (fun q hq hT => by omega)).trans hf13 (fun _ _ hn => hn.elim)).trans hf4 (fun _ _ h => h)
  have hold : ∀ y u, W64 y → left y = false → fc y = some u → CutAt wr O w0.heap.size u (cutL (t.vs y) c) := fun y u hy h1 h2 => by
    rcases HD.out y hy h1 with ⟨h3, _⟩ | ⟨u', h3, h4⟩
    · rw [h3] at h2; cases h2
    · rw [h3] at h2; injection h2 with h2; subst h2; exact h4
  have hblk : ∀ y u b, W64 y → left y = false → fc y = some u → u.ownBlock = some b → b < wr.heap.size := fun y u b hy h1 h2 h3 => by
    obtain ⟨xs', h4, _⟩ := hold y u hy h1 h2
    exact (h4.lt b h3).2
  have hnl : ∀ y, (left y && !decide (y = x)) = false → y = x ∨ (y ≠ x ∧ left y = false) := fun y h => by
    by_cases hyx : y = x
    · exact .inl hyx
    · refine .inr ⟨hyx, ?_⟩
      simpa [hyx] using h
  refine ⟨fput fc x v3, _, cnt1, hR4, Lib.hid (fun y hy h => ?_), Lib.hid (fun y hy h => ?_), Lib.hid (fun y z a u b hy hz' hne h1 h2 h3 h4 h5 h6 => ?_), hF, by omega⟩
  · simp only [Bool.and_eq_true, Bool.not_eq_true', decide_eq_false_iff_not] at h
    rw [fput_other _ _ h.2]
    exact HL.out y hy h.1
  · rcases hnl y h with rfl | ⟨hyx, hly⟩
    · refine .inr ⟨v3, fput_same _ _ _, ?_⟩
      rw [hl]
      refine ⟨xs.drop (K * 5), ?_, ?_⟩
      · unfold cutL
        rw [hck, List.length_drop]
        exact own_down (own_fr hown3 hf4 (fun b hb e => by have := (hown3.lt b hb).1; omega)) (by omega)
      · unfold cutL
        rw [hck]
        exact (hch.keep hf23 (fun _ _ hn => hn)).keep hf4 hOmb
    · rw [fput_other _ _ hyx]
      rcases HD.out y hy hly with h3 | ⟨u, h3, h4⟩
      · exact .inl h3
      · exact .inr ⟨u, h3, ((h4.fr hf1 (fun b hb e => by omega) (fun b hb e => by have := hOw b hb; omega)).fr hf13 (fun _ _ hn => hn) (fun _ _ hn => hn)).fr hf4 (fun b hb e => by omega) hOmb⟩
  · have hv3 : ∀ b, v3.ownBlock = some b → w2.heap.size ≤ b := fun b hb => (hown3.lt b hb).1
    rcases hnl y h1 with rfl | ⟨hyx, hly⟩
    · rcases hnl z h2 with rfl | ⟨hzx, hlz⟩
      · exact hne rfl
      · rw [fput_same] at h3
        rw [fput_other _ _ hzx] at h4
        injection h3 with h3
        subst h3
        have := hv3 b h5
        have := hblk z u b hz' hlz h4 h6
        omega
    · rw [fput_other _ _ hyx] at h3
      rcases hnl z h2 with rfl | ⟨hzx, hlz⟩
      · rw [fput_same] at h4
        injection h4 with h4
        subst h4
        have := hv3 b h6
        have := hblk y a b hy hly h3 h5
        omega
      · rw [fput_other _ _ hzx] at h4
        exact HA.out y z a u b hy hz' hne hly hlz h3 h4 h5 h6
set_option maxHeartbeats 4000000 in
set_option maxRecDepth 100000 in
theorem tforget_calls (w : World) (T O : Nat → Prop) (p : Nat) (t : TabM) (c : Int) (h : TabAt w T O p t) (ok : TabOk t) (hn : t.n ≤ 1000000) :
    Calls Try.prog 21 #[.pointer (some ⟨p, 0, none⟩), .int .i64 c] w fun e w' => e = .returned (.int .i64 (forgetM t c).2) ∧ ∃ T', TabAt w' T' O p (forgetM t c).1 ∧ (∀ b, T' b → T b ∨ w.heap.size ≤ b) ∧ Fr T w w' := by
  obtain ⟨mb, wb, f, g, hP⟩ := h
  have hbk := hP.blk
  (have p0 := hbk.cell 0; have p1 := hbk.cell 1; have p2 := hbk.cell 2; have p3 := hbk.cell 3; have pf0 := hbk.frozen 0; have pf1 := hbk.frozen 1; have pf2 := hbk.frozen 2; have pf3 := hbk.frozen 3; simp only [List.getElem?_toArray, List.getElem?_cons_zero, List.getElem?_cons_succ] at p0 p1 p2 p3)
  have hask := asked_calls w p t.first t.last c _ _ hbk
  cases ha : (decide (t.first ≤ c) && decide (c ≤ t.last)) with
  | false =>
    rw [ha] at hask
    rw [forgetM_no ha]
    clear ha
    go_enter Try.func21, Try.ntmps21
    go_wp2_with fail
    refine hask.mono ?_
    rintro e w1 ⟨rfl, hw1⟩
    have hw1 := hw1.symm
    subst hw1
    go_wp2
    go_ret
    exact ⟨rfl, T, ⟨mb, wb, f, g, hP⟩, fun b hb => .inl hb, Fr.refl _ _⟩
  | true =>
    rw [ha] at hask
    rw [forgetM_yes ha]
    clear ha
    go_enter Try.func21, Try.ntmps21
    go_wp2_with fail
    refine hask.mono ?_
    rintro e w1 ⟨rfl, hw1⟩
    have hw1 := hw1.symm
    subst hw1
    go_wp2_with (first
      | (refine wpList_rangeV rfl _ _ _ rfl Try.underlying56 mb t.n f rfl hP.vers ?_; intro w0 cnt0 hR0 hf0)
      | fail)
    have hz0 := hf0.size
    have hr0 := hR0.lt
    go_frame
    have hfw0 : Fr No w w0 := hf0
    have hmb : T mb := hP.inT.2.1
    have hTw := fun b (hb : T b) => (hP.off b hb).1
    have hmbw := hTw mb hmb
    have hOmb : ∀ b, O b → ¬ b = mb := fun b hb e => (hP.off mb hmb).2 (e ▸ hb)
    have hOw := hP.offO
    have HROW := Lib.hid hP.row
    go_loopw [7] (fun s wr => ∃ (fc : Int → Option Value) (left : Int → Bool) (cnt : Nat), RangeV wr mb w.heap.size t.n fc left cnt ∧ Hid (∀ x, W64 x → left x = true → fc x = f x) ∧ Hid (∀ x, W64 x → left x = false → (fc x = none ∧ f x = none) ∨ ∃ v, fc x = some v ∧ CutAt wr O w0.heap.size v (cutL (t.vs x) c)) ∧
      Hid (∀ x y v u b, W64 x → W64 y → x ≠ y → left x = false → left y = false → fc x = some v → fc y = some u → v.ownBlock = some b → ¬ u.ownBlock = some b) ∧ Fr (fun q => q = mb) w wr ∧ w0.heap.size ≤ wr.heap.size) (fun _ wr => wr.rangeLeft mb w.heap.size)
    case atStart =>
      refine ⟨f, _, cnt0, hR0, Lib.hid (fun x _ _ => rfl), Lib.hid (fun x _ hl => ?_), Lib.hid (fun x y v u b _ _ _ hl _ hv _ => ?_), hfw0.mono (fun _ _ hn => hn.elim), Nat.le_refl _⟩
      · cases hfx : f x with
        | none => exact .inl ⟨rfl, rfl⟩
        | some v => rw [hfx] at hl; cases hl
      · rw [hv] at hl; cases hl
    case round =>
      obtain ⟨fc, left, cnt, hR, HL, HD, HA, hf, hz⟩ := hrel
      have hcnt := hR.left_eq
      go_wp2_with (first
        | (refine wpList_nextV rfl _ rfl mb w.heap.size t.n fc left cnt rfl hR ?_ ?_)
        | fail)
      · intro hdone
        have hslices : ∀ x, W64 x → ∀ v, fc x = some v → ∃ A m c, v = .slice A m c := fun x hx v hv => by
          rcases HD.out x hx (hdone x hx) with ⟨h1, _⟩ | ⟨u, h1, h2⟩
          · rw [h1] at hv; cases hv
          · rw [h1] at hv; injection hv with hv; subst hv
            obtain ⟨A, c', e⟩ := h2.slice
            exact ⟨A, _, c', e⟩
        have hM := hR.map
        have HDONE := Lib.hid hdone
        have HSL := Lib.hid hslices
        have hbr := hbk.fr hf (fun e => hP.inT.2.2.2.1 e)
        (have y0 := hbr.cell 0; have y1 := hbr.cell 1; have y2 := hbr.cell 2; have y3 := hbr.cell 3; have yf0 := hbr.frozen 0; have yf1 := hbr.frozen 1; have yf2 := hbr.frozen 2; have yf3 := hbr.frozen 3; simp only [List.getElem?_toArray, List.getElem?_cons_zero, List.getElem?_cons_succ] at y0 y1 y2 y3)
        clear hR hdone hslices
        go_wp2_with fail
        refine (sweep_calls wr mb t.n fc hM HSL.out).mono ?_
        rintro e w5 ⟨rfl, hM5, hf5⟩
        have hb5 := hbr.fr hf5 (fun e => hP.inT.2.2.2.1 e)
        (have z0 := hb5.cell 0; have z1 := hb5.cell 1; have z2 := hb5.cell 2; have z3 := hb5.cell 3; have zf0 := hb5.frozen 0; have zf1 := hb5.frozen 1; have zf2 := hb5.frozen 2; have zf3 := hb5.frozen 3; simp only [List.getElem?_toArray, List.getElem?_cons_zero, List.getElem?_cons_succ] at z0 z1 z2 z3)
        go_wp2
        go_ret
        have hF5 : Fr (fun q => q = mb) w w5 := hf.trans hf5 (fun _ _ h => h)
        have hS : Fr (fun q => q = p) w5 (w5.setCell ⟨p, 0, none⟩ (.int .i64 c)) := Fr.set (S := fun q => q = p) (Fr.refl _ w5) (p := ⟨p, 0, none⟩) (.inr rfl) _
        have hFT : Fr T w (w5.setCell ⟨p, 0, none⟩ (.int .i64 c)) := (hF5.mono (fun b _ hb => hb ▸ hmb)).trans hS (fun b _ hb => hb ▸ hP.inT.1)
        obtain ⟨i1, i2, i3, i4, i5, i6⟩ := hP.inT
        have hwS : ∀ b, b ≠ mb → b ≠ p → b < w.heap.size → (w5.setCell ⟨p, 0, none⟩ (.int .i64 c)).heap[b]? = w.heap[b]? := fun b h1 h2 h3 => (hS.block b (Nat.lt_of_lt_of_le h3 hF5.size) h2).trans (hF5.block b h3 h1)
        have hcut : ∀ x, W64 x → (fc x = none ∧ f x = none) ∨ ∃ v, fc x = some v ∧ CutAt (w5.setCell ⟨p, 0, none⟩ (.int .i64 c)) O w0.heap.size v (cutL (t.vs x) c) := fun x hx => by
          rcases HD.out x hx (HDONE.out x hx) with h1 | ⟨v, h1, h2⟩
          · exact .inl h1
          · exact .inr ⟨v, h1, (h2.fr hf5 (fun b hb e => by omega) hOmb).fr hS (fun b hb e => by have := hTw p i1; omega) (fun b hb e => (hP.off p i1).2 (e ▸ hb))⟩
        refine ⟨rfl, fun b => (b = p ∨ b = mb ∨ b = wb) ∨ w.heap.size ≤ b ∧ b < (w5.setCell ⟨p, 0, none⟩ (.int .i64 c)).heap.size, ⟨mb, wb, sweepV fc, g, ?_⟩, fun b hb => ?_, hFT⟩
        · exact { blk := by simpa using hb5.put 0 (.int .i64 c)
                  vers := hM5.fr hS (fun e => i4 e.symm)
                  when := (hP.when.fr hF5 (fun e => i6 e.symm)).fr hS (fun e => i5 e.symm)
                  row := fun x hx => by
                    rcases hcut x hx with ⟨h1, h2⟩ | ⟨v, h1, xs, h3, h4⟩
                    · have h5 : t.vs x = [] := by have := hP.row x hx; rw [h2] at this; exact this.nil_
                      refine .inl ⟨by simp [sweepV, h1], ?_⟩
                      show cutL (t.vs x) c = []
                      rw [h5, cutL_nil]
                    · show RowAt _ _ O (sweepV fc x) (cutL (t.vs x) c)
                      by_cases hnil : cutL (t.vs x) c = []
                      · refine .inl ⟨?_, hnil⟩
                        obtain ⟨A, c', e, _⟩ := own_form h3
                        subst e
                        simp [sweepV, h1, Option.filter, emptyV, hnil]
                      · obtain ⟨A, c', e, _⟩ := own_form h3
                        have hl : ¬ (cutL (t.vs x) c).length = 0 := fun h => hnil (List.length_eq_zero_iff.1 h)
                        refine .inr ⟨v, xs, ?_, hnil, own_down h3 (Nat.zero_le _), h4, fun b hb => ?_⟩
                        · subst e
                          simp [sweepV, h1, Option.filter, emptyV, hl]
                        · have hlt := h3.lt b hb
                          have b1 := hTw p i1; have b2 := hTw mb i2; have b3 := hTw wb i3
                          exact ⟨.inr ⟨by omega, hlt.2⟩, by omega, by omega, by omega⟩
                  at_ := hP.at_
                  apart := fun x y v u b hx hy hne hv hu hb hub => by
                    have q1 : fc x = some v := by
                      unfold sweepV at hv
                      cases hfx : fc x with
                      | none => rw [hfx] at hv; cases hv
                      | some v' => rw [hfx, Option.filter_eq_some_iff] at hv; exact hv.1
                    have q2 : fc y = some u := by
                      unfold sweepV at hu
                      cases hfx : fc y with
                      | none => rw [hfx] at hu; cases hu
                      | some v' => rw [hfx, Option.filter_eq_some_iff] at hu; exact hu.1
                    exact HA.out x y v u b hx hy hne (HDONE.out x hx) (HDONE.out y hy) q1 q2 hb hub
                  inT := ⟨.inl (.inl rfl), .inl (.inr (.inl rfl)), .inl (.inr (.inr rfl)), i4, i5, i6⟩
                  off := fun b hb => by
                    have hsz := hFT.size
                    rcases hb with (rfl | rfl | rfl) | ⟨h1, h2⟩
                    · exact ⟨Nat.lt_of_lt_of_le (hTw _ i1) hsz, (hP.off _ i1).2⟩
                    · exact ⟨Nat.lt_of_lt_of_le (hTw _ i2) hsz, (hP.off _ i2).2⟩
                    · exact ⟨Nat.lt_of_lt_of_le (hTw _ i3) hsz, (hP.off _ i3).2⟩
                    · exact ⟨h2, fun hO => by have := hOw b hO; omega⟩
                  offO := fun b hb => Nat.lt_of_lt_of_le (hOw b hb) hFT.size
                  small := fun x => by
                    show (cutL (t.vs x) c).length ≤ t.n
                    have := hP.small x
                    unfold cutL; rw [List.length_drop]; omega }
        · rcases hb with (rfl | rfl | rfl) | ⟨h1, _⟩
          · exact .inl i1
          · exact .inl i2
          · exact .inl i3
          · exact .inr h1
      · intro x v w1 cnt1 hx hlx hfx hR1 hlt1 hf1 hz1 hen
        have hfx' : f x = some v := by rw [← hfx, HL.out x hx hlx]
        obtain ⟨hsort, _, hlen, _⟩ := ok x
        have hF1 : Fr (fun q => q = mb) w w1 := hf.trans hf1 (fun q hq hT => by omega)
        rcases HROW.out x hx with ⟨h1, _⟩ | ⟨v', xs, h1, hne, hown, hchs, hbT⟩
        · rw [hfx'] at h1; cases h1
        rw [hfx'] at h1
        injection h1 with h1
        subst h1
        have hown1 := own_fr hown hF1 (fun b hb e => (hbT b hb).2.2.1 e)
        have hchs1 := hchs.keep hF1 hOmb
        have hxs1 := ChsC.one hchs
        generalize hl : t.vs x = l at *
        have hl0 : 0 < l.length := by
          rcases Nat.eq_zero_or_pos l.length with h0 | h0
          · exact absurd (List.length_eq_zero_iff.1 h0) hne
          · exact h0
        obtain ⟨A, cap, rfl, hlc, hcm, _⟩ := own_form hown1
        have hrd0 : Rd w1 (fun _ => True) 5 A l.length xs := (own_rd hown1 (by omega)).mono (fun _ _ _ => trivial) (by decide)
        obtain ⟨ga, of, rfl, _, _⟩ := hrd0.plain hl0 (by decide)
        have hrd : RdCh w1 (fun _ => True) (some ⟨ga, of, none⟩) l := ⟨xs, hrd0, hchs1.mono (fun _ _ _ => trivial)⟩
        have HS := Lib.hid hsort
        have hb1 := hbk.fr hF1 (fun e => hP.inT.2.2.2.1 e)
        clear hsort hR
        go_wp2_with fail
        refine (behind_calls _ (some ⟨ga, of, none⟩) cap l c _ hrd HS.out (by omega)).mono ?_
        rintro e w2 ⟨rfl, hf2⟩
        have hkl := behM_le l c
        obtain ⟨k, hk⟩ : ∃ k, k = behM l c - 1 := ⟨_, rfl⟩
        have hkl' : k < l.length := by omega
        have hmax := Lib.hid (show (k : Int) = max 0 ((behM l c : Int) - 1) by omega)
        have HCK := Lib.hid (show cutK l c = if (l[k].gone && decide (l[k].oop ≤ c)) = true then k + 1 else k by
          subst hk
          unfold cutK
          rw [List.getElem?_eq_getElem hkl'])
        have HK := Lib.hid hk
        clear hk
        obtain ⟨_, _, Av, nn, D, mm, e9, _, hcell, _, _⟩ := (hrd.fr0 hf2).at_ hkl'
        injection e9 with e9
        injection e9 with e91 e92
        subst e91 e92
        generalize l[k] = ver at *
        have hc0 := hcell 0 _ rfl
        have hc1 := hcell 1 _ rfl
        simp only [Nat.add_zero] at hc0
        clear hcell
        have ekl : decide ((k : Int) < l.length) = true := by simpa using (by omega : (k : Int) < l.length)
        have hF2 := hF1.trans hf2 (fun _ _ hn => hn.elim)
        have hR2 := hR1.fr0 hf2
        have hb2 := hb1.fr0 hf2
        have hz2 := hf2.size
        have hz1' : w1.heap.size = wr.heap.size := hz1
        have hrd2 := hrd0.fr0 hf2
        have hchs2 := hchs1.keep hf2 (fun _ _ hn => hn)
        (have y0 := hb2.cell 0; have y1 := hb2.cell 1; have y2 := hb2.cell 2; have y3 := hb2.cell 3; have yf0 := hb2.frozen 0; have yf1 := hb2.frozen 1; have yf2 := hb2.frozen 2; have yf3 := hb2.frozen 3; simp only [List.getElem?_toArray, List.getElem?_cons_zero, List.getElem?_cons_succ] at y0 y1 y2 y3)
        have g1 := plain_mver
        clear hR1 hb1
        go_upto_region 9 with (first
          | (refine wpList_max 0 ((behM l c : Int) - 1) (k : Int) hmax.out rfl rfl rfl rfl ?_)
          | fail)
        clear hmax
        cases hg : ver.gone with
        | false =>
          rw [hg] at hc1
          have HCK' : Hid (cutK l c = k) := Lib.hid (by rw [HCK.out, hg]; rfl)
          clear hg HCK
          go_upto_region 11 with fail
          have hkk : k ≤ l.length := by omega
          refine T_begin2 No [9] [0, 1, 2, 3, 4, 5, 6, 7, 8, 9] [8, 9] (by kernel_rfl) (by kernel_rfl) ?_
          simp only [pickOps, List.filterMap_cons, List.filterMap_nil, List.getElem?_cons_zero, List.getElem?_cons_succ, Act.put]
          repeat (first | (refine T_skip (by rfl) (by rfl) (fun _ _ _ h => h) ?_; try simp only [Act.put, List.setIfInBounds_toArray, List.set_cons_zero, List.set_cons_succ]) | (refine T_pass (by rfl) (by rfl) ?_; try simp only [Act.put, List.setIfInBounds_toArray, List.set_cons_zero, List.set_cons_succ]) | (refine T_load (by assumption) (by rfl) (by rfl) (fun _ _ _ _ h => h) rfl rfl (by assumption) (by first | exact (fun hn => hn) | assumption) ?_; try simp only [Act.put, List.setIfInBounds_toArray, List.set_cons_zero, List.set_cons_succ]) | (refine T_nil (by rfl) (by rfl) (fun _ _ _ _ h => h) rfl rfl ?_; try simp only [Act.put, List.setIfInBounds_toArray, List.set_cons_zero, List.set_cons_succ]) | (refine T_quietN (by rfl) (by rfl) (by rfl) (by rfl) (fun _ _ _ _ h => h) (fun K hK => ?_); go_big_quiet_op; refine hK _ ?_; clear hK K) | (refine T_two (by rfl) (by rfl) (by rfl) (by rfl) (fun _ _ _ _ h => h) (fun K hK => ?_); go_big_quiet_op; refine ⟨_, fun _ _ => rfl, ?_⟩; refine hK _ ?_; clear hK K; try simp only [Act.put, List.setIfInBounds_toArray, List.set_cons_zero, List.set_cons_succ]) | fail)
          refine T_call (by rfl) (by rfl) (fun K hK => ?_)
          go_wp2_with fail
          refine (vclone_calls _ _ _ (l.length - (k)) _ _ (Rd.cutP hrd2.drew hkk) (fun u hu => hxs1 u (List.mem_of_mem_drop hu)) (by omega)).mono ?_
          rintro e w3 ⟨v3, rfl, hown3, hf3⟩
          go_wp2_with fail
          (refine hK.out _ _ (hf3) ?_; clear hK K; try simp only [Act.put, List.setIfInBounds_toArray, List.set_cons_zero, List.set_cons_succ])
          have hfd : Fr No w2 w2.drew := (Fr.refl No w2).drew
          have hf23 := hfd.tr hf3
          have hR3 := hR2.fr0 hf23
          have hd2 : w2.drew.heap.size = w2.heap.size := rfl
          rw [hd2] at hown3
          refine T_turn No [] (by rfl) (by rfl) (by rfl) (fun K hK => ?_)
          refine wp_storeV rfl Try.underlying56 hR3 rfl (by simp only [maxLen]; omega) rfl hx hfx rfl ?_
          intro w4 hR4 hg4
          refine hK.out _ _ ?_
          clear hK K
          try simp only [Act.put, List.setIfInBounds_toArray, List.set_cons_zero, List.set_cons_succ]
          refine T_done ?_
          have hnew := forget_round (O := O) (w1 := w1) (w2 := w2) hx hlx hfx (l := l) hl HL HD HA hf hz hf1 hz1' hz0 hmbw hOmb hOw (hf2.tr hf23) hR4 hg4 hown3 (ChsC.drop (k) hchs2) HCK'.out hz2 hf23 hr0.1
          go_wp2_with fail
          go_roundw
          case rel => first | exact hnew | ((repeat apply Exists.intro); exact ⟨hnew, rfl⟩)
          case measure => rw [hR4.left_eq]; omega
        | true =>
          rw [hg] at hc1
          by_cases hc : ver.oop ≤ c
          · have ec : decide (ver.oop ≤ c) = true := by simpa using hc
            have HCK' : Hid (cutK l c = k + 1) := Lib.hid (by rw [HCK.out, hg, ec]; rfl)
            clear hg HCK hc
            go_upto_region 11 with fail
            rw [show (k : Int) + 1 = ((k + 1 : Nat) : Int) by omega]
            have hkk : k + 1 ≤ l.length := by omega
            refine T_begin2 No [9] [0, 1, 2, 3, 4, 5, 6, 7, 8, 9] [8, 9] (by kernel_rfl) (by kernel_rfl) ?_
            simp only [pickOps, List.filterMap_cons, List.filterMap_nil, List.getElem?_cons_zero, List.getElem?_cons_succ, Act.put]
            repeat (first | (refine T_skip (by rfl) (by rfl) (fun _ _ _ h => h) ?_; try simp only [Act.put, List.setIfInBounds_toArray, List.set_cons_zero, List.set_cons_succ]) | (refine T_pass (by rfl) (by rfl) ?_; try simp only [Act.put, List.setIfInBounds_toArray, List.set_cons_zero, List.set_cons_succ]) | (refine T_load (by assumption) (by rfl) (by rfl) (fun _ _ _ _ h => h) rfl rfl (by assumption) (by first | exact (fun hn => hn) | assumption) ?_; try simp only [Act.put, List.setIfInBounds_toArray, List.set_cons_zero, List.set_cons_succ]) | (refine T_nil (by rfl) (by rfl) (fun _ _ _ _ h => h) rfl rfl ?_; try simp only [Act.put, List.setIfInBounds_toArray, List.set_cons_zero, List.set_cons_succ]) | (refine T_quietN (by rfl) (by rfl) (by rfl) (by rfl) (fun _ _ _ _ h => h) (fun K hK => ?_); go_big_quiet_op; refine hK _ ?_; clear hK K) | (refine T_two (by rfl) (by rfl) (by rfl) (by rfl) (fun _ _ _ _ h => h) (fun K hK => ?_); go_big_quiet_op; refine ⟨_, fun _ _ => rfl, ?_⟩; refine hK _ ?_; clear hK K; try simp only [Act.put, List.setIfInBounds_toArray, List.set_cons_zero, List.set_cons_succ]) | fail)
            refine T_call (by rfl) (by rfl) (fun K hK => ?_)
            go_wp2_with fail
            · refine (vclone_calls _ _ _ (l.length - (k + 1)) _ _ (Rd.cut0 hrd2.drew (by omega)) (fun u hu => hxs1 u (List.mem_of_mem_drop hu)) (by omega)).mono ?_
              rintro e w3 ⟨v3, rfl, hown3, hf3⟩
              go_wp2_with fail
              (refine hK.out _ _ (hf3) ?_; clear hK K; try simp only [Act.put, List.setIfInBounds_toArray, List.set_cons_zero, List.set_cons_succ])
              have hfd : Fr No w2 w2.drew := (Fr.refl No w2).drew
              have hf23 := hfd.tr hf3
              have hR3 := hR2.fr0 hf23
              have hd2 : w2.drew.heap.size = w2.heap.size := rfl
              rw [hd2] at hown3
              refine T_turn No [] (by rfl) (by rfl) (by rfl) (fun K hK => ?_)
              refine wp_storeV rfl Try.underlying56 hR3 rfl (by simp only [maxLen]; omega) rfl hx hfx rfl ?_
              intro w4 hR4 hg4
              refine hK.out _ _ ?_
              clear hK K
              try simp only [Act.put, List.setIfInBounds_toArray, List.set_cons_zero, List.set_cons_succ]
              refine T_done ?_
              have hnew := forget_round (O := O) (w1 := w1) (w2 := w2) hx hlx hfx (l := l) hl HL HD HA hf hz hf1 hz1' hz0 hmbw hOmb hOw (hf2.tr hf23) hR4 hg4 hown3 (ChsC.drop (k + 1) hchs2) HCK'.out hz2 hf23 hr0.1
              go_wp2_with fail
              go_roundw
              case rel => first | exact hnew | ((repeat apply Exists.intro); exact ⟨hnew, rfl⟩)
              case measure => rw [hR4.left_eq]; omega
            · refine (vclone_calls _ _ _ (l.length - (k + 1)) _ _ (Rd.cutP hrd2.drew hkk) (fun u hu => hxs1 u (List.mem_of_mem_drop hu)) (by omega)).mono ?_
              rintro e w3 ⟨v3, rfl, hown3, hf3⟩
              go_wp2_with fail
              (refine hK.out _ _ (hf3) ?_; clear hK K; try simp only [Act.put, List.setIfInBounds_toArray, List.set_cons_zero, List.set_cons_succ])
              have hfd : Fr No w2 w2.drew := (Fr.refl No w2).drew
              have hf23 := hfd.tr hf3
              have hR3 := hR2.fr0 hf23
              have hd2 : w2.drew.heap.size = w2.heap.size := rfl
              rw [hd2] at hown3
              refine T_turn No [] (by rfl) (by rfl) (by rfl) (fun K hK => ?_)
              refine wp_storeV rfl Try.underlying56 hR3 rfl (by simp only [maxLen]; omega) rfl hx hfx rfl ?_
              intro w4 hR4 hg4
              refine hK.out _ _ ?_
              clear hK K
              try simp only [Act.put, List.setIfInBounds_toArray, List.set_cons_zero, List.set_cons_succ]
              refine T_done ?_
              have hnew := forget_round (O := O) (w1 := w1) (w2 := w2) hx hlx hfx (l := l) hl HL HD HA hf hz hf1 hz1' hz0 hmbw hOmb hOw (hf2.tr hf23) hR4 hg4 hown3 (ChsC.drop (k + 1) hchs2) HCK'.out hz2 hf23 hr0.1
              go_wp2_with fail
              go_roundw
              case rel => first | exact hnew | ((repeat apply Exists.intro); exact ⟨hnew, rfl⟩)
              case measure => rw [hR4.left_eq]; omega
          · have ec : decide (ver.oop ≤ c) = false := by simpa using hc
            have HCK' : Hid (cutK l c = k) := Lib.hid (by rw [HCK.out, hg, ec]; rfl)
            clear hg HCK hc
            go_upto_region 11 with fail
            have hkk : k ≤ l.length := by omega
            refine T_begin2 No [9] [0, 1, 2, 3, 4, 5, 6, 7, 8, 9] [8, 9] (by kernel_rfl) (by kernel_rfl) ?_
            simp only [pickOps, List.filterMap_cons, List.filterMap_nil, List.getElem?_cons_zero, List.getElem?_cons_succ, Act.put]
            repeat (first | (refine T_skip (by rfl) (by rfl) (fun _ _ _ h => h) ?_; try simp only [Act.put, List.setIfInBounds_toArray, List.set_cons_zero, List.set_cons_succ]) | (refine T_pass (by rfl) (by rfl) ?_; try simp only [Act.put, List.setIfInBounds_toArray, List.set_cons_zero, List.set_cons_succ]) | (refine T_load (by assumption) (by rfl) (by rfl) (fun _ _ _ _ h => h) rfl rfl (by assumption) (by first | exact (fun hn => hn) | assumption) ?_; try simp only [Act.put, List.setIfInBounds_toArray, List.set_cons_zero, List.set_cons_succ]) | (refine T_nil (by rfl) (by rfl) (fun _ _ _ _ h => h) rfl rfl ?_; try simp only [Act.put, List.setIfInBounds_toArray, List.set_cons_zero, List.set_cons_succ]) | (refine T_quietN (by rfl) (by rfl) (by rfl) (by rfl) (fun _ _ _ _ h => h) (fun K hK => ?_); go_big_quiet_op; refine hK _ ?_; clear hK K) | (refine T_two (by rfl) (by rfl) (by rfl) (by rfl) (fun _ _ _ _ h => h) (fun K hK => ?_); go_big_quiet_op; refine ⟨_, fun _ _ => rfl, ?_⟩; refine hK _ ?_; clear hK K; try simp only [Act.put, List.setIfInBounds_toArray, List.set_cons_zero, List.set_cons_succ]) | fail)
            refine T_call (by rfl) (by rfl) (fun K hK => ?_)
            go_wp2_with fail
            refine (vclone_calls _ _ _ (l.length - (k)) _ _ (Rd.cutP hrd2.drew hkk) (fun u hu => hxs1 u (List.mem_of_mem_drop hu)) (by omega)).mono ?_
            rintro e w3 ⟨v3, rfl, hown3, hf3⟩
            go_wp2_with fail
            (refine hK.out _ _ (hf3) ?_; clear hK K; try simp only [Act.put, List.setIfInBounds_toArray, List.set_cons_zero, List.set_cons_succ])
            have hfd : Fr No w2 w2.drew := (Fr.refl No w2).drew
            have hf23 := hfd.tr hf3
            have hR3 := hR2.fr0 hf23
            have hd2 : w2.drew.heap.size = w2.heap.size := rfl
            rw [hd2] at hown3
            refine T_turn No [] (by rfl) (by rfl) (by rfl) (fun K hK => ?_)
            refine wp_storeV rfl Try.underlying56 hR3 rfl (by simp only [maxLen]; omega) rfl hx hfx rfl ?_
            intro w4 hR4 hg4
            refine hK.out _ _ ?_
            clear hK K
            try simp only [Act.put, List.setIfInBounds_toArray, List.set_cons_zero, List.set_cons_succ]
            refine T_done ?_
            have hnew := forget_round (O := O) (w1 := w1) (w2 := w2) hx hlx hfx (l := l) hl HL HD HA hf hz hf1 hz1' hz0 hmbw hOmb hOw (hf2.tr hf23) hR4 hg4 hown3 (ChsC.drop (k) hchs2) HCK'.out hz2 hf23 hr0.1
            go_wp2_with fail
            go_roundw
            case rel => first | exact hnew | ((repeat apply Exists.intro); exact ⟨hnew, rfl⟩)
            case measure => rw [hR4.left_eq]; omega
end Go.Proofs.Ytifcnjebepipnaa
