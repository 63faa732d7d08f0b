/- rc.count: a Counter is more by a number, or can not be. No condition. -/
import Derived.Test.YtgchpfennbggoaaOSame
namespace Go.Proofs.Ytgchpfennbggoaa
set_option linter.unusedVariables false
set_option linter.unusedSimpArgs false
open Go.RowKit

/-- What was done to an object. -/
structure OpM where
  oop : Int
  add : Bool
  v : VL
def opcells (p : OpM) : List Value := [.int .i64 p.oop, .bool p.add, .int .i64 p.v.k, .int .i64 p.v.n]
def opsC (l : List OpM) : List Value := l.flatMap opcells
def smallB (n : Int) : Bool := decide (-1152921504606846976 ≤ n) && decide (n < 1152921504606846976)
theorem small_yes (n : Int) (h : -1152921504606846976 ≤ n ∧ n < 1152921504606846976) (w : World) : Calls Try.prog 49 #[.int .i64 n] w fun e w' => e = .returned (.bool true) ∧ w = w' := by
  have e1 : decide (-1152921504606846976 ≤ n) = true := by simpa using h.1
  have e2 : decide (n < 1152921504606846976) = true := by simpa using h.2
  clear h
  go_enter Try.func49, Try.ntmps49
  go_wp2
  go_ret
  exact ⟨rfl, rfl⟩
theorem small_no (n : Int) (h : n < -1152921504606846976 ∨ 1152921504606846976 ≤ n) (w : World) : Calls Try.prog 49 #[.int .i64 n] w fun e w' => e = .returned (.bool false) ∧ w = w' := by
  rcases h with h | h
  · have e1 : decide (-1152921504606846976 ≤ n) = false := by simp; omega
    clear h
    go_enter Try.func49, Try.ntmps49
    go_wp2
    go_ret
    exact ⟨rfl, rfl⟩
  · have e1 : decide (-1152921504606846976 ≤ n) = true := by simp; omega
    have e2 : decide (n < 1152921504606846976) = false := by simp; omega
    clear h
    go_enter Try.func49, Try.ntmps49
    go_wp2
    go_ret
    exact ⟨rfl, rfl⟩
/-- What a number more comes to. -/
def countM (l : List VL) (p : OpM) : Option (List VL) :=
  match l with
  | [] => none
  | s :: r => if p.add = true ∧ p.v.k = 3 ∧ s.k = 3 ∧ (-1152921504606846976 ≤ s.n ∧ s.n < 1152921504606846976) ∧ p.v.n ≤ 2305843009213693952 ∧ -2305843009213693952 ≤ p.v.n ∧ (-1152921504606846976 ≤ s.n + p.v.n ∧ s.n + p.v.n < 1152921504606846976)
    then some (⟨s.k, s.n + p.v.n⟩ :: r) else none
theorem countM_three (xn n oop : Int) (r : List VL) : countM (⟨3, xn⟩ :: r) ⟨oop, true, ⟨3, n⟩⟩ = if (-1152921504606846976 ≤ xn ∧ xn < 1152921504606846976) ∧ n ≤ 2305843009213693952 ∧ -2305843009213693952 ≤ n ∧ (-1152921504606846976 ≤ xn + n ∧ xn + n < 1152921504606846976) then some (⟨3, xn + n⟩ :: r) else none := by
  simp [countM]
/-- An object's box, with rows of its own. -/
def BoxAt (w : World) (g : Nat) (B : Nat) (o : ObjM) : Prop :=
  ∃ A c D c2, Blk w g 25 #[.int .i64 o.cls, .slice A o.slots.length c, .slice D o.bytes.length c2] ∧ w.ownsRow B 30 2 (.slice A o.slots.length c) o.slots.length (vals o.slots) ∧ (∀ b, (Value.slice A o.slots.length c).ownBlock = some b → b ≠ g) ∧ RdB w (fun b => (b ≠ g ∧ (Value.slice A o.slots.length c).ownBlock ≠ some b) ∧ B ≤ b) D o.bytes
def DoneR (w : World) (g B : Nat) (o : ObjM) (r : Option (List VL)) (e : Ending) (w' : World) : Prop :=
  (r = none ∧ e = .returned (.bool false) ∧ BoxAt w' g B o ∧ Fr No w w') ∨ (∃ l, r = some l ∧ e = .returned (.bool true) ∧ BoxAt w' g B { o with slots := l } ∧ Fr (fun b => b = g ∨ B ≤ b) w w')
theorem own_put {w : World} {B size n c g : Nat} {e : TypeId} {xs : List Value} (h : w.ownsRow B e size (.slice (some ⟨g, 0, none⟩) n c) n xs) {j : Nat} (hj : j < xs.length) (v : Value) : (w.setCell ⟨g, j, none⟩ v).ownsRow B e size (.slice (some ⟨g, 0, none⟩) n c) n (xs.set j v) := by
  refine ⟨by rw [List.length_set]; exact h.1, ?_⟩
  rcases h.2 with ⟨hv, _⟩ | ⟨g', cap, cur, hv, h1, h2, h3, h4, h5, h6⟩
  · cases hv
  · injection hv with e1 e2 e3
    injection e1 with e1
    injection e1 with e1 _ _
    subst e1 e3
    refine .inr ⟨g, c, cur.setIfInBounds j v, rfl, h1, Blk.put h2 j v, h3, h4, by simpa using h5, ?_⟩
    rw [Array.toList_setIfInBounds, List.take_set, h6]
theorem own_blk {w : World} {B size n c g : Nat} {e : TypeId} {xs : List Value} (h : w.ownsRow B e size (.slice (some ⟨g, 0, none⟩) n c) n xs) : ∃ cur, Blk w g e cur := by
  rcases h.2 with ⟨hv, _⟩ | ⟨g', cap, cur, hv, h1, h2, h3, h4, h5, h6⟩
  · cases hv
  · injection hv with e1 e2 e3
    injection e1 with e1
    injection e1 with e1 _ _
    subst e1
    exact ⟨cur, h2⟩
theorem BoxAt.fr0 {w w' : World} {g B : Nat} {o : ObjM} (h : BoxAt w g B o) (hf : Fr No w w') : BoxAt w' g B o := by
  obtain ⟨A, c, D, c2, hb, ho, hg, hd⟩ := h
  exact ⟨A, c, D, c2, hb.fr0 hf, own_fr0 ho hf, hg, Rd.fr0 hd hf⟩

set_option maxHeartbeats 4000000 in
set_option maxRecDepth 100000 in
theorem count_calls2 (w : World) (g B : Nat) (o : ObjM) (p : OpM) (h : BoxAt w g B o) (hp : (-9223372036854775808 ≤ p.v.n ∧ p.v.n ≤ 9223372036854775807)) (hlen : o.slots.length ≤ 1048576) :
    Calls Try.prog 27 #[.pointer (some ⟨g, 0, none⟩), .agg (opcells p).toArray] w (DoneR w g B o (countM o.slots p)) := by
  have g2 := plain_lval
  have g4 := plain_i64
  have hB := h
  obtain ⟨A, c, D, c2, hb, hown, hgB, hd⟩ := h
  obtain ⟨oop, add, ⟨k, n⟩⟩ := p
  obtain ⟨cls, slots, bytes⟩ := o
  simp only at hb hown hd hp hlen
  unfold opcells
  simp only
  have HGB := Lib.hid hgB
  clear hgB
  have hf1 : Fr No w (w.alloc (.cells #[.int .i64 oop, .bool add, .int .i64 k, .int .i64 n] 41)) := (Fr.refl No w).alloc _
  have hbT := Blk.new w 41 #[.int .i64 oop, .bool add, .int .i64 k, .int .i64 n]
  have hb1 := hb.fr0 hf1
  have q1 := hb1.cell 1
  have p3 := hbT.cell 3
  simp only [List.getElem?_toArray, List.getElem?_cons_zero, List.getElem?_cons_succ] at q1 p3
  have hnone : ∀ r : Option (List VL), r = none → DoneR w g B ⟨cls, slots, bytes⟩ r (.returned (.bool false)) (w.alloc (.cells #[.int .i64 oop, .bool add, .int .i64 k, .int .i64 n] 41)) := fun r hr => .inl ⟨hr, rfl, hB.fr0 hf1, hf1⟩
  have HNone := Lib.hid hnone
  clear hnone
  cases slots with
  | nil =>
    have hN : countM [] ⟨oop, add, ⟨k, n⟩⟩ = none := rfl
    have HN := Lib.hid hN
    clear hN
    cases add with
    | false =>
      go_enter Try.func27, Try.ntmps27
      go_wp2
      go_ret
      exact HNone.out _ (HN.out)
    | true =>
      by_cases hk : k = 3
      · subst hk
        go_enter Try.func27, Try.ntmps27
        go_wp2
        go_ret
        exact HNone.out _ (HN.out)
      · have ek : (k == 3) = false := by simpa using hk
        go_enter Try.func27, Try.ntmps27
        go_wp2
        go_ret
        exact HNone.out _ (HN.out)
  | cons x r =>
    cases add with
    | false =>
      have HN := Lib.hid (show countM (x :: r) ⟨oop, false, ⟨k, n⟩⟩ = none by unfold countM; simp)
      go_enter Try.func27, Try.ntmps27
      go_wp2
      go_ret
      exact HNone.out _ (HN.out)
    | true =>
      by_cases hk : k = 3
      case neg =>
        have ek : (k == 3) = false := by simpa using hk
        have ek2 : (k != 3) = true := by simpa using hk
        have HN := Lib.hid (show countM (x :: r) ⟨oop, true, ⟨k, n⟩⟩ = none by unfold countM; simp [hk])
        clear hk
        go_enter Try.func27, Try.ntmps27
        go_wp2
        go_ret
        exact HNone.out _ (HN.out)
      subst hk
      obtain ⟨gr, cap, hvA, hBg, hglt⟩ := hown.form (by simp)
      have hA : A = some ⟨gr, 0, none⟩ := by injection hvA
      subst hA
      obtain ⟨xk, xn⟩ := x
      have r0 : w.cell? ⟨gr, 0, none⟩ = some (.int .i64 xk) := by
        have := (hown.cells (g := gr) rfl) 0 (.int .i64 xk) rfl
        rwa [add_plain] at this
      have r1 : w.cell? ⟨gr, 1, none⟩ = some (.int .i64 xn) := by
        have := (hown.cells (g := gr) rfl) 1 (.int .i64 xn) rfl
        rwa [add_plain] at this
      have z1 : w.frozen? ⟨gr, 1, none⟩ = false := by obtain ⟨cur, hbg⟩ := own_blk hown; exact hbg.frozen 1
      have s0 := hf1.cell_some r0 (fun hn => hn)
      have s1 := hf1.cell_some r1 (fun hn => hn)
      have hlr : r.length ≤ 1048576 := by simp at hlen; omega
      clear hvA
      by_cases hxk : xk = 3
      case neg =>
        have ek : (xk == 3) = false := by simpa using hxk
        have ek2 : (xk != 3) = true := by simpa using hxk
        have HN := Lib.hid (show countM (⟨xk, xn⟩ :: r) ⟨oop, true, ⟨3, n⟩⟩ = none by unfold countM; simp [hxk])
        clear hxk
        go_enter Try.func27, Try.ntmps27
        go_wp2
        go_ret
        exact HNone.out _ (HN.out)
      subst hxk
      have HNone2 := Lib.hid (show ∀ r' : Option (List VL), r' = none → DoneR w g B ⟨cls, ⟨3, xn⟩ :: r, bytes⟩ r' (.returned (.bool false)) (w.alloc (.cells #[.int .i64 oop, .bool true, .int .i64 3, .int .i64 n] 41)).drew from fun r' hr => .inl ⟨hr, rfl, hB.fr0 hf1.drew, hf1.drew⟩)
      go_enter Try.func27, Try.ntmps27
      go_wp2_with fail
      (refine T_begin No [0, 1, 2, 3, 4, 5, 6, 7, 8, 9, 10, 11] [] (by kernel_rfl) (by kernel_rfl) ?_; simp only [pickOps, List.filterMap_cons, List.filterMap_nil, List.getElem?_cons_zero, List.getElem?_cons_succ, Act.put])
      repeat (first | (refine T_skip (by rfl) (by rfl) (fun _ _ _ h => h) ?_; try simp only [Act.put, List.setIfInBounds_toArray, List.set_cons_zero, List.set_cons_succ]) | (refine T_pass (by rfl) (by rfl) ?_; try simp only [Act.put, List.setIfInBounds_toArray, List.set_cons_zero, List.set_cons_succ]) | (refine T_load (by assumption) (by rfl) (by rfl) (fun _ _ _ _ h => h) rfl rfl (by assumption) (by first | exact (fun hn => hn) | assumption) ?_; try simp only [Act.put, List.setIfInBounds_toArray, List.set_cons_zero, List.set_cons_succ]) | (refine T_nil (by rfl) (by rfl) (fun _ _ _ _ h => h) rfl rfl ?_; try simp only [Act.put, List.setIfInBounds_toArray, List.set_cons_zero, List.set_cons_succ]) | (refine T_quietN (by rfl) (by rfl) (by rfl) (by rfl) (fun _ _ _ _ h => h) (fun K hK => ?_); go_big_quiet_op; refine hK _ ?_; clear hK K) | (refine T_two (by rfl) (by rfl) (by rfl) (by rfl) (fun _ _ _ _ h => h) (fun K hK => ?_); go_big_quiet_op; refine ⟨_, fun _ _ => rfl, ?_⟩; refine hK _ ?_; clear hK K; try simp only [Act.put, List.setIfInBounds_toArray, List.set_cons_zero, List.set_cons_succ]) | fail)
      refine T_done ?_
      go_wp2_with fail
      by_cases hs : -1152921504606846976 ≤ xn ∧ xn < 1152921504606846976
      case neg =>
        refine (small_no xn (by omega) _).mono ?_
        rintro e _ ⟨rfl, rfl⟩
        have HN := Lib.hid (show countM (⟨3, xn⟩ :: r) ⟨oop, true, ⟨3, n⟩⟩ = none by rw [countM_three, if_neg (by omega)])
        clear hs
        go_wp2
        go_ret
        exact HNone2.out _ HN.out
      refine (small_yes xn hs _).mono ?_
      rintro e _ ⟨rfl, rfl⟩
      by_cases hb1 : 2305843009213693952 < n
      · have e1 : decide (2305843009213693952 < n) = true := by simpa using hb1
        have HN := Lib.hid (show countM (⟨3, xn⟩ :: r) ⟨oop, true, ⟨3, n⟩⟩ = none by rw [countM_three, if_neg (by omega)])
        clear hb1 hs
        go_wp2
        go_ret
        exact HNone2.out _ HN.out
      have e1 : decide (2305843009213693952 < n) = false := by simpa using hb1
      by_cases hb2 : n < -2305843009213693952
      · have e2 : decide (n < -2305843009213693952) = true := by simpa using hb2
        have HN := Lib.hid (show countM (⟨3, xn⟩ :: r) ⟨oop, true, ⟨3, n⟩⟩ = none by rw [countM_three, if_neg (by omega)])
        clear hb1 hb2 hs
        go_wp2
        go_ret
        exact HNone2.out _ HN.out
      have e2 : decide (n < -2305843009213693952) = false := by simpa using hb2
      have hlo : -3458764513820540928 ≤ xn + n := by omega
      have hhi : xn + n ≤ 3458764513820540928 := by omega
      go_wp2_with fail
      by_cases hs2 : -1152921504606846976 ≤ xn + n ∧ xn + n < 1152921504606846976
      case neg =>
        refine (small_no (xn + n) (by omega) _).mono ?_
        rintro e _ ⟨rfl, rfl⟩
        have HN := Lib.hid (show countM (⟨3, xn⟩ :: r) ⟨oop, true, ⟨3, n⟩⟩ = none by rw [countM_three, if_neg (by omega)])
        clear hs2 hb1 hb2 hs
        go_wp2
        go_ret
        exact HNone2.out _ HN.out
      refine (small_yes (xn + n) hs2 _).mono ?_
      rintro e _ ⟨rfl, rfl⟩
      have HN := Lib.hid (show countM (⟨3, xn⟩ :: r) ⟨oop, true, ⟨3, n⟩⟩ = some (⟨3, xn + n⟩ :: r) by rw [countM_three, if_pos (by omega)])
      clear hs2 hb1 hb2 hs
      go_wp2
      go_ret
      have hne : g ≠ gr := fun e => HGB.out gr rfl e.symm
      have hset : Fr (fun b => b = gr) w (((w.setCell ⟨gr, 1, none⟩ (.int .i64 (xn + n))).alloc (.cells #[.int .i64 oop, .bool true, .int .i64 3, .int .i64 n] 41)).drew) := (((Fr.refl (fun b => b = gr) w).set (.inr rfl) _).alloc _).drew
      have hset2 : Fr No (w.setCell ⟨gr, 1, none⟩ (.int .i64 (xn + n))) (((w.setCell ⟨gr, 1, none⟩ (.int .i64 (xn + n))).alloc (.cells #[.int .i64 oop, .bool true, .int .i64 3, .int .i64 n] 41)).drew) := ((Fr.refl No _).alloc _).drew
      rw [HN.out]
      refine .inr ⟨_, rfl, rfl, ⟨_, c, D, c2, hb.fr hset hne, ?_, HGB.out, ?_⟩, hset.mono (fun b _ hb => .inr (by subst hb; exact hBg))⟩
      · exact own_fr0 (own_put hown (j := 1) (by simp [vals, vcells]) (.int .i64 (xn + n))) hset2
      · exact Rd.mono (Rd.fr hd hset (fun b hb hT => by subst hT; exact hb.1.2 rfl)) (fun b _ hb => hb) (by decide)
end Go.Proofs.Ytgchpfennbggoaa
