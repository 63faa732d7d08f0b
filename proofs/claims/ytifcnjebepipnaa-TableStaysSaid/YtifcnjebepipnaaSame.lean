/- Whether two objects are alike: value's Same, and the reference's; Put. No condition. -/
import Derived.Test.YtifcnjebepipnaaOCopy
import Derived.Test.YtifcnjebepipnaaRightO
namespace Go.Proofs.Ytifcnjebepipnaa
set_option linter.unusedVariables false
set_option linter.unusedSimpArgs false
open Go.RowKit

theorem bytes_eq (a b : List UInt8) : (a == b) = decide (a = b) := by
  by_cases h : a = b
  · rw [decide_eq_true h, beq_iff_eq]; exact h
  · rw [decide_eq_false h, beq_eq_false_iff_ne]; exact h
theorem bequal_calls (S T : Nat → Prop) (A D : Option Addr) (c d : Nat) (a b : List UInt8) (w : World) (h : RdB w S A a) (h2 : RdB w T D b) :
    Calls Try.prog 62 #[.slice A a.length c, .slice D b.length d] w fun e w' => e = .returned (.bool (decide (a = b))) ∧ w = w' := by
  have H := Lib.hid (bytes_eq a b)
  go_enter Try.func62, Try.ntmps62
  go_wp2_with (first
    | (refine wpList_str Try.underlying36 Try.underlying5 Try.underlying9 rfl (.tmp 5) rfl rfl rfl h ?_)
    | (refine wpList_str Try.underlying36 Try.underlying5 Try.underlying9 rfl (.tmp 7) rfl rfl rfl h2 ?_)
    | fail)
  go_ret
  exact ⟨ret_bool H.out, rfl⟩
def NoDiff (a b : List VL) (k : Nat) : Prop := ∀ i, i < k → a[i]? = b[i]?
theorem NoDiff.all {a b : List VL} (h : NoDiff a b a.length) (hl : a.length = b.length) : a = b := by
  apply List.ext_getElem? 
  intro i
  rcases Nat.lt_or_ge i a.length with h1 | h1
  · exact h i h1
  · rw [List.getElem?_eq_none h1, List.getElem?_eq_none (by omega)]
theorem NoDiff.succ {a b : List VL} {k : Nat} (h : NoDiff a b k) (h1 : k < a.length) (h2 : k < b.length) (e : a[k] = b[k]) : NoDiff a b (k + 1) := fun i hi => by
  rcases Nat.lt_or_ge i k with h3 | h3
  · exact h i h3
  · obtain rfl : i = k := by omega
    rw [List.getElem?_eq_getElem h1, List.getElem?_eq_getElem h2, e]
theorem diff_at {a b : List VL} {k : Nat} (h1 : k < a.length) (h2 : k < b.length) (e : ¬ a[k] = b[k]) : ¬ a = b := by rintro rfl; exact e rfl
set_option maxHeartbeats 2000000 in
set_option maxRecDepth 100000 in
theorem vequal_calls (S T : Nat → Prop) (A D : Option Addr) (c d : Nat) (a b : List VL) (w : World) (h : RdV w S A a) (h2 : RdV w T D b) :
    Calls Try.prog 61 #[.slice A a.length c, .slice D b.length d] w fun e w' => e = .returned (.bool (decide (a = b))) ∧ Fr No w w' := by
  have hle1 := h.le
  have hle2 := h2.le
  by_cases hl : a.length = b.length
  rotate_left
  · have e1 : (a.length != b.length) = true := by simpa using hl
    have e2 : ((a.length : Int) != b.length) = true := by simp; omega
    have H := Lib.hid (show decide (a = b) = false from decide_eq_false (fun e => hl (by rw [e])))
    clear hl
    go_enter Try.func61, Try.ntmps61
    go_wp2
    go_ret
    exact ⟨ret_bool H.out.symm, Fr.refl _ _⟩
  have e1 : (a.length != b.length) = false := by simpa using hl
  have e2 : ((a.length : Int) != b.length) = false := by simp; omega
  have HL := Lib.hid hl
  clear hl
  go_enter Try.func61, Try.ntmps61
  go_wp2_with fail
  go_loopw [13] (fun i wr => ∃ k : Nat, k ≤ a.length ∧ i = .int .i64 (k : Int) ∧ Hid (NoDiff a b k) ∧ Fr No w wr) (fun i _ => a.length - (intOf i).toNat)
  case atStart => exact ⟨0, by omega, rfl, Lib.hid (fun i hi => by omega), Fr.refl _ _⟩
  case round =>
    obtain ⟨k, hk, rfl, HN, hf⟩ := hrel
    by_cases hlt : k < a.length
    · have ek : decide ((k : Int) < a.length) = true := by simpa using (by omega : (k : Int) < a.length)
      have hltb : k < b.length := by have := HL.out; omega
      obtain ⟨g, of, rfl, _, _, _, hv⟩ := RdV.at_ (Rd.fr0 h hf) hlt
      obtain ⟨g', of', rfl, _, _, _, hv'⟩ := RdV.at_ (Rd.fr0 h2 hf) hltb
      have HS := Lib.hid (fun e => HN.out.succ hlt hltb e)
      have HD := Lib.hid (fun e => decide_eq_false (diff_at hlt hltb e))
      generalize a[k] = x at *
      generalize b[k] = y at *
      go_wp2_with fail
      (refine T_begin No [0, 1, 2, 3, 4, 5, 6, 7, 8] [] (by kernel_rfl) (by kernel_rfl) ?_; simp only [pickOps, List.filterMap_cons, List.filterMap_nil, List.getElem?_cons_zero, List.getElem?_cons_succ, Act.put])
      repeat (first | (refine T_skip (by rfl) (by rfl) (fun _ _ _ h => h) ?_; try simp only [Act.put, List.setIfInBounds_toArray, List.set_cons_zero, List.set_cons_succ]) | (refine T_pass (by rfl) (by rfl) ?_; try simp only [Act.put, List.setIfInBounds_toArray, List.set_cons_zero, List.set_cons_succ]) | (refine T_load (by assumption) (by rfl) (by rfl) (fun _ _ _ _ h => h) rfl rfl (by assumption) (by first | exact (fun hn => hn) | assumption) ?_; try simp only [Act.put, List.setIfInBounds_toArray, List.set_cons_zero, List.set_cons_succ]) | (refine T_nil (by rfl) (by rfl) (fun _ _ _ _ h => h) rfl rfl ?_; try simp only [Act.put, List.setIfInBounds_toArray, List.set_cons_zero, List.set_cons_succ]) | (refine T_quietN (by rfl) (by rfl) (by rfl) (by rfl) (fun _ _ _ _ h => h) (fun K hK => ?_); go_big_quiet_op; refine hK _ ?_; clear hK K) | (refine T_two (by rfl) (by rfl) (by rfl) (by rfl) (fun _ _ _ _ h => h) (fun K hK => ?_); go_big_quiet_op; refine ⟨_, fun _ _ => rfl, ?_⟩; refine hK _ ?_; clear hK K; try simp only [Act.put, List.setIfInBounds_toArray, List.set_cons_zero, List.set_cons_succ]) | fail)
      refine T_loadA (cs := vcells x) ag_val (by rfl) (by rfl) (fun _ _ _ _ h => h) rfl rfl rfl hv (fun hn => hn) ?_
      try simp only [Act.put, List.setIfInBounds_toArray, List.set_cons_zero, List.set_cons_succ]
      repeat (first | (refine T_skip (by rfl) (by rfl) (fun _ _ _ h => h) ?_; try simp only [Act.put, List.setIfInBounds_toArray, List.set_cons_zero, List.set_cons_succ]) | (refine T_pass (by rfl) (by rfl) ?_; try simp only [Act.put, List.setIfInBounds_toArray, List.set_cons_zero, List.set_cons_succ]) | (refine T_load (by assumption) (by rfl) (by rfl) (fun _ _ _ _ h => h) rfl rfl (by assumption) (by first | exact (fun hn => hn) | assumption) ?_; try simp only [Act.put, List.setIfInBounds_toArray, List.set_cons_zero, List.set_cons_succ]) | (refine T_nil (by rfl) (by rfl) (fun _ _ _ _ h => h) rfl rfl ?_; try simp only [Act.put, List.setIfInBounds_toArray, List.set_cons_zero, List.set_cons_succ]) | (refine T_quietN (by rfl) (by rfl) (by rfl) (by rfl) (fun _ _ _ _ h => h) (fun K hK => ?_); go_big_quiet_op; refine hK _ ?_; clear hK K) | (refine T_two (by rfl) (by rfl) (by rfl) (by rfl) (fun _ _ _ _ h => h) (fun K hK => ?_); go_big_quiet_op; refine ⟨_, fun _ _ => rfl, ?_⟩; refine hK _ ?_; clear hK K; try simp only [Act.put, List.setIfInBounds_toArray, List.set_cons_zero, List.set_cons_succ]) | fail)
      refine T_loadA (cs := vcells y) ag_val (by rfl) (by rfl) (fun _ _ _ _ h => h) rfl rfl rfl hv' (fun hn => hn) ?_
      try simp only [Act.put, List.setIfInBounds_toArray, List.set_cons_zero, List.set_cons_succ]
      unfold vcells
      obtain ⟨xk, xn⟩ := x
      obtain ⟨yk, yn⟩ := y
      simp only
      by_cases h1 : xk = yk
      · subst h1
        by_cases h3 : xn = yn
        · subst h3
          have HS' := Lib.hid (HS.out rfl)
          clear HS HD
          repeat (first | (refine T_skip (by rfl) (by rfl) (fun _ _ _ h => h) ?_; try simp only [Act.put, List.setIfInBounds_toArray, List.set_cons_zero, List.set_cons_succ]) | (refine T_pass (by rfl) (by rfl) ?_; try simp only [Act.put, List.setIfInBounds_toArray, List.set_cons_zero, List.set_cons_succ]) | (refine T_load (by assumption) (by rfl) (by rfl) (fun _ _ _ _ h => h) rfl rfl (by assumption) (by first | exact (fun hn => hn) | assumption) ?_; try simp only [Act.put, List.setIfInBounds_toArray, List.set_cons_zero, List.set_cons_succ]) | (refine T_nil (by rfl) (by rfl) (fun _ _ _ _ h => h) rfl rfl ?_; try simp only [Act.put, List.setIfInBounds_toArray, List.set_cons_zero, List.set_cons_succ]) | (refine T_quietN (by rfl) (by rfl) (by rfl) (by rfl) (fun _ _ _ _ h => h) (fun K hK => ?_); go_big_quiet_op; refine hK _ ?_; clear hK K) | (refine T_two (by rfl) (by rfl) (by rfl) (by rfl) (fun _ _ _ _ h => h) (fun K hK => ?_); go_big_quiet_op; refine ⟨_, fun _ _ => rfl, ?_⟩; refine hK _ ?_; clear hK K; try simp only [Act.put, List.setIfInBounds_toArray, List.set_cons_zero, List.set_cons_succ]) | fail)
          refine T_done ?_
          go_wp2
          go_roundw
          case rel => exact ⟨k + 1, by omega, by go_num, HS', hf.drew⟩
          case measure => simp [intOf]; omega
        · have e9 : (xn == yn) = false := by simpa using h3
          have HD' := Lib.hid (HD.out (fun e => h3 (by injection e)))
          clear HS HD h3
          repeat (first | (refine T_skip (by rfl) (by rfl) (fun _ _ _ h => h) ?_; try simp only [Act.put, List.setIfInBounds_toArray, List.set_cons_zero, List.set_cons_succ]) | (refine T_pass (by rfl) (by rfl) ?_; try simp only [Act.put, List.setIfInBounds_toArray, List.set_cons_zero, List.set_cons_succ]) | (refine T_load (by assumption) (by rfl) (by rfl) (fun _ _ _ _ h => h) rfl rfl (by assumption) (by first | exact (fun hn => hn) | assumption) ?_; try simp only [Act.put, List.setIfInBounds_toArray, List.set_cons_zero, List.set_cons_succ]) | (refine T_nil (by rfl) (by rfl) (fun _ _ _ _ h => h) rfl rfl ?_; try simp only [Act.put, List.setIfInBounds_toArray, List.set_cons_zero, List.set_cons_succ]) | (refine T_quietN (by rfl) (by rfl) (by rfl) (by rfl) (fun _ _ _ _ h => h) (fun K hK => ?_); go_big_quiet_op; refine hK _ ?_; clear hK K) | (refine T_two (by rfl) (by rfl) (by rfl) (by rfl) (fun _ _ _ _ h => h) (fun K hK => ?_); go_big_quiet_op; refine ⟨_, fun _ _ => rfl, ?_⟩; refine hK _ ?_; clear hK K; try simp only [Act.put, List.setIfInBounds_toArray, List.set_cons_zero, List.set_cons_succ]) | fail)
          refine T_done ?_
          go_wp2
          go_ret
          exact ⟨ret_bool HD'.out.symm, hf.drew⟩
      · have e9 : (xk == yk) = false := by simpa using h1
        have HD' := Lib.hid (HD.out (fun e => h1 (by injection e)))
        clear HS HD h1
        repeat (first | (refine T_skip (by rfl) (by rfl) (fun _ _ _ h => h) ?_; try simp only [Act.put, List.setIfInBounds_toArray, List.set_cons_zero, List.set_cons_succ]) | (refine T_pass (by rfl) (by rfl) ?_; try simp only [Act.put, List.setIfInBounds_toArray, List.set_cons_zero, List.set_cons_succ]) | (refine T_load (by assumption) (by rfl) (by rfl) (fun _ _ _ _ h => h) rfl rfl (by assumption) (by first | exact (fun hn => hn) | assumption) ?_; try simp only [Act.put, List.setIfInBounds_toArray, List.set_cons_zero, List.set_cons_succ]) | (refine T_nil (by rfl) (by rfl) (fun _ _ _ _ h => h) rfl rfl ?_; try simp only [Act.put, List.setIfInBounds_toArray, List.set_cons_zero, List.set_cons_succ]) | (refine T_quietN (by rfl) (by rfl) (by rfl) (by rfl) (fun _ _ _ _ h => h) (fun K hK => ?_); go_big_quiet_op; refine hK _ ?_; clear hK K) | (refine T_two (by rfl) (by rfl) (by rfl) (by rfl) (fun _ _ _ _ h => h) (fun K hK => ?_); go_big_quiet_op; refine ⟨_, fun _ _ => rfl, ?_⟩; refine hK _ ?_; clear hK K; try simp only [Act.put, List.setIfInBounds_toArray, List.set_cons_zero, List.set_cons_succ]) | fail)
        refine T_done ?_
        go_wp2
        go_ret
        exact ⟨ret_bool HD'.out.symm, hf.drew⟩
    · obtain rfl : k = a.length := by omega
      have ek : decide ((a.length : Int) < a.length) = false := by simp
      have HE := Lib.hid (show decide (a = b) = true from decide_eq_true (HN.out.all HL.out))
      go_wp2
      go_ret
      exact ⟨ret_bool HE.out.symm, hf⟩
/-- Alike. -/
def sameO (o p : ObjM) : Bool := decide (o = p)
theorem sameO_self (o : ObjM) : sameO o o = true := decide_eq_true rfl
theorem obj_eq (c d : Int) (a b : List VL) (x y : List UInt8) : sameO ⟨c, a, x⟩ ⟨d, b, y⟩ = ((c == d) && (decide (a = b) && decide (x = y))) := by
  unfold sameO
  by_cases h1 : c = d <;> by_cases h2 : a = b <;> by_cases h3 : x = y <;> simp [h1, h2, h3]
set_option maxHeartbeats 2000000 in
set_option maxRecDepth 100000 in
theorem vsame_calls (S T : Nat → Prop) (cs cs2 : List Value) (o p : ObjM) (w : World) (h : ObjC w S cs o) (h2 : ObjC w T cs2 p) :
    Calls Try.prog 48 #[.agg cs.toArray, .agg cs2.toArray] w fun e w' => e = .returned (.bool (sameO o p)) ∧ Fr No w w' := by
  obtain ⟨oc, os, ob⟩ := o
  obtain ⟨pc, ps, pb⟩ := p
  obtain ⟨A, c, D, d, rfl, hs, hb⟩ := h
  obtain ⟨A2, c2, D2, d2, rfl, hs2, hb2⟩ := h2
  simp only at hs hb hs2 hb2
  have g1 := plain_i64
  have g2 := plain_lval
  have g3 := plain_lu8
  have hf1 : Fr No w ((w.alloc (.cells #[.int .i64 oc, .slice A os.length c, .slice D ob.length d] 38)).alloc (.cells #[.int .i64 pc, .slice A2 ps.length c2, .slice D2 pb.length d2] 38)) := ((Fr.refl No w).alloc _).alloc _
  have hbx : Blk ((w.alloc (.cells #[.int .i64 oc, .slice A os.length c, .slice D ob.length d] 38)).alloc (.cells #[.int .i64 pc, .slice A2 ps.length c2, .slice D2 pb.length d2] 38)) w.heap.size 38 #[.int .i64 oc, .slice A os.length c, .slice D ob.length d] := (Blk.new w _ _).alloc _
  have hby : Blk ((w.alloc (.cells #[.int .i64 oc, .slice A os.length c, .slice D ob.length d] 38)).alloc (.cells #[.int .i64 pc, .slice A2 ps.length c2, .slice D2 pb.length d2] 38)) (w.heap.size + 1) 38 #[.int .i64 pc, .slice A2 ps.length c2, .slice D2 pb.length d2] := Blk.newAt (by simp)
  have H := Lib.hid (obj_eq oc pc os ps ob pb)
  by_cases h1 : oc = pc
  rotate_left
  · have e1 : (oc == pc) = false := by simpa using h1
    rw [e1, Bool.false_and] at H
    clear h1
    go_enter Try.func48, Try.ntmps48
    go_wp2
    go_ret
    exact ⟨ret_bool H.out.symm, hf1⟩
  have e1 : (oc == pc) = true := by simpa using h1
  rw [e1, Bool.true_and] at H
  clear h1
  go_enter Try.func48, Try.ntmps48
  go_wp2_with fail
  refine (vequal_calls S T A A2 c c2 os ps _ (Rd.fr0 hs hf1) (Rd.fr0 hs2 hf1)).mono ?_
  rintro e w3 ⟨rfl, hf3⟩
  cases hd : decide (os = ps) with
  | false =>
    rw [hd, Bool.false_and] at H
    clear hd
    go_wp2
    go_ret
    exact ⟨ret_bool H.out.symm, hf1.tr hf3⟩
  | true =>
    rw [hd, Bool.true_and] at H
    clear hd
    have hbx3 := hbx.fr0 hf3
    have hby3 := hby.fr0 hf3
    (have p0 := hbx3.cell 0; have p1 := hbx3.cell 1; have p2 := hbx3.cell 2; have pf0 := hbx3.frozen 0; have pf1 := hbx3.frozen 1; have pf2 := hbx3.frozen 2; simp only [List.getElem?_toArray, List.getElem?_cons_zero, List.getElem?_cons_succ] at p0 p1 p2)
    (have q0 := hby3.cell 0; have q1 := hby3.cell 1; have q2 := hby3.cell 2; have qf0 := hby3.frozen 0; have qf1 := hby3.frozen 1; have qf2 := hby3.frozen 2; simp only [List.getElem?_toArray, List.getElem?_cons_zero, List.getElem?_cons_succ] at q0 q1 q2)
    go_wp2_with fail
    refine (bequal_calls S T D D2 d d2 ob pb _ (Rd.fr0 hb (hf1.tr hf3)) (Rd.fr0 hb2 (hf1.tr hf3))).mono ?_
    rintro e _ ⟨rfl, rfl⟩
    go_wp2
    go_ret
    exact ⟨ret_bool H.out.symm, hf1.tr hf3⟩
set_option maxHeartbeats 2000000 in
set_option maxRecDepth 100000 in
theorem refsame_calls (S T : Nat → Prop) (cs cs2 : List Value) (o p : ObjM) (w : World) (h : ObjC w S cs o) (h2 : ObjC w T cs2 p) :
    Calls Try.prog 14 #[.agg cs.toArray, .agg cs2.toArray] w fun e w' => e = .returned (.bool (sameO o p)) ∧ Fr No w w' := by
  obtain ⟨oc, os, ob⟩ := o
  obtain ⟨pc, ps, pb⟩ := p
  obtain ⟨A, c, D, d, rfl, hs, hb⟩ := h
  obtain ⟨A2, c2, D2, d2, rfl, hs2, hb2⟩ := h2
  simp only at hs hb hs2 hb2
  have g1 := plain_i64
  have g2 := plain_lval
  have g3 := plain_lu8
  have hle1 := hs.le
  have hle2 := hs2.le
  have hf1 : Fr No w ((w.alloc (.cells #[.int .i64 oc, .slice A os.length c, .slice D ob.length d] 38)).alloc (.cells #[.int .i64 pc, .slice A2 ps.length c2, .slice D2 pb.length d2] 38)) := ((Fr.refl No w).alloc _).alloc _
  have hbx : Blk ((w.alloc (.cells #[.int .i64 oc, .slice A os.length c, .slice D ob.length d] 38)).alloc (.cells #[.int .i64 pc, .slice A2 ps.length c2, .slice D2 pb.length d2] 38)) w.heap.size 38 #[.int .i64 oc, .slice A os.length c, .slice D ob.length d] := (Blk.new w _ _).alloc _
  have hby : Blk ((w.alloc (.cells #[.int .i64 oc, .slice A os.length c, .slice D ob.length d] 38)).alloc (.cells #[.int .i64 pc, .slice A2 ps.length c2, .slice D2 pb.length d2] 38)) (w.heap.size + 1) 38 #[.int .i64 pc, .slice A2 ps.length c2, .slice D2 pb.length d2] := Blk.newAt (by simp)
  have H := Lib.hid (obj_eq oc pc os ps ob pb)
  by_cases h1 : oc = pc
  rotate_left
  · have e1 : (oc == pc) = false := by simpa using h1
    have e1' : (oc != pc) = true := by simpa using h1
    rw [e1, Bool.false_and] at H
    clear h1
    go_enter Try.func14, Try.ntmps14
    go_wp2
    go_ret
    exact ⟨ret_bool H.out.symm, hf1⟩
  have e1 : (oc == pc) = true := by simpa using h1
  have e1' : (oc != pc) = false := by simpa using h1
  rw [e1, Bool.true_and] at H
  clear h1
  by_cases hl : os.length = ps.length
  rotate_left
  · have e2 : (os.length != ps.length) = true := by simpa using hl
    have e2' : ((os.length : Int) != ps.length) = true := by simp; omega
    rw [show decide (os = ps) = false from decide_eq_false (fun e => hl (by rw [e])), Bool.false_and] at H
    clear hl
    go_enter Try.func14, Try.ntmps14
    go_wp2
    go_ret
    exact ⟨ret_bool H.out.symm, hf1⟩
  have e2 : (os.length != ps.length) = false := by simpa using hl
  have e2' : ((os.length : Int) != ps.length) = false := by simp; omega
  have HL := Lib.hid hl
  clear hl
  by_cases hx : ob = pb
  rotate_left
  · have e3 : (ob != pb) = true := by simpa using hx
    have e3' : (ob == pb) = false := by simpa using hx
    rw [decide_eq_false hx, Bool.and_false] at H
    have HX := Lib.hid hx
    clear hx
    go_enter Try.func14, Try.ntmps14
    go_wp2_with (first
      | (refine wpList_str Try.underlying36 Try.underlying5 Try.underlying9 rfl (.tmp 22) rfl rfl rfl (Rd.fr0 hb hf1) ?_)
      | (refine wpList_str Try.underlying36 Try.underlying5 Try.underlying9 rfl (.tmp 25) rfl rfl rfl (Rd.fr0 hb2 hf1) ?_)
      | fail)
    go_ret
    exact ⟨ret_bool H.out.symm, hf1⟩
  subst hx
  rw [decide_eq_true (rfl : ob = ob), Bool.and_true] at H
  go_enter Try.func14, Try.ntmps14
  go_wp2_with (first
    | (refine wpList_str Try.underlying36 Try.underlying5 Try.underlying9 rfl (.tmp 22) rfl rfl rfl (Rd.fr0 hb hf1) ?_)
    | (refine wpList_str Try.underlying36 Try.underlying5 Try.underlying9 rfl (.tmp 25) rfl rfl rfl (Rd.fr0 hb2 hf1) ?_)
    | fail)
  generalize hw1 : ((w.alloc (.cells #[.int .i64 oc, .slice A os.length c, .slice D ob.length d] 38)).alloc (.cells #[.int .i64 pc, .slice A2 ps.length c2, .slice D2 ob.length d2] 38)) = w1 at *
  clear hw1
  have hs1 := Rd.fr0 hs hf1
  have hs21 := Rd.fr0 hs2 hf1
  have hl1 := hby.lt
  go_loopw [5] (fun i wr => ∃ k : Nat, k ≤ os.length ∧ i = .int .i64 (k : Int) ∧ Hid (NoDiff os ps k) ∧ Fr No w1 wr) (fun i _ => os.length - (intOf i).toNat)
  case atStart => exact ⟨0, by omega, rfl, Lib.hid (fun i hi => by omega), Fr.refl _ _⟩
  case round =>
    obtain ⟨k, hk, rfl, HN, hf⟩ := hrel
    have q1 := (hbx.fr0 hf).cell 1
    have y1 := (hby.fr0 hf).cell 1
    simp only [List.getElem?_toArray, List.getElem?_cons_zero, List.getElem?_cons_succ] at q1 y1
    by_cases hlt : k < os.length
    · have ek : decide ((k : Int) < os.length) = true := by simpa using (by omega : (k : Int) < os.length)
      have hltb : k < ps.length := by have := HL.out; omega
      obtain ⟨g, of, rfl, _, _, _, hv⟩ := RdV.at_ (Rd.fr0 hs1 hf) hlt
      obtain ⟨g', of', rfl, _, _, _, hv'⟩ := RdV.at_ (Rd.fr0 hs21 hf) hltb
      have HS := Lib.hid (fun e => HN.out.succ hlt hltb e)
      have HD := Lib.hid (fun e => decide_eq_false (diff_at hlt hltb e))
      generalize os[k] = x at *
      generalize ps[k] = y at *
      go_wp2_with fail
      (refine T_begin No [0, 1, 2, 3, 4, 5, 6, 7, 8, 9, 10] [] (by kernel_rfl) (by kernel_rfl) ?_; simp only [pickOps, List.filterMap_cons, List.filterMap_nil, List.getElem?_cons_zero, List.getElem?_cons_succ, Act.put])
      repeat (first | (refine T_skip (by rfl) (by rfl) (fun _ _ _ h => h) ?_; try simp only [Act.put, List.setIfInBounds_toArray, List.set_cons_zero, List.set_cons_succ]) | (refine T_pass (by rfl) (by rfl) ?_; try simp only [Act.put, List.setIfInBounds_toArray, List.set_cons_zero, List.set_cons_succ]) | (refine T_load (by assumption) (by rfl) (by rfl) (fun _ _ _ _ h => h) rfl rfl (by assumption) (by first | exact (fun hn => hn) | assumption) ?_; try simp only [Act.put, List.setIfInBounds_toArray, List.set_cons_zero, List.set_cons_succ]) | (refine T_nil (by rfl) (by rfl) (fun _ _ _ _ h => h) rfl rfl ?_; try simp only [Act.put, List.setIfInBounds_toArray, List.set_cons_zero, List.set_cons_succ]) | (refine T_quietN (by rfl) (by rfl) (by rfl) (by rfl) (fun _ _ _ _ h => h) (fun K hK => ?_); go_big_quiet_op; refine hK _ ?_; clear hK K) | (refine T_two (by rfl) (by rfl) (by rfl) (by rfl) (fun _ _ _ _ h => h) (fun K hK => ?_); go_big_quiet_op; refine ⟨_, fun _ _ => rfl, ?_⟩; refine hK _ ?_; clear hK K; try simp only [Act.put, List.setIfInBounds_toArray, List.set_cons_zero, List.set_cons_succ]) | fail)
      refine T_loadA (cs := vcells x) ag_val (by rfl) (by rfl) (fun _ _ _ _ h => h) rfl rfl rfl hv (fun hn => hn) ?_
      try simp only [Act.put, List.setIfInBounds_toArray, List.set_cons_zero, List.set_cons_succ]
      repeat (first | (refine T_skip (by rfl) (by rfl) (fun _ _ _ h => h) ?_; try simp only [Act.put, List.setIfInBounds_toArray, List.set_cons_zero, List.set_cons_succ]) | (refine T_pass (by rfl) (by rfl) ?_; try simp only [Act.put, List.setIfInBounds_toArray, List.set_cons_zero, List.set_cons_succ]) | (refine T_load (by assumption) (by rfl) (by rfl) (fun _ _ _ _ h => h) rfl rfl (by assumption) (by first | exact (fun hn => hn) | assumption) ?_; try simp only [Act.put, List.setIfInBounds_toArray, List.set_cons_zero, List.set_cons_succ]) | (refine T_nil (by rfl) (by rfl) (fun _ _ _ _ h => h) rfl rfl ?_; try simp only [Act.put, List.setIfInBounds_toArray, List.set_cons_zero, List.set_cons_succ]) | (refine T_quietN (by rfl) (by rfl) (by rfl) (by rfl) (fun _ _ _ _ h => h) (fun K hK => ?_); go_big_quiet_op; refine hK _ ?_; clear hK K) | (refine T_two (by rfl) (by rfl) (by rfl) (by rfl) (fun _ _ _ _ h => h) (fun K hK => ?_); go_big_quiet_op; refine ⟨_, fun _ _ => rfl, ?_⟩; refine hK _ ?_; clear hK K; try simp only [Act.put, List.setIfInBounds_toArray, List.set_cons_zero, List.set_cons_succ]) | fail)
      refine T_loadA (cs := vcells y) ag_val (by rfl) (by rfl) (fun _ _ _ _ h => h) rfl rfl rfl hv' (fun hn => hn) ?_
      try simp only [Act.put, List.setIfInBounds_toArray, List.set_cons_zero, List.set_cons_succ]
      unfold vcells
      obtain ⟨xk, xn⟩ := x
      obtain ⟨yk, yn⟩ := y
      simp only
      by_cases h1 : xk = yk
      · subst h1
        by_cases h3 : xn = yn
        · subst h3
          have HS' := Lib.hid (HS.out rfl)
          clear HS HD
          repeat (first | (refine T_skip (by rfl) (by rfl) (fun _ _ _ h => h) ?_; try simp only [Act.put, List.setIfInBounds_toArray, List.set_cons_zero, List.set_cons_succ]) | (refine T_pass (by rfl) (by rfl) ?_; try simp only [Act.put, List.setIfInBounds_toArray, List.set_cons_zero, List.set_cons_succ]) | (refine T_load (by assumption) (by rfl) (by rfl) (fun _ _ _ _ h => h) rfl rfl (by assumption) (by first | exact (fun hn => hn) | assumption) ?_; try simp only [Act.put, List.setIfInBounds_toArray, List.set_cons_zero, List.set_cons_succ]) | (refine T_nil (by rfl) (by rfl) (fun _ _ _ _ h => h) rfl rfl ?_; try simp only [Act.put, List.setIfInBounds_toArray, List.set_cons_zero, List.set_cons_succ]) | (refine T_quietN (by rfl) (by rfl) (by rfl) (by rfl) (fun _ _ _ _ h => h) (fun K hK => ?_); go_big_quiet_op; refine hK _ ?_; clear hK K) | (refine T_two (by rfl) (by rfl) (by rfl) (by rfl) (fun _ _ _ _ h => h) (fun K hK => ?_); go_big_quiet_op; refine ⟨_, fun _ _ => rfl, ?_⟩; refine hK _ ?_; clear hK K; try simp only [Act.put, List.setIfInBounds_toArray, List.set_cons_zero, List.set_cons_succ]) | fail)
          refine T_done ?_
          go_wp2
          go_roundw
          case rel => exact ⟨k + 1, by omega, by go_num, HS', hf.drew⟩
          case measure => simp [intOf]; omega
        · have e9 : (xn == yn) = false := by simpa using h3
          have HD' := Lib.hid (HD.out (fun e => h3 (by injection e)))
          clear HS HD h3
          repeat (first | (refine T_skip (by rfl) (by rfl) (fun _ _ _ h => h) ?_; try simp only [Act.put, List.setIfInBounds_toArray, List.set_cons_zero, List.set_cons_succ]) | (refine T_pass (by rfl) (by rfl) ?_; try simp only [Act.put, List.setIfInBounds_toArray, List.set_cons_zero, List.set_cons_succ]) | (refine T_load (by assumption) (by rfl) (by rfl) (fun _ _ _ _ h => h) rfl rfl (by assumption) (by first | exact (fun hn => hn) | assumption) ?_; try simp only [Act.put, List.setIfInBounds_toArray, List.set_cons_zero, List.set_cons_succ]) | (refine T_nil (by rfl) (by rfl) (fun _ _ _ _ h => h) rfl rfl ?_; try simp only [Act.put, List.setIfInBounds_toArray, List.set_cons_zero, List.set_cons_succ]) | (refine T_quietN (by rfl) (by rfl) (by rfl) (by rfl) (fun _ _ _ _ h => h) (fun K hK => ?_); go_big_quiet_op; refine hK _ ?_; clear hK K) | (refine T_two (by rfl) (by rfl) (by rfl) (by rfl) (fun _ _ _ _ h => h) (fun K hK => ?_); go_big_quiet_op; refine ⟨_, fun _ _ => rfl, ?_⟩; refine hK _ ?_; clear hK K; try simp only [Act.put, List.setIfInBounds_toArray, List.set_cons_zero, List.set_cons_succ]) | fail)
          refine T_done ?_
          go_wp2
          go_ret
          exact ⟨ret_bool (by rw [H.out, HD'.out]), hf1.tr hf.drew⟩
      · have e9 : (xk == yk) = false := by simpa using h1
        have HD' := Lib.hid (HD.out (fun e => h1 (by injection e)))
        clear HS HD h1
        repeat (first | (refine T_skip (by rfl) (by rfl) (fun _ _ _ h => h) ?_; try simp only [Act.put, List.setIfInBounds_toArray, List.set_cons_zero, List.set_cons_succ]) | (refine T_pass (by rfl) (by rfl) ?_; try simp only [Act.put, List.setIfInBounds_toArray, List.set_cons_zero, List.set_cons_succ]) | (refine T_load (by assumption) (by rfl) (by rfl) (fun _ _ _ _ h => h) rfl rfl (by assumption) (by first | exact (fun hn => hn) | assumption) ?_; try simp only [Act.put, List.setIfInBounds_toArray, List.set_cons_zero, List.set_cons_succ]) | (refine T_nil (by rfl) (by rfl) (fun _ _ _ _ h => h) rfl rfl ?_; try simp only [Act.put, List.setIfInBounds_toArray, List.set_cons_zero, List.set_cons_succ]) | (refine T_quietN (by rfl) (by rfl) (by rfl) (by rfl) (fun _ _ _ _ h => h) (fun K hK => ?_); go_big_quiet_op; refine hK _ ?_; clear hK K) | (refine T_two (by rfl) (by rfl) (by rfl) (by rfl) (fun _ _ _ _ h => h) (fun K hK => ?_); go_big_quiet_op; refine ⟨_, fun _ _ => rfl, ?_⟩; refine hK _ ?_; clear hK K; try simp only [Act.put, List.setIfInBounds_toArray, List.set_cons_zero, List.set_cons_succ]) | fail)
        refine T_done ?_
        go_wp2
        go_ret
        exact ⟨ret_bool (by rw [H.out, HD'.out]), hf1.tr hf.drew⟩
    · obtain rfl : k = os.length := by omega
      have ek : decide ((os.length : Int) < os.length) = false := by simp
      have HE := Lib.hid (show decide (os = ps) = true from decide_eq_true (HN.out.all HL.out))
      go_wp2
      go_ret
      exact ⟨ret_bool (by rw [H.out, HE.out]), hf1.tr hf⟩
end Go.Proofs.Ytifcnjebepipnaa
