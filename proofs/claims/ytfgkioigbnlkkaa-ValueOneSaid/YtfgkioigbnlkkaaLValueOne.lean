/- The walk of lapidarylaw05.ValueOne. No condition but that the memory can hold the objects. -/
import Derived.Test.YtfgkioigbnlkkaaLValuePuts
namespace Go.Proofs.Ytfgkioigbnlkkaa
set_option linter.unusedVariables false
set_option linter.unusedSimpArgs false
open Go.RowKit

theorem T_cmpStr {S : Nat → Prop} {ops : Array Oper} {Q : Exit → Act → World → Prop} {ms : List Nat} {ord calls : List Nat} {k : Nat} {l : List Oper} {o : Oper} {a : Act} {w : World} {s t : List UInt8} {b : Bool} (hb : decide (s = t) = b) {x y : Operand} {ty : TypeId}
    (hc : calls.contains (ord.getD k 0) = false) (hw : Region.wanted o (yielded ops a.tmps) = true) (hQ : ∀ v c a w, Q (.panic c) (a.put o.dst v) w → Q (.panic c) a w)
    (ho : o.op = .binOp .eql 9 x y ty) (hx : a.eval x = .string ⟨s.toArray⟩) (hy : a.eval y = .string ⟨t.toArray⟩)
    (h : wpT Try.prog S ops Q ms ord calls (k + 1) l (a.put o.dst (.bool b)) w) (hxm : calls.contains (ord.getD k 0 + 1000) = false := by rfl) : wpT Try.prog S ops Q ms ord calls k (o :: l) a w := by
  subst hb
  rw [← bytes_eq] at h
  refine T_take hc hw (hQ _) (fun w' hf => ?_) h hxm
  unfold execOp
  simp [ho, hx, hy, eqGuard, binOp, Op.stringOp]
set_option maxHeartbeats 4000000 in
set_option maxRecDepth 100000 in
theorem law_ValueOne (W : World) (cs : List Value) (o : ObjM) (h : ObjC W (fun b => b < W.heap.size) cs o) (ok : ObjOk o) (cs' : List Value) (p : ObjM) (h' : ObjC W (fun b => b < W.heap.size) cs' p) (ok' : ObjOk p) :
    Calls Try.prog 5 #[.agg cs.toArray, .agg cs'.toArray] W fun e w' => e = .returned (.bool true) ∧ Fr No W w' := by
  obtain ⟨ok1, ok2⟩ := ok
  obtain ⟨ok3, ok4⟩ := ok'
  have hlen1 := putM_len o
  have hlen2 := putM_len p
  have hc := h
  have hc' := h'
  obtain ⟨A0, c0, D0, d0, rfl, hs0, hb0⟩ := hc
  obtain ⟨A1, c1, D1, d1, rfl, hs1, hb1⟩ := hc'
  have hf0 : Fr No W ((W.alloc (.cells #[.int .i64 o.cls, .slice A0 o.slots.length c0, .slice D0 o.bytes.length d0] 25)).alloc (.cells #[.int .i64 p.cls, .slice A1 p.slots.length c1, .slice D1 p.bytes.length d1] 25)) := ((Fr.refl No W).alloc _).alloc _
  have hx0 : Blk ((W.alloc (.cells #[.int .i64 o.cls, .slice A0 o.slots.length c0, .slice D0 o.bytes.length d0] 25)).alloc (.cells #[.int .i64 p.cls, .slice A1 p.slots.length c1, .slice D1 p.bytes.length d1] 25)) W.heap.size 25 #[.int .i64 o.cls, .slice A0 o.slots.length c0, .slice D0 o.bytes.length d0] := (Blk.new W _ _).alloc _
  have hy0 : Blk ((W.alloc (.cells #[.int .i64 o.cls, .slice A0 o.slots.length c0, .slice D0 o.bytes.length d0] 25)).alloc (.cells #[.int .i64 p.cls, .slice A1 p.slots.length c1, .slice D1 p.bytes.length d1] 25)) (W.heap.size + 1) 25 #[.int .i64 p.cls, .slice A1 p.slots.length c1, .slice D1 p.bytes.length d1] := Blk.newAt (by simp)
  go_enter Try.func5, Try.ntmps5
  go_upto_region 1 with fail
  generalize hw0 : ((W.alloc (.cells #[.int .i64 o.cls, .slice A0 o.slots.length c0, .slice D0 o.bytes.length d0] 25)).alloc (.cells #[.int .i64 p.cls, .slice A1 p.slots.length c1, .slice D1 p.bytes.length d1] 25)) = w0 at *
  clear hw0
  have x0 := hx0.all
  go_wp2_with (first
    | (refine wpList_ldA ag_obj rfl _ rfl ⟨W.heap.size, 0, none⟩ [.int .i64 o.cls, .slice A0 o.slots.length c0, .slice D0 o.bytes.length d0] rfl rfl x0 ?_)
    | fail)
  refine (refcopy_calls _ _ o _ (h.fr0 hf0) (by omega)).mono ?_
  rintro e w1 ⟨cs1, rfl, hown1, hf1⟩
  go_wp2_with fail
  refine (vput_calls _ _ o _ (hown1.rd (by omega) (by omega))).mono ?_
  rintro e w2 ⟨v2, rfl, hown2, hf2⟩
  have hF2 := hf0.tr (hf1.tr hf2)
  have y2 := (hy0.fr0 (hf1.tr hf2)).all
  go_wp2_with (first
    | (refine wpList_ldA ag_obj rfl _ rfl ⟨W.heap.size + 1, 0, none⟩ [.int .i64 p.cls, .slice A1 p.slots.length c1, .slice D1 p.bytes.length d1] rfl rfl y2 ?_)
    | fail)
  refine (refcopy_calls _ _ p _ (h'.fr0 hF2) (by omega)).mono ?_
  rintro e w3 ⟨cs3, rfl, hown3, hf3⟩
  go_wp2_with fail
  refine (vput_calls _ _ p _ (hown3.rd (by omega) (by omega))).mono ?_
  rintro e w4 ⟨v4, rfl, hown4, hf4⟩
  have hF4 := hF2.tr (hf3.tr hf4)
  clear hown1 hown3
  have hcas : ∃ l1 l2 er1 er2, putM o = (l1, er1) ∧ putM p = (l2, er2) ∧ ((er1 = 0 ∧ er2 = 0 ∧ decide (l1 = l2) = sameO o p) ∨ er1 = 1 ∨ (er1 = 0 ∧ er2 = 1)) := by
    cases hr : rightO o with
    | false => exact ⟨_, _, _, _, putM_no hr, rfl, .inr (.inl rfl)⟩
    | true =>
      cases hr2 : rightO p with
      | false => exact ⟨_, _, _, _, putM_ok hr, putM_no hr2, .inr (.inr ⟨rfl, rfl⟩)⟩
      | true =>
        refine ⟨_, _, _, _, putM_ok hr, putM_ok hr2, .inl ⟨rfl, rfl, ?_⟩⟩
        by_cases he : o = p
        · subst he; rw [sameO_self]; simp
        · unfold sameO
          rw [decide_eq_false he, decide_eq_false (fun e => he (objB_inj o p hr hr2 e))]
  obtain ⟨l1, l2, er1, er2, q1, q2, hcas⟩ := hcas
  simp only [q1, q2] at hown2 hown4 hlen1 hlen2 ⊢
  clear q1 q2
  have HC := Lib.hid hcas
  clear hcas
  obtain ⟨A2, c2, rfl, hc2, hcm2, _⟩ := own_form hown2
  obtain ⟨A4, c4, rfl, hc4, hcm4, _⟩ := own_form hown4
  have hr2 := Rd.fr0 (own_rd hown2 (by omega)) (hf3.tr hf4)
  have hr4 := own_rd hown4 (by omega)
  rcases HC.out with ⟨h1, h2, hq⟩ | h1 | ⟨h1, h2⟩
  · subst h1 h2
    obtain ⟨q, hsm⟩ : ∃ q, sameO o p = q := ⟨_, rfl⟩
    rw [hsm] at hq
    have HQ := Lib.hid hq
    have HSM := Lib.hid hsm
    clear hq hsm HC
    have hx4 := hx0.fr0 (hf1.tr (hf2.tr (hf3.tr hf4)))
    have hy4 := hy0.fr0 (hf1.tr (hf2.tr (hf3.tr hf4)))
    go_wp2_with fail
    (refine T_begin No [0, 1, 2, 3, 4, 5, 6, 7, 8, 9, 10, 11, 12] [7, 10] (by kernel_rfl) (by kernel_rfl) ?_; simp only [pickOps, List.filterMap_cons, List.filterMap_nil, List.getElem?_cons_zero, List.getElem?_cons_succ, Act.put])
    (first | (refine T_skip (by rfl) (by rfl) (fun _ _ _ h => h) ?_; try simp only [Act.put, List.setIfInBounds_toArray, List.set_cons_zero, List.set_cons_succ]) | (refine T_pass (by rfl) (by rfl) ?_; try simp only [Act.put, List.setIfInBounds_toArray, List.set_cons_zero, List.set_cons_succ]) | (refine T_load (by assumption) (by rfl) (by rfl) (fun _ _ _ _ h => h) rfl rfl (by assumption) (by first | exact (fun hn => hn) | assumption) ?_; try simp only [Act.put, List.setIfInBounds_toArray, List.set_cons_zero, List.set_cons_succ]) | (refine T_nil (by rfl) (by rfl) (fun _ _ _ _ h => h) rfl rfl ?_; try simp only [Act.put, List.setIfInBounds_toArray, List.set_cons_zero, List.set_cons_succ]) | (refine T_quietN (by rfl) (by rfl) (by rfl) (by rfl) (fun _ _ _ _ h => h) (fun K hK => ?_); go_big_quiet_op; refine hK _ ?_; clear hK K) | (refine T_two (by rfl) (by rfl) (by rfl) (by rfl) (fun _ _ _ _ h => h) (fun K hK => ?_); go_big_quiet_op; refine ⟨_, fun _ _ => rfl, ?_⟩; refine hK _ ?_; clear hK K; try simp only [Act.put, List.setIfInBounds_toArray, List.set_cons_zero, List.set_cons_succ]) | fail)
    (refine T_str Try.underlying23 Try.underlying5 Try.underlying9 (Rd.drew hr2) (fun _ _ hn => hn) (by rfl) (by rfl) (fun _ _ _ _ h => h) rfl (by rfl) rfl ?_; try simp only [Act.put, List.setIfInBounds_toArray, List.set_cons_zero, List.set_cons_succ])
    (first | (refine T_skip (by rfl) (by rfl) (fun _ _ _ h => h) ?_; try simp only [Act.put, List.setIfInBounds_toArray, List.set_cons_zero, List.set_cons_succ]) | (refine T_pass (by rfl) (by rfl) ?_; try simp only [Act.put, List.setIfInBounds_toArray, List.set_cons_zero, List.set_cons_succ]) | (refine T_load (by assumption) (by rfl) (by rfl) (fun _ _ _ _ h => h) rfl rfl (by assumption) (by first | exact (fun hn => hn) | assumption) ?_; try simp only [Act.put, List.setIfInBounds_toArray, List.set_cons_zero, List.set_cons_succ]) | (refine T_nil (by rfl) (by rfl) (fun _ _ _ _ h => h) rfl rfl ?_; try simp only [Act.put, List.setIfInBounds_toArray, List.set_cons_zero, List.set_cons_succ]) | (refine T_quietN (by rfl) (by rfl) (by rfl) (by rfl) (fun _ _ _ _ h => h) (fun K hK => ?_); go_big_quiet_op; refine hK _ ?_; clear hK K) | (refine T_two (by rfl) (by rfl) (by rfl) (by rfl) (fun _ _ _ _ h => h) (fun K hK => ?_); go_big_quiet_op; refine ⟨_, fun _ _ => rfl, ?_⟩; refine hK _ ?_; clear hK K; try simp only [Act.put, List.setIfInBounds_toArray, List.set_cons_zero, List.set_cons_succ]) | fail)
    (refine T_str Try.underlying23 Try.underlying5 Try.underlying9 (Rd.drew hr4) (fun _ _ hn => hn) (by rfl) (by rfl) (fun _ _ _ _ h => h) rfl (by rfl) rfl ?_; try simp only [Act.put, List.setIfInBounds_toArray, List.set_cons_zero, List.set_cons_succ])
    refine T_cmpStr HQ.out (by rfl) (by rfl) (fun _ _ _ _ h => h) rfl rfl rfl ?_
    try simp only [Act.put, List.setIfInBounds_toArray, List.set_cons_zero, List.set_cons_succ]
    repeat (first | (refine T_skip (by rfl) (by rfl) (fun _ _ _ h => h) ?_; try simp only [Act.put, List.setIfInBounds_toArray, List.set_cons_zero, List.set_cons_succ]) | (refine T_pass (by rfl) (by rfl) ?_; try simp only [Act.put, List.setIfInBounds_toArray, List.set_cons_zero, List.set_cons_succ]) | (refine T_load (by assumption) (by rfl) (by rfl) (fun _ _ _ _ h => h) rfl rfl (by assumption) (by first | exact (fun hn => hn) | assumption) ?_; try simp only [Act.put, List.setIfInBounds_toArray, List.set_cons_zero, List.set_cons_succ]) | (refine T_nil (by rfl) (by rfl) (fun _ _ _ _ h => h) rfl rfl ?_; try simp only [Act.put, List.setIfInBounds_toArray, List.set_cons_zero, List.set_cons_succ]) | (refine T_quietN (by rfl) (by rfl) (by rfl) (by rfl) (fun _ _ _ _ h => h) (fun K hK => ?_); go_big_quiet_op; refine hK _ ?_; clear hK K) | (refine T_two (by rfl) (by rfl) (by rfl) (by rfl) (fun _ _ _ _ h => h) (fun K hK => ?_); go_big_quiet_op; refine ⟨_, fun _ _ => rfl, ?_⟩; refine hK _ ?_; clear hK K; try simp only [Act.put, List.setIfInBounds_toArray, List.set_cons_zero, List.set_cons_succ]) | fail)
    refine T_loadA (cs := [.int .i64 o.cls, .slice A0 o.slots.length c0, .slice D0 o.bytes.length d0]) ag_obj (by rfl) (by rfl) (fun _ _ _ _ h => h) rfl rfl rfl hx4.all (fun hn => hn) ?_
    try simp only [Act.put, List.setIfInBounds_toArray, List.set_cons_zero, List.set_cons_succ]
    repeat (first | (refine T_skip (by rfl) (by rfl) (fun _ _ _ h => h) ?_; try simp only [Act.put, List.setIfInBounds_toArray, List.set_cons_zero, List.set_cons_succ]) | (refine T_pass (by rfl) (by rfl) ?_; try simp only [Act.put, List.setIfInBounds_toArray, List.set_cons_zero, List.set_cons_succ]) | (refine T_load (by assumption) (by rfl) (by rfl) (fun _ _ _ _ h => h) rfl rfl (by assumption) (by first | exact (fun hn => hn) | assumption) ?_; try simp only [Act.put, List.setIfInBounds_toArray, List.set_cons_zero, List.set_cons_succ]) | (refine T_nil (by rfl) (by rfl) (fun _ _ _ _ h => h) rfl rfl ?_; try simp only [Act.put, List.setIfInBounds_toArray, List.set_cons_zero, List.set_cons_succ]) | (refine T_quietN (by rfl) (by rfl) (by rfl) (by rfl) (fun _ _ _ _ h => h) (fun K hK => ?_); go_big_quiet_op; refine hK _ ?_; clear hK K) | (refine T_two (by rfl) (by rfl) (by rfl) (by rfl) (fun _ _ _ _ h => h) (fun K hK => ?_); go_big_quiet_op; refine ⟨_, fun _ _ => rfl, ?_⟩; refine hK _ ?_; clear hK K; try simp only [Act.put, List.setIfInBounds_toArray, List.set_cons_zero, List.set_cons_succ]) | fail)
    refine T_loadA (cs := [.int .i64 p.cls, .slice A1 p.slots.length c1, .slice D1 p.bytes.length d1]) ag_obj (by rfl) (by rfl) (fun _ _ _ _ h => h) rfl rfl rfl hy4.all (fun hn => hn) ?_
    try simp only [Act.put, List.setIfInBounds_toArray, List.set_cons_zero, List.set_cons_succ]
    repeat (first | (refine T_skip (by rfl) (by rfl) (fun _ _ _ h => h) ?_; try simp only [Act.put, List.setIfInBounds_toArray, List.set_cons_zero, List.set_cons_succ]) | (refine T_pass (by rfl) (by rfl) ?_; try simp only [Act.put, List.setIfInBounds_toArray, List.set_cons_zero, List.set_cons_succ]) | (refine T_load (by assumption) (by rfl) (by rfl) (fun _ _ _ _ h => h) rfl rfl (by assumption) (by first | exact (fun hn => hn) | assumption) ?_; try simp only [Act.put, List.setIfInBounds_toArray, List.set_cons_zero, List.set_cons_succ]) | (refine T_nil (by rfl) (by rfl) (fun _ _ _ _ h => h) rfl rfl ?_; try simp only [Act.put, List.setIfInBounds_toArray, List.set_cons_zero, List.set_cons_succ]) | (refine T_quietN (by rfl) (by rfl) (by rfl) (by rfl) (fun _ _ _ _ h => h) (fun K hK => ?_); go_big_quiet_op; refine hK _ ?_; clear hK K) | (refine T_two (by rfl) (by rfl) (by rfl) (by rfl) (fun _ _ _ _ h => h) (fun K hK => ?_); go_big_quiet_op; refine ⟨_, fun _ _ => rfl, ?_⟩; refine hK _ ?_; clear hK K; try simp only [Act.put, List.setIfInBounds_toArray, List.set_cons_zero, List.set_cons_succ]) | fail)
    (refine T_call (by rfl) (by rfl) (fun K hK => ?_); go_wp2_with fail)
    refine (refsame_calls _ _ _ _ o p _ (h.fr0 (hF4.tr (Fr.refl No w4).drew)) (h'.fr0 (hF4.tr (Fr.refl No w4).drew))).mono ?_
    rw [HSM.out]
    rintro e w5 ⟨rfl, hf5⟩
    (refine hK.out _ _ (hf5) ?_; clear hK K; try simp only [Act.put, List.setIfInBounds_toArray, List.set_cons_zero, List.set_cons_succ])
    repeat (first | (refine T_skip (by rfl) (by rfl) (fun _ _ _ h => h) ?_; try simp only [Act.put, List.setIfInBounds_toArray, List.set_cons_zero, List.set_cons_succ]) | (refine T_pass (by rfl) (by rfl) ?_; try simp only [Act.put, List.setIfInBounds_toArray, List.set_cons_zero, List.set_cons_succ]) | (refine T_load (by assumption) (by rfl) (by rfl) (fun _ _ _ _ h => h) rfl rfl (by assumption) (by first | exact (fun hn => hn) | assumption) ?_; try simp only [Act.put, List.setIfInBounds_toArray, List.set_cons_zero, List.set_cons_succ]) | (refine T_nil (by rfl) (by rfl) (fun _ _ _ _ h => h) rfl rfl ?_; try simp only [Act.put, List.setIfInBounds_toArray, List.set_cons_zero, List.set_cons_succ]) | (refine T_quietN (by rfl) (by rfl) (by rfl) (by rfl) (fun _ _ _ _ h => h) (fun K hK => ?_); go_big_quiet_op; refine hK _ ?_; clear hK K) | (refine T_two (by rfl) (by rfl) (by rfl) (by rfl) (fun _ _ _ _ h => h) (fun K hK => ?_); go_big_quiet_op; refine ⟨_, fun _ _ => rfl, ?_⟩; refine hK _ ?_; clear hK K; try simp only [Act.put, List.setIfInBounds_toArray, List.set_cons_zero, List.set_cons_succ]) | fail)
    (refine T_call (by rfl) (by rfl) (fun K hK => ?_); go_wp2_with fail)
    refine (known_calls _).mono ?_
    rintro e w6 ⟨rfl, hf6⟩
    (refine hK.out _ _ (hf6) ?_; clear hK K; try simp only [Act.put, List.setIfInBounds_toArray, List.set_cons_zero, List.set_cons_succ])
    repeat (first | (refine T_skip (by rfl) (by rfl) (fun _ _ _ h => h) ?_; try simp only [Act.put, List.setIfInBounds_toArray, List.set_cons_zero, List.set_cons_succ]) | (refine T_pass (by rfl) (by rfl) ?_; try simp only [Act.put, List.setIfInBounds_toArray, List.set_cons_zero, List.set_cons_succ]) | (refine T_load (by assumption) (by rfl) (by rfl) (fun _ _ _ _ h => h) rfl rfl (by assumption) (by first | exact (fun hn => hn) | assumption) ?_; try simp only [Act.put, List.setIfInBounds_toArray, List.set_cons_zero, List.set_cons_succ]) | (refine T_nil (by rfl) (by rfl) (fun _ _ _ _ h => h) rfl rfl ?_; try simp only [Act.put, List.setIfInBounds_toArray, List.set_cons_zero, List.set_cons_succ]) | (refine T_quietN (by rfl) (by rfl) (by rfl) (by rfl) (fun _ _ _ _ h => h) (fun K hK => ?_); go_big_quiet_op; refine hK _ ?_; clear hK K) | (refine T_two (by rfl) (by rfl) (by rfl) (by rfl) (fun _ _ _ _ h => h) (fun K hK => ?_); go_big_quiet_op; refine ⟨_, fun _ _ => rfl, ?_⟩; refine hK _ ?_; clear hK K; try simp only [Act.put, List.setIfInBounds_toArray, List.set_cons_zero, List.set_cons_succ]) | fail)
    refine T_done ?_
    go_wp2
    go_ret
    exact ⟨rfl, hF4.tr ((Fr.refl No w4).drew.tr (hf5.tr hf6))⟩
  · subst h1
    clear HC
    go_wp2_with fail
    refine (known_calls _).mono ?_
    rintro e w6 ⟨rfl, hf6⟩
    go_wp2
    go_ret
    exact ⟨rfl, hF4.tr hf6⟩
  · subst h1 h2
    clear HC
    go_wp2_with fail
    refine (known_calls _).mono ?_
    rintro e w6 ⟨rfl, hf6⟩
    go_wp2
    go_ret
    exact ⟨rfl, hF4.tr hf6⟩
end Go.Proofs.Ytfgkioigbnlkkaa
