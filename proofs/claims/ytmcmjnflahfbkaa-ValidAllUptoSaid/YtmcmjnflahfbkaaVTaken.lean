/- The law's taken. No condition but room. -/
import Derived.Test.YtmcmjnflahfbkaaVSame
import Derived.Test.YtmcmjnflahfbkaaVMore
namespace Go.Proofs.Ytmcmjnflahfbkaa
set_option linter.unusedVariables false
set_option linter.unusedSimpArgs false
open Go.RowKit Go.Maps

section
variable {P : Program} {t e : TypeId} {z : Value} {size bytes : Nat}
theorem wp_app {w : World} {o : Oper} {a : Act} {K : Act → World → Prop} {Q : Exit → Act → World → Prop} (he : SliceOf P t e z size bytes)
    {base : Nat} {v : Value} {n : Nat} {xs : List Value} (hown : w.ownsRow base e size v n xs)
    {S : Nat → Prop} {A : Option Addr} {m c : Nat} {news : List Value} (hr : Rd w S size A m news) (h1 : ∀ u ∈ news, u.oneCell' = true)
    (hbytes : (n + m) * bytes ≤ 211106232532992) (hbase : base ≤ w.heap.size)
    {s x : Operand} (ho : o.op = .call { callee := .builtin .append, args := #[s, x], argTypes := #[t, t] })
    (hs : a.eval s = v) (hx : a.eval x = .slice A m c)
    (h : ∀ v' w', w'.ownsRow base e size v' (n + m) (xs ++ news) → w.grownBy w' v.ownBlock → K (a.put o.dst v') w') : o.wp P a w K Q := by
  obtain ⟨v', w', hrun, h2, h3, h4⟩ := run_app (P := P) w he o.type base v n xs hown S A m c news hr h1 hbytes hbase
  unfold Oper.wp execOp
  simp only [ho, resolve, invoke, builtin, Sem.run_bind, Sem.run_pure, Result.andThen_ok, List.map_toArray, List.map_cons, List.map_nil, hs, hx, hrun]
  exact h v' w' h2 h3
theorem wp_app_at {w : World} {o : Oper} {a : Act} {K : Act → World → Prop} {Q : Exit → Act → World → Prop} (he : SliceOf P t e z size bytes)
    {base : Nat} {v : Value} {n : Nat} {xs : List Value} (hown : w.ownsRow base e size v n xs)
    {S : Nat → Prop} {A : Option Addr} {m c : Nat} {news : List Value} (hr : Rd w S size A m news) (h1 : ∀ u ∈ news, u.oneCell' = true)
    (hbytes : (n + m) * bytes ≤ 140737488355328) (hbase : base ≤ w.heap.size)
    {s x : Operand} (ho : o.op = .call { callee := .builtin .append, args := #[s, x], argTypes := #[t, t] })
    (hs : a.eval s = v) (hx : a.eval x = .slice A m c)
    (h : ∀ v' w', w'.ownsRow base e size v' (n + m) (xs ++ news) → w.grownBy w' v.ownBlock → (v'.ownBlock = v.ownBlock ∨ v'.ownBlock = some w.heap.size) → K (a.put o.dst v') w') : o.wp P a w K Q := by
  obtain ⟨v', w', hrun, h2, h3, h4⟩ := run_app_at (P := P) w he o.type base v n xs hown S A m c news hr h1 hbytes hbase
  unfold Oper.wp execOp
  simp only [ho, resolve, invoke, builtin, Sem.run_bind, Sem.run_pure, Result.andThen_ok, List.map_toArray, List.map_cons, List.map_nil, hs, hx, hrun]
  exact h v' w' h2 h3 h4
end
theorem Fr.drewL {S : Nat → Prop} {w w' : World} (h : Fr S w w') : Fr S w.drew w' := ⟨h.os, h.tape, h.output, h.size, h.block⟩
set_option maxHeartbeats 2000000 in
theorem taken_calls (S : Nat → Prop) (A : Option Addr) (c : Nat) (ts : List Txn) (w : World) (h : RdT w S A ts) (hS : ∀ b, S b → b < w.heap.size) (hb : ts.length * 64 ≤ 211106232532992) :
    Calls Try.prog 18 #[.slice A ts.length c] w fun e w' => ∃ A' c', e = .returned (.slice A' ts.length c') ∧ RdT w' (fun _ => True) A' ts ∧ Fr No w w' := by
  have hle := h.le
  have g1 := plain_i64
  have g2 := plain_li64
  go_enter Try.func18, Try.ntmps18
  go_wp2
  go_loopw [3, 4] (fun o i wr => ∃ (k : Nat) (xs : List Value), k ≤ ts.length ∧ i = .int .i64 k ∧ wr.ownsRow w.heap.size 25 4 o k xs ∧ TxnsC wr S xs (ts.take k) ∧ Fr No w wr) (fun _ i _ => ts.length - (intOf i).toNat)
  case atStart => exact ⟨0, [], by omega, rfl, World.ownsRow_nil _ _ _ _, rfl, Fr.refl _ _⟩
  case round =>
    obtain ⟨k, xs, hk, rfl, hown, hx, hf⟩ := hrel
    by_cases hlt : k < ts.length
    · obtain ⟨g, of, Ar, cr, Aw, cw, rfl, hSg, p0, p1, p2, p3, hr, hw⟩ := (h.fr0 hf).at_ hlt
      have htk : ts.take (k + 1) = ts.take k ++ [ts[k]] := by rw [List.take_add_one, List.getElem?_eq_getElem hlt]; rfl
      have HT := Lib.hid htk
      clear htk
      generalize ts[k] = d at *
      obtain ⟨A0, c0, rfl, hc0, _, hA0⟩ := own_form hown
      have ek : decide ((k : Int) < ts.length) = true := by simpa using (by omega : (k : Int) < ts.length)
      have hng : ¬ (w.heap.size ≤ g) := by have := hS g hSg; omega
      have hsw := hf.size
      have HSw := Lib.hid (fun b (hb : S b) => hS b hb)
      go_wp2_with fail
      (refine T_begin (fun b => w.heap.size ≤ b) [0, 1, 2, 3, 4, 5, 6, 7, 8, 9, 10, 11, 12, 13, 14, 15, 16, 17, 18, 19, 20, 21, 22, 23, 24] [22, 23] (by kernel_rfl) (by kernel_rfl) ?_; simp only [pickOps, List.filterMap_cons, List.filterMap_nil, List.getElem?_cons_zero, List.getElem?_cons_succ, Act.put])
      repeat (first | (refine T_skip (by rfl) (by rfl) (fun _ _ _ h => h) ?_; try simp only [Act.put, List.setIfInBounds_toArray, List.set_cons_zero, List.set_cons_succ]) | (refine T_pass (by rfl) (by rfl) ?_; try simp only [Act.put, List.setIfInBounds_toArray, List.set_cons_zero, List.set_cons_succ]) | (refine T_load (by assumption) (by rfl) (by rfl) (fun _ _ _ _ h => h) rfl rfl (by assumption) (by first | exact (fun hn => hn) | assumption) ?_; try simp only [Act.put, List.setIfInBounds_toArray, List.set_cons_zero, List.set_cons_succ]) | (refine T_nil (by rfl) (by rfl) (fun _ _ _ _ h => h) rfl rfl ?_; try simp only [Act.put, List.setIfInBounds_toArray, List.set_cons_zero, List.set_cons_succ]) | (refine T_quiet (by rfl) (by rfl) (by rfl) (fun _ _ _ _ h => h) (fun K hK => ?_); go_big_quiet_op; refine hK _ ?_; clear hK K) | (refine T_two (by rfl) (by rfl) (by rfl) (by rfl) (fun _ _ _ _ h => h) (fun K hK => ?_); go_big_quiet_op; refine ⟨_, fun _ _ => rfl, ?_⟩; refine hK _ ?_; clear hK K; try simp only [Act.put, List.setIfInBounds_toArray, List.set_cons_zero, List.set_cons_succ]) | fail)
      (refine T_call (by rfl) (by rfl) (fun K hK => ?_); go_wp2_with fail)
      (refine hK.out _ _ (((Fr.refl _ wr).alloc _).drew.drewL) ?_; clear hK K; try simp only [Act.put, List.setIfInBounds_toArray, List.set_cons_zero, List.set_cons_succ])
      refine T_call (by rfl) (by rfl) (fun K hK => ?_)
      refine wp_app so_rtxn (own_fr0 hown ((Fr.refl No wr).alloc (.cells #[.int .i64 d.base, .int .i64 d.commit, .slice Ar d.reads.length cr, .slice Aw d.writes.length cw] 25)).drew) (Rd.drew ((Blk.new wr _ _).rd (size := 4) (n := 1) (by rfl) (by decide))) (by intro u hu; simp at hu; rcases hu with rfl | rfl | rfl | rfl <;> rfl) (by omega) (by show w.heap.size ≤ (wr.alloc _).heap.size; simp; omega) rfl rfl rfl ?_
      intro v3 w3 hown3 hg3
      have hfT : Fr (fun b => w.heap.size ≤ b) wr w3 := (((Fr.refl _ wr).alloc _).drew).grown hg3 (fun q hq => .inr (hown.lt q hq).1)
      refine hK.out _ _ ((((Fr.refl _ _).drew).drewL.grown hg3 (fun q hq => .inr (hown.lt q hq).1))) ?_
      clear hK K
      simp only [Act.put, List.setIfInBounds_toArray, List.set_cons_zero, List.set_cons_succ]
      repeat (first | (refine T_skip (by rfl) (by rfl) (fun _ _ _ h => h) ?_; try simp only [Act.put, List.setIfInBounds_toArray, List.set_cons_zero, List.set_cons_succ]) | (refine T_pass (by rfl) (by rfl) ?_; try simp only [Act.put, List.setIfInBounds_toArray, List.set_cons_zero, List.set_cons_succ]) | (refine T_load (by assumption) (by rfl) (by rfl) (fun _ _ _ _ h => h) rfl rfl (by assumption) (by first | exact (fun hn => hn) | assumption) ?_; try simp only [Act.put, List.setIfInBounds_toArray, List.set_cons_zero, List.set_cons_succ]) | (refine T_nil (by rfl) (by rfl) (fun _ _ _ _ h => h) rfl rfl ?_; try simp only [Act.put, List.setIfInBounds_toArray, List.set_cons_zero, List.set_cons_succ]) | (refine T_quiet (by rfl) (by rfl) (by rfl) (fun _ _ _ _ h => h) (fun K hK => ?_); go_big_quiet_op; refine hK _ ?_; clear hK K) | (refine T_two (by rfl) (by rfl) (by rfl) (by rfl) (fun _ _ _ _ h => h) (fun K hK => ?_); go_big_quiet_op; refine ⟨_, fun _ _ => rfl, ?_⟩; refine hK _ ?_; clear hK K; try simp only [Act.put, List.setIfInBounds_toArray, List.set_cons_zero, List.set_cons_succ]) | fail)
      refine T_done ?_
      go_wp2
      go_roundw
      case rel =>
        refine ⟨k + 1, _, by omega, by go_num, hown3, ?_, hf.trans hfT (fun b hb hT => by omega)⟩
        rw [HT.out]
        exact TxnsC.snoc (TxnsC.keep hfT (fun b hb hT => by have := HSw.out b hb; omega) hx) ⟨Ar, cr, Aw, cw, rfl, Rd.fr hr hfT (fun b hb hT => by have := HSw.out b hb; omega), Rd.fr hw hfT (fun b hb hT => by have := HSw.out b hb; omega)⟩
      case measure => simp [intOf]; omega
    · obtain rfl : k = ts.length := by omega
      rw [List.take_length] at hx
      obtain ⟨A0, c0, rfl, hc0, _, hA0⟩ := own_form hown
      have ek : decide ((ts.length : Int) < ts.length) = false := by simp
      go_wp2
      go_ret
      exact ⟨_, _, rfl, ⟨xs, (own_rd hown (by omega)).mono (fun _ _ _ => trivial) (by decide), hx.mono (fun _ _ _ => trivial)⟩, hf⟩
end Go.Proofs.Ytmcmjnflahfbkaa
