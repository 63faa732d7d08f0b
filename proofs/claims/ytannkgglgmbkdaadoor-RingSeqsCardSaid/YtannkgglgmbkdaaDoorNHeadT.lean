/- ring.headOf in full. No condition. -/
import Derived.Test.YtannkgglgmbkdaaDoorNHeadOf
namespace Go.Proofs.YtannkgglgmbkdaaDoor
set_option linter.unusedVariables false
set_option linter.unusedSimpArgs false
open Go.RowKit

/-- A sector as a head. -/
def subB (s : Sec) (o n : Nat) : List UInt8 := (s.drop o).take n
def getH (s : Sec) : HeadM := ⟨getN (subB s 8 6), ((s.getD 14 0).toNat : Int), getN (subB s 15 6), getN (subB s 21 6)⟩
def headOk (s : Sec) : Bool := goodB (getH s).life && goodB (getH s).first && goodB (getH s).since && decide ((getH s).half ≤ 1) && (headB (getH s) == s)
def headV (h : HeadM) : Value := .agg #[.int .i64 h.life, .int .i64 h.half, .int .i64 h.first, .int .i64 h.since]
theorem get_at (w : World) (g : Nat) (t : TypeId) (s : List UInt8) (o n c : Nat) (hb : Blk w g t (U8 s).toArray) (ho : o + n ≤ s.length) (hn : n ≤ 7) :
    Calls Tryd.prog 48 #[.slice (some ⟨g, o, none⟩) n c] w fun e w' => e = .returned (.int .i64 (getN (subB s o n))) ∧ w' = w := by
  have hl : (subB s o n).length = n := by unfold subB; rw [List.length_take, List.length_drop]; omega
  have hrd : RdB w (fun b => b = g) (some ⟨g, o, none⟩) (subB s o n) := by
    refine ⟨by rw [U8_length]; omega, by omega, fun _ => ⟨_, rfl, rfl, hb.cells o _ (fun j u hu => ?_)⟩⟩
    rw [subB, U8_take, U8_drop, List.getElem?_take] at hu
    split at hu
    · rw [List.getElem?_drop] at hu
      simpa using hu
    · cases hu
  have := get_calls _ _ c _ w hrd (by omega)
  rw [hl] at this
  exact this
theorem ag_head : AggOf Tryd.prog 63 4 := ⟨⟨_, Tryd.underlying63, rfl⟩, by kernel_rfl⟩
set_option maxRecDepth 100000 in
theorem run_eq_sec4 (w : World) (xs ys : Sec) (hx : xs.length = 128) (hy : ys.length = 128) : (binOp .eql tSec (.agg (U8 xs).toArray) (.agg (U8 ys).toArray)).run Tryd.prog w = .ok (.bool (xs == ys)) w := by
  have h := run_equalIn_bytes (P := Tryd.prog) w 9998 tSec 5 128 Tryd.underlying61 Tryd.underlying5 (fun w => by unfold sizeOf typeInfo; rfl) xs ys hx hy
  rw [run_eql_struct]
  unfold U8
  have e : (fun b : UInt8 => Value.int .u8 (b.toNat : Int)) = Extern.Stop.cell := rfl
  rw [e, h]
  rfl
theorem T_u8i {S : Nat → Prop} {ops : Array Oper} {Q : Exit → Go.Act → World → Prop} {ms : List Nat} {ord calls : List Nat} {k : Nat} {l : List Oper} {o : Oper} {a : Go.Act} {w : World} {n : Int} (h0 : 0 ≤ n) (h1 : n ≤ 255)
    (hc : calls.contains (ord.getD k 0) = false) (hw : Region.wanted o (yielded ops a.tmps) = true) (hQ : ∀ v c a w, Q (.panic c) (a.put o.dst v) w → Q (.panic c) a w)
    {x : Operand} (ho : o.op = .convert 5 3 x) (hx : a.eval x = .int .u8 n)
    (h : wpT Tryd.prog S ops Q ms ord calls (k + 1) l (a.put o.dst (.int .i64 n)) w) (hxm : calls.contains (ord.getD k 0 + 1000) = false := by rfl) : wpT Tryd.prog S ops Q ms ord calls k (o :: l) a w := by
  refine T_take hc hw (hQ _) (fun w' hf => ?_) h hxm
  have hwr : IntKind.i64.wrap n = n := by rw [IntKind.wrap_i64]; omega
  unfold execOp
  simp [ho, hx, convert, run_underlying Tryd.underlying5, run_underlying Tryd.underlying3, Conv.intToInt, hwr]
theorem eg_sec4 : Tryd.prog.eqGuardType Tryd.prog.depth tSec = false := by kernel_rfl
theorem T_eqSec4 {S : Nat → Prop} {ops : Array Oper} {Q : Exit → Act → World → Prop} {ms : List Nat} {ord calls : List Nat} {k : Nat} {l : List Oper} {o : Oper} {a : Act} {w : World} {xs ys : Sec} (hlx : xs.length = 128) (hly : ys.length = 128) {x y : Operand} {ty : TypeId}
    (hc : calls.contains (ord.getD k 0) = false) (hw : Region.wanted o (yielded ops a.tmps) = true) (hQ : ∀ v c a w, Q (.panic c) (a.put o.dst v) w → Q (.panic c) a w)
    (ho : o.op = .binOp .eql tSec x y ty) (hx : a.eval x = .agg (U8 xs).toArray) (hy : a.eval y = .agg (U8 ys).toArray)
    (h : wpT Tryd.prog S ops Q ms ord calls (k + 1) l (a.put o.dst (.bool (xs == ys))) w) (hxm : calls.contains (ord.getD k 0 + 1000) = false := by rfl) : wpT Tryd.prog S ops Q ms ord calls k (o :: l) a w := by
  refine T_take hc hw (hQ _) (fun w' hf => ?_) h hxm
  unfold execOp
  simp only [ho, hx, hy, Sem.run_bind, run_eqGuard_agg w' .eql tSec x y (U8 xs).toArray (U8 ys).toArray eg_sec4, Result.andThen_ok, run_eq_sec4 w' xs ys hlx hly, Sem.run_pure]
set_option maxHeartbeats 8000000 in
set_option maxRecDepth 100000 in
theorem headOf_calls (w : World) (s : Sec) (hs : s.length = 128) :
    Calls Tryd.prog 47 #[.agg (U8 s).toArray] w fun e w' => e = .returned (.tuple #[headV (getH s), .bool (headOk s)]) ∧ Fr No w w' := by
  have g1 : ∀ w, (isAgg 2).run Tryd.prog w = .ok false w := plain_of Tryd.underlying2 rfl
  have g2 := plain_int
  have g3 : ∀ w, (isAgg 5).run Tryd.prog w = .ok false w := plain_of Tryd.underlying5 rfl
  have hg8 : ∀ (w : World) (g : Nat), Blk w g tSec (U8 s).toArray → Calls Tryd.prog 48 #[.slice (some ⟨g, 8, none⟩) 6 120] w fun e w' => e = .returned (.int .i64 (getH s).life) ∧ w' = w := fun w g hb => get_at w g _ s 8 6 120 hb (by omega) (by decide)
  have hg15 : ∀ (w : World) (g : Nat), Blk w g tSec (U8 s).toArray → Calls Tryd.prog 48 #[.slice (some ⟨g, 15, none⟩) 6 113] w fun e w' => e = .returned (.int .i64 (getH s).first) ∧ w' = w := fun w g hb => get_at w g _ s 15 6 113 hb (by omega) (by decide)
  have hg21 : ∀ (w : World) (g : Nat), Blk w g tSec (U8 s).toArray → Calls Tryd.prog 48 #[.slice (some ⟨g, 21, none⟩) 6 107] w fun e w' => e = .returned (.int .i64 (getH s).since) ∧ w' = w := fun w g hb => get_at w g _ s 21 6 107 hb (by omega) (by decide)
  have hc14 : ∀ (w : World) (g : Nat), Blk w g tSec (U8 s).toArray → w.cell? ⟨g, 14, none⟩ = some (.int .u8 (getH s).half) := fun w g hb => by
    rw [hb.cell, List.getElem?_toArray, U8_get s 14 (by omega)]
    show _ = some (Value.int .u8 ((s.getD 14 0).toNat : Int))
    rw [List.getD_eq_getElem?_getD, List.getElem?_eq_getElem (by omega)]
    rfl
  have hhd : ∀ w, Calls Tryd.prog 29 #[headV (getH s)] w fun e w' => e = .returned (.agg (U8 (headB (getH s))).toArray) ∧ Fr No w w' := fun w => head_calls w (getH s)
  have hhr : 0 ≤ (getH s).half ∧ (getH s).half ≤ 255 := by
    show 0 ≤ ((s.getD 14 0).toNat : Int) ∧ ((s.getD 14 0).toNat : Int) ≤ 255
    have := (s.getD 14 0).toNat_lt
    omega
  have HOK : headOk s = (goodB (getH s).life && goodB (getH s).first && goodB (getH s).since && decide ((getH s).half ≤ 1) && (headB (getH s) == s)) := rfl
  have hlb := headB_len (getH s)
  rw [HOK]
  clear HOK
  unfold headV at hhd ⊢
  have hls : (U8 s).length = 128 := by rw [U8_length]; exact hs
  generalize headB (getH s) = hB at *
  generalize (getH s).life = life at *
  generalize (getH s).half = half at *
  generalize (getH s).first = first at *
  generalize (getH s).since = since at *
  go_enter Tryd.func47, Tryd.ntmps47
  go_upto_region 1 with (first
    | (refine wpList_allocA zero_sec rfl rfl ?_)
    | fail)
  have hbs1 : Blk ((w.alloc (.cells (U8 s).toArray tSec)).alloc (.cells #[.int .i64 0, .int .i64 0, .int .i64 0, .int .i64 0] 63)) w.heap.size tSec (U8 s).toArray := (Blk.new w _ _).alloc _
  have hbr1 : Blk ((w.alloc (.cells (U8 s).toArray tSec)).alloc (.cells #[.int .i64 0, .int .i64 0, .int .i64 0, .int .i64 0] 63)) (w.heap.size + 1) 63 #[.int .i64 0, .int .i64 0, .int .i64 0, .int .i64 0] := Blk.newAt (by simp)
  have hf1 : Fr No w ((w.alloc (.cells (U8 s).toArray tSec)).alloc (.cells #[.int .i64 0, .int .i64 0, .int .i64 0, .int .i64 0] 63)) := ((Fr.refl No w).alloc _).alloc _
  have hz1 : ((w.alloc (.cells (U8 s).toArray tSec)).alloc (.cells #[.int .i64 0, .int .i64 0, .int .i64 0, .int .i64 0] 63)).heap.size = w.heap.size + 2 := by simp
  have e1 : (w.alloc (.cells (U8 s).toArray tSec)).heap.size = w.heap.size + 1 := by simp
  try simp only [Act.put, List.setIfInBounds_toArray, List.set_cons_zero, List.set_cons_succ]
  try rw [e1]
  clear e1
  generalize hwg : (w.alloc (.cells (U8 s).toArray tSec)).alloc (.cells #[.int .i64 0, .int .i64 0, .int .i64 0, .int .i64 0] 63) = wm at *
  clear hwg
  go_cut [4] (fun s4 wx => ∃ b4, s4 = .pointer (some ⟨b4, 0, none⟩) ∧ w.heap.size + 2 ≤ b4 ∧ Blk wx b4 63 #[.int .i64 life, .int .i64 half, .int .i64 first, .int .i64 since] ∧ Fr No wm wx)
  case first =>
    refine T_begin2 No [11] [0, 2, 3, 4, 5, 7, 1, 6, 8, 9, 10, 11] [1, 6, 8, 10, 11, 1001, 1006, 1008] (by kernel_rfl) (by kernel_rfl) ?_
    simp only [pickOps, List.filterMap_cons, List.filterMap_nil, List.getElem?_cons_zero, List.getElem?_cons_succ, Act.put]
    obtain ⟨w2, hw2⟩ : ∃ w2, w2 = wm.drew := ⟨_, rfl⟩
    have hz2 : w2.heap.size = wm.heap.size := by rw [hw2]; rfl
    have hbs2 := hbs1.drew
    rw [← hw2] at hbs2 ⊢
    have hc14b := hc14 _ _ hbs2
    have hfw : Fr No wm w2 := by rw [hw2]; exact (Fr.refl No wm).drew
    have hz9 : w.heap.size + 2 ≤ w2.heap.size := by rw [hz2, hz1]; exact Nat.le_refl _
    clear hw2 hz2 hz1
    (first | (refine T_skip (by rfl) (by rfl) (fun _ _ _ h => h) ?_; try simp only [Act.put, List.setIfInBounds_toArray, List.set_cons_zero, List.set_cons_succ]) | (refine T_pass (by rfl) (by rfl) ?_; try simp only [Act.put, List.setIfInBounds_toArray, List.set_cons_zero, List.set_cons_succ]) | (refine T_load (by assumption) (by rfl) (by rfl) (fun _ _ _ _ h => h) rfl rfl (by assumption) (by first | exact (fun hn => hn) | assumption) ?_; try simp only [Act.put, List.setIfInBounds_toArray, List.set_cons_zero, List.set_cons_succ]) | (refine T_nil (by rfl) (by rfl) (fun _ _ _ _ h => h) rfl rfl ?_; try simp only [Act.put, List.setIfInBounds_toArray, List.set_cons_zero, List.set_cons_succ]) | (refine T_quietN (by rfl) (by rfl) (by rfl) (by rfl) (fun _ _ _ _ h => h) (fun K hK => ?_); go_big_quiet_op; refine hK _ ?_; clear hK K) | (refine T_two (by rfl) (by rfl) (by rfl) (by rfl) (fun _ _ _ _ h => h) (fun K hK => ?_); go_big_quiet_op; refine ⟨_, fun _ _ => rfl, ?_⟩; refine hK _ ?_; clear hK K; try simp only [Act.put, List.setIfInBounds_toArray, List.set_cons_zero, List.set_cons_succ]) | fail)
    (first | (refine T_skip (by rfl) (by rfl) (fun _ _ _ h => h) ?_; try simp only [Act.put, List.setIfInBounds_toArray, List.set_cons_zero, List.set_cons_succ]) | (refine T_pass (by rfl) (by rfl) ?_; try simp only [Act.put, List.setIfInBounds_toArray, List.set_cons_zero, List.set_cons_succ]) | (refine T_load (by assumption) (by rfl) (by rfl) (fun _ _ _ _ h => h) rfl rfl (by assumption) (by first | exact (fun hn => hn) | assumption) ?_; try simp only [Act.put, List.setIfInBounds_toArray, List.set_cons_zero, List.set_cons_succ]) | (refine T_nil (by rfl) (by rfl) (fun _ _ _ _ h => h) rfl rfl ?_; try simp only [Act.put, List.setIfInBounds_toArray, List.set_cons_zero, List.set_cons_succ]) | (refine T_quietN (by rfl) (by rfl) (by rfl) (by rfl) (fun _ _ _ _ h => h) (fun K hK => ?_); go_big_quiet_op; refine hK _ ?_; clear hK K) | (refine T_two (by rfl) (by rfl) (by rfl) (by rfl) (fun _ _ _ _ h => h) (fun K hK => ?_); go_big_quiet_op; refine ⟨_, fun _ _ => rfl, ?_⟩; refine hK _ ?_; clear hK K; try simp only [Act.put, List.setIfInBounds_toArray, List.set_cons_zero, List.set_cons_succ]) | fail)
    (first | (refine T_skip (by rfl) (by rfl) (fun _ _ _ h => h) ?_; try simp only [Act.put, List.setIfInBounds_toArray, List.set_cons_zero, List.set_cons_succ]) | (refine T_pass (by rfl) (by rfl) ?_; try simp only [Act.put, List.setIfInBounds_toArray, List.set_cons_zero, List.set_cons_succ]) | (refine T_load (by assumption) (by rfl) (by rfl) (fun _ _ _ _ h => h) rfl rfl (by assumption) (by first | exact (fun hn => hn) | assumption) ?_; try simp only [Act.put, List.setIfInBounds_toArray, List.set_cons_zero, List.set_cons_succ]) | (refine T_nil (by rfl) (by rfl) (fun _ _ _ _ h => h) rfl rfl ?_; try simp only [Act.put, List.setIfInBounds_toArray, List.set_cons_zero, List.set_cons_succ]) | (refine T_quietN (by rfl) (by rfl) (by rfl) (by rfl) (fun _ _ _ _ h => h) (fun K hK => ?_); go_big_quiet_op; refine hK _ ?_; clear hK K) | (refine T_two (by rfl) (by rfl) (by rfl) (by rfl) (fun _ _ _ _ h => h) (fun K hK => ?_); go_big_quiet_op; refine ⟨_, fun _ _ => rfl, ?_⟩; refine hK _ ?_; clear hK K; try simp only [Act.put, List.setIfInBounds_toArray, List.set_cons_zero, List.set_cons_succ]) | fail)
    (refine T_u8i hhr.1 hhr.2 (by rfl) (by rfl) (fun _ _ _ _ h => h) rfl rfl ?_; try simp only [Act.put, List.setIfInBounds_toArray, List.set_cons_zero, List.set_cons_succ])
    (first | (refine T_skip (by rfl) (by rfl) (fun _ _ _ h => h) ?_; try simp only [Act.put, List.setIfInBounds_toArray, List.set_cons_zero, List.set_cons_succ]) | (refine T_pass (by rfl) (by rfl) ?_; try simp only [Act.put, List.setIfInBounds_toArray, List.set_cons_zero, List.set_cons_succ]) | (refine T_load (by assumption) (by rfl) (by rfl) (fun _ _ _ _ h => h) rfl rfl (by assumption) (by first | exact (fun hn => hn) | assumption) ?_; try simp only [Act.put, List.setIfInBounds_toArray, List.set_cons_zero, List.set_cons_succ]) | (refine T_nil (by rfl) (by rfl) (fun _ _ _ _ h => h) rfl rfl ?_; try simp only [Act.put, List.setIfInBounds_toArray, List.set_cons_zero, List.set_cons_succ]) | (refine T_quietN (by rfl) (by rfl) (by rfl) (by rfl) (fun _ _ _ _ h => h) (fun K hK => ?_); go_big_quiet_op; refine hK _ ?_; clear hK K) | (refine T_two (by rfl) (by rfl) (by rfl) (by rfl) (fun _ _ _ _ h => h) (fun K hK => ?_); go_big_quiet_op; refine ⟨_, fun _ _ => rfl, ?_⟩; refine hK _ ?_; clear hK K; try simp only [Act.put, List.setIfInBounds_toArray, List.set_cons_zero, List.set_cons_succ]) | fail)
    (first | (refine T_skip (by rfl) (by rfl) (fun _ _ _ h => h) ?_; try simp only [Act.put, List.setIfInBounds_toArray, List.set_cons_zero, List.set_cons_succ]) | (refine T_pass (by rfl) (by rfl) ?_; try simp only [Act.put, List.setIfInBounds_toArray, List.set_cons_zero, List.set_cons_succ]) | (refine T_load (by assumption) (by rfl) (by rfl) (fun _ _ _ _ h => h) rfl rfl (by assumption) (by first | exact (fun hn => hn) | assumption) ?_; try simp only [Act.put, List.setIfInBounds_toArray, List.set_cons_zero, List.set_cons_succ]) | (refine T_nil (by rfl) (by rfl) (fun _ _ _ _ h => h) rfl rfl ?_; try simp only [Act.put, List.setIfInBounds_toArray, List.set_cons_zero, List.set_cons_succ]) | (refine T_quietN (by rfl) (by rfl) (by rfl) (by rfl) (fun _ _ _ _ h => h) (fun K hK => ?_); go_big_quiet_op; refine hK _ ?_; clear hK K) | (refine T_two (by rfl) (by rfl) (by rfl) (by rfl) (fun _ _ _ _ h => h) (fun K hK => ?_); go_big_quiet_op; refine ⟨_, fun _ _ => rfl, ?_⟩; refine hK _ ?_; clear hK K; try simp only [Act.put, List.setIfInBounds_toArray, List.set_cons_zero, List.set_cons_succ]) | fail)
    refine T_fork (ord2 := [0, 2, 3, 4, 5, 7, 10, 1, 6, 8, 9, 11]) (calls2 := [1, 6, 8, 10, 11, 1010]) (i := 1) (j := 10) (by kernel_rfl) rfl rfl rfl (by kernel_rfl) rfl rfl rfl (by rfl) (by rfl) (fun K hK => ?_) (fun K hK => ?_)
    · go_wp2_with fail
      refine (hg8 _ _ hbs2).mono ?_
      rintro e wx ⟨rfl, hwx⟩
      replace hwx := hwx.symm
      subst hwx
      go_wp2_with fail
      (refine hK.out _ _ ((Fr.refl _ _)) ?_; clear hK K; try simp only [Act.put, List.setIfInBounds_toArray, List.set_cons_zero, List.set_cons_succ])
      refine T_fork (ord2 := [0, 2, 3, 4, 5, 7, 1, 10, 6, 8, 9, 11]) (calls2 := [1, 6, 8, 10, 11, 1001, 1010]) (i := 6) (j := 10) (by kernel_rfl) rfl rfl rfl (by kernel_rfl) rfl rfl rfl (by rfl) (by rfl) (fun K hK => ?_) (fun K hK => ?_)
      · go_wp2_with fail
        refine (hg15 _ _ hbs2).mono ?_
        rintro e wx ⟨rfl, hwx⟩
        replace hwx := hwx.symm
        subst hwx
        go_wp2_with fail
        (refine hK.out _ _ ((Fr.refl _ _)) ?_; clear hK K; try simp only [Act.put, List.setIfInBounds_toArray, List.set_cons_zero, List.set_cons_succ])
        refine T_fork (ord2 := [0, 2, 3, 4, 5, 7, 1, 6, 10, 8, 9, 11]) (calls2 := [1, 6, 8, 10, 11, 1001, 1006, 1010]) (i := 8) (j := 10) (by kernel_rfl) rfl rfl rfl (by kernel_rfl) rfl rfl rfl (by rfl) (by rfl) (fun K hK => ?_) (fun K hK => ?_)
        · go_wp2_with fail
          refine (hg21 _ _ hbs2).mono ?_
          rintro e wx ⟨rfl, hwx⟩
          replace hwx := hwx.symm
          subst hwx
          go_wp2_with fail
          (refine hK.out _ _ ((Fr.refl _ _)) ?_; clear hK K; try simp only [Act.put, List.setIfInBounds_toArray, List.set_cons_zero, List.set_cons_succ])
          (first | (refine T_skip (by rfl) (by rfl) (fun _ _ _ h => h) ?_; try simp only [Act.put, List.setIfInBounds_toArray, List.set_cons_zero, List.set_cons_succ]) | (refine T_pass (by rfl) (by rfl) ?_; try simp only [Act.put, List.setIfInBounds_toArray, List.set_cons_zero, List.set_cons_succ]) | (refine T_load (by assumption) (by rfl) (by rfl) (fun _ _ _ _ h => h) rfl rfl (by assumption) (by first | exact (fun hn => hn) | assumption) ?_; try simp only [Act.put, List.setIfInBounds_toArray, List.set_cons_zero, List.set_cons_succ]) | (refine T_nil (by rfl) (by rfl) (fun _ _ _ _ h => h) rfl rfl ?_; try simp only [Act.put, List.setIfInBounds_toArray, List.set_cons_zero, List.set_cons_succ]) | (refine T_quietN (by rfl) (by rfl) (by rfl) (by rfl) (fun _ _ _ _ h => h) (fun K hK => ?_); go_big_quiet_op; refine hK _ ?_; clear hK K) | (refine T_two (by rfl) (by rfl) (by rfl) (by rfl) (fun _ _ _ _ h => h) (fun K hK => ?_); go_big_quiet_op; refine ⟨_, fun _ _ => rfl, ?_⟩; refine hK _ ?_; clear hK K; try simp only [Act.put, List.setIfInBounds_toArray, List.set_cons_zero, List.set_cons_succ]) | fail)
          refine T_call (by rfl) (by rfl) (fun K hK => ?_)
          go_wp2_with fail
          (refine hK.out _ _ (((Fr.refl _ _).alloc _)) ?_; clear hK K; try simp only [Act.put, List.setIfInBounds_toArray, List.set_cons_zero, List.set_cons_succ])
          refine T_turn No [] (by rfl) (by rfl) (by rfl) (fun K hK => ?_)
          refine wp_stA ag_head.info _ _ rfl w2.heap.size 0 _ _ [.int .i64 life, .int .i64 half, .int .i64 first, .int .i64 since] _ rfl rfl rfl rfl (by intro u hu; simp at hu; rcases hu with rfl | rfl | rfl | rfl <;> rfl) (Blk.new w2 _ _) (by decide) ?_
          intro w3 hb3 hg3 hz3
          rw [splice_all _ _ (by rfl)] at hb3
          refine hK.out _ _ ?_
          clear hK K
          try simp only [Act.put, List.setIfInBounds_toArray, List.set_cons_zero, List.set_cons_succ]
          refine T_done ?_
          go_wp2_with fail
          go_meet
          case rel =>
            refine ⟨_, rfl, hz9, hb3, (hfw.alloc _).grown hg3 (fun q hq => by injection hq with hq; exact .inl (by rw [← hq]; exact hfw.size))⟩
        · go_wp2_with fail
          (refine hK.out _ _ (((Fr.refl _ _).alloc _)) ?_; clear hK K; try simp only [Act.put, List.setIfInBounds_toArray, List.set_cons_zero, List.set_cons_succ])
          refine T_call (by rfl) (by rfl) (fun K hK => ?_)
          go_wp2_with fail
          refine (hg21 _ _ (hbs2.alloc _)).mono ?_
          rintro e wx ⟨rfl, hwx⟩
          replace hwx := hwx.symm
          subst hwx
          go_wp2_with fail
          (refine hK.out _ _ ((Fr.refl _ _)) ?_; clear hK K; try simp only [Act.put, List.setIfInBounds_toArray, List.set_cons_zero, List.set_cons_succ])
          (first | (refine T_skip (by rfl) (by rfl) (fun _ _ _ h => h) ?_; try simp only [Act.put, List.setIfInBounds_toArray, List.set_cons_zero, List.set_cons_succ]) | (refine T_pass (by rfl) (by rfl) ?_; try simp only [Act.put, List.setIfInBounds_toArray, List.set_cons_zero, List.set_cons_succ]) | (refine T_load (by assumption) (by rfl) (by rfl) (fun _ _ _ _ h => h) rfl rfl (by assumption) (by first | exact (fun hn => hn) | assumption) ?_; try simp only [Act.put, List.setIfInBounds_toArray, List.set_cons_zero, List.set_cons_succ]) | (refine T_nil (by rfl) (by rfl) (fun _ _ _ _ h => h) rfl rfl ?_; try simp only [Act.put, List.setIfInBounds_toArray, List.set_cons_zero, List.set_cons_succ]) | (refine T_quietN (by rfl) (by rfl) (by rfl) (by rfl) (fun _ _ _ _ h => h) (fun K hK => ?_); go_big_quiet_op; refine hK _ ?_; clear hK K) | (refine T_two (by rfl) (by rfl) (by rfl) (by rfl) (fun _ _ _ _ h => h) (fun K hK => ?_); go_big_quiet_op; refine ⟨_, fun _ _ => rfl, ?_⟩; refine hK _ ?_; clear hK K; try simp only [Act.put, List.setIfInBounds_toArray, List.set_cons_zero, List.set_cons_succ]) | fail)
          refine T_turn No [] (by rfl) (by rfl) (by rfl) (fun K hK => ?_)
          refine wp_stA ag_head.info _ _ rfl w2.heap.size 0 _ _ [.int .i64 life, .int .i64 half, .int .i64 first, .int .i64 since] _ rfl rfl rfl rfl (by intro u hu; simp at hu; rcases hu with rfl | rfl | rfl | rfl <;> rfl) (Blk.new w2 _ _) (by decide) ?_
          intro w3 hb3 hg3 hz3
          rw [splice_all _ _ (by rfl)] at hb3
          refine hK.out _ _ ?_
          clear hK K
          try simp only [Act.put, List.setIfInBounds_toArray, List.set_cons_zero, List.set_cons_succ]
          refine T_done ?_
          go_wp2_with fail
          go_meet
          case rel =>
            refine ⟨_, rfl, hz9, hb3, (hfw.alloc _).grown hg3 (fun q hq => by injection hq with hq; exact .inl (by rw [← hq]; exact hfw.size))⟩
      · go_wp2_with fail
        (refine hK.out _ _ (((Fr.refl _ _).alloc _)) ?_; clear hK K; try simp only [Act.put, List.setIfInBounds_toArray, List.set_cons_zero, List.set_cons_succ])
        refine T_call (by rfl) (by rfl) (fun K hK => ?_)
        go_wp2_with fail
        refine (hg15 _ _ (hbs2.alloc _)).mono ?_
        rintro e wx ⟨rfl, hwx⟩
        replace hwx := hwx.symm
        subst hwx
        go_wp2_with fail
        (refine hK.out _ _ ((Fr.refl _ _)) ?_; clear hK K; try simp only [Act.put, List.setIfInBounds_toArray, List.set_cons_zero, List.set_cons_succ])
        refine T_call (by rfl) (by rfl) (fun K hK => ?_)
        go_wp2_with fail
        refine (hg21 _ _ (hbs2.alloc _)).mono ?_
        rintro e wx ⟨rfl, hwx⟩
        replace hwx := hwx.symm
        subst hwx
        go_wp2_with fail
        (refine hK.out _ _ ((Fr.refl _ _)) ?_; clear hK K; try simp only [Act.put, List.setIfInBounds_toArray, List.set_cons_zero, List.set_cons_succ])
        (first | (refine T_skip (by rfl) (by rfl) (fun _ _ _ h => h) ?_; try simp only [Act.put, List.setIfInBounds_toArray, List.set_cons_zero, List.set_cons_succ]) | (refine T_pass (by rfl) (by rfl) ?_; try simp only [Act.put, List.setIfInBounds_toArray, List.set_cons_zero, List.set_cons_succ]) | (refine T_load (by assumption) (by rfl) (by rfl) (fun _ _ _ _ h => h) rfl rfl (by assumption) (by first | exact (fun hn => hn) | assumption) ?_; try simp only [Act.put, List.setIfInBounds_toArray, List.set_cons_zero, List.set_cons_succ]) | (refine T_nil (by rfl) (by rfl) (fun _ _ _ _ h => h) rfl rfl ?_; try simp only [Act.put, List.setIfInBounds_toArray, List.set_cons_zero, List.set_cons_succ]) | (refine T_quietN (by rfl) (by rfl) (by rfl) (by rfl) (fun _ _ _ _ h => h) (fun K hK => ?_); go_big_quiet_op; refine hK _ ?_; clear hK K) | (refine T_two (by rfl) (by rfl) (by rfl) (by rfl) (fun _ _ _ _ h => h) (fun K hK => ?_); go_big_quiet_op; refine ⟨_, fun _ _ => rfl, ?_⟩; refine hK _ ?_; clear hK K; try simp only [Act.put, List.setIfInBounds_toArray, List.set_cons_zero, List.set_cons_succ]) | fail)
        refine T_turn No [] (by rfl) (by rfl) (by rfl) (fun K hK => ?_)
        refine wp_stA ag_head.info _ _ rfl w2.heap.size 0 _ _ [.int .i64 life, .int .i64 half, .int .i64 first, .int .i64 since] _ rfl rfl rfl rfl (by intro u hu; simp at hu; rcases hu with rfl | rfl | rfl | rfl <;> rfl) (Blk.new w2 _ _) (by decide) ?_
        intro w3 hb3 hg3 hz3
        rw [splice_all _ _ (by rfl)] at hb3
        refine hK.out _ _ ?_
        clear hK K
        try simp only [Act.put, List.setIfInBounds_toArray, List.set_cons_zero, List.set_cons_succ]
        refine T_done ?_
        go_wp2_with fail
        go_meet
        case rel =>
          refine ⟨_, rfl, hz9, hb3, (hfw.alloc _).grown hg3 (fun q hq => by injection hq with hq; exact .inl (by rw [← hq]; exact hfw.size))⟩
    · go_wp2_with fail
      (refine hK.out _ _ (((Fr.refl _ _).alloc _)) ?_; clear hK K; try simp only [Act.put, List.setIfInBounds_toArray, List.set_cons_zero, List.set_cons_succ])
      refine T_call (by rfl) (by rfl) (fun K hK => ?_)
      go_wp2_with fail
      refine (hg8 _ _ (hbs2.alloc _)).mono ?_
      rintro e wx ⟨rfl, hwx⟩
      replace hwx := hwx.symm
      subst hwx
      go_wp2_with fail
      (refine hK.out _ _ ((Fr.refl _ _)) ?_; clear hK K; try simp only [Act.put, List.setIfInBounds_toArray, List.set_cons_zero, List.set_cons_succ])
      refine T_call (by rfl) (by rfl) (fun K hK => ?_)
      go_wp2_with fail
      refine (hg15 _ _ (hbs2.alloc _)).mono ?_
      rintro e wx ⟨rfl, hwx⟩
      replace hwx := hwx.symm
      subst hwx
      go_wp2_with fail
      (refine hK.out _ _ ((Fr.refl _ _)) ?_; clear hK K; try simp only [Act.put, List.setIfInBounds_toArray, List.set_cons_zero, List.set_cons_succ])
      refine T_call (by rfl) (by rfl) (fun K hK => ?_)
      go_wp2_with fail
      refine (hg21 _ _ (hbs2.alloc _)).mono ?_
      rintro e wx ⟨rfl, hwx⟩
      replace hwx := hwx.symm
      subst hwx
      go_wp2_with fail
      (refine hK.out _ _ ((Fr.refl _ _)) ?_; clear hK K; try simp only [Act.put, List.setIfInBounds_toArray, List.set_cons_zero, List.set_cons_succ])
      (first | (refine T_skip (by rfl) (by rfl) (fun _ _ _ h => h) ?_; try simp only [Act.put, List.setIfInBounds_toArray, List.set_cons_zero, List.set_cons_succ]) | (refine T_pass (by rfl) (by rfl) ?_; try simp only [Act.put, List.setIfInBounds_toArray, List.set_cons_zero, List.set_cons_succ]) | (refine T_load (by assumption) (by rfl) (by rfl) (fun _ _ _ _ h => h) rfl rfl (by assumption) (by first | exact (fun hn => hn) | assumption) ?_; try simp only [Act.put, List.setIfInBounds_toArray, List.set_cons_zero, List.set_cons_succ]) | (refine T_nil (by rfl) (by rfl) (fun _ _ _ _ h => h) rfl rfl ?_; try simp only [Act.put, List.setIfInBounds_toArray, List.set_cons_zero, List.set_cons_succ]) | (refine T_quietN (by rfl) (by rfl) (by rfl) (by rfl) (fun _ _ _ _ h => h) (fun K hK => ?_); go_big_quiet_op; refine hK _ ?_; clear hK K) | (refine T_two (by rfl) (by rfl) (by rfl) (by rfl) (fun _ _ _ _ h => h) (fun K hK => ?_); go_big_quiet_op; refine ⟨_, fun _ _ => rfl, ?_⟩; refine hK _ ?_; clear hK K; try simp only [Act.put, List.setIfInBounds_toArray, List.set_cons_zero, List.set_cons_succ]) | fail)
      refine T_turn No [] (by rfl) (by rfl) (by rfl) (fun K hK => ?_)
      refine wp_stA ag_head.info _ _ rfl w2.heap.size 0 _ _ [.int .i64 life, .int .i64 half, .int .i64 first, .int .i64 since] _ rfl rfl rfl rfl (by intro u hu; simp at hu; rcases hu with rfl | rfl | rfl | rfl <;> rfl) (Blk.new w2 _ _) (by decide) ?_
      intro w3 hb3 hg3 hz3
      rw [splice_all _ _ (by rfl)] at hb3
      refine hK.out _ _ ?_
      clear hK K
      try simp only [Act.put, List.setIfInBounds_toArray, List.set_cons_zero, List.set_cons_succ]
      refine T_done ?_
      go_wp2_with fail
      go_meet
      case rel =>
        refine ⟨_, rfl, hz9, hb3, (hfw.alloc _).grown hg3 (fun q hq => by injection hq with hq; exact .inl (by rw [← hq]; exact hfw.size))⟩
  case rest =>
    obtain ⟨b4, rfl, hb4, hbh, hfc⟩ := hcut
    have hbs := hbs1.fr0 hfc
    have hbr := hbr1.fr0 hfc
    have hneq1 : ¬ (w.heap.size = w.heap.size + 1) := by omega
    have hneq2 : ¬ (b4 = w.heap.size + 1) := by omega
    have hF := hf1.tr hfc
    clear hf1 hfc hbs1 hbr1 hg8 hg15 hg21 hc14 hz1 hb4
    (have y0 := hbh.cell 0; have y1 := hbh.cell 1; have y2 := hbh.cell 2; have y3 := hbh.cell 3; have yf0 := hbh.frozen 0; have yf1 := hbh.frozen 1; have yf2 := hbh.frozen 2; have yf3 := hbh.frozen 3; simp only [List.getElem?_toArray, List.getElem?_cons_zero, List.getElem?_cons_succ] at y0 y1 y2 y3)
    cases hb1 : goodB life
    · go_wp2_with fail
      (refine T_begin (fun b => b = w.heap.size + 1) [0, 1, 2, 3, 4, 5, 6, 7, 8, 9, 10, 11, 12, 13, 14, 15, 16, 17, 18, 19, 20, 22, 21, 23, 24, 25, 26] [3, 7, 12, 21, 25] (by kernel_rfl) (by kernel_rfl) ?_; simp only [pickOps, List.filterMap_cons, List.filterMap_nil, List.getElem?_cons_zero, List.getElem?_cons_succ, Act.put])
      (refine T_loadA (cs := [.int .i64 life, .int .i64 half, .int .i64 first, .int .i64 since]) ag_head (by rfl) (by rfl) (fun _ _ _ _ h => h) rfl rfl rfl hbh.all (fun hn => hneq2 hn) ?_; try simp only [Act.put, List.setIfInBounds_toArray, List.set_cons_zero, List.set_cons_succ])
      repeat (first | (refine T_skip (by rfl) (by rfl) (fun _ _ _ h => h) ?_; try simp only [Act.put, List.setIfInBounds_toArray, List.set_cons_zero, List.set_cons_succ]) | (refine T_pass (by rfl) (by rfl) ?_; try simp only [Act.put, List.setIfInBounds_toArray, List.set_cons_zero, List.set_cons_succ]) | (refine T_load (by assumption) (by rfl) (by rfl) (fun _ _ _ _ h => h) rfl rfl (by assumption) (by first | exact (fun hn => hn) | assumption) ?_; try simp only [Act.put, List.setIfInBounds_toArray, List.set_cons_zero, List.set_cons_succ]) | (refine T_nil (by rfl) (by rfl) (fun _ _ _ _ h => h) rfl rfl ?_; try simp only [Act.put, List.setIfInBounds_toArray, List.set_cons_zero, List.set_cons_succ]) | (refine T_quietN (by rfl) (by rfl) (by rfl) (by rfl) (fun _ _ _ _ h => h) (fun K hK => ?_); go_big_quiet_op; refine hK _ ?_; clear hK K) | (refine T_two (by rfl) (by rfl) (by rfl) (by rfl) (fun _ _ _ _ h => h) (fun K hK => ?_); go_big_quiet_op; refine ⟨_, fun _ _ => rfl, ?_⟩; refine hK _ ?_; clear hK K; try simp only [Act.put, List.setIfInBounds_toArray, List.set_cons_zero, List.set_cons_succ]) | fail)
      (refine T_call (by rfl) (by rfl) (fun K hK => ?_); go_wp2_with fail)
      refine (good_calls life _).mono ?_
      rintro e w5 ⟨rfl, hw5⟩
      replace hw5 := hw5.symm
      subst hw5
      rw [hb1]
      go_wp2_with fail
      (refine hK.out _ _ ((Fr.refl _ _)) ?_; clear hK K; try simp only [Act.put, List.setIfInBounds_toArray, List.set_cons_zero, List.set_cons_succ])
      repeat (first | (refine T_skip (by rfl) (by rfl) (fun _ _ _ h => h) ?_; try simp only [Act.put, List.setIfInBounds_toArray, List.set_cons_zero, List.set_cons_succ]) | (refine T_pass (by rfl) (by rfl) ?_; try simp only [Act.put, List.setIfInBounds_toArray, List.set_cons_zero, List.set_cons_succ]) | (refine T_load (by assumption) (by rfl) (by rfl) (fun _ _ _ _ h => h) rfl rfl (by assumption) (by first | exact (fun hn => hn) | assumption) ?_; try simp only [Act.put, List.setIfInBounds_toArray, List.set_cons_zero, List.set_cons_succ]) | (refine T_nil (by rfl) (by rfl) (fun _ _ _ _ h => h) rfl rfl ?_; try simp only [Act.put, List.setIfInBounds_toArray, List.set_cons_zero, List.set_cons_succ]) | (refine T_quietN (by rfl) (by rfl) (by rfl) (by rfl) (fun _ _ _ _ h => h) (fun K hK => ?_); go_big_quiet_op; refine hK _ ?_; clear hK K) | (refine T_two (by rfl) (by rfl) (by rfl) (by rfl) (fun _ _ _ _ h => h) (fun K hK => ?_); go_big_quiet_op; refine ⟨_, fun _ _ => rfl, ?_⟩; refine hK _ ?_; clear hK K; try simp only [Act.put, List.setIfInBounds_toArray, List.set_cons_zero, List.set_cons_succ]) | fail)
      have hf6 : Fr No wc.drew wc.drew := Fr.refl _ _
      replace hbr := hbr.drew
      (refine T_call (by rfl) (by rfl) (fun K hK => ?_))
      refine wp_stA ag_head.info _ _ rfl (w.heap.size + 1) 0 _ _ [.int .i64 life, .int .i64 half, .int .i64 first, .int .i64 since] _ rfl rfl rfl rfl (by intro u hu; simp at hu; rcases hu with rfl | rfl | rfl | rfl <;> rfl) hbr (by decide) ?_
      intro w7 hb7 hg7 hz7
      rw [splice_all _ _ (by rfl)] at hb7
      (refine hK.out _ _ ((Fr.refl _ _).grown hg7 (fun q hq => by injection hq with hq; exact .inr hq.symm)) ?_; clear hK K; try simp only [Act.put, List.setIfInBounds_toArray, List.set_cons_zero, List.set_cons_succ])
      repeat (first | (refine T_skip (by rfl) (by rfl) (fun _ _ _ h => h) ?_; try simp only [Act.put, List.setIfInBounds_toArray, List.set_cons_zero, List.set_cons_succ]) | (refine T_pass (by rfl) (by rfl) ?_; try simp only [Act.put, List.setIfInBounds_toArray, List.set_cons_zero, List.set_cons_succ]) | (refine T_load (by assumption) (by rfl) (by rfl) (fun _ _ _ _ h => h) rfl rfl (by assumption) (by first | exact (fun hn => hn) | assumption) ?_; try simp only [Act.put, List.setIfInBounds_toArray, List.set_cons_zero, List.set_cons_succ]) | (refine T_nil (by rfl) (by rfl) (fun _ _ _ _ h => h) rfl rfl ?_; try simp only [Act.put, List.setIfInBounds_toArray, List.set_cons_zero, List.set_cons_succ]) | (refine T_quietN (by rfl) (by rfl) (by rfl) (by rfl) (fun _ _ _ _ h => h) (fun K hK => ?_); go_big_quiet_op; refine hK _ ?_; clear hK K) | (refine T_two (by rfl) (by rfl) (by rfl) (by rfl) (fun _ _ _ _ h => h) (fun K hK => ?_); go_big_quiet_op; refine ⟨_, fun _ _ => rfl, ?_⟩; refine hK _ ?_; clear hK K; try simp only [Act.put, List.setIfInBounds_toArray, List.set_cons_zero, List.set_cons_succ]) | fail)
      refine T_done ?_
      go_wp2_with fail
      refine bodyPost_ret (results_blk2 ag_head rfl _ _ _ _ _ _ rfl rfl hb7 rfl) rfl ⟨by simp only [hb1, Bool.false_and, Bool.true_and, Bool.and_false]; rfl, (hF.tr ((Fr.refl No wc).drew.tr hf6)).grown hg7 (fun q hq => by injection hq with hq; exact .inl (by omega))⟩
    cases hb2 : goodB first
    · go_wp2_with fail
      (refine T_begin (fun b => b = w.heap.size + 1) [0, 1, 2, 3, 4, 5, 6, 7, 8, 9, 10, 11, 12, 13, 14, 15, 16, 17, 18, 19, 20, 22, 21, 23, 24, 25, 26] [3, 7, 12, 21, 25] (by kernel_rfl) (by kernel_rfl) ?_; simp only [pickOps, List.filterMap_cons, List.filterMap_nil, List.getElem?_cons_zero, List.getElem?_cons_succ, Act.put])
      (refine T_loadA (cs := [.int .i64 life, .int .i64 half, .int .i64 first, .int .i64 since]) ag_head (by rfl) (by rfl) (fun _ _ _ _ h => h) rfl rfl rfl hbh.all (fun hn => hneq2 hn) ?_; try simp only [Act.put, List.setIfInBounds_toArray, List.set_cons_zero, List.set_cons_succ])
      repeat (first | (refine T_skip (by rfl) (by rfl) (fun _ _ _ h => h) ?_; try simp only [Act.put, List.setIfInBounds_toArray, List.set_cons_zero, List.set_cons_succ]) | (refine T_pass (by rfl) (by rfl) ?_; try simp only [Act.put, List.setIfInBounds_toArray, List.set_cons_zero, List.set_cons_succ]) | (refine T_load (by assumption) (by rfl) (by rfl) (fun _ _ _ _ h => h) rfl rfl (by assumption) (by first | exact (fun hn => hn) | assumption) ?_; try simp only [Act.put, List.setIfInBounds_toArray, List.set_cons_zero, List.set_cons_succ]) | (refine T_nil (by rfl) (by rfl) (fun _ _ _ _ h => h) rfl rfl ?_; try simp only [Act.put, List.setIfInBounds_toArray, List.set_cons_zero, List.set_cons_succ]) | (refine T_quietN (by rfl) (by rfl) (by rfl) (by rfl) (fun _ _ _ _ h => h) (fun K hK => ?_); go_big_quiet_op; refine hK _ ?_; clear hK K) | (refine T_two (by rfl) (by rfl) (by rfl) (by rfl) (fun _ _ _ _ h => h) (fun K hK => ?_); go_big_quiet_op; refine ⟨_, fun _ _ => rfl, ?_⟩; refine hK _ ?_; clear hK K; try simp only [Act.put, List.setIfInBounds_toArray, List.set_cons_zero, List.set_cons_succ]) | fail)
      (refine T_call (by rfl) (by rfl) (fun K hK => ?_); go_wp2_with fail)
      refine (good_calls life _).mono ?_
      rintro e w5 ⟨rfl, hw5⟩
      replace hw5 := hw5.symm
      subst hw5
      rw [hb1]
      go_wp2_with fail
      (refine hK.out _ _ ((Fr.refl _ _)) ?_; clear hK K; try simp only [Act.put, List.setIfInBounds_toArray, List.set_cons_zero, List.set_cons_succ])
      repeat (first | (refine T_skip (by rfl) (by rfl) (fun _ _ _ h => h) ?_; try simp only [Act.put, List.setIfInBounds_toArray, List.set_cons_zero, List.set_cons_succ]) | (refine T_pass (by rfl) (by rfl) ?_; try simp only [Act.put, List.setIfInBounds_toArray, List.set_cons_zero, List.set_cons_succ]) | (refine T_load (by assumption) (by rfl) (by rfl) (fun _ _ _ _ h => h) rfl rfl (by assumption) (by first | exact (fun hn => hn) | assumption) ?_; try simp only [Act.put, List.setIfInBounds_toArray, List.set_cons_zero, List.set_cons_succ]) | (refine T_nil (by rfl) (by rfl) (fun _ _ _ _ h => h) rfl rfl ?_; try simp only [Act.put, List.setIfInBounds_toArray, List.set_cons_zero, List.set_cons_succ]) | (refine T_quietN (by rfl) (by rfl) (by rfl) (by rfl) (fun _ _ _ _ h => h) (fun K hK => ?_); go_big_quiet_op; refine hK _ ?_; clear hK K) | (refine T_two (by rfl) (by rfl) (by rfl) (by rfl) (fun _ _ _ _ h => h) (fun K hK => ?_); go_big_quiet_op; refine ⟨_, fun _ _ => rfl, ?_⟩; refine hK _ ?_; clear hK K; try simp only [Act.put, List.setIfInBounds_toArray, List.set_cons_zero, List.set_cons_succ]) | fail)
      (refine T_call (by rfl) (by rfl) (fun K hK => ?_); go_wp2_with fail)
      refine (good_calls first _).mono ?_
      rintro e w5 ⟨rfl, hw5⟩
      replace hw5 := hw5.symm
      subst hw5
      rw [hb2]
      go_wp2_with fail
      (refine hK.out _ _ ((Fr.refl _ _)) ?_; clear hK K; try simp only [Act.put, List.setIfInBounds_toArray, List.set_cons_zero, List.set_cons_succ])
      repeat (first | (refine T_skip (by rfl) (by rfl) (fun _ _ _ h => h) ?_; try simp only [Act.put, List.setIfInBounds_toArray, List.set_cons_zero, List.set_cons_succ]) | (refine T_pass (by rfl) (by rfl) ?_; try simp only [Act.put, List.setIfInBounds_toArray, List.set_cons_zero, List.set_cons_succ]) | (refine T_load (by assumption) (by rfl) (by rfl) (fun _ _ _ _ h => h) rfl rfl (by assumption) (by first | exact (fun hn => hn) | assumption) ?_; try simp only [Act.put, List.setIfInBounds_toArray, List.set_cons_zero, List.set_cons_succ]) | (refine T_nil (by rfl) (by rfl) (fun _ _ _ _ h => h) rfl rfl ?_; try simp only [Act.put, List.setIfInBounds_toArray, List.set_cons_zero, List.set_cons_succ]) | (refine T_quietN (by rfl) (by rfl) (by rfl) (by rfl) (fun _ _ _ _ h => h) (fun K hK => ?_); go_big_quiet_op; refine hK _ ?_; clear hK K) | (refine T_two (by rfl) (by rfl) (by rfl) (by rfl) (fun _ _ _ _ h => h) (fun K hK => ?_); go_big_quiet_op; refine ⟨_, fun _ _ => rfl, ?_⟩; refine hK _ ?_; clear hK K; try simp only [Act.put, List.setIfInBounds_toArray, List.set_cons_zero, List.set_cons_succ]) | fail)
      have hf6 : Fr No wc.drew wc.drew := Fr.refl _ _
      replace hbr := hbr.drew
      (refine T_call (by rfl) (by rfl) (fun K hK => ?_))
      refine wp_stA ag_head.info _ _ rfl (w.heap.size + 1) 0 _ _ [.int .i64 life, .int .i64 half, .int .i64 first, .int .i64 since] _ rfl rfl rfl rfl (by intro u hu; simp at hu; rcases hu with rfl | rfl | rfl | rfl <;> rfl) hbr (by decide) ?_
      intro w7 hb7 hg7 hz7
      rw [splice_all _ _ (by rfl)] at hb7
      (refine hK.out _ _ ((Fr.refl _ _).grown hg7 (fun q hq => by injection hq with hq; exact .inr hq.symm)) ?_; clear hK K; try simp only [Act.put, List.setIfInBounds_toArray, List.set_cons_zero, List.set_cons_succ])
      repeat (first | (refine T_skip (by rfl) (by rfl) (fun _ _ _ h => h) ?_; try simp only [Act.put, List.setIfInBounds_toArray, List.set_cons_zero, List.set_cons_succ]) | (refine T_pass (by rfl) (by rfl) ?_; try simp only [Act.put, List.setIfInBounds_toArray, List.set_cons_zero, List.set_cons_succ]) | (refine T_load (by assumption) (by rfl) (by rfl) (fun _ _ _ _ h => h) rfl rfl (by assumption) (by first | exact (fun hn => hn) | assumption) ?_; try simp only [Act.put, List.setIfInBounds_toArray, List.set_cons_zero, List.set_cons_succ]) | (refine T_nil (by rfl) (by rfl) (fun _ _ _ _ h => h) rfl rfl ?_; try simp only [Act.put, List.setIfInBounds_toArray, List.set_cons_zero, List.set_cons_succ]) | (refine T_quietN (by rfl) (by rfl) (by rfl) (by rfl) (fun _ _ _ _ h => h) (fun K hK => ?_); go_big_quiet_op; refine hK _ ?_; clear hK K) | (refine T_two (by rfl) (by rfl) (by rfl) (by rfl) (fun _ _ _ _ h => h) (fun K hK => ?_); go_big_quiet_op; refine ⟨_, fun _ _ => rfl, ?_⟩; refine hK _ ?_; clear hK K; try simp only [Act.put, List.setIfInBounds_toArray, List.set_cons_zero, List.set_cons_succ]) | fail)
      refine T_done ?_
      go_wp2_with fail
      refine bodyPost_ret (results_blk2 ag_head rfl _ _ _ _ _ _ rfl rfl hb7 rfl) rfl ⟨by simp only [hb1, hb2, Bool.false_and, Bool.true_and, Bool.and_false]; rfl, (hF.tr ((Fr.refl No wc).drew.tr hf6)).grown hg7 (fun q hq => by injection hq with hq; exact .inl (by omega))⟩
    cases hb3 : goodB since
    · go_wp2_with fail
      (refine T_begin (fun b => b = w.heap.size + 1) [0, 1, 2, 3, 4, 5, 6, 7, 8, 9, 10, 11, 12, 13, 14, 15, 16, 17, 18, 19, 20, 22, 21, 23, 24, 25, 26] [3, 7, 12, 21, 25] (by kernel_rfl) (by kernel_rfl) ?_; simp only [pickOps, List.filterMap_cons, List.filterMap_nil, List.getElem?_cons_zero, List.getElem?_cons_succ, Act.put])
      (refine T_loadA (cs := [.int .i64 life, .int .i64 half, .int .i64 first, .int .i64 since]) ag_head (by rfl) (by rfl) (fun _ _ _ _ h => h) rfl rfl rfl hbh.all (fun hn => hneq2 hn) ?_; try simp only [Act.put, List.setIfInBounds_toArray, List.set_cons_zero, List.set_cons_succ])
      repeat (first | (refine T_skip (by rfl) (by rfl) (fun _ _ _ h => h) ?_; try simp only [Act.put, List.setIfInBounds_toArray, List.set_cons_zero, List.set_cons_succ]) | (refine T_pass (by rfl) (by rfl) ?_; try simp only [Act.put, List.setIfInBounds_toArray, List.set_cons_zero, List.set_cons_succ]) | (refine T_load (by assumption) (by rfl) (by rfl) (fun _ _ _ _ h => h) rfl rfl (by assumption) (by first | exact (fun hn => hn) | assumption) ?_; try simp only [Act.put, List.setIfInBounds_toArray, List.set_cons_zero, List.set_cons_succ]) | (refine T_nil (by rfl) (by rfl) (fun _ _ _ _ h => h) rfl rfl ?_; try simp only [Act.put, List.setIfInBounds_toArray, List.set_cons_zero, List.set_cons_succ]) | (refine T_quietN (by rfl) (by rfl) (by rfl) (by rfl) (fun _ _ _ _ h => h) (fun K hK => ?_); go_big_quiet_op; refine hK _ ?_; clear hK K) | (refine T_two (by rfl) (by rfl) (by rfl) (by rfl) (fun _ _ _ _ h => h) (fun K hK => ?_); go_big_quiet_op; refine ⟨_, fun _ _ => rfl, ?_⟩; refine hK _ ?_; clear hK K; try simp only [Act.put, List.setIfInBounds_toArray, List.set_cons_zero, List.set_cons_succ]) | fail)
      (refine T_call (by rfl) (by rfl) (fun K hK => ?_); go_wp2_with fail)
      refine (good_calls life _).mono ?_
      rintro e w5 ⟨rfl, hw5⟩
      replace hw5 := hw5.symm
      subst hw5
      rw [hb1]
      go_wp2_with fail
      (refine hK.out _ _ ((Fr.refl _ _)) ?_; clear hK K; try simp only [Act.put, List.setIfInBounds_toArray, List.set_cons_zero, List.set_cons_succ])
      repeat (first | (refine T_skip (by rfl) (by rfl) (fun _ _ _ h => h) ?_; try simp only [Act.put, List.setIfInBounds_toArray, List.set_cons_zero, List.set_cons_succ]) | (refine T_pass (by rfl) (by rfl) ?_; try simp only [Act.put, List.setIfInBounds_toArray, List.set_cons_zero, List.set_cons_succ]) | (refine T_load (by assumption) (by rfl) (by rfl) (fun _ _ _ _ h => h) rfl rfl (by assumption) (by first | exact (fun hn => hn) | assumption) ?_; try simp only [Act.put, List.setIfInBounds_toArray, List.set_cons_zero, List.set_cons_succ]) | (refine T_nil (by rfl) (by rfl) (fun _ _ _ _ h => h) rfl rfl ?_; try simp only [Act.put, List.setIfInBounds_toArray, List.set_cons_zero, List.set_cons_succ]) | (refine T_quietN (by rfl) (by rfl) (by rfl) (by rfl) (fun _ _ _ _ h => h) (fun K hK => ?_); go_big_quiet_op; refine hK _ ?_; clear hK K) | (refine T_two (by rfl) (by rfl) (by rfl) (by rfl) (fun _ _ _ _ h => h) (fun K hK => ?_); go_big_quiet_op; refine ⟨_, fun _ _ => rfl, ?_⟩; refine hK _ ?_; clear hK K; try simp only [Act.put, List.setIfInBounds_toArray, List.set_cons_zero, List.set_cons_succ]) | fail)
      (refine T_call (by rfl) (by rfl) (fun K hK => ?_); go_wp2_with fail)
      refine (good_calls first _).mono ?_
      rintro e w5 ⟨rfl, hw5⟩
      replace hw5 := hw5.symm
      subst hw5
      rw [hb2]
      go_wp2_with fail
      (refine hK.out _ _ ((Fr.refl _ _)) ?_; clear hK K; try simp only [Act.put, List.setIfInBounds_toArray, List.set_cons_zero, List.set_cons_succ])
      repeat (first | (refine T_skip (by rfl) (by rfl) (fun _ _ _ h => h) ?_; try simp only [Act.put, List.setIfInBounds_toArray, List.set_cons_zero, List.set_cons_succ]) | (refine T_pass (by rfl) (by rfl) ?_; try simp only [Act.put, List.setIfInBounds_toArray, List.set_cons_zero, List.set_cons_succ]) | (refine T_load (by assumption) (by rfl) (by rfl) (fun _ _ _ _ h => h) rfl rfl (by assumption) (by first | exact (fun hn => hn) | assumption) ?_; try simp only [Act.put, List.setIfInBounds_toArray, List.set_cons_zero, List.set_cons_succ]) | (refine T_nil (by rfl) (by rfl) (fun _ _ _ _ h => h) rfl rfl ?_; try simp only [Act.put, List.setIfInBounds_toArray, List.set_cons_zero, List.set_cons_succ]) | (refine T_quietN (by rfl) (by rfl) (by rfl) (by rfl) (fun _ _ _ _ h => h) (fun K hK => ?_); go_big_quiet_op; refine hK _ ?_; clear hK K) | (refine T_two (by rfl) (by rfl) (by rfl) (by rfl) (fun _ _ _ _ h => h) (fun K hK => ?_); go_big_quiet_op; refine ⟨_, fun _ _ => rfl, ?_⟩; refine hK _ ?_; clear hK K; try simp only [Act.put, List.setIfInBounds_toArray, List.set_cons_zero, List.set_cons_succ]) | fail)
      (refine T_call (by rfl) (by rfl) (fun K hK => ?_); go_wp2_with fail)
      refine (good_calls since _).mono ?_
      rintro e w5 ⟨rfl, hw5⟩
      replace hw5 := hw5.symm
      subst hw5
      rw [hb3]
      go_wp2_with fail
      (refine hK.out _ _ ((Fr.refl _ _)) ?_; clear hK K; try simp only [Act.put, List.setIfInBounds_toArray, List.set_cons_zero, List.set_cons_succ])
      repeat (first | (refine T_skip (by rfl) (by rfl) (fun _ _ _ h => h) ?_; try simp only [Act.put, List.setIfInBounds_toArray, List.set_cons_zero, List.set_cons_succ]) | (refine T_pass (by rfl) (by rfl) ?_; try simp only [Act.put, List.setIfInBounds_toArray, List.set_cons_zero, List.set_cons_succ]) | (refine T_load (by assumption) (by rfl) (by rfl) (fun _ _ _ _ h => h) rfl rfl (by assumption) (by first | exact (fun hn => hn) | assumption) ?_; try simp only [Act.put, List.setIfInBounds_toArray, List.set_cons_zero, List.set_cons_succ]) | (refine T_nil (by rfl) (by rfl) (fun _ _ _ _ h => h) rfl rfl ?_; try simp only [Act.put, List.setIfInBounds_toArray, List.set_cons_zero, List.set_cons_succ]) | (refine T_quietN (by rfl) (by rfl) (by rfl) (by rfl) (fun _ _ _ _ h => h) (fun K hK => ?_); go_big_quiet_op; refine hK _ ?_; clear hK K) | (refine T_two (by rfl) (by rfl) (by rfl) (by rfl) (fun _ _ _ _ h => h) (fun K hK => ?_); go_big_quiet_op; refine ⟨_, fun _ _ => rfl, ?_⟩; refine hK _ ?_; clear hK K; try simp only [Act.put, List.setIfInBounds_toArray, List.set_cons_zero, List.set_cons_succ]) | fail)
      have hf6 : Fr No wc.drew wc.drew := Fr.refl _ _
      replace hbr := hbr.drew
      (refine T_call (by rfl) (by rfl) (fun K hK => ?_))
      refine wp_stA ag_head.info _ _ rfl (w.heap.size + 1) 0 _ _ [.int .i64 life, .int .i64 half, .int .i64 first, .int .i64 since] _ rfl rfl rfl rfl (by intro u hu; simp at hu; rcases hu with rfl | rfl | rfl | rfl <;> rfl) hbr (by decide) ?_
      intro w7 hb7 hg7 hz7
      rw [splice_all _ _ (by rfl)] at hb7
      (refine hK.out _ _ ((Fr.refl _ _).grown hg7 (fun q hq => by injection hq with hq; exact .inr hq.symm)) ?_; clear hK K; try simp only [Act.put, List.setIfInBounds_toArray, List.set_cons_zero, List.set_cons_succ])
      repeat (first | (refine T_skip (by rfl) (by rfl) (fun _ _ _ h => h) ?_; try simp only [Act.put, List.setIfInBounds_toArray, List.set_cons_zero, List.set_cons_succ]) | (refine T_pass (by rfl) (by rfl) ?_; try simp only [Act.put, List.setIfInBounds_toArray, List.set_cons_zero, List.set_cons_succ]) | (refine T_load (by assumption) (by rfl) (by rfl) (fun _ _ _ _ h => h) rfl rfl (by assumption) (by first | exact (fun hn => hn) | assumption) ?_; try simp only [Act.put, List.setIfInBounds_toArray, List.set_cons_zero, List.set_cons_succ]) | (refine T_nil (by rfl) (by rfl) (fun _ _ _ _ h => h) rfl rfl ?_; try simp only [Act.put, List.setIfInBounds_toArray, List.set_cons_zero, List.set_cons_succ]) | (refine T_quietN (by rfl) (by rfl) (by rfl) (by rfl) (fun _ _ _ _ h => h) (fun K hK => ?_); go_big_quiet_op; refine hK _ ?_; clear hK K) | (refine T_two (by rfl) (by rfl) (by rfl) (by rfl) (fun _ _ _ _ h => h) (fun K hK => ?_); go_big_quiet_op; refine ⟨_, fun _ _ => rfl, ?_⟩; refine hK _ ?_; clear hK K; try simp only [Act.put, List.setIfInBounds_toArray, List.set_cons_zero, List.set_cons_succ]) | fail)
      refine T_done ?_
      go_wp2_with fail
      refine bodyPost_ret (results_blk2 ag_head rfl _ _ _ _ _ _ rfl rfl hb7 rfl) rfl ⟨by simp only [hb1, hb2, hb3, Bool.false_and, Bool.true_and, Bool.and_false]; rfl, (hF.tr ((Fr.refl No wc).drew.tr hf6)).grown hg7 (fun q hq => by injection hq with hq; exact .inl (by omega))⟩
    by_cases hh : half ≤ 1
    · have e1 : decide (half ≤ 1) = true := by simpa using hh
      have HD := Lib.hid e1
      go_wp2_with fail
      (refine T_begin (fun b => b = w.heap.size + 1) [0, 1, 2, 3, 4, 5, 6, 7, 8, 9, 10, 11, 12, 13, 14, 15, 16, 17, 18, 19, 20, 22, 21, 23, 24, 25, 26] [3, 7, 12, 21, 25] (by kernel_rfl) (by kernel_rfl) ?_; simp only [pickOps, List.filterMap_cons, List.filterMap_nil, List.getElem?_cons_zero, List.getElem?_cons_succ, Act.put])
      (refine T_loadA (cs := [.int .i64 life, .int .i64 half, .int .i64 first, .int .i64 since]) ag_head (by rfl) (by rfl) (fun _ _ _ _ h => h) rfl rfl rfl hbh.all (fun hn => hneq2 hn) ?_; try simp only [Act.put, List.setIfInBounds_toArray, List.set_cons_zero, List.set_cons_succ])
      repeat (first | (refine T_skip (by rfl) (by rfl) (fun _ _ _ h => h) ?_; try simp only [Act.put, List.setIfInBounds_toArray, List.set_cons_zero, List.set_cons_succ]) | (refine T_pass (by rfl) (by rfl) ?_; try simp only [Act.put, List.setIfInBounds_toArray, List.set_cons_zero, List.set_cons_succ]) | (refine T_load (by assumption) (by rfl) (by rfl) (fun _ _ _ _ h => h) rfl rfl (by assumption) (by first | exact (fun hn => hn) | assumption) ?_; try simp only [Act.put, List.setIfInBounds_toArray, List.set_cons_zero, List.set_cons_succ]) | (refine T_nil (by rfl) (by rfl) (fun _ _ _ _ h => h) rfl rfl ?_; try simp only [Act.put, List.setIfInBounds_toArray, List.set_cons_zero, List.set_cons_succ]) | (refine T_quietN (by rfl) (by rfl) (by rfl) (by rfl) (fun _ _ _ _ h => h) (fun K hK => ?_); go_big_quiet_op; refine hK _ ?_; clear hK K) | (refine T_two (by rfl) (by rfl) (by rfl) (by rfl) (fun _ _ _ _ h => h) (fun K hK => ?_); go_big_quiet_op; refine ⟨_, fun _ _ => rfl, ?_⟩; refine hK _ ?_; clear hK K; try simp only [Act.put, List.setIfInBounds_toArray, List.set_cons_zero, List.set_cons_succ]) | fail)
      (refine T_call (by rfl) (by rfl) (fun K hK => ?_); go_wp2_with fail)
      refine (good_calls life _).mono ?_
      rintro e w5 ⟨rfl, hw5⟩
      replace hw5 := hw5.symm
      subst hw5
      rw [hb1]
      go_wp2_with fail
      (refine hK.out _ _ ((Fr.refl _ _)) ?_; clear hK K; try simp only [Act.put, List.setIfInBounds_toArray, List.set_cons_zero, List.set_cons_succ])
      repeat (first | (refine T_skip (by rfl) (by rfl) (fun _ _ _ h => h) ?_; try simp only [Act.put, List.setIfInBounds_toArray, List.set_cons_zero, List.set_cons_succ]) | (refine T_pass (by rfl) (by rfl) ?_; try simp only [Act.put, List.setIfInBounds_toArray, List.set_cons_zero, List.set_cons_succ]) | (refine T_load (by assumption) (by rfl) (by rfl) (fun _ _ _ _ h => h) rfl rfl (by assumption) (by first | exact (fun hn => hn) | assumption) ?_; try simp only [Act.put, List.setIfInBounds_toArray, List.set_cons_zero, List.set_cons_succ]) | (refine T_nil (by rfl) (by rfl) (fun _ _ _ _ h => h) rfl rfl ?_; try simp only [Act.put, List.setIfInBounds_toArray, List.set_cons_zero, List.set_cons_succ]) | (refine T_quietN (by rfl) (by rfl) (by rfl) (by rfl) (fun _ _ _ _ h => h) (fun K hK => ?_); go_big_quiet_op; refine hK _ ?_; clear hK K) | (refine T_two (by rfl) (by rfl) (by rfl) (by rfl) (fun _ _ _ _ h => h) (fun K hK => ?_); go_big_quiet_op; refine ⟨_, fun _ _ => rfl, ?_⟩; refine hK _ ?_; clear hK K; try simp only [Act.put, List.setIfInBounds_toArray, List.set_cons_zero, List.set_cons_succ]) | fail)
      (refine T_call (by rfl) (by rfl) (fun K hK => ?_); go_wp2_with fail)
      refine (good_calls first _).mono ?_
      rintro e w5 ⟨rfl, hw5⟩
      replace hw5 := hw5.symm
      subst hw5
      rw [hb2]
      go_wp2_with fail
      (refine hK.out _ _ ((Fr.refl _ _)) ?_; clear hK K; try simp only [Act.put, List.setIfInBounds_toArray, List.set_cons_zero, List.set_cons_succ])
      repeat (first | (refine T_skip (by rfl) (by rfl) (fun _ _ _ h => h) ?_; try simp only [Act.put, List.setIfInBounds_toArray, List.set_cons_zero, List.set_cons_succ]) | (refine T_pass (by rfl) (by rfl) ?_; try simp only [Act.put, List.setIfInBounds_toArray, List.set_cons_zero, List.set_cons_succ]) | (refine T_load (by assumption) (by rfl) (by rfl) (fun _ _ _ _ h => h) rfl rfl (by assumption) (by first | exact (fun hn => hn) | assumption) ?_; try simp only [Act.put, List.setIfInBounds_toArray, List.set_cons_zero, List.set_cons_succ]) | (refine T_nil (by rfl) (by rfl) (fun _ _ _ _ h => h) rfl rfl ?_; try simp only [Act.put, List.setIfInBounds_toArray, List.set_cons_zero, List.set_cons_succ]) | (refine T_quietN (by rfl) (by rfl) (by rfl) (by rfl) (fun _ _ _ _ h => h) (fun K hK => ?_); go_big_quiet_op; refine hK _ ?_; clear hK K) | (refine T_two (by rfl) (by rfl) (by rfl) (by rfl) (fun _ _ _ _ h => h) (fun K hK => ?_); go_big_quiet_op; refine ⟨_, fun _ _ => rfl, ?_⟩; refine hK _ ?_; clear hK K; try simp only [Act.put, List.setIfInBounds_toArray, List.set_cons_zero, List.set_cons_succ]) | fail)
      (refine T_call (by rfl) (by rfl) (fun K hK => ?_); go_wp2_with fail)
      refine (good_calls since _).mono ?_
      rintro e w5 ⟨rfl, hw5⟩
      replace hw5 := hw5.symm
      subst hw5
      rw [hb3]
      go_wp2_with fail
      (refine hK.out _ _ ((Fr.refl _ _)) ?_; clear hK K; try simp only [Act.put, List.setIfInBounds_toArray, List.set_cons_zero, List.set_cons_succ])
      repeat (first | (refine T_skip (by rfl) (by rfl) (fun _ _ _ h => h) ?_; try simp only [Act.put, List.setIfInBounds_toArray, List.set_cons_zero, List.set_cons_succ]) | (refine T_pass (by rfl) (by rfl) ?_; try simp only [Act.put, List.setIfInBounds_toArray, List.set_cons_zero, List.set_cons_succ]) | (refine T_load (by assumption) (by rfl) (by rfl) (fun _ _ _ _ h => h) rfl rfl (by assumption) (by first | exact (fun hn => hn) | assumption) ?_; try simp only [Act.put, List.setIfInBounds_toArray, List.set_cons_zero, List.set_cons_succ]) | (refine T_nil (by rfl) (by rfl) (fun _ _ _ _ h => h) rfl rfl ?_; try simp only [Act.put, List.setIfInBounds_toArray, List.set_cons_zero, List.set_cons_succ]) | (refine T_quietN (by rfl) (by rfl) (by rfl) (by rfl) (fun _ _ _ _ h => h) (fun K hK => ?_); go_big_quiet_op; refine hK _ ?_; clear hK K) | (refine T_two (by rfl) (by rfl) (by rfl) (by rfl) (fun _ _ _ _ h => h) (fun K hK => ?_); go_big_quiet_op; refine ⟨_, fun _ _ => rfl, ?_⟩; refine hK _ ?_; clear hK K; try simp only [Act.put, List.setIfInBounds_toArray, List.set_cons_zero, List.set_cons_succ]) | fail)
      (refine T_loadA (cs := [.int .i64 life, .int .i64 half, .int .i64 first, .int .i64 since]) ag_head (by rfl) (by rfl) (fun _ _ _ _ h => h) rfl rfl rfl hbh.all (fun hn => hneq2 hn) ?_; try simp only [Act.put, List.setIfInBounds_toArray, List.set_cons_zero, List.set_cons_succ])
      (refine T_loadA (cs := U8 s) ag_sec4 (by rfl) (by rfl) (fun _ _ _ _ h => h) rfl rfl hls hbs.all (fun hn => hneq1 hn) ?_; try simp only [Act.put, List.setIfInBounds_toArray, List.set_cons_zero, List.set_cons_succ])
      (refine T_call (by rfl) (by rfl) (fun K hK => ?_); go_wp2_with fail)
      refine (hhd _).mono ?_
      rintro e w6 ⟨rfl, hf6⟩
      replace hbr := hbr.drew.fr0 hf6
      go_wp2_with fail
      (refine hK.out _ _ (hf6.mono (fun _ _ hn => hn.elim)) ?_; clear hK K; try simp only [Act.put, List.setIfInBounds_toArray, List.set_cons_zero, List.set_cons_succ])
      (refine T_eqSec4 (xs := hB) (ys := s) hlb hs (by rfl) (by rfl) (fun _ _ _ _ h => h) rfl rfl rfl ?_; try simp only [Act.put, List.setIfInBounds_toArray, List.set_cons_zero, List.set_cons_succ])
      repeat (first | (refine T_skip (by rfl) (by rfl) (fun _ _ _ h => h) ?_; try simp only [Act.put, List.setIfInBounds_toArray, List.set_cons_zero, List.set_cons_succ]) | (refine T_pass (by rfl) (by rfl) ?_; try simp only [Act.put, List.setIfInBounds_toArray, List.set_cons_zero, List.set_cons_succ]) | (refine T_load (by assumption) (by rfl) (by rfl) (fun _ _ _ _ h => h) rfl rfl (by assumption) (by first | exact (fun hn => hn) | assumption) ?_; try simp only [Act.put, List.setIfInBounds_toArray, List.set_cons_zero, List.set_cons_succ]) | (refine T_nil (by rfl) (by rfl) (fun _ _ _ _ h => h) rfl rfl ?_; try simp only [Act.put, List.setIfInBounds_toArray, List.set_cons_zero, List.set_cons_succ]) | (refine T_quietN (by rfl) (by rfl) (by rfl) (by rfl) (fun _ _ _ _ h => h) (fun K hK => ?_); go_big_quiet_op; refine hK _ ?_; clear hK K) | (refine T_two (by rfl) (by rfl) (by rfl) (by rfl) (fun _ _ _ _ h => h) (fun K hK => ?_); go_big_quiet_op; refine ⟨_, fun _ _ => rfl, ?_⟩; refine hK _ ?_; clear hK K; try simp only [Act.put, List.setIfInBounds_toArray, List.set_cons_zero, List.set_cons_succ]) | fail)
      (refine T_call (by rfl) (by rfl) (fun K hK => ?_))
      refine wp_stA ag_head.info _ _ rfl (w.heap.size + 1) 0 _ _ [.int .i64 life, .int .i64 half, .int .i64 first, .int .i64 since] _ rfl rfl rfl rfl (by intro u hu; simp at hu; rcases hu with rfl | rfl | rfl | rfl <;> rfl) hbr (by decide) ?_
      intro w7 hb7 hg7 hz7
      rw [splice_all _ _ (by rfl)] at hb7
      (refine hK.out _ _ ((Fr.refl _ _).grown hg7 (fun q hq => by injection hq with hq; exact .inr hq.symm)) ?_; clear hK K; try simp only [Act.put, List.setIfInBounds_toArray, List.set_cons_zero, List.set_cons_succ])
      repeat (first | (refine T_skip (by rfl) (by rfl) (fun _ _ _ h => h) ?_; try simp only [Act.put, List.setIfInBounds_toArray, List.set_cons_zero, List.set_cons_succ]) | (refine T_pass (by rfl) (by rfl) ?_; try simp only [Act.put, List.setIfInBounds_toArray, List.set_cons_zero, List.set_cons_succ]) | (refine T_load (by assumption) (by rfl) (by rfl) (fun _ _ _ _ h => h) rfl rfl (by assumption) (by first | exact (fun hn => hn) | assumption) ?_; try simp only [Act.put, List.setIfInBounds_toArray, List.set_cons_zero, List.set_cons_succ]) | (refine T_nil (by rfl) (by rfl) (fun _ _ _ _ h => h) rfl rfl ?_; try simp only [Act.put, List.setIfInBounds_toArray, List.set_cons_zero, List.set_cons_succ]) | (refine T_quietN (by rfl) (by rfl) (by rfl) (by rfl) (fun _ _ _ _ h => h) (fun K hK => ?_); go_big_quiet_op; refine hK _ ?_; clear hK K) | (refine T_two (by rfl) (by rfl) (by rfl) (by rfl) (fun _ _ _ _ h => h) (fun K hK => ?_); go_big_quiet_op; refine ⟨_, fun _ _ => rfl, ?_⟩; refine hK _ ?_; clear hK K; try simp only [Act.put, List.setIfInBounds_toArray, List.set_cons_zero, List.set_cons_succ]) | fail)
      refine T_done ?_
      go_wp2_with fail
      refine bodyPost_ret (results_blk2 ag_head rfl _ _ _ _ _ _ rfl rfl hb7 rfl) rfl ⟨by simp only [hb1, hb2, hb3, HD.out, Bool.true_and, Bool.and_true, Bool.false_and, Bool.and_false]; rfl, (hF.tr ((Fr.refl No wc).drew.tr hf6)).grown hg7 (fun q hq => by injection hq with hq; exact .inl (by omega))⟩
    · have e1 : decide (half ≤ 1) = false := by simpa using hh
      have HD := Lib.hid e1
      go_wp2_with fail
      (refine T_begin (fun b => b = w.heap.size + 1) [0, 1, 2, 3, 4, 5, 6, 7, 8, 9, 10, 11, 12, 13, 14, 15, 16, 17, 18, 19, 20, 22, 21, 23, 24, 25, 26] [3, 7, 12, 21, 25] (by kernel_rfl) (by kernel_rfl) ?_; simp only [pickOps, List.filterMap_cons, List.filterMap_nil, List.getElem?_cons_zero, List.getElem?_cons_succ, Act.put])
      (refine T_loadA (cs := [.int .i64 life, .int .i64 half, .int .i64 first, .int .i64 since]) ag_head (by rfl) (by rfl) (fun _ _ _ _ h => h) rfl rfl rfl hbh.all (fun hn => hneq2 hn) ?_; try simp only [Act.put, List.setIfInBounds_toArray, List.set_cons_zero, List.set_cons_succ])
      repeat (first | (refine T_skip (by rfl) (by rfl) (fun _ _ _ h => h) ?_; try simp only [Act.put, List.setIfInBounds_toArray, List.set_cons_zero, List.set_cons_succ]) | (refine T_pass (by rfl) (by rfl) ?_; try simp only [Act.put, List.setIfInBounds_toArray, List.set_cons_zero, List.set_cons_succ]) | (refine T_load (by assumption) (by rfl) (by rfl) (fun _ _ _ _ h => h) rfl rfl (by assumption) (by first | exact (fun hn => hn) | assumption) ?_; try simp only [Act.put, List.setIfInBounds_toArray, List.set_cons_zero, List.set_cons_succ]) | (refine T_nil (by rfl) (by rfl) (fun _ _ _ _ h => h) rfl rfl ?_; try simp only [Act.put, List.setIfInBounds_toArray, List.set_cons_zero, List.set_cons_succ]) | (refine T_quietN (by rfl) (by rfl) (by rfl) (by rfl) (fun _ _ _ _ h => h) (fun K hK => ?_); go_big_quiet_op; refine hK _ ?_; clear hK K) | (refine T_two (by rfl) (by rfl) (by rfl) (by rfl) (fun _ _ _ _ h => h) (fun K hK => ?_); go_big_quiet_op; refine ⟨_, fun _ _ => rfl, ?_⟩; refine hK _ ?_; clear hK K; try simp only [Act.put, List.setIfInBounds_toArray, List.set_cons_zero, List.set_cons_succ]) | fail)
      (refine T_call (by rfl) (by rfl) (fun K hK => ?_); go_wp2_with fail)
      refine (good_calls life _).mono ?_
      rintro e w5 ⟨rfl, hw5⟩
      replace hw5 := hw5.symm
      subst hw5
      rw [hb1]
      go_wp2_with fail
      (refine hK.out _ _ ((Fr.refl _ _)) ?_; clear hK K; try simp only [Act.put, List.setIfInBounds_toArray, List.set_cons_zero, List.set_cons_succ])
      repeat (first | (refine T_skip (by rfl) (by rfl) (fun _ _ _ h => h) ?_; try simp only [Act.put, List.setIfInBounds_toArray, List.set_cons_zero, List.set_cons_succ]) | (refine T_pass (by rfl) (by rfl) ?_; try simp only [Act.put, List.setIfInBounds_toArray, List.set_cons_zero, List.set_cons_succ]) | (refine T_load (by assumption) (by rfl) (by rfl) (fun _ _ _ _ h => h) rfl rfl (by assumption) (by first | exact (fun hn => hn) | assumption) ?_; try simp only [Act.put, List.setIfInBounds_toArray, List.set_cons_zero, List.set_cons_succ]) | (refine T_nil (by rfl) (by rfl) (fun _ _ _ _ h => h) rfl rfl ?_; try simp only [Act.put, List.setIfInBounds_toArray, List.set_cons_zero, List.set_cons_succ]) | (refine T_quietN (by rfl) (by rfl) (by rfl) (by rfl) (fun _ _ _ _ h => h) (fun K hK => ?_); go_big_quiet_op; refine hK _ ?_; clear hK K) | (refine T_two (by rfl) (by rfl) (by rfl) (by rfl) (fun _ _ _ _ h => h) (fun K hK => ?_); go_big_quiet_op; refine ⟨_, fun _ _ => rfl, ?_⟩; refine hK _ ?_; clear hK K; try simp only [Act.put, List.setIfInBounds_toArray, List.set_cons_zero, List.set_cons_succ]) | fail)
      (refine T_call (by rfl) (by rfl) (fun K hK => ?_); go_wp2_with fail)
      refine (good_calls first _).mono ?_
      rintro e w5 ⟨rfl, hw5⟩
      replace hw5 := hw5.symm
      subst hw5
      rw [hb2]
      go_wp2_with fail
      (refine hK.out _ _ ((Fr.refl _ _)) ?_; clear hK K; try simp only [Act.put, List.setIfInBounds_toArray, List.set_cons_zero, List.set_cons_succ])
      repeat (first | (refine T_skip (by rfl) (by rfl) (fun _ _ _ h => h) ?_; try simp only [Act.put, List.setIfInBounds_toArray, List.set_cons_zero, List.set_cons_succ]) | (refine T_pass (by rfl) (by rfl) ?_; try simp only [Act.put, List.setIfInBounds_toArray, List.set_cons_zero, List.set_cons_succ]) | (refine T_load (by assumption) (by rfl) (by rfl) (fun _ _ _ _ h => h) rfl rfl (by assumption) (by first | exact (fun hn => hn) | assumption) ?_; try simp only [Act.put, List.setIfInBounds_toArray, List.set_cons_zero, List.set_cons_succ]) | (refine T_nil (by rfl) (by rfl) (fun _ _ _ _ h => h) rfl rfl ?_; try simp only [Act.put, List.setIfInBounds_toArray, List.set_cons_zero, List.set_cons_succ]) | (refine T_quietN (by rfl) (by rfl) (by rfl) (by rfl) (fun _ _ _ _ h => h) (fun K hK => ?_); go_big_quiet_op; refine hK _ ?_; clear hK K) | (refine T_two (by rfl) (by rfl) (by rfl) (by rfl) (fun _ _ _ _ h => h) (fun K hK => ?_); go_big_quiet_op; refine ⟨_, fun _ _ => rfl, ?_⟩; refine hK _ ?_; clear hK K; try simp only [Act.put, List.setIfInBounds_toArray, List.set_cons_zero, List.set_cons_succ]) | fail)
      (refine T_call (by rfl) (by rfl) (fun K hK => ?_); go_wp2_with fail)
      refine (good_calls since _).mono ?_
      rintro e w5 ⟨rfl, hw5⟩
      replace hw5 := hw5.symm
      subst hw5
      rw [hb3]
      go_wp2_with fail
      (refine hK.out _ _ ((Fr.refl _ _)) ?_; clear hK K; try simp only [Act.put, List.setIfInBounds_toArray, List.set_cons_zero, List.set_cons_succ])
      repeat (first | (refine T_skip (by rfl) (by rfl) (fun _ _ _ h => h) ?_; try simp only [Act.put, List.setIfInBounds_toArray, List.set_cons_zero, List.set_cons_succ]) | (refine T_pass (by rfl) (by rfl) ?_; try simp only [Act.put, List.setIfInBounds_toArray, List.set_cons_zero, List.set_cons_succ]) | (refine T_load (by assumption) (by rfl) (by rfl) (fun _ _ _ _ h => h) rfl rfl (by assumption) (by first | exact (fun hn => hn) | assumption) ?_; try simp only [Act.put, List.setIfInBounds_toArray, List.set_cons_zero, List.set_cons_succ]) | (refine T_nil (by rfl) (by rfl) (fun _ _ _ _ h => h) rfl rfl ?_; try simp only [Act.put, List.setIfInBounds_toArray, List.set_cons_zero, List.set_cons_succ]) | (refine T_quietN (by rfl) (by rfl) (by rfl) (by rfl) (fun _ _ _ _ h => h) (fun K hK => ?_); go_big_quiet_op; refine hK _ ?_; clear hK K) | (refine T_two (by rfl) (by rfl) (by rfl) (by rfl) (fun _ _ _ _ h => h) (fun K hK => ?_); go_big_quiet_op; refine ⟨_, fun _ _ => rfl, ?_⟩; refine hK _ ?_; clear hK K; try simp only [Act.put, List.setIfInBounds_toArray, List.set_cons_zero, List.set_cons_succ]) | fail)
      have hf6 : Fr No wc.drew wc.drew := Fr.refl _ _
      replace hbr := hbr.drew
      (refine T_call (by rfl) (by rfl) (fun K hK => ?_))
      refine wp_stA ag_head.info _ _ rfl (w.heap.size + 1) 0 _ _ [.int .i64 life, .int .i64 half, .int .i64 first, .int .i64 since] _ rfl rfl rfl rfl (by intro u hu; simp at hu; rcases hu with rfl | rfl | rfl | rfl <;> rfl) hbr (by decide) ?_
      intro w7 hb7 hg7 hz7
      rw [splice_all _ _ (by rfl)] at hb7
      (refine hK.out _ _ ((Fr.refl _ _).grown hg7 (fun q hq => by injection hq with hq; exact .inr hq.symm)) ?_; clear hK K; try simp only [Act.put, List.setIfInBounds_toArray, List.set_cons_zero, List.set_cons_succ])
      repeat (first | (refine T_skip (by rfl) (by rfl) (fun _ _ _ h => h) ?_; try simp only [Act.put, List.setIfInBounds_toArray, List.set_cons_zero, List.set_cons_succ]) | (refine T_pass (by rfl) (by rfl) ?_; try simp only [Act.put, List.setIfInBounds_toArray, List.set_cons_zero, List.set_cons_succ]) | (refine T_load (by assumption) (by rfl) (by rfl) (fun _ _ _ _ h => h) rfl rfl (by assumption) (by first | exact (fun hn => hn) | assumption) ?_; try simp only [Act.put, List.setIfInBounds_toArray, List.set_cons_zero, List.set_cons_succ]) | (refine T_nil (by rfl) (by rfl) (fun _ _ _ _ h => h) rfl rfl ?_; try simp only [Act.put, List.setIfInBounds_toArray, List.set_cons_zero, List.set_cons_succ]) | (refine T_quietN (by rfl) (by rfl) (by rfl) (by rfl) (fun _ _ _ _ h => h) (fun K hK => ?_); go_big_quiet_op; refine hK _ ?_; clear hK K) | (refine T_two (by rfl) (by rfl) (by rfl) (by rfl) (fun _ _ _ _ h => h) (fun K hK => ?_); go_big_quiet_op; refine ⟨_, fun _ _ => rfl, ?_⟩; refine hK _ ?_; clear hK K; try simp only [Act.put, List.setIfInBounds_toArray, List.set_cons_zero, List.set_cons_succ]) | fail)
      refine T_done ?_
      go_wp2_with fail
      refine bodyPost_ret (results_blk2 ag_head rfl _ _ _ _ _ _ rfl rfl hb7 rfl) rfl ⟨by simp only [hb1, hb2, hb3, HD.out, Bool.true_and, Bool.and_true, Bool.false_and, Bool.and_false]; rfl, (hF.tr ((Fr.refl No wc).drew.tr hf6)).grown hg7 (fun q hq => by injection hq with hq; exact .inl (by omega))⟩
end Go.Proofs.YtannkgglgmbkdaaDoor
