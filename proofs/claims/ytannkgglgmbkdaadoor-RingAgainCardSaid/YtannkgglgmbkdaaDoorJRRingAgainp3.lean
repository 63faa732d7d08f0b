/- ring.headOf in full. No condition. ring.safely, lay, Format. No condition but size. -/
import Derived.Test.YtannkgglgmbkdaaDoorJRRingAgainp2
import Derived.ArgAppend
namespace Go.Proofs.YtannkgglgmbkdaaDoor
set_option linter.unusedVariables false
set_option linter.unusedSimpArgs false
open Go.RowKit

/-- A sector as a head. -/
def subB (s : Sec) (o n : Nat) : List UInt8 := (s.drop o).take n
def getH (s : Sec) : HeadM := ⟨getN (subB s 8 6), ((s.getD 14 0).toNat : Int), getN (subB s 15 6), getN (subB s 21 6)⟩
def headOk (s : Sec) : Bool := goodB (getH s).life && goodB (getH s).first && goodB (getH s).since && decide ((getH s).half ≤ 1) && (headB (getH s) == s)
def headV (h : HeadM) : Value := .agg #[.int .i64 h.life, .int .i64 h.half, .int .i64 h.first, .int .i64 h.since]
theorem get_at (w : World) (g : Nat) (t : TypeId) (s : List UInt8) (o n c : Nat) (hb : Blk w g t (U8 s).toArray) (ho : o + n ≤ s.length) (hn : n ≤ 7) :
    Calls Tryd.prog 48 #[.slice (some ⟨g, o, none⟩) n c] w fun e w' => e = .returned (.int .i64 (getN (subB s o n))) ∧ w' = w := by
  have hl : (subB s o n).length = n := by unfold subB; rw [List.length_take, List.length_drop]; omega
  have hrd : RdB w (fun b => b = g) (some ⟨g, o, none⟩) (subB s o n) := by
    refine ⟨by rw [U8_length]; omega, by omega, fun _ => ⟨_, rfl, rfl, hb.cells o _ (fun j u hu => ?_)⟩⟩
    rw [subB, U8_take, U8_drop, List.getElem?_take] at hu
    split at hu
    · rw [List.getElem?_drop] at hu
      simpa using hu
    · cases hu
  have := get_calls _ _ c _ w hrd (by omega)
  rw [hl] at this
  exact this
theorem ag_head : AggOf Tryd.prog 63 4 := ⟨⟨_, Tryd.underlying63, rfl⟩, by kernel_rfl⟩
set_option maxRecDepth 100000 in
theorem run_eq_sec4 (w : World) (xs ys : Sec) (hx : xs.length = 128) (hy : ys.length = 128) : (binOp .eql tSec (.agg (U8 xs).toArray) (.agg (U8 ys).toArray)).run Tryd.prog w = .ok (.bool (xs == ys)) w := by
  have h := run_equalIn_bytes (P := Tryd.prog) w 9998 tSec 5 128 Tryd.underlying61 Tryd.underlying5 (fun w => by unfold sizeOf typeInfo; rfl) xs ys hx hy
  rw [run_eql_struct]
  unfold U8
  have e : (fun b : UInt8 => Value.int .u8 (b.toNat : Int)) = Extern.Stop.cell := rfl
  rw [e, h]
  rfl
theorem T_u8i {S : Nat → Prop} {ops : Array Oper} {Q : Exit → Go.Act → World → Prop} {ms : List Nat} {ord calls : List Nat} {k : Nat} {l : List Oper} {o : Oper} {a : Go.Act} {w : World} {n : Int} (h0 : 0 ≤ n) (h1 : n ≤ 255)
    (hc : calls.contains (ord.getD k 0) = false) (hw : Region.wanted o (yielded ops a.tmps) = true) (hQ : ∀ v c a w, Q (.panic c) (a.put o.dst v) w → Q (.panic c) a w)
    {x : Operand} (ho : o.op = .convert 5 3 x) (hx : a.eval x = .int .u8 n)
    (h : wpT Tryd.prog S ops Q ms ord calls (k + 1) l (a.put o.dst (.int .i64 n)) w) (hxm : calls.contains (ord.getD k 0 + 1000) = false := by rfl) : wpT Tryd.prog S ops Q ms ord calls k (o :: l) a w := by
  refine T_take hc hw (hQ _) (fun w' hf => ?_) h hxm
  have hwr : IntKind.i64.wrap n = n := by rw [IntKind.wrap_i64]; omega
  unfold execOp
  simp [ho, hx, convert, run_underlying Tryd.underlying5, run_underlying Tryd.underlying3, Conv.intToInt, hwr]
theorem eg_sec4 : Tryd.prog.eqGuardType Tryd.prog.depth tSec = false := by kernel_rfl
theorem T_eqSec4 {S : Nat → Prop} {ops : Array Oper} {Q : Exit → Act → World → Prop} {ms : List Nat} {ord calls : List Nat} {k : Nat} {l : List Oper} {o : Oper} {a : Act} {w : World} {xs ys : Sec} (hlx : xs.length = 128) (hly : ys.length = 128) {x y : Operand} {ty : TypeId}
    (hc : calls.contains (ord.getD k 0) = false) (hw : Region.wanted o (yielded ops a.tmps) = true) (hQ : ∀ v c a w, Q (.panic c) (a.put o.dst v) w → Q (.panic c) a w)
    (ho : o.op = .binOp .eql tSec x y ty) (hx : a.eval x = .agg (U8 xs).toArray) (hy : a.eval y = .agg (U8 ys).toArray)
    (h : wpT Tryd.prog S ops Q ms ord calls (k + 1) l (a.put o.dst (.bool (xs == ys))) w) (hxm : calls.contains (ord.getD k 0 + 1000) = false := by rfl) : wpT Tryd.prog S ops Q ms ord calls k (o :: l) a w := by
  refine T_take hc hw (hQ _) (fun w' hf => ?_) h hxm
  unfold execOp
  simp only [ho, hx, hy, Sem.run_bind, run_eqGuard_agg w' .eql tSec x y (U8 xs).toArray (U8 ys).toArray eg_sec4, Result.andThen_ok, run_eq_sec4 w' xs ys hlx hly, Sem.run_pure]
set_option maxHeartbeats 8000000 in
set_option maxRecDepth 100000 in
theorem headOf_calls (w : World) (s : Sec) (hs : s.length = 128) :
    Calls Tryd.prog 47 #[.agg (U8 s).toArray] w fun e w' => e = .returned (.tuple #[headV (getH s), .bool (headOk s)]) ∧ Fr No w w' := by
  have g1 : ∀ w, (isAgg 2).run Tryd.prog w = .ok false w := plain_of Tryd.underlying2 rfl
  have g2 := plain_int
  have g3 : ∀ w, (isAgg 5).run Tryd.prog w = .ok false w := plain_of Tryd.underlying5 rfl
  have hg8 : ∀ (w : World) (g : Nat), Blk w g tSec (U8 s).toArray → Calls Tryd.prog 48 #[.slice (some ⟨g, 8, none⟩) 6 120] w fun e w' => e = .returned (.int .i64 (getH s).life) ∧ w' = w := fun w g hb => get_at w g _ s 8 6 120 hb (by omega) (by decide)
  have hg15 : ∀ (w : World) (g : Nat), Blk w g tSec (U8 s).toArray → Calls Tryd.prog 48 #[.slice (some ⟨g, 15, none⟩) 6 113] w fun e w' => e = .returned (.int .i64 (getH s).first) ∧ w' = w := fun w g hb => get_at w g _ s 15 6 113 hb (by omega) (by decide)
  have hg21 : ∀ (w : World) (g : Nat), Blk w g tSec (U8 s).toArray → Calls Tryd.prog 48 #[.slice (some ⟨g, 21, none⟩) 6 107] w fun e w' => e = .returned (.int .i64 (getH s).since) ∧ w' = w := fun w g hb => get_at w g _ s 21 6 107 hb (by omega) (by decide)
  have hc14 : ∀ (w : World) (g : Nat), Blk w g tSec (U8 s).toArray → w.cell? ⟨g, 14, none⟩ = some (.int .u8 (getH s).half) := fun w g hb => by
    rw [hb.cell, List.getElem?_toArray, U8_get s 14 (by omega)]
    show _ = some (Value.int .u8 ((s.getD 14 0).toNat : Int))
    rw [List.getD_eq_getElem?_getD, List.getElem?_eq_getElem (by omega)]
    rfl
  have hhd : ∀ w, Calls Tryd.prog 29 #[headV (getH s)] w fun e w' => e = .returned (.agg (U8 (headB (getH s))).toArray) ∧ Fr No w w' := fun w => head_calls w (getH s)
  have hhr : 0 ≤ (getH s).half ∧ (getH s).half ≤ 255 := by
    show 0 ≤ ((s.getD 14 0).toNat : Int) ∧ ((s.getD 14 0).toNat : Int) ≤ 255
    have := (s.getD 14 0).toNat_lt
    omega
  have HOK : headOk s = (goodB (getH s).life && goodB (getH s).first && goodB (getH s).since && decide ((getH s).half ≤ 1) && (headB (getH s) == s)) := rfl
  have hlb := headB_len (getH s)
  rw [HOK]
  clear HOK
  unfold headV at hhd ⊢
  have hls : (U8 s).length = 128 := by rw [U8_length]; exact hs
  generalize headB (getH s) = hB at *
  generalize (getH s).life = life at *
  generalize (getH s).half = half at *
  generalize (getH s).first = first at *
  generalize (getH s).since = since at *
  go_enter Tryd.func47, Tryd.ntmps47
  go_upto_region 1 with (first
    | (refine wpList_allocA zero_sec rfl rfl ?_)
    | fail)
  have hbs1 : Blk ((w.alloc (.cells (U8 s).toArray tSec)).alloc (.cells #[.int .i64 0, .int .i64 0, .int .i64 0, .int .i64 0] 63)) w.heap.size tSec (U8 s).toArray := (Blk.new w _ _).alloc _
  have hbr1 : Blk ((w.alloc (.cells (U8 s).toArray tSec)).alloc (.cells #[.int .i64 0, .int .i64 0, .int .i64 0, .int .i64 0] 63)) (w.heap.size + 1) 63 #[.int .i64 0, .int .i64 0, .int .i64 0, .int .i64 0] := Blk.newAt (by simp)
  have hf1 : Fr No w ((w.alloc (.cells (U8 s).toArray tSec)).alloc (.cells #[.int .i64 0, .int .i64 0, .int .i64 0, .int .i64 0] 63)) := ((Fr.refl No w).alloc _).alloc _
  have hz1 : ((w.alloc (.cells (U8 s).toArray tSec)).alloc (.cells #[.int .i64 0, .int .i64 0, .int .i64 0, .int .i64 0] 63)).heap.size = w.heap.size + 2 := by simp
  have e1 : (w.alloc (.cells (U8 s).toArray tSec)).heap.size = w.heap.size + 1 := by simp
  try simp only [Act.put, List.setIfInBounds_toArray, List.set_cons_zero, List.set_cons_succ]
  try rw [e1]
  clear e1
  generalize hwg : (w.alloc (.cells (U8 s).toArray tSec)).alloc (.cells #[.int .i64 0, .int .i64 0, .int .i64 0, .int .i64 0] 63) = wm at *
  clear hwg
  go_cut [4] (fun s4 wx => ∃ b4, s4 = .pointer (some ⟨b4, 0, none⟩) ∧ w.heap.size + 2 ≤ b4 ∧ Blk wx b4 63 #[.int .i64 life, .int .i64 half, .int .i64 first, .int .i64 since] ∧ Fr No wm wx)
  case first =>
    refine T_begin2 No [11] [0, 2, 3, 4, 5, 7, 1, 6, 8, 9, 10, 11] [1, 6, 8, 10, 11, 1001, 1006, 1008] (by kernel_rfl) (by kernel_rfl) ?_
    simp only [pickOps, List.filterMap_cons, List.filterMap_nil, List.getElem?_cons_zero, List.getElem?_cons_succ, Act.put]
    obtain ⟨w2, hw2⟩ : ∃ w2, w2 = wm.drew := ⟨_, rfl⟩
    have hz2 : w2.heap.size = wm.heap.size := by rw [hw2]; rfl
    have hbs2 := hbs1.drew
    rw [← hw2] at hbs2 ⊢
    have hc14b := hc14 _ _ hbs2
    have hfw : Fr No wm w2 := by rw [hw2]; exact (Fr.refl No wm).drew
    have hz9 : w.heap.size + 2 ≤ w2.heap.size := by rw [hz2, hz1]; exact Nat.le_refl _
    clear hw2 hz2 hz1
    (first | (refine T_skip (by rfl) (by rfl) (fun _ _ _ h => h) ?_; try simp only [Act.put, List.setIfInBounds_toArray, List.set_cons_zero, List.set_cons_succ]) | (refine T_pass (by rfl) (by rfl) ?_; try simp only [Act.put, List.setIfInBounds_toArray, List.set_cons_zero, List.set_cons_succ]) | (refine T_load (by assumption) (by rfl) (by rfl) (fun _ _ _ _ h => h) rfl rfl (by assumption) (by first | exact (fun hn => hn) | assumption) ?_; try simp only [Act.put, List.setIfInBounds_toArray, List.set_cons_zero, List.set_cons_succ]) | (refine T_nil (by rfl) (by rfl) (fun _ _ _ _ h => h) rfl rfl ?_; try simp only [Act.put, List.setIfInBounds_toArray, List.set_cons_zero, List.set_cons_succ]) | (refine T_quietN (by rfl) (by rfl) (by rfl) (by rfl) (fun _ _ _ _ h => h) (fun K hK => ?_); go_big_quiet_op; refine hK _ ?_; clear hK K) | (refine T_two (by rfl) (by rfl) (by rfl) (by rfl) (fun _ _ _ _ h => h) (fun K hK => ?_); go_big_quiet_op; refine ⟨_, fun _ _ => rfl, ?_⟩; refine hK _ ?_; clear hK K; try simp only [Act.put, List.setIfInBounds_toArray, List.set_cons_zero, List.set_cons_succ]) | fail)
    (first | (refine T_skip (by rfl) (by rfl) (fun _ _ _ h => h) ?_; try simp only [Act.put, List.setIfInBounds_toArray, List.set_cons_zero, List.set_cons_succ]) | (refine T_pass (by rfl) (by rfl) ?_; try simp only [Act.put, List.setIfInBounds_toArray, List.set_cons_zero, List.set_cons_succ]) | (refine T_load (by assumption) (by rfl) (by rfl) (fun _ _ _ _ h => h) rfl rfl (by assumption) (by first | exact (fun hn => hn) | assumption) ?_; try simp only [Act.put, List.setIfInBounds_toArray, List.set_cons_zero, List.set_cons_succ]) | (refine T_nil (by rfl) (by rfl) (fun _ _ _ _ h => h) rfl rfl ?_; try simp only [Act.put, List.setIfInBounds_toArray, List.set_cons_zero, List.set_cons_succ]) | (refine T_quietN (by rfl) (by rfl) (by rfl) (by rfl) (fun _ _ _ _ h => h) (fun K hK => ?_); go_big_quiet_op; refine hK _ ?_; clear hK K) | (refine T_two (by rfl) (by rfl) (by rfl) (by rfl) (fun _ _ _ _ h => h) (fun K hK => ?_); go_big_quiet_op; refine ⟨_, fun _ _ => rfl, ?_⟩; refine hK _ ?_; clear hK K; try simp only [Act.put, List.setIfInBounds_toArray, List.set_cons_zero, List.set_cons_succ]) | fail)
    (first | (refine T_skip (by rfl) (by rfl) (fun _ _ _ h => h) ?_; try simp only [Act.put, List.setIfInBounds_toArray, List.set_cons_zero, List.set_cons_succ]) | (refine T_pass (by rfl) (by rfl) ?_; try simp only [Act.put, List.setIfInBounds_toArray, List.set_cons_zero, List.set_cons_succ]) | (refine T_load (by assumption) (by rfl) (by rfl) (fun _ _ _ _ h => h) rfl rfl (by assumption) (by first | exact (fun hn => hn) | assumption) ?_; try simp only [Act.put, List.setIfInBounds_toArray, List.set_cons_zero, List.set_cons_succ]) | (refine T_nil (by rfl) (by rfl) (fun _ _ _ _ h => h) rfl rfl ?_; try simp only [Act.put, List.setIfInBounds_toArray, List.set_cons_zero, List.set_cons_succ]) | (refine T_quietN (by rfl) (by rfl) (by rfl) (by rfl) (fun _ _ _ _ h => h) (fun K hK => ?_); go_big_quiet_op; refine hK _ ?_; clear hK K) | (refine T_two (by rfl) (by rfl) (by rfl) (by rfl) (fun _ _ _ _ h => h) (fun K hK => ?_); go_big_quiet_op; refine ⟨_, fun _ _ => rfl, ?_⟩; refine hK _ ?_; clear hK K; try simp only [Act.put, List.setIfInBounds_toArray, List.set_cons_zero, List.set_cons_succ]) | fail)
    (refine T_u8i hhr.1 hhr.2 (by rfl) (by rfl) (fun _ _ _ _ h => h) rfl rfl ?_; try simp only [Act.put, List.setIfInBounds_toArray, List.set_cons_zero, List.set_cons_succ])
    (first | (refine T_skip (by rfl) (by rfl) (fun _ _ _ h => h) ?_; try simp only [Act.put, List.setIfInBounds_toArray, List.set_cons_zero, List.set_cons_succ]) | (refine T_pass (by rfl) (by rfl) ?_; try simp only [Act.put, List.setIfInBounds_toArray, List.set_cons_zero, List.set_cons_succ]) | (refine T_load (by assumption) (by rfl) (by rfl) (fun _ _ _ _ h => h) rfl rfl (by assumption) (by first | exact (fun hn => hn) | assumption) ?_; try simp only [Act.put, List.setIfInBounds_toArray, List.set_cons_zero, List.set_cons_succ]) | (refine T_nil (by rfl) (by rfl) (fun _ _ _ _ h => h) rfl rfl ?_; try simp only [Act.put, List.setIfInBounds_toArray, List.set_cons_zero, List.set_cons_succ]) | (refine T_quietN (by rfl) (by rfl) (by rfl) (by rfl) (fun _ _ _ _ h => h) (fun K hK => ?_); go_big_quiet_op; refine hK _ ?_; clear hK K) | (refine T_two (by rfl) (by rfl) (by rfl) (by rfl) (fun _ _ _ _ h => h) (fun K hK => ?_); go_big_quiet_op; refine ⟨_, fun _ _ => rfl, ?_⟩; refine hK _ ?_; clear hK K; try simp only [Act.put, List.setIfInBounds_toArray, List.set_cons_zero, List.set_cons_succ]) | fail)
    (first | (refine T_skip (by rfl) (by rfl) (fun _ _ _ h => h) ?_; try simp only [Act.put, List.setIfInBounds_toArray, List.set_cons_zero, List.set_cons_succ]) | (refine T_pass (by rfl) (by rfl) ?_; try simp only [Act.put, List.setIfInBounds_toArray, List.set_cons_zero, List.set_cons_succ]) | (refine T_load (by assumption) (by rfl) (by rfl) (fun _ _ _ _ h => h) rfl rfl (by assumption) (by first | exact (fun hn => hn) | assumption) ?_; try simp only [Act.put, List.setIfInBounds_toArray, List.set_cons_zero, List.set_cons_succ]) | (refine T_nil (by rfl) (by rfl) (fun _ _ _ _ h => h) rfl rfl ?_; try simp only [Act.put, List.setIfInBounds_toArray, List.set_cons_zero, List.set_cons_succ]) | (refine T_quietN (by rfl) (by rfl) (by rfl) (by rfl) (fun _ _ _ _ h => h) (fun K hK => ?_); go_big_quiet_op; refine hK _ ?_; clear hK K) | (refine T_two (by rfl) (by rfl) (by rfl) (by rfl) (fun _ _ _ _ h => h) (fun K hK => ?_); go_big_quiet_op; refine ⟨_, fun _ _ => rfl, ?_⟩; refine hK _ ?_; clear hK K; try simp only [Act.put, List.setIfInBounds_toArray, List.set_cons_zero, List.set_cons_succ]) | fail)
    refine T_fork (ord2 := [0, 2, 3, 4, 5, 7, 10, 1, 6, 8, 9, 11]) (calls2 := [1, 6, 8, 10, 11, 1010]) (i := 1) (j := 10) (by kernel_rfl) rfl rfl rfl (by kernel_rfl) rfl rfl rfl (by rfl) (by rfl) (fun K hK => ?_) (fun K hK => ?_)
    · go_wp2_with fail
      refine (hg8 _ _ hbs2).mono ?_
      rintro e wx ⟨rfl, hwx⟩
      replace hwx := hwx.symm
      subst hwx
      go_wp2_with fail
      (refine hK.out _ _ ((Fr.refl _ _)) ?_; clear hK K; try simp only [Act.put, List.setIfInBounds_toArray, List.set_cons_zero, List.set_cons_succ])
      refine T_fork (ord2 := [0, 2, 3, 4, 5, 7, 1, 10, 6, 8, 9, 11]) (calls2 := [1, 6, 8, 10, 11, 1001, 1010]) (i := 6) (j := 10) (by kernel_rfl) rfl rfl rfl (by kernel_rfl) rfl rfl rfl (by rfl) (by rfl) (fun K hK => ?_) (fun K hK => ?_)
      · go_wp2_with fail
        refine (hg15 _ _ hbs2).mono ?_
        rintro e wx ⟨rfl, hwx⟩
        replace hwx := hwx.symm
        subst hwx
        go_wp2_with fail
        (refine hK.out _ _ ((Fr.refl _ _)) ?_; clear hK K; try simp only [Act.put, List.setIfInBounds_toArray, List.set_cons_zero, List.set_cons_succ])
        refine T_fork (ord2 := [0, 2, 3, 4, 5, 7, 1, 6, 10, 8, 9, 11]) (calls2 := [1, 6, 8, 10, 11, 1001, 1006, 1010]) (i := 8) (j := 10) (by kernel_rfl) rfl rfl rfl (by kernel_rfl) rfl rfl rfl (by rfl) (by rfl) (fun K hK => ?_) (fun K hK => ?_)
        · go_wp2_with fail
          refine (hg21 _ _ hbs2).mono ?_
          rintro e wx ⟨rfl, hwx⟩
          replace hwx := hwx.symm
          subst hwx
          go_wp2_with fail
          (refine hK.out _ _ ((Fr.refl _ _)) ?_; clear hK K; try simp only [Act.put, List.setIfInBounds_toArray, List.set_cons_zero, List.set_cons_succ])
          (first | (refine T_skip (by rfl) (by rfl) (fun _ _ _ h => h) ?_; try simp only [Act.put, List.setIfInBounds_toArray, List.set_cons_zero, List.set_cons_succ]) | (refine T_pass (by rfl) (by rfl) ?_; try simp only [Act.put, List.setIfInBounds_toArray, List.set_cons_zero, List.set_cons_succ]) | (refine T_load (by assumption) (by rfl) (by rfl) (fun _ _ _ _ h => h) rfl rfl (by assumption) (by first | exact (fun hn => hn) | assumption) ?_; try simp only [Act.put, List.setIfInBounds_toArray, List.set_cons_zero, List.set_cons_succ]) | (refine T_nil (by rfl) (by rfl) (fun _ _ _ _ h => h) rfl rfl ?_; try simp only [Act.put, List.setIfInBounds_toArray, List.set_cons_zero, List.set_cons_succ]) | (refine T_quietN (by rfl) (by rfl) (by rfl) (by rfl) (fun _ _ _ _ h => h) (fun K hK => ?_); go_big_quiet_op; refine hK _ ?_; clear hK K) | (refine T_two (by rfl) (by rfl) (by rfl) (by rfl) (fun _ _ _ _ h => h) (fun K hK => ?_); go_big_quiet_op; refine ⟨_, fun _ _ => rfl, ?_⟩; refine hK _ ?_; clear hK K; try simp only [Act.put, List.setIfInBounds_toArray, List.set_cons_zero, List.set_cons_succ]) | fail)
          refine T_call (by rfl) (by rfl) (fun K hK => ?_)
          go_wp2_with fail
          (refine hK.out _ _ (((Fr.refl _ _).alloc _)) ?_; clear hK K; try simp only [Act.put, List.setIfInBounds_toArray, List.set_cons_zero, List.set_cons_succ])
          refine T_turn No [] (by rfl) (by rfl) (by rfl) (fun K hK => ?_)
          refine wp_stA ag_head.info _ _ rfl w2.heap.size 0 _ _ [.int .i64 life, .int .i64 half, .int .i64 first, .int .i64 since] _ rfl rfl rfl rfl (by intro u hu; simp at hu; rcases hu with rfl | rfl | rfl | rfl <;> rfl) (Blk.new w2 _ _) (by decide) ?_
          intro w3 hb3 hg3 hz3
          rw [splice_all _ _ (by rfl)] at hb3
          refine hK.out _ _ ?_
          clear hK K
          try simp only [Act.put, List.setIfInBounds_toArray, List.set_cons_zero, List.set_cons_succ]
          refine T_done ?_
          go_wp2_with fail
          go_meet
          case rel =>
            refine ⟨_, rfl, hz9, hb3, (hfw.alloc _).grown hg3 (fun q hq => by injection hq with hq; exact .inl (by rw [← hq]; exact hfw.size))⟩
        · go_wp2_with fail
          (refine hK.out _ _ (((Fr.refl _ _).alloc _)) ?_; clear hK K; try simp only [Act.put, List.setIfInBounds_toArray, List.set_cons_zero, List.set_cons_succ])
          refine T_call (by rfl) (by rfl) (fun K hK => ?_)
          go_wp2_with fail
          refine (hg21 _ _ (hbs2.alloc _)).mono ?_
          rintro e wx ⟨rfl, hwx⟩
          replace hwx := hwx.symm
          subst hwx
          go_wp2_with fail
          (refine hK.out _ _ ((Fr.refl _ _)) ?_; clear hK K; try simp only [Act.put, List.setIfInBounds_toArray, List.set_cons_zero, List.set_cons_succ])
          (first | (refine T_skip (by rfl) (by rfl) (fun _ _ _ h => h) ?_; try simp only [Act.put, List.setIfInBounds_toArray, List.set_cons_zero, List.set_cons_succ]) | (refine T_pass (by rfl) (by rfl) ?_; try simp only [Act.put, List.setIfInBounds_toArray, List.set_cons_zero, List.set_cons_succ]) | (refine T_load (by assumption) (by rfl) (by rfl) (fun _ _ _ _ h => h) rfl rfl (by assumption) (by first | exact (fun hn => hn) | assumption) ?_; try simp only [Act.put, List.setIfInBounds_toArray, List.set_cons_zero, List.set_cons_succ]) | (refine T_nil (by rfl) (by rfl) (fun _ _ _ _ h => h) rfl rfl ?_; try simp only [Act.put, List.setIfInBounds_toArray, List.set_cons_zero, List.set_cons_succ]) | (refine T_quietN (by rfl) (by rfl) (by rfl) (by rfl) (fun _ _ _ _ h => h) (fun K hK => ?_); go_big_quiet_op; refine hK _ ?_; clear hK K) | (refine T_two (by rfl) (by rfl) (by rfl) (by rfl) (fun _ _ _ _ h => h) (fun K hK => ?_); go_big_quiet_op; refine ⟨_, fun _ _ => rfl, ?_⟩; refine hK _ ?_; clear hK K; try simp only [Act.put, List.setIfInBounds_toArray, List.set_cons_zero, List.set_cons_succ]) | fail)
          refine T_turn No [] (by rfl) (by rfl) (by rfl) (fun K hK => ?_)
          refine wp_stA ag_head.info _ _ rfl w2.heap.size 0 _ _ [.int .i64 life, .int .i64 half, .int .i64 first, .int .i64 since] _ rfl rfl rfl rfl (by intro u hu; simp at hu; rcases hu with rfl | rfl | rfl | rfl <;> rfl) (Blk.new w2 _ _) (by decide) ?_
          intro w3 hb3 hg3 hz3
          rw [splice_all _ _ (by rfl)] at hb3
          refine hK.out _ _ ?_
          clear hK K
          try simp only [Act.put, List.setIfInBounds_toArray, List.set_cons_zero, List.set_cons_succ]
          refine T_done ?_
          go_wp2_with fail
          go_meet
          case rel =>
            refine ⟨_, rfl, hz9, hb3, (hfw.alloc _).grown hg3 (fun q hq => by injection hq with hq; exact .inl (by rw [← hq]; exact hfw.size))⟩
      · go_wp2_with fail
        (refine hK.out _ _ (((Fr.refl _ _).alloc _)) ?_; clear hK K; try simp only [Act.put, List.setIfInBounds_toArray, List.set_cons_zero, List.set_cons_succ])
        refine T_call (by rfl) (by rfl) (fun K hK => ?_)
        go_wp2_with fail
        refine (hg15 _ _ (hbs2.alloc _)).mono ?_
        rintro e wx ⟨rfl, hwx⟩
        replace hwx := hwx.symm
        subst hwx
        go_wp2_with fail
        (refine hK.out _ _ ((Fr.refl _ _)) ?_; clear hK K; try simp only [Act.put, List.setIfInBounds_toArray, List.set_cons_zero, List.set_cons_succ])
        refine T_call (by rfl) (by rfl) (fun K hK => ?_)
        go_wp2_with fail
        refine (hg21 _ _ (hbs2.alloc _)).mono ?_
        rintro e wx ⟨rfl, hwx⟩
        replace hwx := hwx.symm
        subst hwx
        go_wp2_with fail
        (refine hK.out _ _ ((Fr.refl _ _)) ?_; clear hK K; try simp only [Act.put, List.setIfInBounds_toArray, List.set_cons_zero, List.set_cons_succ])
        (first | (refine T_skip (by rfl) (by rfl) (fun _ _ _ h => h) ?_; try simp only [Act.put, List.setIfInBounds_toArray, List.set_cons_zero, List.set_cons_succ]) | (refine T_pass (by rfl) (by rfl) ?_; try simp only [Act.put, List.setIfInBounds_toArray, List.set_cons_zero, List.set_cons_succ]) | (refine T_load (by assumption) (by rfl) (by rfl) (fun _ _ _ _ h => h) rfl rfl (by assumption) (by first | exact (fun hn => hn) | assumption) ?_; try simp only [Act.put, List.setIfInBounds_toArray, List.set_cons_zero, List.set_cons_succ]) | (refine T_nil (by rfl) (by rfl) (fun _ _ _ _ h => h) rfl rfl ?_; try simp only [Act.put, List.setIfInBounds_toArray, List.set_cons_zero, List.set_cons_succ]) | (refine T_quietN (by rfl) (by rfl) (by rfl) (by rfl) (fun _ _ _ _ h => h) (fun K hK => ?_); go_big_quiet_op; refine hK _ ?_; clear hK K) | (refine T_two (by rfl) (by rfl) (by rfl) (by rfl) (fun _ _ _ _ h => h) (fun K hK => ?_); go_big_quiet_op; refine ⟨_, fun _ _ => rfl, ?_⟩; refine hK _ ?_; clear hK K; try simp only [Act.put, List.setIfInBounds_toArray, List.set_cons_zero, List.set_cons_succ]) | fail)
        refine T_turn No [] (by rfl) (by rfl) (by rfl) (fun K hK => ?_)
        refine wp_stA ag_head.info _ _ rfl w2.heap.size 0 _ _ [.int .i64 life, .int .i64 half, .int .i64 first, .int .i64 since] _ rfl rfl rfl rfl (by intro u hu; simp at hu; rcases hu with rfl | rfl | rfl | rfl <;> rfl) (Blk.new w2 _ _) (by decide) ?_
        intro w3 hb3 hg3 hz3
        rw [splice_all _ _ (by rfl)] at hb3
        refine hK.out _ _ ?_
        clear hK K
        try simp only [Act.put, List.setIfInBounds_toArray, List.set_cons_zero, List.set_cons_succ]
        refine T_done ?_
        go_wp2_with fail
        go_meet
        case rel =>
          refine ⟨_, rfl, hz9, hb3, (hfw.alloc _).grown hg3 (fun q hq => by injection hq with hq; exact .inl (by rw [← hq]; exact hfw.size))⟩
    · go_wp2_with fail
      (refine hK.out _ _ (((Fr.refl _ _).alloc _)) ?_; clear hK K; try simp only [Act.put, List.setIfInBounds_toArray, List.set_cons_zero, List.set_cons_succ])
      refine T_call (by rfl) (by rfl) (fun K hK => ?_)
      go_wp2_with fail
      refine (hg8 _ _ (hbs2.alloc _)).mono ?_
      rintro e wx ⟨rfl, hwx⟩
      replace hwx := hwx.symm
      subst hwx
      go_wp2_with fail
      (refine hK.out _ _ ((Fr.refl _ _)) ?_; clear hK K; try simp only [Act.put, List.setIfInBounds_toArray, List.set_cons_zero, List.set_cons_succ])
      refine T_call (by rfl) (by rfl) (fun K hK => ?_)
      go_wp2_with fail
      refine (hg15 _ _ (hbs2.alloc _)).mono ?_
      rintro e wx ⟨rfl, hwx⟩
      replace hwx := hwx.symm
      subst hwx
      go_wp2_with fail
      (refine hK.out _ _ ((Fr.refl _ _)) ?_; clear hK K; try simp only [Act.put, List.setIfInBounds_toArray, List.set_cons_zero, List.set_cons_succ])
      refine T_call (by rfl) (by rfl) (fun K hK => ?_)
      go_wp2_with fail
      refine (hg21 _ _ (hbs2.alloc _)).mono ?_
      rintro e wx ⟨rfl, hwx⟩
      replace hwx := hwx.symm
      subst hwx
      go_wp2_with fail
      (refine hK.out _ _ ((Fr.refl _ _)) ?_; clear hK K; try simp only [Act.put, List.setIfInBounds_toArray, List.set_cons_zero, List.set_cons_succ])
      (first | (refine T_skip (by rfl) (by rfl) (fun _ _ _ h => h) ?_; try simp only [Act.put, List.setIfInBounds_toArray, List.set_cons_zero, List.set_cons_succ]) | (refine T_pass (by rfl) (by rfl) ?_; try simp only [Act.put, List.setIfInBounds_toArray, List.set_cons_zero, List.set_cons_succ]) | (refine T_load (by assumption) (by rfl) (by rfl) (fun _ _ _ _ h => h) rfl rfl (by assumption) (by first | exact (fun hn => hn) | assumption) ?_; try simp only [Act.put, List.setIfInBounds_toArray, List.set_cons_zero, List.set_cons_succ]) | (refine T_nil (by rfl) (by rfl) (fun _ _ _ _ h => h) rfl rfl ?_; try simp only [Act.put, List.setIfInBounds_toArray, List.set_cons_zero, List.set_cons_succ]) | (refine T_quietN (by rfl) (by rfl) (by rfl) (by rfl) (fun _ _ _ _ h => h) (fun K hK => ?_); go_big_quiet_op; refine hK _ ?_; clear hK K) | (refine T_two (by rfl) (by rfl) (by rfl) (by rfl) (fun _ _ _ _ h => h) (fun K hK => ?_); go_big_quiet_op; refine ⟨_, fun _ _ => rfl, ?_⟩; refine hK _ ?_; clear hK K; try simp only [Act.put, List.setIfInBounds_toArray, List.set_cons_zero, List.set_cons_succ]) | fail)
      refine T_turn No [] (by rfl) (by rfl) (by rfl) (fun K hK => ?_)
      refine wp_stA ag_head.info _ _ rfl w2.heap.size 0 _ _ [.int .i64 life, .int .i64 half, .int .i64 first, .int .i64 since] _ rfl rfl rfl rfl (by intro u hu; simp at hu; rcases hu with rfl | rfl | rfl | rfl <;> rfl) (Blk.new w2 _ _) (by decide) ?_
      intro w3 hb3 hg3 hz3
      rw [splice_all _ _ (by rfl)] at hb3
      refine hK.out _ _ ?_
      clear hK K
      try simp only [Act.put, List.setIfInBounds_toArray, List.set_cons_zero, List.set_cons_succ]
      refine T_done ?_
      go_wp2_with fail
      go_meet
      case rel =>
        refine ⟨_, rfl, hz9, hb3, (hfw.alloc _).grown hg3 (fun q hq => by injection hq with hq; exact .inl (by rw [← hq]; exact hfw.size))⟩
  case rest =>
    obtain ⟨b4, rfl, hb4, hbh, hfc⟩ := hcut
    have hbs := hbs1.fr0 hfc
    have hbr := hbr1.fr0 hfc
    have hneq1 : ¬ (w.heap.size = w.heap.size + 1) := by omega
    have hneq2 : ¬ (b4 = w.heap.size + 1) := by omega
    have hF := hf1.tr hfc
    clear hf1 hfc hbs1 hbr1 hg8 hg15 hg21 hc14 hz1 hb4
    (have y0 := hbh.cell 0; have y1 := hbh.cell 1; have y2 := hbh.cell 2; have y3 := hbh.cell 3; have yf0 := hbh.frozen 0; have yf1 := hbh.frozen 1; have yf2 := hbh.frozen 2; have yf3 := hbh.frozen 3; simp only [List.getElem?_toArray, List.getElem?_cons_zero, List.getElem?_cons_succ] at y0 y1 y2 y3)
    cases hb1 : goodB life
    · go_wp2_with fail
      (refine T_begin (fun b => b = w.heap.size + 1) [0, 1, 2, 3, 4, 5, 6, 7, 8, 9, 10, 11, 12, 13, 14, 15, 16, 17, 18, 19, 20, 22, 21, 23, 24, 25, 26] [3, 7, 12, 21, 25] (by kernel_rfl) (by kernel_rfl) ?_; simp only [pickOps, List.filterMap_cons, List.filterMap_nil, List.getElem?_cons_zero, List.getElem?_cons_succ, Act.put])
      (refine T_loadA (cs := [.int .i64 life, .int .i64 half, .int .i64 first, .int .i64 since]) ag_head (by rfl) (by rfl) (fun _ _ _ _ h => h) rfl rfl rfl hbh.all (fun hn => hneq2 hn) ?_; try simp only [Act.put, List.setIfInBounds_toArray, List.set_cons_zero, List.set_cons_succ])
      repeat (first | (refine T_skip (by rfl) (by rfl) (fun _ _ _ h => h) ?_; try simp only [Act.put, List.setIfInBounds_toArray, List.set_cons_zero, List.set_cons_succ]) | (refine T_pass (by rfl) (by rfl) ?_; try simp only [Act.put, List.setIfInBounds_toArray, List.set_cons_zero, List.set_cons_succ]) | (refine T_load (by assumption) (by rfl) (by rfl) (fun _ _ _ _ h => h) rfl rfl (by assumption) (by first | exact (fun hn => hn) | assumption) ?_; try simp only [Act.put, List.setIfInBounds_toArray, List.set_cons_zero, List.set_cons_succ]) | (refine T_nil (by rfl) (by rfl) (fun _ _ _ _ h => h) rfl rfl ?_; try simp only [Act.put, List.setIfInBounds_toArray, List.set_cons_zero, List.set_cons_succ]) | (refine T_quietN (by rfl) (by rfl) (by rfl) (by rfl) (fun _ _ _ _ h => h) (fun K hK => ?_); go_big_quiet_op; refine hK _ ?_; clear hK K) | (refine T_two (by rfl) (by rfl) (by rfl) (by rfl) (fun _ _ _ _ h => h) (fun K hK => ?_); go_big_quiet_op; refine ⟨_, fun _ _ => rfl, ?_⟩; refine hK _ ?_; clear hK K; try simp only [Act.put, List.setIfInBounds_toArray, List.set_cons_zero, List.set_cons_succ]) | fail)
      (refine T_call (by rfl) (by rfl) (fun K hK => ?_); go_wp2_with fail)
      refine (good_calls life _).mono ?_
      rintro e w5 ⟨rfl, hw5⟩
      replace hw5 := hw5.symm
      subst hw5
      rw [hb1]
      go_wp2_with fail
      (refine hK.out _ _ ((Fr.refl _ _)) ?_; clear hK K; try simp only [Act.put, List.setIfInBounds_toArray, List.set_cons_zero, List.set_cons_succ])
      repeat (first | (refine T_skip (by rfl) (by rfl) (fun _ _ _ h => h) ?_; try simp only [Act.put, List.setIfInBounds_toArray, List.set_cons_zero, List.set_cons_succ]) | (refine T_pass (by rfl) (by rfl) ?_; try simp only [Act.put, List.setIfInBounds_toArray, List.set_cons_zero, List.set_cons_succ]) | (refine T_load (by assumption) (by rfl) (by rfl) (fun _ _ _ _ h => h) rfl rfl (by assumption) (by first | exact (fun hn => hn) | assumption) ?_; try simp only [Act.put, List.setIfInBounds_toArray, List.set_cons_zero, List.set_cons_succ]) | (refine T_nil (by rfl) (by rfl) (fun _ _ _ _ h => h) rfl rfl ?_; try simp only [Act.put, List.setIfInBounds_toArray, List.set_cons_zero, List.set_cons_succ]) | (refine T_quietN (by rfl) (by rfl) (by rfl) (by rfl) (fun _ _ _ _ h => h) (fun K hK => ?_); go_big_quiet_op; refine hK _ ?_; clear hK K) | (refine T_two (by rfl) (by rfl) (by rfl) (by rfl) (fun _ _ _ _ h => h) (fun K hK => ?_); go_big_quiet_op; refine ⟨_, fun _ _ => rfl, ?_⟩; refine hK _ ?_; clear hK K; try simp only [Act.put, List.setIfInBounds_toArray, List.set_cons_zero, List.set_cons_succ]) | fail)
      have hf6 : Fr No wc.drew wc.drew := Fr.refl _ _
      replace hbr := hbr.drew
      (refine T_call (by rfl) (by rfl) (fun K hK => ?_))
      refine wp_stA ag_head.info _ _ rfl (w.heap.size + 1) 0 _ _ [.int .i64 life, .int .i64 half, .int .i64 first, .int .i64 since] _ rfl rfl rfl rfl (by intro u hu; simp at hu; rcases hu with rfl | rfl | rfl | rfl <;> rfl) hbr (by decide) ?_
      intro w7 hb7 hg7 hz7
      rw [splice_all _ _ (by rfl)] at hb7
      (refine hK.out _ _ ((Fr.refl _ _).grown hg7 (fun q hq => by injection hq with hq; exact .inr hq.symm)) ?_; clear hK K; try simp only [Act.put, List.setIfInBounds_toArray, List.set_cons_zero, List.set_cons_succ])
      repeat (first | (refine T_skip (by rfl) (by rfl) (fun _ _ _ h => h) ?_; try simp only [Act.put, List.setIfInBounds_toArray, List.set_cons_zero, List.set_cons_succ]) | (refine T_pass (by rfl) (by rfl) ?_; try simp only [Act.put, List.setIfInBounds_toArray, List.set_cons_zero, List.set_cons_succ]) | (refine T_load (by assumption) (by rfl) (by rfl) (fun _ _ _ _ h => h) rfl rfl (by assumption) (by first | exact (fun hn => hn) | assumption) ?_; try simp only [Act.put, List.setIfInBounds_toArray, List.set_cons_zero, List.set_cons_succ]) | (refine T_nil (by rfl) (by rfl) (fun _ _ _ _ h => h) rfl rfl ?_; try simp only [Act.put, List.setIfInBounds_toArray, List.set_cons_zero, List.set_cons_succ]) | (refine T_quietN (by rfl) (by rfl) (by rfl) (by rfl) (fun _ _ _ _ h => h) (fun K hK => ?_); go_big_quiet_op; refine hK _ ?_; clear hK K) | (refine T_two (by rfl) (by rfl) (by rfl) (by rfl) (fun _ _ _ _ h => h) (fun K hK => ?_); go_big_quiet_op; refine ⟨_, fun _ _ => rfl, ?_⟩; refine hK _ ?_; clear hK K; try simp only [Act.put, List.setIfInBounds_toArray, List.set_cons_zero, List.set_cons_succ]) | fail)
      refine T_done ?_
      go_wp2_with fail
      refine bodyPost_ret (results_blk2 ag_head rfl _ _ _ _ _ _ rfl rfl hb7 rfl) rfl ⟨by simp only [hb1, Bool.false_and, Bool.true_and, Bool.and_false]; rfl, (hF.tr ((Fr.refl No wc).drew.tr hf6)).grown hg7 (fun q hq => by injection hq with hq; exact .inl (by omega))⟩
    cases hb2 : goodB first
    · go_wp2_with fail
      (refine T_begin (fun b => b = w.heap.size + 1) [0, 1, 2, 3, 4, 5, 6, 7, 8, 9, 10, 11, 12, 13, 14, 15, 16, 17, 18, 19, 20, 22, 21, 23, 24, 25, 26] [3, 7, 12, 21, 25] (by kernel_rfl) (by kernel_rfl) ?_; simp only [pickOps, List.filterMap_cons, List.filterMap_nil, List.getElem?_cons_zero, List.getElem?_cons_succ, Act.put])
      (refine T_loadA (cs := [.int .i64 life, .int .i64 half, .int .i64 first, .int .i64 since]) ag_head (by rfl) (by rfl) (fun _ _ _ _ h => h) rfl rfl rfl hbh.all (fun hn => hneq2 hn) ?_; try simp only [Act.put, List.setIfInBounds_toArray, List.set_cons_zero, List.set_cons_succ])
      repeat (first | (refine T_skip (by rfl) (by rfl) (fun _ _ _ h => h) ?_; try simp only [Act.put, List.setIfInBounds_toArray, List.set_cons_zero, List.set_cons_succ]) | (refine T_pass (by rfl) (by rfl) ?_; try simp only [Act.put, List.setIfInBounds_toArray, List.set_cons_zero, List.set_cons_succ]) | (refine T_load (by assumption) (by rfl) (by rfl) (fun _ _ _ _ h => h) rfl rfl (by assumption) (by first | exact (fun hn => hn) | assumption) ?_; try simp only [Act.put, List.setIfInBounds_toArray, List.set_cons_zero, List.set_cons_succ]) | (refine T_nil (by rfl) (by rfl) (fun _ _ _ _ h => h) rfl rfl ?_; try simp only [Act.put, List.setIfInBounds_toArray, List.set_cons_zero, List.set_cons_succ]) | (refine T_quietN (by rfl) (by rfl) (by rfl) (by rfl) (fun _ _ _ _ h => h) (fun K hK => ?_); go_big_quiet_op; refine hK _ ?_; clear hK K) | (refine T_two (by rfl) (by rfl) (by rfl) (by rfl) (fun _ _ _ _ h => h) (fun K hK => ?_); go_big_quiet_op; refine ⟨_, fun _ _ => rfl, ?_⟩; refine hK _ ?_; clear hK K; try simp only [Act.put, List.setIfInBounds_toArray, List.set_cons_zero, List.set_cons_succ]) | fail)
      (refine T_call (by rfl) (by rfl) (fun K hK => ?_); go_wp2_with fail)
      refine (good_calls life _).mono ?_
      rintro e w5 ⟨rfl, hw5⟩
      replace hw5 := hw5.symm
      subst hw5
      rw [hb1]
      go_wp2_with fail
      (refine hK.out _ _ ((Fr.refl _ _)) ?_; clear hK K; try simp only [Act.put, List.setIfInBounds_toArray, List.set_cons_zero, List.set_cons_succ])
      repeat (first | (refine T_skip (by rfl) (by rfl) (fun _ _ _ h => h) ?_; try simp only [Act.put, List.setIfInBounds_toArray, List.set_cons_zero, List.set_cons_succ]) | (refine T_pass (by rfl) (by rfl) ?_; try simp only [Act.put, List.setIfInBounds_toArray, List.set_cons_zero, List.set_cons_succ]) | (refine T_load (by assumption) (by rfl) (by rfl) (fun _ _ _ _ h => h) rfl rfl (by assumption) (by first | exact (fun hn => hn) | assumption) ?_; try simp only [Act.put, List.setIfInBounds_toArray, List.set_cons_zero, List.set_cons_succ]) | (refine T_nil (by rfl) (by rfl) (fun _ _ _ _ h => h) rfl rfl ?_; try simp only [Act.put, List.setIfInBounds_toArray, List.set_cons_zero, List.set_cons_succ]) | (refine T_quietN (by rfl) (by rfl) (by rfl) (by rfl) (fun _ _ _ _ h => h) (fun K hK => ?_); go_big_quiet_op; refine hK _ ?_; clear hK K) | (refine T_two (by rfl) (by rfl) (by rfl) (by rfl) (fun _ _ _ _ h => h) (fun K hK => ?_); go_big_quiet_op; refine ⟨_, fun _ _ => rfl, ?_⟩; refine hK _ ?_; clear hK K; try simp only [Act.put, List.setIfInBounds_toArray, List.set_cons_zero, List.set_cons_succ]) | fail)
      (refine T_call (by rfl) (by rfl) (fun K hK => ?_); go_wp2_with fail)
      refine (good_calls first _).mono ?_
      rintro e w5 ⟨rfl, hw5⟩
      replace hw5 := hw5.symm
      subst hw5
      rw [hb2]
      go_wp2_with fail
      (refine hK.out _ _ ((Fr.refl _ _)) ?_; clear hK K; try simp only [Act.put, List.setIfInBounds_toArray, List.set_cons_zero, List.set_cons_succ])
      repeat (first | (refine T_skip (by rfl) (by rfl) (fun _ _ _ h => h) ?_; try simp only [Act.put, List.setIfInBounds_toArray, List.set_cons_zero, List.set_cons_succ]) | (refine T_pass (by rfl) (by rfl) ?_; try simp only [Act.put, List.setIfInBounds_toArray, List.set_cons_zero, List.set_cons_succ]) | (refine T_load (by assumption) (by rfl) (by rfl) (fun _ _ _ _ h => h) rfl rfl (by assumption) (by first | exact (fun hn => hn) | assumption) ?_; try simp only [Act.put, List.setIfInBounds_toArray, List.set_cons_zero, List.set_cons_succ]) | (refine T_nil (by rfl) (by rfl) (fun _ _ _ _ h => h) rfl rfl ?_; try simp only [Act.put, List.setIfInBounds_toArray, List.set_cons_zero, List.set_cons_succ]) | (refine T_quietN (by rfl) (by rfl) (by rfl) (by rfl) (fun _ _ _ _ h => h) (fun K hK => ?_); go_big_quiet_op; refine hK _ ?_; clear hK K) | (refine T_two (by rfl) (by rfl) (by rfl) (by rfl) (fun _ _ _ _ h => h) (fun K hK => ?_); go_big_quiet_op; refine ⟨_, fun _ _ => rfl, ?_⟩; refine hK _ ?_; clear hK K; try simp only [Act.put, List.setIfInBounds_toArray, List.set_cons_zero, List.set_cons_succ]) | fail)
      have hf6 : Fr No wc.drew wc.drew := Fr.refl _ _
      replace hbr := hbr.drew
      (refine T_call (by rfl) (by rfl) (fun K hK => ?_))
      refine wp_stA ag_head.info _ _ rfl (w.heap.size + 1) 0 _ _ [.int .i64 life, .int .i64 half, .int .i64 first, .int .i64 since] _ rfl rfl rfl rfl (by intro u hu; simp at hu; rcases hu with rfl | rfl | rfl | rfl <;> rfl) hbr (by decide) ?_
      intro w7 hb7 hg7 hz7
      rw [splice_all _ _ (by rfl)] at hb7
      (refine hK.out _ _ ((Fr.refl _ _).grown hg7 (fun q hq => by injection hq with hq; exact .inr hq.symm)) ?_; clear hK K; try simp only [Act.put, List.setIfInBounds_toArray, List.set_cons_zero, List.set_cons_succ])
      repeat (first | (refine T_skip (by rfl) (by rfl) (fun _ _ _ h => h) ?_; try simp only [Act.put, List.setIfInBounds_toArray, List.set_cons_zero, List.set_cons_succ]) | (refine T_pass (by rfl) (by rfl) ?_; try simp only [Act.put, List.setIfInBounds_toArray, List.set_cons_zero, List.set_cons_succ]) | (refine T_load (by assumption) (by rfl) (by rfl) (fun _ _ _ _ h => h) rfl rfl (by assumption) (by first | exact (fun hn => hn) | assumption) ?_; try simp only [Act.put, List.setIfInBounds_toArray, List.set_cons_zero, List.set_cons_succ]) | (refine T_nil (by rfl) (by rfl) (fun _ _ _ _ h => h) rfl rfl ?_; try simp only [Act.put, List.setIfInBounds_toArray, List.set_cons_zero, List.set_cons_succ]) | (refine T_quietN (by rfl) (by rfl) (by rfl) (by rfl) (fun _ _ _ _ h => h) (fun K hK => ?_); go_big_quiet_op; refine hK _ ?_; clear hK K) | (refine T_two (by rfl) (by rfl) (by rfl) (by rfl) (fun _ _ _ _ h => h) (fun K hK => ?_); go_big_quiet_op; refine ⟨_, fun _ _ => rfl, ?_⟩; refine hK _ ?_; clear hK K; try simp only [Act.put, List.setIfInBounds_toArray, List.set_cons_zero, List.set_cons_succ]) | fail)
      refine T_done ?_
      go_wp2_with fail
      refine bodyPost_ret (results_blk2 ag_head rfl _ _ _ _ _ _ rfl rfl hb7 rfl) rfl ⟨by simp only [hb1, hb2, Bool.false_and, Bool.true_and, Bool.and_false]; rfl, (hF.tr ((Fr.refl No wc).drew.tr hf6)).grown hg7 (fun q hq => by injection hq with hq; exact .inl (by omega))⟩
    cases hb3 : goodB since
    · go_wp2_with fail
      (refine T_begin (fun b => b = w.heap.size + 1) [0, 1, 2, 3, 4, 5, 6, 7, 8, 9, 10, 11, 12, 13, 14, 15, 16, 17, 18, 19, 20, 22, 21, 23, 24, 25, 26] [3, 7, 12, 21, 25] (by kernel_rfl) (by kernel_rfl) ?_; simp only [pickOps, List.filterMap_cons, List.filterMap_nil, List.getElem?_cons_zero, List.getElem?_cons_succ, Act.put])
      (refine T_loadA (cs := [.int .i64 life, .int .i64 half, .int .i64 first, .int .i64 since]) ag_head (by rfl) (by rfl) (fun _ _ _ _ h => h) rfl rfl rfl hbh.all (fun hn => hneq2 hn) ?_; try simp only [Act.put, List.setIfInBounds_toArray, List.set_cons_zero, List.set_cons_succ])
      repeat (first | (refine T_skip (by rfl) (by rfl) (fun _ _ _ h => h) ?_; try simp only [Act.put, List.setIfInBounds_toArray, List.set_cons_zero, List.set_cons_succ]) | (refine T_pass (by rfl) (by rfl) ?_; try simp only [Act.put, List.setIfInBounds_toArray, List.set_cons_zero, List.set_cons_succ]) | (refine T_load (by assumption) (by rfl) (by rfl) (fun _ _ _ _ h => h) rfl rfl (by assumption) (by first | exact (fun hn => hn) | assumption) ?_; try simp only [Act.put, List.setIfInBounds_toArray, List.set_cons_zero, List.set_cons_succ]) | (refine T_nil (by rfl) (by rfl) (fun _ _ _ _ h => h) rfl rfl ?_; try simp only [Act.put, List.setIfInBounds_toArray, List.set_cons_zero, List.set_cons_succ]) | (refine T_quietN (by rfl) (by rfl) (by rfl) (by rfl) (fun _ _ _ _ h => h) (fun K hK => ?_); go_big_quiet_op; refine hK _ ?_; clear hK K) | (refine T_two (by rfl) (by rfl) (by rfl) (by rfl) (fun _ _ _ _ h => h) (fun K hK => ?_); go_big_quiet_op; refine ⟨_, fun _ _ => rfl, ?_⟩; refine hK _ ?_; clear hK K; try simp only [Act.put, List.setIfInBounds_toArray, List.set_cons_zero, List.set_cons_succ]) | fail)
      (refine T_call (by rfl) (by rfl) (fun K hK => ?_); go_wp2_with fail)
      refine (good_calls life _).mono ?_
      rintro e w5 ⟨rfl, hw5⟩
      replace hw5 := hw5.symm
      subst hw5
      rw [hb1]
      go_wp2_with fail
      (refine hK.out _ _ ((Fr.refl _ _)) ?_; clear hK K; try simp only [Act.put, List.setIfInBounds_toArray, List.set_cons_zero, List.set_cons_succ])
      repeat (first | (refine T_skip (by rfl) (by rfl) (fun _ _ _ h => h) ?_; try simp only [Act.put, List.setIfInBounds_toArray, List.set_cons_zero, List.set_cons_succ]) | (refine T_pass (by rfl) (by rfl) ?_; try simp only [Act.put, List.setIfInBounds_toArray, List.set_cons_zero, List.set_cons_succ]) | (refine T_load (by assumption) (by rfl) (by rfl) (fun _ _ _ _ h => h) rfl rfl (by assumption) (by first | exact (fun hn => hn) | assumption) ?_; try simp only [Act.put, List.setIfInBounds_toArray, List.set_cons_zero, List.set_cons_succ]) | (refine T_nil (by rfl) (by rfl) (fun _ _ _ _ h => h) rfl rfl ?_; try simp only [Act.put, List.setIfInBounds_toArray, List.set_cons_zero, List.set_cons_succ]) | (refine T_quietN (by rfl) (by rfl) (by rfl) (by rfl) (fun _ _ _ _ h => h) (fun K hK => ?_); go_big_quiet_op; refine hK _ ?_; clear hK K) | (refine T_two (by rfl) (by rfl) (by rfl) (by rfl) (fun _ _ _ _ h => h) (fun K hK => ?_); go_big_quiet_op; refine ⟨_, fun _ _ => rfl, ?_⟩; refine hK _ ?_; clear hK K; try simp only [Act.put, List.setIfInBounds_toArray, List.set_cons_zero, List.set_cons_succ]) | fail)
      (refine T_call (by rfl) (by rfl) (fun K hK => ?_); go_wp2_with fail)
      refine (good_calls first _).mono ?_
      rintro e w5 ⟨rfl, hw5⟩
      replace hw5 := hw5.symm
      subst hw5
      rw [hb2]
      go_wp2_with fail
      (refine hK.out _ _ ((Fr.refl _ _)) ?_; clear hK K; try simp only [Act.put, List.setIfInBounds_toArray, List.set_cons_zero, List.set_cons_succ])
      repeat (first | (refine T_skip (by rfl) (by rfl) (fun _ _ _ h => h) ?_; try simp only [Act.put, List.setIfInBounds_toArray, List.set_cons_zero, List.set_cons_succ]) | (refine T_pass (by rfl) (by rfl) ?_; try simp only [Act.put, List.setIfInBounds_toArray, List.set_cons_zero, List.set_cons_succ]) | (refine T_load (by assumption) (by rfl) (by rfl) (fun _ _ _ _ h => h) rfl rfl (by assumption) (by first | exact (fun hn => hn) | assumption) ?_; try simp only [Act.put, List.setIfInBounds_toArray, List.set_cons_zero, List.set_cons_succ]) | (refine T_nil (by rfl) (by rfl) (fun _ _ _ _ h => h) rfl rfl ?_; try simp only [Act.put, List.setIfInBounds_toArray, List.set_cons_zero, List.set_cons_succ]) | (refine T_quietN (by rfl) (by rfl) (by rfl) (by rfl) (fun _ _ _ _ h => h) (fun K hK => ?_); go_big_quiet_op; refine hK _ ?_; clear hK K) | (refine T_two (by rfl) (by rfl) (by rfl) (by rfl) (fun _ _ _ _ h => h) (fun K hK => ?_); go_big_quiet_op; refine ⟨_, fun _ _ => rfl, ?_⟩; refine hK _ ?_; clear hK K; try simp only [Act.put, List.setIfInBounds_toArray, List.set_cons_zero, List.set_cons_succ]) | fail)
      (refine T_call (by rfl) (by rfl) (fun K hK => ?_); go_wp2_with fail)
      refine (good_calls since _).mono ?_
      rintro e w5 ⟨rfl, hw5⟩
      replace hw5 := hw5.symm
      subst hw5
      rw [hb3]
      go_wp2_with fail
      (refine hK.out _ _ ((Fr.refl _ _)) ?_; clear hK K; try simp only [Act.put, List.setIfInBounds_toArray, List.set_cons_zero, List.set_cons_succ])
      repeat (first | (refine T_skip (by rfl) (by rfl) (fun _ _ _ h => h) ?_; try simp only [Act.put, List.setIfInBounds_toArray, List.set_cons_zero, List.set_cons_succ]) | (refine T_pass (by rfl) (by rfl) ?_; try simp only [Act.put, List.setIfInBounds_toArray, List.set_cons_zero, List.set_cons_succ]) | (refine T_load (by assumption) (by rfl) (by rfl) (fun _ _ _ _ h => h) rfl rfl (by assumption) (by first | exact (fun hn => hn) | assumption) ?_; try simp only [Act.put, List.setIfInBounds_toArray, List.set_cons_zero, List.set_cons_succ]) | (refine T_nil (by rfl) (by rfl) (fun _ _ _ _ h => h) rfl rfl ?_; try simp only [Act.put, List.setIfInBounds_toArray, List.set_cons_zero, List.set_cons_succ]) | (refine T_quietN (by rfl) (by rfl) (by rfl) (by rfl) (fun _ _ _ _ h => h) (fun K hK => ?_); go_big_quiet_op; refine hK _ ?_; clear hK K) | (refine T_two (by rfl) (by rfl) (by rfl) (by rfl) (fun _ _ _ _ h => h) (fun K hK => ?_); go_big_quiet_op; refine ⟨_, fun _ _ => rfl, ?_⟩; refine hK _ ?_; clear hK K; try simp only [Act.put, List.setIfInBounds_toArray, List.set_cons_zero, List.set_cons_succ]) | fail)
      have hf6 : Fr No wc.drew wc.drew := Fr.refl _ _
      replace hbr := hbr.drew
      (refine T_call (by rfl) (by rfl) (fun K hK => ?_))
      refine wp_stA ag_head.info _ _ rfl (w.heap.size + 1) 0 _ _ [.int .i64 life, .int .i64 half, .int .i64 first, .int .i64 since] _ rfl rfl rfl rfl (by intro u hu; simp at hu; rcases hu with rfl | rfl | rfl | rfl <;> rfl) hbr (by decide) ?_
      intro w7 hb7 hg7 hz7
      rw [splice_all _ _ (by rfl)] at hb7
      (refine hK.out _ _ ((Fr.refl _ _).grown hg7 (fun q hq => by injection hq with hq; exact .inr hq.symm)) ?_; clear hK K; try simp only [Act.put, List.setIfInBounds_toArray, List.set_cons_zero, List.set_cons_succ])
      repeat (first | (refine T_skip (by rfl) (by rfl) (fun _ _ _ h => h) ?_; try simp only [Act.put, List.setIfInBounds_toArray, List.set_cons_zero, List.set_cons_succ]) | (refine T_pass (by rfl) (by rfl) ?_; try simp only [Act.put, List.setIfInBounds_toArray, List.set_cons_zero, List.set_cons_succ]) | (refine T_load (by assumption) (by rfl) (by rfl) (fun _ _ _ _ h => h) rfl rfl (by assumption) (by first | exact (fun hn => hn) | assumption) ?_; try simp only [Act.put, List.setIfInBounds_toArray, List.set_cons_zero, List.set_cons_succ]) | (refine T_nil (by rfl) (by rfl) (fun _ _ _ _ h => h) rfl rfl ?_; try simp only [Act.put, List.setIfInBounds_toArray, List.set_cons_zero, List.set_cons_succ]) | (refine T_quietN (by rfl) (by rfl) (by rfl) (by rfl) (fun _ _ _ _ h => h) (fun K hK => ?_); go_big_quiet_op; refine hK _ ?_; clear hK K) | (refine T_two (by rfl) (by rfl) (by rfl) (by rfl) (fun _ _ _ _ h => h) (fun K hK => ?_); go_big_quiet_op; refine ⟨_, fun _ _ => rfl, ?_⟩; refine hK _ ?_; clear hK K; try simp only [Act.put, List.setIfInBounds_toArray, List.set_cons_zero, List.set_cons_succ]) | fail)
      refine T_done ?_
      go_wp2_with fail
      refine bodyPost_ret (results_blk2 ag_head rfl _ _ _ _ _ _ rfl rfl hb7 rfl) rfl ⟨by simp only [hb1, hb2, hb3, Bool.false_and, Bool.true_and, Bool.and_false]; rfl, (hF.tr ((Fr.refl No wc).drew.tr hf6)).grown hg7 (fun q hq => by injection hq with hq; exact .inl (by omega))⟩
    by_cases hh : half ≤ 1
    · have e1 : decide (half ≤ 1) = true := by simpa using hh
      have HD := Lib.hid e1
      go_wp2_with fail
      (refine T_begin (fun b => b = w.heap.size + 1) [0, 1, 2, 3, 4, 5, 6, 7, 8, 9, 10, 11, 12, 13, 14, 15, 16, 17, 18, 19, 20, 22, 21, 23, 24, 25, 26] [3, 7, 12, 21, 25] (by kernel_rfl) (by kernel_rfl) ?_; simp only [pickOps, List.filterMap_cons, List.filterMap_nil, List.getElem?_cons_zero, List.getElem?_cons_succ, Act.put])
      (refine T_loadA (cs := [.int .i64 life, .int .i64 half, .int .i64 first, .int .i64 since]) ag_head (by rfl) (by rfl) (fun _ _ _ _ h => h) rfl rfl rfl hbh.all (fun hn => hneq2 hn) ?_; try simp only [Act.put, List.setIfInBounds_toArray, List.set_cons_zero, List.set_cons_succ])
      repeat (first | (refine T_skip (by rfl) (by rfl) (fun _ _ _ h => h) ?_; try simp only [Act.put, List.setIfInBounds_toArray, List.set_cons_zero, List.set_cons_succ]) | (refine T_pass (by rfl) (by rfl) ?_; try simp only [Act.put, List.setIfInBounds_toArray, List.set_cons_zero, List.set_cons_succ]) | (refine T_load (by assumption) (by rfl) (by rfl) (fun _ _ _ _ h => h) rfl rfl (by assumption) (by first | exact (fun hn => hn) | assumption) ?_; try simp only [Act.put, List.setIfInBounds_toArray, List.set_cons_zero, List.set_cons_succ]) | (refine T_nil (by rfl) (by rfl) (fun _ _ _ _ h => h) rfl rfl ?_; try simp only [Act.put, List.setIfInBounds_toArray, List.set_cons_zero, List.set_cons_succ]) | (refine T_quietN (by rfl) (by rfl) (by rfl) (by rfl) (fun _ _ _ _ h => h) (fun K hK => ?_); go_big_quiet_op; refine hK _ ?_; clear hK K) | (refine T_two (by rfl) (by rfl) (by rfl) (by rfl) (fun _ _ _ _ h => h) (fun K hK => ?_); go_big_quiet_op; refine ⟨_, fun _ _ => rfl, ?_⟩; refine hK _ ?_; clear hK K; try simp only [Act.put, List.setIfInBounds_toArray, List.set_cons_zero, List.set_cons_succ]) | fail)
      (refine T_call (by rfl) (by rfl) (fun K hK => ?_); go_wp2_with fail)
      refine (good_calls life _).mono ?_
      rintro e w5 ⟨rfl, hw5⟩
      replace hw5 := hw5.symm
      subst hw5
      rw [hb1]
      go_wp2_with fail
      (refine hK.out _ _ ((Fr.refl _ _)) ?_; clear hK K; try simp only [Act.put, List.setIfInBounds_toArray, List.set_cons_zero, List.set_cons_succ])
      repeat (first | (refine T_skip (by rfl) (by rfl) (fun _ _ _ h => h) ?_; try simp only [Act.put, List.setIfInBounds_toArray, List.set_cons_zero, List.set_cons_succ]) | (refine T_pass (by rfl) (by rfl) ?_; try simp only [Act.put, List.setIfInBounds_toArray, List.set_cons_zero, List.set_cons_succ]) | (refine T_load (by assumption) (by rfl) (by rfl) (fun _ _ _ _ h => h) rfl rfl (by assumption) (by first | exact (fun hn => hn) | assumption) ?_; try simp only [Act.put, List.setIfInBounds_toArray, List.set_cons_zero, List.set_cons_succ]) | (refine T_nil (by rfl) (by rfl) (fun _ _ _ _ h => h) rfl rfl ?_; try simp only [Act.put, List.setIfInBounds_toArray, List.set_cons_zero, List.set_cons_succ]) | (refine T_quietN (by rfl) (by rfl) (by rfl) (by rfl) (fun _ _ _ _ h => h) (fun K hK => ?_); go_big_quiet_op; refine hK _ ?_; clear hK K) | (refine T_two (by rfl) (by rfl) (by rfl) (by rfl) (fun _ _ _ _ h => h) (fun K hK => ?_); go_big_quiet_op; refine ⟨_, fun _ _ => rfl, ?_⟩; refine hK _ ?_; clear hK K; try simp only [Act.put, List.setIfInBounds_toArray, List.set_cons_zero, List.set_cons_succ]) | fail)
      (refine T_call (by rfl) (by rfl) (fun K hK => ?_); go_wp2_with fail)
      refine (good_calls first _).mono ?_
      rintro e w5 ⟨rfl, hw5⟩
      replace hw5 := hw5.symm
      subst hw5
      rw [hb2]
      go_wp2_with fail
      (refine hK.out _ _ ((Fr.refl _ _)) ?_; clear hK K; try simp only [Act.put, List.setIfInBounds_toArray, List.set_cons_zero, List.set_cons_succ])
      repeat (first | (refine T_skip (by rfl) (by rfl) (fun _ _ _ h => h) ?_; try simp only [Act.put, List.setIfInBounds_toArray, List.set_cons_zero, List.set_cons_succ]) | (refine T_pass (by rfl) (by rfl) ?_; try simp only [Act.put, List.setIfInBounds_toArray, List.set_cons_zero, List.set_cons_succ]) | (refine T_load (by assumption) (by rfl) (by rfl) (fun _ _ _ _ h => h) rfl rfl (by assumption) (by first | exact (fun hn => hn) | assumption) ?_; try simp only [Act.put, List.setIfInBounds_toArray, List.set_cons_zero, List.set_cons_succ]) | (refine T_nil (by rfl) (by rfl) (fun _ _ _ _ h => h) rfl rfl ?_; try simp only [Act.put, List.setIfInBounds_toArray, List.set_cons_zero, List.set_cons_succ]) | (refine T_quietN (by rfl) (by rfl) (by rfl) (by rfl) (fun _ _ _ _ h => h) (fun K hK => ?_); go_big_quiet_op; refine hK _ ?_; clear hK K) | (refine T_two (by rfl) (by rfl) (by rfl) (by rfl) (fun _ _ _ _ h => h) (fun K hK => ?_); go_big_quiet_op; refine ⟨_, fun _ _ => rfl, ?_⟩; refine hK _ ?_; clear hK K; try simp only [Act.put, List.setIfInBounds_toArray, List.set_cons_zero, List.set_cons_succ]) | fail)
      (refine T_call (by rfl) (by rfl) (fun K hK => ?_); go_wp2_with fail)
      refine (good_calls since _).mono ?_
      rintro e w5 ⟨rfl, hw5⟩
      replace hw5 := hw5.symm
      subst hw5
      rw [hb3]
      go_wp2_with fail
      (refine hK.out _ _ ((Fr.refl _ _)) ?_; clear hK K; try simp only [Act.put, List.setIfInBounds_toArray, List.set_cons_zero, List.set_cons_succ])
      repeat (first | (refine T_skip (by rfl) (by rfl) (fun _ _ _ h => h) ?_; try simp only [Act.put, List.setIfInBounds_toArray, List.set_cons_zero, List.set_cons_succ]) | (refine T_pass (by rfl) (by rfl) ?_; try simp only [Act.put, List.setIfInBounds_toArray, List.set_cons_zero, List.set_cons_succ]) | (refine T_load (by assumption) (by rfl) (by rfl) (fun _ _ _ _ h => h) rfl rfl (by assumption) (by first | exact (fun hn => hn) | assumption) ?_; try simp only [Act.put, List.setIfInBounds_toArray, List.set_cons_zero, List.set_cons_succ]) | (refine T_nil (by rfl) (by rfl) (fun _ _ _ _ h => h) rfl rfl ?_; try simp only [Act.put, List.setIfInBounds_toArray, List.set_cons_zero, List.set_cons_succ]) | (refine T_quietN (by rfl) (by rfl) (by rfl) (by rfl) (fun _ _ _ _ h => h) (fun K hK => ?_); go_big_quiet_op; refine hK _ ?_; clear hK K) | (refine T_two (by rfl) (by rfl) (by rfl) (by rfl) (fun _ _ _ _ h => h) (fun K hK => ?_); go_big_quiet_op; refine ⟨_, fun _ _ => rfl, ?_⟩; refine hK _ ?_; clear hK K; try simp only [Act.put, List.setIfInBounds_toArray, List.set_cons_zero, List.set_cons_succ]) | fail)
      (refine T_loadA (cs := [.int .i64 life, .int .i64 half, .int .i64 first, .int .i64 since]) ag_head (by rfl) (by rfl) (fun _ _ _ _ h => h) rfl rfl rfl hbh.all (fun hn => hneq2 hn) ?_; try simp only [Act.put, List.setIfInBounds_toArray, List.set_cons_zero, List.set_cons_succ])
      (refine T_loadA (cs := U8 s) ag_sec4 (by rfl) (by rfl) (fun _ _ _ _ h => h) rfl rfl hls hbs.all (fun hn => hneq1 hn) ?_; try simp only [Act.put, List.setIfInBounds_toArray, List.set_cons_zero, List.set_cons_succ])
      (refine T_call (by rfl) (by rfl) (fun K hK => ?_); go_wp2_with fail)
      refine (hhd _).mono ?_
      rintro e w6 ⟨rfl, hf6⟩
      replace hbr := hbr.drew.fr0 hf6
      go_wp2_with fail
      (refine hK.out _ _ (hf6.mono (fun _ _ hn => hn.elim)) ?_; clear hK K; try simp only [Act.put, List.setIfInBounds_toArray, List.set_cons_zero, List.set_cons_succ])
      (refine T_eqSec4 (xs := hB) (ys := s) hlb hs (by rfl) (by rfl) (fun _ _ _ _ h => h) rfl rfl rfl ?_; try simp only [Act.put, List.setIfInBounds_toArray, List.set_cons_zero, List.set_cons_succ])
      repeat (first | (refine T_skip (by rfl) (by rfl) (fun _ _ _ h => h) ?_; try simp only [Act.put, List.setIfInBounds_toArray, List.set_cons_zero, List.set_cons_succ]) | (refine T_pass (by rfl) (by rfl) ?_; try simp only [Act.put, List.setIfInBounds_toArray, List.set_cons_zero, List.set_cons_succ]) | (refine T_load (by assumption) (by rfl) (by rfl) (fun _ _ _ _ h => h) rfl rfl (by assumption) (by first | exact (fun hn => hn) | assumption) ?_; try simp only [Act.put, List.setIfInBounds_toArray, List.set_cons_zero, List.set_cons_succ]) | (refine T_nil (by rfl) (by rfl) (fun _ _ _ _ h => h) rfl rfl ?_; try simp only [Act.put, List.setIfInBounds_toArray, List.set_cons_zero, List.set_cons_succ]) | (refine T_quietN (by rfl) (by rfl) (by rfl) (by rfl) (fun _ _ _ _ h => h) (fun K hK => ?_); go_big_quiet_op; refine hK _ ?_; clear hK K) | (refine T_two (by rfl) (by rfl) (by rfl) (by rfl) (fun _ _ _ _ h => h) (fun K hK => ?_); go_big_quiet_op; refine ⟨_, fun _ _ => rfl, ?_⟩; refine hK _ ?_; clear hK K; try simp only [Act.put, List.setIfInBounds_toArray, List.set_cons_zero, List.set_cons_succ]) | fail)
      (refine T_call (by rfl) (by rfl) (fun K hK => ?_))
      refine wp_stA ag_head.info _ _ rfl (w.heap.size + 1) 0 _ _ [.int .i64 life, .int .i64 half, .int .i64 first, .int .i64 since] _ rfl rfl rfl rfl (by intro u hu; simp at hu; rcases hu with rfl | rfl | rfl | rfl <;> rfl) hbr (by decide) ?_
      intro w7 hb7 hg7 hz7
      rw [splice_all _ _ (by rfl)] at hb7
      (refine hK.out _ _ ((Fr.refl _ _).grown hg7 (fun q hq => by injection hq with hq; exact .inr hq.symm)) ?_; clear hK K; try simp only [Act.put, List.setIfInBounds_toArray, List.set_cons_zero, List.set_cons_succ])
      repeat (first | (refine T_skip (by rfl) (by rfl) (fun _ _ _ h => h) ?_; try simp only [Act.put, List.setIfInBounds_toArray, List.set_cons_zero, List.set_cons_succ]) | (refine T_pass (by rfl) (by rfl) ?_; try simp only [Act.put, List.setIfInBounds_toArray, List.set_cons_zero, List.set_cons_succ]) | (refine T_load (by assumption) (by rfl) (by rfl) (fun _ _ _ _ h => h) rfl rfl (by assumption) (by first | exact (fun hn => hn) | assumption) ?_; try simp only [Act.put, List.setIfInBounds_toArray, List.set_cons_zero, List.set_cons_succ]) | (refine T_nil (by rfl) (by rfl) (fun _ _ _ _ h => h) rfl rfl ?_; try simp only [Act.put, List.setIfInBounds_toArray, List.set_cons_zero, List.set_cons_succ]) | (refine T_quietN (by rfl) (by rfl) (by rfl) (by rfl) (fun _ _ _ _ h => h) (fun K hK => ?_); go_big_quiet_op; refine hK _ ?_; clear hK K) | (refine T_two (by rfl) (by rfl) (by rfl) (by rfl) (fun _ _ _ _ h => h) (fun K hK => ?_); go_big_quiet_op; refine ⟨_, fun _ _ => rfl, ?_⟩; refine hK _ ?_; clear hK K; try simp only [Act.put, List.setIfInBounds_toArray, List.set_cons_zero, List.set_cons_succ]) | fail)
      refine T_done ?_
      go_wp2_with fail
      refine bodyPost_ret (results_blk2 ag_head rfl _ _ _ _ _ _ rfl rfl hb7 rfl) rfl ⟨by simp only [hb1, hb2, hb3, HD.out, Bool.true_and, Bool.and_true, Bool.false_and, Bool.and_false]; rfl, (hF.tr ((Fr.refl No wc).drew.tr hf6)).grown hg7 (fun q hq => by injection hq with hq; exact .inl (by omega))⟩
    · have e1 : decide (half ≤ 1) = false := by simpa using hh
      have HD := Lib.hid e1
      go_wp2_with fail
      (refine T_begin (fun b => b = w.heap.size + 1) [0, 1, 2, 3, 4, 5, 6, 7, 8, 9, 10, 11, 12, 13, 14, 15, 16, 17, 18, 19, 20, 22, 21, 23, 24, 25, 26] [3, 7, 12, 21, 25] (by kernel_rfl) (by kernel_rfl) ?_; simp only [pickOps, List.filterMap_cons, List.filterMap_nil, List.getElem?_cons_zero, List.getElem?_cons_succ, Act.put])
      (refine T_loadA (cs := [.int .i64 life, .int .i64 half, .int .i64 first, .int .i64 since]) ag_head (by rfl) (by rfl) (fun _ _ _ _ h => h) rfl rfl rfl hbh.all (fun hn => hneq2 hn) ?_; try simp only [Act.put, List.setIfInBounds_toArray, List.set_cons_zero, List.set_cons_succ])
      repeat (first | (refine T_skip (by rfl) (by rfl) (fun _ _ _ h => h) ?_; try simp only [Act.put, List.setIfInBounds_toArray, List.set_cons_zero, List.set_cons_succ]) | (refine T_pass (by rfl) (by rfl) ?_; try simp only [Act.put, List.setIfInBounds_toArray, List.set_cons_zero, List.set_cons_succ]) | (refine T_load (by assumption) (by rfl) (by rfl) (fun _ _ _ _ h => h) rfl rfl (by assumption) (by first | exact (fun hn => hn) | assumption) ?_; try simp only [Act.put, List.setIfInBounds_toArray, List.set_cons_zero, List.set_cons_succ]) | (refine T_nil (by rfl) (by rfl) (fun _ _ _ _ h => h) rfl rfl ?_; try simp only [Act.put, List.setIfInBounds_toArray, List.set_cons_zero, List.set_cons_succ]) | (refine T_quietN (by rfl) (by rfl) (by rfl) (by rfl) (fun _ _ _ _ h => h) (fun K hK => ?_); go_big_quiet_op; refine hK _ ?_; clear hK K) | (refine T_two (by rfl) (by rfl) (by rfl) (by rfl) (fun _ _ _ _ h => h) (fun K hK => ?_); go_big_quiet_op; refine ⟨_, fun _ _ => rfl, ?_⟩; refine hK _ ?_; clear hK K; try simp only [Act.put, List.setIfInBounds_toArray, List.set_cons_zero, List.set_cons_succ]) | fail)
      (refine T_call (by rfl) (by rfl) (fun K hK => ?_); go_wp2_with fail)
      refine (good_calls life _).mono ?_
      rintro e w5 ⟨rfl, hw5⟩
      replace hw5 := hw5.symm
      subst hw5
      rw [hb1]
      go_wp2_with fail
      (refine hK.out _ _ ((Fr.refl _ _)) ?_; clear hK K; try simp only [Act.put, List.setIfInBounds_toArray, List.set_cons_zero, List.set_cons_succ])
      repeat (first | (refine T_skip (by rfl) (by rfl) (fun _ _ _ h => h) ?_; try simp only [Act.put, List.setIfInBounds_toArray, List.set_cons_zero, List.set_cons_succ]) | (refine T_pass (by rfl) (by rfl) ?_; try simp only [Act.put, List.setIfInBounds_toArray, List.set_cons_zero, List.set_cons_succ]) | (refine T_load (by assumption) (by rfl) (by rfl) (fun _ _ _ _ h => h) rfl rfl (by assumption) (by first | exact (fun hn => hn) | assumption) ?_; try simp only [Act.put, List.setIfInBounds_toArray, List.set_cons_zero, List.set_cons_succ]) | (refine T_nil (by rfl) (by rfl) (fun _ _ _ _ h => h) rfl rfl ?_; try simp only [Act.put, List.setIfInBounds_toArray, List.set_cons_zero, List.set_cons_succ]) | (refine T_quietN (by rfl) (by rfl) (by rfl) (by rfl) (fun _ _ _ _ h => h) (fun K hK => ?_); go_big_quiet_op; refine hK _ ?_; clear hK K) | (refine T_two (by rfl) (by rfl) (by rfl) (by rfl) (fun _ _ _ _ h => h) (fun K hK => ?_); go_big_quiet_op; refine ⟨_, fun _ _ => rfl, ?_⟩; refine hK _ ?_; clear hK K; try simp only [Act.put, List.setIfInBounds_toArray, List.set_cons_zero, List.set_cons_succ]) | fail)
      (refine T_call (by rfl) (by rfl) (fun K hK => ?_); go_wp2_with fail)
      refine (good_calls first _).mono ?_
      rintro e w5 ⟨rfl, hw5⟩
      replace hw5 := hw5.symm
      subst hw5
      rw [hb2]
      go_wp2_with fail
      (refine hK.out _ _ ((Fr.refl _ _)) ?_; clear hK K; try simp only [Act.put, List.setIfInBounds_toArray, List.set_cons_zero, List.set_cons_succ])
      repeat (first | (refine T_skip (by rfl) (by rfl) (fun _ _ _ h => h) ?_; try simp only [Act.put, List.setIfInBounds_toArray, List.set_cons_zero, List.set_cons_succ]) | (refine T_pass (by rfl) (by rfl) ?_; try simp only [Act.put, List.setIfInBounds_toArray, List.set_cons_zero, List.set_cons_succ]) | (refine T_load (by assumption) (by rfl) (by rfl) (fun _ _ _ _ h => h) rfl rfl (by assumption) (by first | exact (fun hn => hn) | assumption) ?_; try simp only [Act.put, List.setIfInBounds_toArray, List.set_cons_zero, List.set_cons_succ]) | (refine T_nil (by rfl) (by rfl) (fun _ _ _ _ h => h) rfl rfl ?_; try simp only [Act.put, List.setIfInBounds_toArray, List.set_cons_zero, List.set_cons_succ]) | (refine T_quietN (by rfl) (by rfl) (by rfl) (by rfl) (fun _ _ _ _ h => h) (fun K hK => ?_); go_big_quiet_op; refine hK _ ?_; clear hK K) | (refine T_two (by rfl) (by rfl) (by rfl) (by rfl) (fun _ _ _ _ h => h) (fun K hK => ?_); go_big_quiet_op; refine ⟨_, fun _ _ => rfl, ?_⟩; refine hK _ ?_; clear hK K; try simp only [Act.put, List.setIfInBounds_toArray, List.set_cons_zero, List.set_cons_succ]) | fail)
      (refine T_call (by rfl) (by rfl) (fun K hK => ?_); go_wp2_with fail)
      refine (good_calls since _).mono ?_
      rintro e w5 ⟨rfl, hw5⟩
      replace hw5 := hw5.symm
      subst hw5
      rw [hb3]
      go_wp2_with fail
      (refine hK.out _ _ ((Fr.refl _ _)) ?_; clear hK K; try simp only [Act.put, List.setIfInBounds_toArray, List.set_cons_zero, List.set_cons_succ])
      repeat (first | (refine T_skip (by rfl) (by rfl) (fun _ _ _ h => h) ?_; try simp only [Act.put, List.setIfInBounds_toArray, List.set_cons_zero, List.set_cons_succ]) | (refine T_pass (by rfl) (by rfl) ?_; try simp only [Act.put, List.setIfInBounds_toArray, List.set_cons_zero, List.set_cons_succ]) | (refine T_load (by assumption) (by rfl) (by rfl) (fun _ _ _ _ h => h) rfl rfl (by assumption) (by first | exact (fun hn => hn) | assumption) ?_; try simp only [Act.put, List.setIfInBounds_toArray, List.set_cons_zero, List.set_cons_succ]) | (refine T_nil (by rfl) (by rfl) (fun _ _ _ _ h => h) rfl rfl ?_; try simp only [Act.put, List.setIfInBounds_toArray, List.set_cons_zero, List.set_cons_succ]) | (refine T_quietN (by rfl) (by rfl) (by rfl) (by rfl) (fun _ _ _ _ h => h) (fun K hK => ?_); go_big_quiet_op; refine hK _ ?_; clear hK K) | (refine T_two (by rfl) (by rfl) (by rfl) (by rfl) (fun _ _ _ _ h => h) (fun K hK => ?_); go_big_quiet_op; refine ⟨_, fun _ _ => rfl, ?_⟩; refine hK _ ?_; clear hK K; try simp only [Act.put, List.setIfInBounds_toArray, List.set_cons_zero, List.set_cons_succ]) | fail)
      have hf6 : Fr No wc.drew wc.drew := Fr.refl _ _
      replace hbr := hbr.drew
      (refine T_call (by rfl) (by rfl) (fun K hK => ?_))
      refine wp_stA ag_head.info _ _ rfl (w.heap.size + 1) 0 _ _ [.int .i64 life, .int .i64 half, .int .i64 first, .int .i64 since] _ rfl rfl rfl rfl (by intro u hu; simp at hu; rcases hu with rfl | rfl | rfl | rfl <;> rfl) hbr (by decide) ?_
      intro w7 hb7 hg7 hz7
      rw [splice_all _ _ (by rfl)] at hb7
      (refine hK.out _ _ ((Fr.refl _ _).grown hg7 (fun q hq => by injection hq with hq; exact .inr hq.symm)) ?_; clear hK K; try simp only [Act.put, List.setIfInBounds_toArray, List.set_cons_zero, List.set_cons_succ])
      repeat (first | (refine T_skip (by rfl) (by rfl) (fun _ _ _ h => h) ?_; try simp only [Act.put, List.setIfInBounds_toArray, List.set_cons_zero, List.set_cons_succ]) | (refine T_pass (by rfl) (by rfl) ?_; try simp only [Act.put, List.setIfInBounds_toArray, List.set_cons_zero, List.set_cons_succ]) | (refine T_load (by assumption) (by rfl) (by rfl) (fun _ _ _ _ h => h) rfl rfl (by assumption) (by first | exact (fun hn => hn) | assumption) ?_; try simp only [Act.put, List.setIfInBounds_toArray, List.set_cons_zero, List.set_cons_succ]) | (refine T_nil (by rfl) (by rfl) (fun _ _ _ _ h => h) rfl rfl ?_; try simp only [Act.put, List.setIfInBounds_toArray, List.set_cons_zero, List.set_cons_succ]) | (refine T_quietN (by rfl) (by rfl) (by rfl) (by rfl) (fun _ _ _ _ h => h) (fun K hK => ?_); go_big_quiet_op; refine hK _ ?_; clear hK K) | (refine T_two (by rfl) (by rfl) (by rfl) (by rfl) (fun _ _ _ _ h => h) (fun K hK => ?_); go_big_quiet_op; refine ⟨_, fun _ _ => rfl, ?_⟩; refine hK _ ?_; clear hK K; try simp only [Act.put, List.setIfInBounds_toArray, List.set_cons_zero, List.set_cons_succ]) | fail)
      refine T_done ?_
      go_wp2_with fail
      refine bodyPost_ret (results_blk2 ag_head rfl _ _ _ _ _ _ rfl rfl hb7 rfl) rfl ⟨by simp only [hb1, hb2, hb3, HD.out, Bool.true_and, Bool.and_true, Bool.false_and, Bool.and_false]; rfl, (hF.tr ((Fr.refl No wc).drew.tr hf6)).grown hg7 (fun q hq => by injection hq with hq; exact .inl (by omega))⟩
end Go.Proofs.YtannkgglgmbkdaaDoor
namespace Go.Proofs.YtannkgglgmbkdaaDoor
set_option linter.unusedVariables false
set_option linter.unusedSimpArgs false
open Go.RowKit

theorem oneM_yes {d : DiskM} {k : Nat} {s : Sec} (h : (oneM d k s).2 = true) : d.dead = false ∧ d.left ≠ 1 ∧ (oneM d k s).1 = { d with left := d.left - 1, now := d.now.set k s, way := d.way ++ [(k, s)] } := by
  unfold oneM at h ⊢
  by_cases h1 : d.left = 1
  · rw [if_pos h1] at h; cases h
  · rw [if_neg h1] at h ⊢
    by_cases h2 : d.dead = true
    · rw [if_pos h2] at h; cases h
    · rw [if_neg h2]
      exact ⟨by simpa using h2, h1, rfl⟩
theorem putsM_alive : ∀ (ss : List Sec) (d : DiskM) (k : Nat), (putsM d k ss).2 = true → ss ≠ [] → (putsM d k ss).1.dead = false
  | [], _, _, _, h => absurd rfl h
  | s :: ss, d, k, h, _ => by
    rw [putsM_cons] at h ⊢
    by_cases ho : (oneM d k s).2 = true
    · rw [if_pos ho] at h ⊢
      by_cases hs : ss = []
      · subst hs
        obtain ⟨h1, _, h3⟩ := oneM_yes ho
        show (oneM d k s).1.dead = false
        rw [h3]; exact h1
      · exact putsM_alive ss _ _ h hs
    · rw [if_neg ho] at h; cases h
/-- Sectors are written, and made safe. -/
def safelyM (d : DiskM) (k : Nat) (ss : List Sec) : DiskM × Bool :=
  if (putsM d k ss).2 = true then ({ (putsM d k ss).1 with safe := (putsM d k ss).1.now, way := [] }, true) else ((putsM d k ss).1, false)
/-- Where a device may lie behind a call. -/
abbrev Wid (X : Nat → Prop) (w : World) : Nat → Prop := fun b => X b ∨ w.heap.size ≤ b
set_option maxRecDepth 100000 in
theorem safely_calls (w : World) (X : Nat → Prop) (H : Nat) (d : DiskM) (k : Nat) (ss : List Sec) (A : Option Addr) (c : Nat) (h : DiskAt w X H d) (hrd : Rd w (fun b => ¬ X b) 1 A (ss.length * 128) (U8 ss.flatten)) (hss : Len128 ss) (hc : ss.length * 128 ≤ c) (hcm : c ≤ maxLen)
    (hn : 1 ≤ ss.length) (hfit : k + ss.length ≤ d.now.length) (hway : d.way.length ≤ 50000) (hleft : d.left ≤ 1000000) :
    Calls Tryd.prog 30 #[.pointer (some ⟨H, 0, none⟩), .int .i64 (k : Int), .slice A (ss.length * 128) c] w (WriteR w X (Wid X w) H (safelyM d k ss)) := by
  have hwr := write_calls w X (Wid X w) H d k ss A c h hrd hss hc hcm hn hfit hway hleft (fun _ hb => .inl hb) (fun _ hb => .inr hb)
  have hal := putsM_alive ss d k
  have hne : ss ≠ [] := by intro e; subst e; simp at hn
  have hsf : safelyM d k ss = if (putsM d k ss).2 = true then ({ (putsM d k ss).1 with safe := (putsM d k ss).1.now, way := [] }, true) else ((putsM d k ss).1, false) := rfl
  generalize safelyM d k ss = r at *
  generalize ss.length * 128 = m at *
  generalize hp : putsM d k ss = p at *
  obtain ⟨d', ok⟩ := p
  cases ok with
  | false =>
    rw [if_neg (by simp)] at hsf
    subst hsf
    clear hrd hss hc hcm hn hfit hway hleft hp
    go_enter Tryd.func30, Tryd.ntmps30
    go_wp2_with fail
    refine hwr.mono ?_
    rintro e w1 ⟨he, hl⟩
    rw [if_neg (by simp)] at he
    subst he
    go_wp2_with fail
    go_ret
    exact WriteR.no rfl hl
  | true =>
    rw [if_pos rfl] at hsf
    subst hsf
    have hdead := hal rfl hne
    clear hrd hss hc hcm hn hfit hway hleft hp hal hne
    simp only at hdead
    go_enter Tryd.func30, Tryd.ntmps30
    go_wp2_with fail
    refine hwr.mono ?_
    rintro e w1 ⟨he, hl⟩
    rw [if_pos rfl] at he
    subst he
    obtain ⟨hd1, hf1⟩ := hl
    go_wp2_with fail
    refine (flush_calls w1 _ H d' hd1 hdead).mono ?_
    rintro e w2 ⟨rfl, hd2, hf2⟩
    go_wp2_with fail
    go_ret
    exact WriteR.yes rfl ⟨hd2, hf1.trans hf2 (fun b hb hT => hT.elim id (fun h => by omega))⟩
def layM (d : DiskM) (h : HeadM) : DiskM × Bool := safelyM d (h.life % 2).toNat [headB h]
theorem T_tuple1 {α : Type} (a b : α) (h : a = b) : b = a := h.symm
set_option maxRecDepth 100000 in
set_option maxHeartbeats 4000000 in
theorem lay_calls (w : World) (X : Nat → Prop) (H : Nat) (d : DiskM) (h : HeadM) (hd : DiskAt w X H d) (h0 : 0 ≤ h.life) (h2 : 2 ≤ d.now.length) (hway : d.way.length ≤ 50000) (hleft : d.left ≤ 1000000) :
    Calls Tryd.prog 37 #[.pointer (some ⟨H, 0, none⟩), headV h] w (WriteR w X (Wid X w) H (layM d h)) := by
  have g1 : ∀ w, (isAgg 2).run Tryd.prog w = .ok false w := plain_of Tryd.underlying2 rfl
  have hlm : layM d h = safelyM d (h.life % 2).toNat [headB h] := rfl
  have hhd : ∀ w, Calls Tryd.prog 29 #[headV h] w fun e w' => e = .returned (.agg (U8 (headB h)).toArray) ∧ Fr No w w' := fun w => head_calls w h
  have hlb := headB_len h
  generalize layM d h = r at *
  unfold headV at hhd ⊢
  obtain ⟨n, hn⟩ : ∃ n : Nat, h.life = (n : Int) := ⟨h.life.toNat, by omega⟩
  rw [hn, show ((n : Int) % 2).toNat = n % 2 by omega] at hlm
  generalize headB h = hB at *
  generalize h.life = life at *
  generalize h.half = half at *
  generalize h.first = first at *
  generalize h.since = since at *
  subst hn
  obtain ⟨k, hk⟩ : ∃ k, k = n % 2 := ⟨_, rfl⟩
  have HK := Lib.hid (show (n : Int).tmod 2 = (k : Int) by rw [Int.tmod_eq_emod_of_nonneg (by omega)]; omega)
  have HK2 := Lib.hid (show (n : Int) % 2 = (k : Int) by omega)
  have hk1 : k + 1 ≤ d.now.length := by omega
  rw [← hk] at hlm
  clear hk h0
  go_enter Tryd.func37, Tryd.ntmps37
  have hbx := Blk.new w 63 #[.int .i64 (n : Int), .int .i64 half, .int .i64 first, .int .i64 since]
  have hf1 : Fr No w (w.alloc (.cells #[.int .i64 (n : Int), .int .i64 half, .int .i64 first, .int .i64 since] 63)) := (Fr.refl No w).alloc _
  go_wp2_with (first
    | (refine wpList_ldA ag_head rfl _ rfl ⟨w.heap.size, 0, none⟩ [.int .i64 (n : Int), .int .i64 half, .int .i64 first, .int .i64 since] rfl rfl hbx.all ?_)
    | fail)
  refine (hhd _).mono ?_
  rintro e w2 ⟨rfl, hf2⟩
  have hbx2 := hbx.fr0 hf2
  have hF2 := hf1.tr hf2
  have hz2 := hbx2.lt
  clear hf1 hf2 hbx
  have hlu : (U8 hB).length = 128 := by rw [U8_length]; exact hlb
  have hb3 := Blk.new w2 tSec (U8 zsec).toArray
  go_upto_region 2 with (first
    | (refine wpList_allocA (show (Tryd.prog.info? tSec).bind (·.zero) = some (.agg (U8 zsec).toArray) from zero_sec) rfl rfl ?_)
    | (refine wpList_stA ag_sec4.info rfl _ _ rfl w2.heap.size 0 _ _ (U8 hB) _ rfl rfl rfl hlu (U8_one hB) hb3 (by rw [List.size_toArray, U8_length, zsec_len]; decide) ?_; intro w4 hb4 hg4 hz4)
    | fail)
  rw [splice_all _ _ (by rw [hlu, List.size_toArray, U8_length, zsec_len])] at hb4
  have hf4 : Fr No w2 w4 := ((Fr.refl No w2).alloc _).grown hg4 (fun q hq => by injection hq with hq; exact .inl (by rw [← hq]; exact Nat.le_refl _))
  have hbx4 := hbx2.fr0 hf4
  have hF4 := hF2.tr hf4
  have hd4 := hd.fr0 hF4
  have hsz := hF2.size
  obtain ⟨gs, hgs⟩ : ∃ gs, gs = w2.heap.size := ⟨_, rfl⟩
  have hgw : w.heap.size < gs := by omega
  have hg4s : gs < w4.heap.size := by rw [hgs]; exact hb4.lt
  try simp only [Act.put, List.setIfInBounds_toArray, List.set_cons_zero, List.set_cons_succ]
  rw [← hgs] at hb4 ⊢
  clear hgs hb3 hg4 hz4 hf4 hbx2 hF2 hsz hz2
  have hd5 : DiskAt w4 (fun b => X b ∧ b < w.heap.size) H d := by
    have h1 : DiskAt w (fun b => X b ∧ b < w.heap.size) H d := hd.mono (fun b hb hx => ⟨hx, hb⟩)
    exact h1.fr0 hF4
  have hrd4 : Rd w4 (fun b => ¬ (X b ∧ b < w.heap.size)) 1 (some ⟨gs, 0, none⟩) ([hB].length * 128) (U8 [hB].flatten) := by
    refine ⟨by simp [U8_length, hlb], by simp, fun _ => ⟨_, rfl, fun hh => absurd hh.2 (by show ¬ gs < w.heap.size; omega), fun j u hu => hb4.all j u (by simpa using hu)⟩⟩
  (have y0 := hbx4.cell 0; have y1 := hbx4.cell 1; have y2 := hbx4.cell 2; have y3 := hbx4.cell 3; have yf0 := hbx4.frozen 0; have yf1 := hbx4.frozen 1; have yf2 := hbx4.frozen 2; have yf3 := hbx4.frozen 3; simp only [List.getElem?_toArray, List.getElem?_cons_zero, List.getElem?_cons_succ] at y0 y1 y2 y3)
  have hns : ¬ ((X w.heap.size ∧ w.heap.size < w.heap.size) ∨ w4.heap.size ≤ w.heap.size) := fun hn => hn.elim (fun h => absurd h.2 (Nat.lt_irrefl _)) (fun h => by omega)
  go_wp2_with fail
  (refine T_begin (fun b => (X b ∧ b < w.heap.size) ∨ w4.heap.size ≤ b) [0, 1, 2, 3, 4, 5, 6] [5] (by kernel_rfl) (by kernel_rfl) ?_; simp only [pickOps, List.filterMap_cons, List.filterMap_nil, List.getElem?_cons_zero, List.getElem?_cons_succ, Act.put])
  (first | (refine T_skip (by rfl) (by rfl) (fun _ _ _ h => h) ?_; try simp only [Act.put, List.setIfInBounds_toArray, List.set_cons_zero, List.set_cons_succ]) | (refine T_pass (by rfl) (by rfl) ?_; try simp only [Act.put, List.setIfInBounds_toArray, List.set_cons_zero, List.set_cons_succ]) | (refine T_load (by assumption) (by rfl) (by rfl) (fun _ _ _ _ h => h) rfl rfl (by assumption) (by first | exact (fun hn => hn) | assumption) ?_; try simp only [Act.put, List.setIfInBounds_toArray, List.set_cons_zero, List.set_cons_succ]) | (refine T_nil (by rfl) (by rfl) (fun _ _ _ _ h => h) rfl rfl ?_; try simp only [Act.put, List.setIfInBounds_toArray, List.set_cons_zero, List.set_cons_succ]) | (refine T_quietN (by rfl) (by rfl) (by rfl) (by rfl) (fun _ _ _ _ h => h) (fun K hK => ?_); go_big_quiet_op; refine hK _ ?_; clear hK K) | (refine T_two (by rfl) (by rfl) (by rfl) (by rfl) (fun _ _ _ _ h => h) (fun K hK => ?_); go_big_quiet_op; refine ⟨_, fun _ _ => rfl, ?_⟩; refine hK _ ?_; clear hK K; try simp only [Act.put, List.setIfInBounds_toArray, List.set_cons_zero, List.set_cons_succ]) | fail)
  (first | (refine T_skip (by rfl) (by rfl) (fun _ _ _ h => h) ?_; try simp only [Act.put, List.setIfInBounds_toArray, List.set_cons_zero, List.set_cons_succ]) | (refine T_pass (by rfl) (by rfl) ?_; try simp only [Act.put, List.setIfInBounds_toArray, List.set_cons_zero, List.set_cons_succ]) | (refine T_load (by assumption) (by rfl) (by rfl) (fun _ _ _ _ h => h) rfl rfl (by assumption) (by first | exact (fun hn => hn) | assumption) ?_; try simp only [Act.put, List.setIfInBounds_toArray, List.set_cons_zero, List.set_cons_succ]) | (refine T_nil (by rfl) (by rfl) (fun _ _ _ _ h => h) rfl rfl ?_; try simp only [Act.put, List.setIfInBounds_toArray, List.set_cons_zero, List.set_cons_succ]) | (refine T_quietN (by rfl) (by rfl) (by rfl) (by rfl) (fun _ _ _ _ h => h) (fun K hK => ?_); go_big_quiet_op; refine hK _ ?_; clear hK K) | (refine T_two (by rfl) (by rfl) (by rfl) (by rfl) (fun _ _ _ _ h => h) (fun K hK => ?_); go_big_quiet_op; refine ⟨_, fun _ _ => rfl, ?_⟩; refine hK _ ?_; clear hK K; try simp only [Act.put, List.setIfInBounds_toArray, List.set_cons_zero, List.set_cons_succ]) | fail)
  (refine T_load g1 (by rfl) (by rfl) (fun _ _ _ _ h => h) rfl rfl y0 hns ?_; try simp only [Act.put, List.setIfInBounds_toArray, List.set_cons_zero, List.set_cons_succ])
  (first | (refine T_skip (by rfl) (by rfl) (fun _ _ _ h => h) ?_; try simp only [Act.put, List.setIfInBounds_toArray, List.set_cons_zero, List.set_cons_succ]) | (refine T_pass (by rfl) (by rfl) ?_; try simp only [Act.put, List.setIfInBounds_toArray, List.set_cons_zero, List.set_cons_succ]) | (refine T_load (by assumption) (by rfl) (by rfl) (fun _ _ _ _ h => h) rfl rfl (by assumption) (by first | exact (fun hn => hn) | assumption) ?_; try simp only [Act.put, List.setIfInBounds_toArray, List.set_cons_zero, List.set_cons_succ]) | (refine T_nil (by rfl) (by rfl) (fun _ _ _ _ h => h) rfl rfl ?_; try simp only [Act.put, List.setIfInBounds_toArray, List.set_cons_zero, List.set_cons_succ]) | (refine T_quietN (by rfl) (by rfl) (by rfl) (by rfl) (fun _ _ _ _ h => h) (fun K hK => ?_); go_big_quiet_op; refine hK _ ?_; clear hK K) | (refine T_two (by rfl) (by rfl) (by rfl) (by rfl) (fun _ _ _ _ h => h) (fun K hK => ?_); go_big_quiet_op; refine ⟨_, fun _ _ => rfl, ?_⟩; refine hK _ ?_; clear hK K; try simp only [Act.put, List.setIfInBounds_toArray, List.set_cons_zero, List.set_cons_succ]) | fail)
  (first | (refine T_skip (by rfl) (by rfl) (fun _ _ _ h => h) ?_; try simp only [Act.put, List.setIfInBounds_toArray, List.set_cons_zero, List.set_cons_succ]) | (refine T_pass (by rfl) (by rfl) ?_; try simp only [Act.put, List.setIfInBounds_toArray, List.set_cons_zero, List.set_cons_succ]) | (refine T_load (by assumption) (by rfl) (by rfl) (fun _ _ _ _ h => h) rfl rfl (by assumption) (by first | exact (fun hn => hn) | assumption) ?_; try simp only [Act.put, List.setIfInBounds_toArray, List.set_cons_zero, List.set_cons_succ]) | (refine T_nil (by rfl) (by rfl) (fun _ _ _ _ h => h) rfl rfl ?_; try simp only [Act.put, List.setIfInBounds_toArray, List.set_cons_zero, List.set_cons_succ]) | (refine T_quietN (by rfl) (by rfl) (by rfl) (by rfl) (fun _ _ _ _ h => h) (fun K hK => ?_); go_big_quiet_op; refine hK _ ?_; clear hK K) | (refine T_two (by rfl) (by rfl) (by rfl) (by rfl) (fun _ _ _ _ h => h) (fun K hK => ?_); go_big_quiet_op; refine ⟨_, fun _ _ => rfl, ?_⟩; refine hK _ ?_; clear hK K; try simp only [Act.put, List.setIfInBounds_toArray, List.set_cons_zero, List.set_cons_succ]) | fail)
  try rw [HK.out]
  try rw [HK2.out]
  (refine T_call (by rfl) (by rfl) (fun K hK => ?_); go_wp2_with fail)
  refine (safely_calls _ _ H d k [hB] (some ⟨gs, 0, none⟩) 128 (hd5.fr0 (Fr.refl No w4).drew) (hrd4.drew) (fun s hs => by rw [List.mem_singleton.1 hs]; exact hlb) (Nat.le_refl 128) (by decide) (Nat.le_refl 1) hk1 hway hleft).mono ?_
  rintro e w9 ⟨he9, hd9, hf9⟩
  obtain ⟨en, HEN⟩ : ∃ en : Int, Hid (en = if (safelyM d k [hB]).2 = true then 0 else 14) := ⟨_, Lib.hid rfl⟩
  rw [← HEN.out] at he9
  subst he9
  go_wp2_with fail
  (refine hK.out _ _ (hf9.mono (fun b _ hb => .inl hb)) ?_; clear hK K; try simp only [Act.put, List.setIfInBounds_toArray, List.set_cons_zero, List.set_cons_succ])
  (first | (refine T_skip (by rfl) (by rfl) (fun _ _ _ h => h) ?_; try simp only [Act.put, List.setIfInBounds_toArray, List.set_cons_zero, List.set_cons_succ]) | (refine T_pass (by rfl) (by rfl) ?_; try simp only [Act.put, List.setIfInBounds_toArray, List.set_cons_zero, List.set_cons_succ]) | (refine T_load (by assumption) (by rfl) (by rfl) (fun _ _ _ _ h => h) rfl rfl (by assumption) (by first | exact (fun hn => hn) | assumption) ?_; try simp only [Act.put, List.setIfInBounds_toArray, List.set_cons_zero, List.set_cons_succ]) | (refine T_nil (by rfl) (by rfl) (fun _ _ _ _ h => h) rfl rfl ?_; try simp only [Act.put, List.setIfInBounds_toArray, List.set_cons_zero, List.set_cons_succ]) | (refine T_quietN (by rfl) (by rfl) (by rfl) (by rfl) (fun _ _ _ _ h => h) (fun K hK => ?_); go_big_quiet_op; refine hK _ ?_; clear hK K) | (refine T_two (by rfl) (by rfl) (by rfl) (by rfl) (fun _ _ _ _ h => h) (fun K hK => ?_); go_big_quiet_op; refine ⟨_, fun _ _ => rfl, ?_⟩; refine hK _ ?_; clear hK K; try simp only [Act.put, List.setIfInBounds_toArray, List.set_cons_zero, List.set_cons_succ]) | fail)
  refine T_done ?_
  go_wp2_with fail
  go_ret
  rw [hlm]
  refine ⟨by rw [← HEN.out]; rfl, hd9.mono (fun b _ hb => hb.elim (fun h => .inl h.1) (fun h => .inr (Nat.le_trans hF4.size h))), (hF4.mono (T := X) (fun _ _ hn => hn.elim)).trans ((Fr.refl _ w4).drew.trans hf9 (fun _ _ hb => hb)) (fun b _ hb => hb.1)⟩
end Go.Proofs.YtannkgglgmbkdaaDoor
