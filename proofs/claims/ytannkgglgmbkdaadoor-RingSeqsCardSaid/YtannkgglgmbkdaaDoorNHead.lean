/- ring: a head's sector. No condition. -/
import Derived.Test.YtannkgglgmbkdaaDoorNPut
import Derived.Test.YtannkgglgmbkdaaDoorWSum
import Derived.Deep.CutBlock
import Derived.Deep.DeepCutAuto
import Derived.Lib.BufferWrite
namespace Go.Proofs.YtannkgglgmbkdaaDoor
set_option linter.unusedVariables false
set_option linter.unusedSimpArgs false
open Go.RowKit

structure HeadM where
  life : Int
  half : Int
  first : Int
  since : Int
deriving DecidableEq
/-- Its bytes ahead of the sum. -/
def headS (h : HeadM) : List UInt8 := [76, 65, 80, 73, 68, 65, 82, 89] ++ putL 6 h.life ++ [UInt8.ofNat (h.half % 256).toNat] ++ putL 6 h.first ++ putL 6 h.since
theorem headS_len (h : HeadM) : (headS h).length = 27 := by simp [headS, putL_len]
def headB (h : HeadM) : List UInt8 := headS h ++ putL 4 ((crc (headS h)).toNat : Int) ++ List.replicate 97 0
theorem headB_len (h : HeadM) : (headB h).length = 128 := by simp [headB, headS_len, putL_len]
theorem wpList_copyS {w : World} {ops : Array Oper} {rest : List Oper} {o : Oper} {a : Act} {Q : Exit → Act → World → Prop} (hw : Region.wanted o (yielded ops a.tmps) = true) {t2 : TypeId} {d : Operand} {str : ByteArray}
    (ho : o.op = .call { callee := .builtin .copy, args := #[d, .const (.string str)], argTypes := #[40, t2] }) {g off dLen dCap : Nat} {cur : Array Value} {tt : TypeId} (hb : Blk w g tt cur)
    (hd : a.eval d = .slice (some ⟨g, off, none⟩) dLen dCap) (hle : str.size ≤ dLen) (hfit : off + str.size ≤ cur.size)
    (h : ∀ w', Blk w' g tt (splice cur off (U8 str.data.toList)) → w.grownBy w' (some g) → wpList Tryd.prog ops Q rest (a.put o.dst (goInt str.size)) w') : wpList Tryd.prog ops Q (o :: rest) a w := by
  have hrun := Lib.run_copy_row_string (P := Tryd.prog) w 40 t2 o.type 5 g off dLen dCap str cur tt Tryd.underlying40 (by kernel_rfl) hb hle hfit
  have e : (cur.toList.take off ++ Lib.byteCells str.data.toList ++ cur.toList.drop (off + str.size)).toArray = splice cur off (U8 str.data.toList) := by
    apply Array.toList_inj.1
    rw [splice_toList, U8_length, ← Lib.size_eq]
    rfl
  rw [e] at hrun
  refine BigFrame.wpList_want hw fun K hK => ?_
  unfold Oper.wp execOp
  have hc : a.eval (.const (.string str)) = .string str := rfl
  simp only [ho, resolve, invoke, builtin, Sem.run_bind, Sem.run_pure, Result.andThen_ok, List.map_toArray, List.map_cons, List.map_nil, hd, hc, hrun]
  exact hK _ _ (h _ (setRow_heap w g cur _ tt _ hb) ⟨rfl, rfl, rfl, by simp, fun k _ hk => setRow_other w g k _ (fun e => hk (by rw [e]))⟩)
theorem splice_pre (a b : List UInt8) (m k o : Nat) (ho : a.length = o) (hm : m = b.length + k) : splice (U8 (a ++ List.replicate m 0)).toArray o (U8 b) = (U8 (a ++ b ++ List.replicate k 0)).toArray := by
  apply Array.toList_inj.1
  rw [splice_toList]
  simp only [U8, List.map_append, List.length_map]
  have h1 : (List.map (fun b : UInt8 => Value.int .u8 (b.toNat : Int)) a).length = o := by rw [List.length_map]; exact ho
  rw [← h1, List.take_left, List.drop_length_add_append, hm, List.map_replicate, List.map_replicate, List.drop_replicate, Nat.add_sub_cancel_left]
theorem set_pre (a : List UInt8) (c : UInt8) (k o : Nat) (ho : a.length = o) : (U8 (a ++ List.replicate (k + 1) 0)).toArray.setIfInBounds o (.int .u8 (c.toNat : Int)) = (U8 (a ++ [c] ++ List.replicate k 0)).toArray := by
  subst ho
  rw [List.replicate_succ]
  simp [U8, List.set_append]
abbrev tSec : TypeId := 61
theorem zero_sec : (Tryd.prog.info? tSec).bind (·.zero) = some (.agg (U8 (List.replicate 128 0)).toArray) := by kernel_rfl
theorem ag_sec4 : AggOf Tryd.prog tSec 128 := ⟨⟨_, Tryd.underlying61, rfl⟩, by kernel_rfl⟩
theorem T_u32 {S : Nat → Prop} {ops : Array Oper} {Q : Exit → Go.Act → World → Prop} {ms : List Nat} {ord calls : List Nat} {k : Nat} {l : List Oper} {o : Oper} {a : Go.Act} {w : World} {n : Int} (h0 : 0 ≤ n) (h1 : n < 4294967296)
    (hc : calls.contains (ord.getD k 0) = false) (hw : Region.wanted o (yielded ops a.tmps) = true) (hQ : ∀ v c a w, Q (.panic c) (a.put o.dst v) w → Q (.panic c) a w)
    {x : Operand} (ho : o.op = .convert 95 2 x) (hx : a.eval x = .int .u32 n)
    (h : wpT Tryd.prog S ops Q ms ord calls (k + 1) l (a.put o.dst (.int .i64 n)) w) (hxm : calls.contains (ord.getD k 0 + 1000) = false := by rfl) : wpT Tryd.prog S ops Q ms ord calls k (o :: l) a w := by
  refine T_take hc hw (hQ _) (fun w' hf => ?_) h hxm
  have hwr : IntKind.i64.wrap n = n := by rw [IntKind.wrap_i64]; omega
  unfold execOp
  simp [ho, hx, convert, run_underlying Tryd.underlying95, run_underlying Tryd.underlying2, Conv.intToInt, hwr]
set_option maxHeartbeats 4000000 in
set_option maxRecDepth 100000 in
theorem head_calls (w : World) (h : HeadM) :
    Calls Tryd.prog 29 #[.agg #[.int .i64 h.life, .int .i64 h.half, .int .i64 h.first, .int .i64 h.since]] w fun e w' => e = .returned (.agg (U8 (headB h)).toArray) ∧ Fr No w w' := by
  obtain ⟨life, half, first, since⟩ := h
  have g1 : ∀ w, (isAgg 2).run Tryd.prog w = .ok false w := plain_of Tryd.underlying2 rfl
  have g2 := plain_int
  go_enter Tryd.func29, Tryd.ntmps29
  go_upto_region 2 with (first
    | (refine wpList_allocA zero_sec rfl rfl ?_)
    | fail)
  have hf1 : Fr No w (((w.alloc (.cells #[.int .i64 life, .int .i64 half, .int .i64 first, .int .i64 since] 63)).alloc (.cells (U8 (List.replicate 128 0)).toArray tSec)).alloc (.cells (U8 (List.replicate 128 0)).toArray tSec)) := (((Fr.refl No w).alloc _).alloc _).alloc _
  have hbh : Blk (((w.alloc (.cells #[.int .i64 life, .int .i64 half, .int .i64 first, .int .i64 since] 63)).alloc (.cells (U8 (List.replicate 128 0)).toArray tSec)).alloc (.cells (U8 (List.replicate 128 0)).toArray tSec)) w.heap.size 63 #[.int .i64 life, .int .i64 half, .int .i64 first, .int .i64 since] := ((Blk.new w _ _).alloc _).alloc _
  have hbr : Blk (((w.alloc (.cells #[.int .i64 life, .int .i64 half, .int .i64 first, .int .i64 since] 63)).alloc (.cells (U8 (List.replicate 128 0)).toArray tSec)).alloc (.cells (U8 (List.replicate 128 0)).toArray tSec)) (w.heap.size + 1) tSec (U8 (List.replicate 128 0)).toArray := (Blk.newAt (by simp)).alloc _
  have hbs : Blk (((w.alloc (.cells #[.int .i64 life, .int .i64 half, .int .i64 first, .int .i64 since] 63)).alloc (.cells (U8 (List.replicate 128 0)).toArray tSec)).alloc (.cells (U8 (List.replicate 128 0)).toArray tSec)) (w.heap.size + 1 + 1) tSec (U8 (List.replicate 128 0)).toArray := Blk.newAt (by simp)
  have e1 : (w.alloc (.cells #[.int .i64 life, .int .i64 half, .int .i64 first, .int .i64 since] 63)).heap.size = w.heap.size + 1 := by simp
  have e2 : ((w.alloc (.cells #[.int .i64 life, .int .i64 half, .int .i64 first, .int .i64 since] 63)).alloc (.cells (U8 (List.replicate 128 0)).toArray tSec)).heap.size = w.heap.size + 1 + 1 := by simp
  simp only [Act.put, List.setIfInBounds_toArray, List.set_cons_zero, List.set_cons_succ]
  rw [e1, e2]
  clear e1 e2
  generalize ((w.alloc (.cells #[.int .i64 life, .int .i64 half, .int .i64 first, .int .i64 since] 63)).alloc (.cells (U8 (List.replicate 128 0)).toArray tSec)).alloc (.cells (U8 (List.replicate 128 0)).toArray tSec) = w1 at *
  go_upto_region 3 with (first
    | (refine wpList_copyS rfl rfl hbs rfl (by decide) (by rw [List.size_toArray, U8_length, List.length_replicate]; decide) ?_; intro w2 hb2 hg2)
    | fail)
  have e0 : (U8 (List.replicate 128 0)).toArray = (U8 ([] ++ List.replicate 128 0)).toArray := rfl
  rw [e0] at hb2
  have hb2 := hb2
  rw [splice_pre [] [76, 65, 80, 73, 68, 65, 82, 89] 128 120 0 rfl rfl] at hb2
  have hf2 : Fr (fun b => b = w.heap.size + 1 + 1) w1 w2 := (Fr.refl _ w1).grown hg2 (fun q hq => by injection hq with hq; exact .inr hq.symm)
  have hbh2 := hbh.fr hf2 (fun e => by omega)
  have hbr2 := hbr.fr hf2 (fun e => by omega)
  have hF2 : Fr No w w2 := hf1.trans hf2 (fun b hb e => by omega)
  clear hbs hbh hbr hg2 hf1 hf2 e0
  obtain ⟨gs, hgs⟩ : ∃ gs, gs = w.heap.size + 1 + 1 := ⟨_, rfl⟩
  have hne1 : ¬ (w.heap.size = gs) := by omega
  have hne2 : ¬ (w.heap.size + 1 = gs) := by omega
  rw [← hgs] at hb2 ⊢
  have hgl : w.heap.size < gs := by omega
  clear hgs
  (have y0 := hbh2.cell 0; have y1 := hbh2.cell 1; have y2 := hbh2.cell 2; have y3 := hbh2.cell 3; have yf0 := hbh2.frozen 0; have yf1 := hbh2.frozen 1; have yf2 := hbh2.frozen 2; have yf3 := hbh2.frozen 3; simp only [List.getElem?_toArray, List.getElem?_cons_zero, List.getElem?_cons_succ] at y0 y1 y2 y3)
  go_wp2_with fail
  (refine T_begin (fun b => b = gs) [0, 1, 2, 3] [3] (by kernel_rfl) (by kernel_rfl) ?_; simp only [pickOps, List.filterMap_cons, List.filterMap_nil, List.getElem?_cons_zero, List.getElem?_cons_succ, Act.put])
  repeat (first | (refine T_skip (by rfl) (by rfl) (fun _ _ _ h => h) ?_; try simp only [Act.put, List.setIfInBounds_toArray, List.set_cons_zero, List.set_cons_succ]) | (refine T_pass (by rfl) (by rfl) ?_; try simp only [Act.put, List.setIfInBounds_toArray, List.set_cons_zero, List.set_cons_succ]) | (refine T_load (by assumption) (by rfl) (by rfl) (fun _ _ _ _ h => h) rfl rfl (by assumption) (by first | exact (fun hn => hn) | assumption) ?_; try simp only [Act.put, List.setIfInBounds_toArray, List.set_cons_zero, List.set_cons_succ]) | (refine T_nil (by rfl) (by rfl) (fun _ _ _ _ h => h) rfl rfl ?_; try simp only [Act.put, List.setIfInBounds_toArray, List.set_cons_zero, List.set_cons_succ]) | (refine T_quietN (by rfl) (by rfl) (by rfl) (by rfl) (fun _ _ _ _ h => h) (fun K hK => ?_); go_big_quiet_op; refine hK _ ?_; clear hK K) | (refine T_two (by rfl) (by rfl) (by rfl) (by rfl) (fun _ _ _ _ h => h) (fun K hK => ?_); go_big_quiet_op; refine ⟨_, fun _ _ => rfl, ?_⟩; refine hK _ ?_; clear hK K; try simp only [Act.put, List.setIfInBounds_toArray, List.set_cons_zero, List.set_cons_succ]) | fail)
  (refine T_call (by rfl) (by rfl) (fun K hK => ?_); go_wp2_with fail)
  refine (put_calls _ gs 8 6 120 tSec _ life hb2.drew (by rw [List.size_toArray, U8_length]; simp [putL_len]) (by decide)).mono ?_
  rintro e w3 ⟨rfl, hb3, hf3⟩
  rw [splice_pre _ _ 120 114 8 (by simp [putL_len]) (by rw [putL_len])] at hb3
  go_wp2_with fail
  (refine hK.out _ _ (hf3) ?_; clear hK K; try simp only [Act.put, List.setIfInBounds_toArray, List.set_cons_zero, List.set_cons_succ])
  repeat (first | (refine T_skip (by rfl) (by rfl) (fun _ _ _ h => h) ?_; try simp only [Act.put, List.setIfInBounds_toArray, List.set_cons_zero, List.set_cons_succ]) | (refine T_pass (by rfl) (by rfl) ?_; try simp only [Act.put, List.setIfInBounds_toArray, List.set_cons_zero, List.set_cons_succ]) | (refine T_load (by assumption) (by rfl) (by rfl) (fun _ _ _ _ h => h) rfl rfl (by assumption) (by first | exact (fun hn => hn) | assumption) ?_; try simp only [Act.put, List.setIfInBounds_toArray, List.set_cons_zero, List.set_cons_succ]) | (refine T_nil (by rfl) (by rfl) (fun _ _ _ _ h => h) rfl rfl ?_; try simp only [Act.put, List.setIfInBounds_toArray, List.set_cons_zero, List.set_cons_succ]) | (refine T_quietN (by rfl) (by rfl) (by rfl) (by rfl) (fun _ _ _ _ h => h) (fun K hK => ?_); go_big_quiet_op; refine hK _ ?_; clear hK K) | (refine T_two (by rfl) (by rfl) (by rfl) (by rfl) (fun _ _ _ _ h => h) (fun K hK => ?_); go_big_quiet_op; refine ⟨_, fun _ _ => rfl, ?_⟩; refine hK _ ?_; clear hK K; try simp only [Act.put, List.setIfInBounds_toArray, List.set_cons_zero, List.set_cons_succ]) | fail)
  refine T_done ?_
  have hbh3 := hbh2.fr ((Fr.refl _ _).drew.trans hf3 (fun _ _ e => e)) (fun e => hne1 e)
  have hbr3 := hbr2.fr ((Fr.refl _ _).drew.trans hf3 (fun _ _ e => e)) (fun e => hne2 e)
  have hF3 : Fr No w w3 := hF2.trans ((Fr.refl _ _).drew.trans hf3 (fun _ _ e => e)) (fun b hb e => by omega)
  clear y0 y1 y2 y3 yf0 yf1 yf2 yf3
  (have y0 := hbh3.cell 0; have y1 := hbh3.cell 1; have y2 := hbh3.cell 2; have y3 := hbh3.cell 3; have yf0 := hbh3.frozen 0; have yf1 := hbh3.frozen 1; have yf2 := hbh3.frozen 2; have yf3 := hbh3.frozen 3; simp only [List.getElem?_toArray, List.getElem?_cons_zero, List.getElem?_cons_succ] at y0 y1 y2 y3)
  have hc14 := (hb3.cell 14).trans (Array.getElem?_eq_getElem (by rw [List.size_toArray, U8_length]; simp [putL_len]))
  have hz14 := hb3.frozen 14
  have hp := hb3.put 14 (.int .u8 (half % 256))
  have hbyte : half % 256 = ((UInt8.ofNat (half % 256).toNat).toNat : Int) := by
    rw [UInt8.toNat_ofNat']
    have h1 := Int.emod_nonneg half (show (256 : Int) ≠ 0 by decide)
    have h2 := Int.emod_lt_of_pos half (show (0 : Int) < 256 by decide)
    omega
  have hset := set_pre ([] ++ [76, 65, 80, 73, 68, 65, 82, 89] ++ putL 6 life) (UInt8.ofNat (half % 256).toNat) 113 14 (by simp [putL_len])
  rw [← hbyte] at hset
  rw [hset] at hp
  clear hset hbyte
  generalize (U8 ([] ++ [76, 65, 80, 73, 68, 65, 82, 89] ++ putL 6 life ++ List.replicate 114 0)).toArray[14]'_ = old at hc14
  go_upto_region 5 with fail
  have hf4 : Fr (fun b => b = gs) w3 (w3.setCell ⟨gs, 14, none⟩ (.int .u8 (half % 256))) := (Fr.refl (fun b => b = gs) w3).set (p := ⟨gs, 14, none⟩) (.inr rfl) _
  have hb4 := hp
  clear hp y0 y1 y2 y3 yf0 yf1 yf2 yf3 hc14 hz14
  generalize w3.setCell ⟨gs, 14, none⟩ (.int .u8 (half % 256)) = w4 at *
  have hbh4 := hbh3.fr hf4 (fun e => hne1 e)
  have hbr4 := hbr3.fr hf4 (fun e => hne2 e)
  have hF4 : Fr No w w4 := hF3.trans hf4 (fun b hb e => by omega)
  (have y0 := hbh4.cell 0; have y1 := hbh4.cell 1; have y2 := hbh4.cell 2; have y3 := hbh4.cell 3; have yf0 := hbh4.frozen 0; have yf1 := hbh4.frozen 1; have yf2 := hbh4.frozen 2; have yf3 := hbh4.frozen 3; simp only [List.getElem?_toArray, List.getElem?_cons_zero, List.getElem?_cons_succ] at y0 y1 y2 y3)
  go_wp2_with fail
  (refine T_begin (fun b => b = gs) [0, 1, 2, 3] [3] (by kernel_rfl) (by kernel_rfl) ?_; simp only [pickOps, List.filterMap_cons, List.filterMap_nil, List.getElem?_cons_zero, List.getElem?_cons_succ, Act.put])
  repeat (first | (refine T_skip (by rfl) (by rfl) (fun _ _ _ h => h) ?_; try simp only [Act.put, List.setIfInBounds_toArray, List.set_cons_zero, List.set_cons_succ]) | (refine T_pass (by rfl) (by rfl) ?_; try simp only [Act.put, List.setIfInBounds_toArray, List.set_cons_zero, List.set_cons_succ]) | (refine T_load (by assumption) (by rfl) (by rfl) (fun _ _ _ _ h => h) rfl rfl (by assumption) (by first | exact (fun hn => hn) | assumption) ?_; try simp only [Act.put, List.setIfInBounds_toArray, List.set_cons_zero, List.set_cons_succ]) | (refine T_nil (by rfl) (by rfl) (fun _ _ _ _ h => h) rfl rfl ?_; try simp only [Act.put, List.setIfInBounds_toArray, List.set_cons_zero, List.set_cons_succ]) | (refine T_quietN (by rfl) (by rfl) (by rfl) (by rfl) (fun _ _ _ _ h => h) (fun K hK => ?_); go_big_quiet_op; refine hK _ ?_; clear hK K) | (refine T_two (by rfl) (by rfl) (by rfl) (by rfl) (fun _ _ _ _ h => h) (fun K hK => ?_); go_big_quiet_op; refine ⟨_, fun _ _ => rfl, ?_⟩; refine hK _ ?_; clear hK K; try simp only [Act.put, List.setIfInBounds_toArray, List.set_cons_zero, List.set_cons_succ]) | fail)
  (refine T_call (by rfl) (by rfl) (fun K hK => ?_); go_wp2_with fail)
  refine (put_calls _ gs 15 6 113 tSec _ first hb4.drew (by rw [List.size_toArray, U8_length]; simp [putL_len]) (by decide)).mono ?_
  rintro e w5 ⟨rfl, hb5, hf5⟩
  rw [splice_pre _ _ 113 107 15 (by simp [putL_len]) (by rw [putL_len])] at hb5
  go_wp2_with fail
  (refine hK.out _ _ (hf5) ?_; clear hK K; try simp only [Act.put, List.setIfInBounds_toArray, List.set_cons_zero, List.set_cons_succ])
  repeat (first | (refine T_skip (by rfl) (by rfl) (fun _ _ _ h => h) ?_; try simp only [Act.put, List.setIfInBounds_toArray, List.set_cons_zero, List.set_cons_succ]) | (refine T_pass (by rfl) (by rfl) ?_; try simp only [Act.put, List.setIfInBounds_toArray, List.set_cons_zero, List.set_cons_succ]) | (refine T_load (by assumption) (by rfl) (by rfl) (fun _ _ _ _ h => h) rfl rfl (by assumption) (by first | exact (fun hn => hn) | assumption) ?_; try simp only [Act.put, List.setIfInBounds_toArray, List.set_cons_zero, List.set_cons_succ]) | (refine T_nil (by rfl) (by rfl) (fun _ _ _ _ h => h) rfl rfl ?_; try simp only [Act.put, List.setIfInBounds_toArray, List.set_cons_zero, List.set_cons_succ]) | (refine T_quietN (by rfl) (by rfl) (by rfl) (by rfl) (fun _ _ _ _ h => h) (fun K hK => ?_); go_big_quiet_op; refine hK _ ?_; clear hK K) | (refine T_two (by rfl) (by rfl) (by rfl) (by rfl) (fun _ _ _ _ h => h) (fun K hK => ?_); go_big_quiet_op; refine ⟨_, fun _ _ => rfl, ?_⟩; refine hK _ ?_; clear hK K; try simp only [Act.put, List.setIfInBounds_toArray, List.set_cons_zero, List.set_cons_succ]) | fail)
  refine T_done ?_
  have hbh5 := hbh4.fr ((Fr.refl _ _).drew.trans hf5 (fun _ _ e => e)) (fun e => hne1 e)
  have hbr5 := hbr4.fr ((Fr.refl _ _).drew.trans hf5 (fun _ _ e => e)) (fun e => hne2 e)
  have hF5 : Fr No w w5 := hF4.trans ((Fr.refl _ _).drew.trans hf5 (fun _ _ e => e)) (fun b hb e => by omega)
  clear y0 y1 y2 y3 yf0 yf1 yf2 yf3
  (have y0 := hbh5.cell 0; have y1 := hbh5.cell 1; have y2 := hbh5.cell 2; have y3 := hbh5.cell 3; have yf0 := hbh5.frozen 0; have yf1 := hbh5.frozen 1; have yf2 := hbh5.frozen 2; have yf3 := hbh5.frozen 3; simp only [List.getElem?_toArray, List.getElem?_cons_zero, List.getElem?_cons_succ] at y0 y1 y2 y3)
  go_wp2_with fail
  (refine T_begin (fun b => b = gs) [0, 1, 2, 3] [3] (by kernel_rfl) (by kernel_rfl) ?_; simp only [pickOps, List.filterMap_cons, List.filterMap_nil, List.getElem?_cons_zero, List.getElem?_cons_succ, Act.put])
  repeat (first | (refine T_skip (by rfl) (by rfl) (fun _ _ _ h => h) ?_; try simp only [Act.put, List.setIfInBounds_toArray, List.set_cons_zero, List.set_cons_succ]) | (refine T_pass (by rfl) (by rfl) ?_; try simp only [Act.put, List.setIfInBounds_toArray, List.set_cons_zero, List.set_cons_succ]) | (refine T_load (by assumption) (by rfl) (by rfl) (fun _ _ _ _ h => h) rfl rfl (by assumption) (by first | exact (fun hn => hn) | assumption) ?_; try simp only [Act.put, List.setIfInBounds_toArray, List.set_cons_zero, List.set_cons_succ]) | (refine T_nil (by rfl) (by rfl) (fun _ _ _ _ h => h) rfl rfl ?_; try simp only [Act.put, List.setIfInBounds_toArray, List.set_cons_zero, List.set_cons_succ]) | (refine T_quietN (by rfl) (by rfl) (by rfl) (by rfl) (fun _ _ _ _ h => h) (fun K hK => ?_); go_big_quiet_op; refine hK _ ?_; clear hK K) | (refine T_two (by rfl) (by rfl) (by rfl) (by rfl) (fun _ _ _ _ h => h) (fun K hK => ?_); go_big_quiet_op; refine ⟨_, fun _ _ => rfl, ?_⟩; refine hK _ ?_; clear hK K; try simp only [Act.put, List.setIfInBounds_toArray, List.set_cons_zero, List.set_cons_succ]) | fail)
  (refine T_call (by rfl) (by rfl) (fun K hK => ?_); go_wp2_with fail)
  refine (put_calls _ gs 21 6 107 tSec _ since hb5.drew (by rw [List.size_toArray, U8_length]; simp [putL_len]) (by decide)).mono ?_
  rintro e w6 ⟨rfl, hb6, hf6⟩
  rw [splice_pre _ _ 107 101 21 (by simp [putL_len]) (by rw [putL_len])] at hb6
  go_wp2_with fail
  (refine hK.out _ _ (hf6) ?_; clear hK K; try simp only [Act.put, List.setIfInBounds_toArray, List.set_cons_zero, List.set_cons_succ])
  repeat (first | (refine T_skip (by rfl) (by rfl) (fun _ _ _ h => h) ?_; try simp only [Act.put, List.setIfInBounds_toArray, List.set_cons_zero, List.set_cons_succ]) | (refine T_pass (by rfl) (by rfl) ?_; try simp only [Act.put, List.setIfInBounds_toArray, List.set_cons_zero, List.set_cons_succ]) | (refine T_load (by assumption) (by rfl) (by rfl) (fun _ _ _ _ h => h) rfl rfl (by assumption) (by first | exact (fun hn => hn) | assumption) ?_; try simp only [Act.put, List.setIfInBounds_toArray, List.set_cons_zero, List.set_cons_succ]) | (refine T_nil (by rfl) (by rfl) (fun _ _ _ _ h => h) rfl rfl ?_; try simp only [Act.put, List.setIfInBounds_toArray, List.set_cons_zero, List.set_cons_succ]) | (refine T_quietN (by rfl) (by rfl) (by rfl) (by rfl) (fun _ _ _ _ h => h) (fun K hK => ?_); go_big_quiet_op; refine hK _ ?_; clear hK K) | (refine T_two (by rfl) (by rfl) (by rfl) (by rfl) (fun _ _ _ _ h => h) (fun K hK => ?_); go_big_quiet_op; refine ⟨_, fun _ _ => rfl, ?_⟩; refine hK _ ?_; clear hK K; try simp only [Act.put, List.setIfInBounds_toArray, List.set_cons_zero, List.set_cons_succ]) | fail)
  refine T_done ?_
  have hbh6 := hbh5.fr ((Fr.refl _ _).drew.trans hf6 (fun _ _ e => e)) (fun e => hne1 e)
  have hbr6 := hbr5.fr ((Fr.refl _ _).drew.trans hf6 (fun _ _ e => e)) (fun e => hne2 e)
  have hF6 : Fr No w w6 := hF5.trans ((Fr.refl _ _).drew.trans hf6 (fun _ _ e => e)) (fun b hb e => by omega)
  clear y0 y1 y2 y3 yf0 yf1 yf2 yf3
  have hpre : ([] ++ [76, 65, 80, 73, 68, 65, 82, 89] ++ putL 6 life ++ [UInt8.ofNat (half % 256).toNat] ++ putL 6 first ++ putL 6 since) = headS ⟨life, half, first, since⟩ := rfl
  rw [hpre] at hb6
  clear hpre
  have hrd6 : RdB w6 (fun b => b = gs) (some ⟨gs, 0, none⟩) (headS ⟨life, half, first, since⟩) := by
    refine ⟨by rw [U8_length]; omega, by rw [headS_len]; decide, fun _ => ⟨_, rfl, rfl, hb6.cells 0 _ (fun j u hu => ?_)⟩⟩
    have hj := (List.getElem?_eq_some_iff.1 hu).1
    simp only [U8, List.map_append, List.getElem?_toArray, Nat.zero_add]
    rw [List.getElem?_append_left (by simpa [U8] using hj)]
    exact hu
  have hsl := headS_len ⟨life, half, first, since⟩
  obtain ⟨hh, hhd⟩ : ∃ hh, hh = headS ⟨life, half, first, since⟩ := ⟨_, rfl⟩
  have hB : headB ⟨life, half, first, since⟩ = hh ++ putL 4 ((crc hh).toNat : Int) ++ List.replicate 97 0 := by rw [hhd]; rfl
  rw [← hhd] at hb6 hrd6 hsl
  have HBB := Lib.hid hB
  clear hB hhd
  have hsum := sum_calls _ (some ⟨gs, 0, none⟩) 128 hh w6.drew hrd6.drew
  rw [hsl] at hsum
  have hcr := u32n (crc hh)
  have hcr0 : (0 : Int) ≤ ((crc hh).toNat : Int) := by omega
  generalize hcn : ((crc hh).toNat : Int) = cn at *
  go_wp2_with fail
  (refine T_begin (fun b => b = gs) [0, 1, 2, 3, 4] [2, 4] (by kernel_rfl) (by kernel_rfl) ?_; simp only [pickOps, List.filterMap_cons, List.filterMap_nil, List.getElem?_cons_zero, List.getElem?_cons_succ, Act.put])
  repeat (first | (refine T_skip (by rfl) (by rfl) (fun _ _ _ h => h) ?_; try simp only [Act.put, List.setIfInBounds_toArray, List.set_cons_zero, List.set_cons_succ]) | (refine T_pass (by rfl) (by rfl) ?_; try simp only [Act.put, List.setIfInBounds_toArray, List.set_cons_zero, List.set_cons_succ]) | (refine T_load (by assumption) (by rfl) (by rfl) (fun _ _ _ _ h => h) rfl rfl (by assumption) (by first | exact (fun hn => hn) | assumption) ?_; try simp only [Act.put, List.setIfInBounds_toArray, List.set_cons_zero, List.set_cons_succ]) | (refine T_nil (by rfl) (by rfl) (fun _ _ _ _ h => h) rfl rfl ?_; try simp only [Act.put, List.setIfInBounds_toArray, List.set_cons_zero, List.set_cons_succ]) | (refine T_quietN (by rfl) (by rfl) (by rfl) (by rfl) (fun _ _ _ _ h => h) (fun K hK => ?_); go_big_quiet_op; refine hK _ ?_; clear hK K) | (refine T_two (by rfl) (by rfl) (by rfl) (by rfl) (fun _ _ _ _ h => h) (fun K hK => ?_); go_big_quiet_op; refine ⟨_, fun _ _ => rfl, ?_⟩; refine hK _ ?_; clear hK K; try simp only [Act.put, List.setIfInBounds_toArray, List.set_cons_zero, List.set_cons_succ]) | fail)
  (refine T_call (by rfl) (by rfl) (fun K hK => ?_); go_wp2_with fail)
  refine hsum.mono ?_
  rintro e w7 ⟨rfl, hw7⟩
  subst hw7
  go_wp2_with fail
  (refine hK.out _ _ ((Fr.refl _ _)) ?_; clear hK K; try simp only [Act.put, List.setIfInBounds_toArray, List.set_cons_zero, List.set_cons_succ])
  refine T_u32 hcr0 hcr (by rfl) (by rfl) (fun _ _ _ _ h => h) rfl rfl ?_
  try simp only [Act.put, List.setIfInBounds_toArray, List.set_cons_zero, List.set_cons_succ]
  (refine T_call (by rfl) (by rfl) (fun K hK => ?_); go_wp2_with fail)
  refine (put_calls _ gs 27 4 101 tSec _ cn hb6.drew (by rw [List.size_toArray, U8_length, List.length_append, hsl, List.length_replicate]; decide) (by decide)).mono ?_
  rintro e w8 ⟨rfl, hb8, hf8⟩
  rw [splice_pre _ _ 101 97 27 hsl (by rw [putL_len])] at hb8
  go_wp2_with fail
  (refine hK.out _ _ (hf8) ?_; clear hK K; try simp only [Act.put, List.setIfInBounds_toArray, List.set_cons_zero, List.set_cons_succ])
  repeat (first | (refine T_skip (by rfl) (by rfl) (fun _ _ _ h => h) ?_; try simp only [Act.put, List.setIfInBounds_toArray, List.set_cons_zero, List.set_cons_succ]) | (refine T_pass (by rfl) (by rfl) ?_; try simp only [Act.put, List.setIfInBounds_toArray, List.set_cons_zero, List.set_cons_succ]) | (refine T_load (by assumption) (by rfl) (by rfl) (fun _ _ _ _ h => h) rfl rfl (by assumption) (by first | exact (fun hn => hn) | assumption) ?_; try simp only [Act.put, List.setIfInBounds_toArray, List.set_cons_zero, List.set_cons_succ]) | (refine T_nil (by rfl) (by rfl) (fun _ _ _ _ h => h) rfl rfl ?_; try simp only [Act.put, List.setIfInBounds_toArray, List.set_cons_zero, List.set_cons_succ]) | (refine T_quietN (by rfl) (by rfl) (by rfl) (by rfl) (fun _ _ _ _ h => h) (fun K hK => ?_); go_big_quiet_op; refine hK _ ?_; clear hK K) | (refine T_two (by rfl) (by rfl) (by rfl) (by rfl) (fun _ _ _ _ h => h) (fun K hK => ?_); go_big_quiet_op; refine ⟨_, fun _ _ => rfl, ?_⟩; refine hK _ ?_; clear hK K; try simp only [Act.put, List.setIfInBounds_toArray, List.set_cons_zero, List.set_cons_succ]) | fail)
  refine T_done ?_
  have hbr8 := hbr6.fr ((Fr.refl _ _).drew.trans hf8 (fun _ _ e => e)) (fun e => hne2 e)
  have hF8 : Fr No w w8 := hF6.trans ((Fr.refl _ _).drew.trans hf8 (fun _ _ e => e)) (fun b hb e => by omega)
  rw [← HBB.out] at hb8
  have hall := hb8.all
  have hlb : (U8 (headB ⟨life, half, first, since⟩)).length = 128 := by rw [U8_length, headB_len]
  obtain ⟨hB, hhB⟩ : ∃ hB, Hid (hB = headB ⟨life, half, first, since⟩) := ⟨_, Lib.hid rfl⟩
  rw [← hhB.out] at hb8 hall hlb
  go_wp2_with (first
    | (refine wpList_ldA ag_sec4 rfl _ rfl ⟨gs, 0, none⟩ (U8 hB) rfl hlb hall ?_)
    | (refine wpList_stA ag_sec4.info rfl _ _ rfl (w.heap.size + 1) 0 _ _ (U8 hB) _ rfl rfl rfl hlb (U8_one hB) hbr8 (by rw [List.size_toArray, U8_length, List.length_replicate]; first | done | omega) ?_; intro w9 hb9 hg9 hz9)
    | fail)
  rw [splice_all _ _ (by rw [hlb, List.size_toArray, U8_length, List.length_replicate])] at hb9
  have hf9 : Fr (fun b => b = w.heap.size + 1) w8 w9 := (Fr.refl _ w8).grown hg9 (fun q hq => by injection hq with hq; exact .inr hq.symm)
  refine bodyPost_ret (results_blk ag_sec4 rfl _ _ _ _ _ rfl hb9 (by rw [List.size_toArray]; exact hlb)) rfl ⟨by rw [hhB.out], hF8.trans hf9 (fun b hb e => by omega)⟩
end Go.Proofs.YtannkgglgmbkdaaDoor
