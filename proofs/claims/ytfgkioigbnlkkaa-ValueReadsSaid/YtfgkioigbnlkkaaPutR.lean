/- PutRecord: value's, and the reference's. No condition. -/
import Derived.Test.YtfgkioigbnlkkaaRightR
import Derived.Test.YtfgkioigbnlkkaaPut
namespace Go.Proofs.Ytfgkioigbnlkkaa
set_option linter.unusedVariables false
set_option linter.unusedSimpArgs false
open Go.RowKit

theorem T_conv {S : Nat → Prop} {ops : Array Oper} {Q : Exit → Act → World → Prop} {ms : List Nat} {ord calls : List Nat} {k : Nat} {l : List Oper} {o : Oper} {a : Act} {w : World} {src dst : TypeId} {k1 k2 : IntKind} {n m : Int} (hs : Try.prog.underlying src = some (.int k1)) (hd : Try.prog.underlying dst = some (.int k2)) (hm : k2.wrap n = m)
    (hc : calls.contains (ord.getD k 0) = false) (hw : Region.wanted o (yielded ops a.tmps) = true) (hQ : ∀ v c a w, Q (.panic c) (a.put o.dst v) w → Q (.panic c) a w)
    {x : Operand} (ho : o.op = .convert src dst x) (hx : a.eval x = .int k1 n)
    (h : wpT Try.prog S ops Q ms ord calls (k + 1) l (a.put o.dst (.int k2 m)) w) (hxm : calls.contains (ord.getD k 0 + 1000) = false := by rfl) : wpT Try.prog S ops Q ms ord calls k (o :: l) a w := by
  refine T_take hc hw (hQ _) (fun w' hf => ?_) h hxm
  unfold execOp
  simp [ho, hx, convert, run_underlying hs, run_underlying hd, Conv.intToInt, hm]
theorem u64_nat (n : Nat) (h : n < 18446744073709551616) : IntKind.u64.wrap (n : Int) = (n : Int) := by
  have : ∀ x : Int, IntKind.u64.wrap x = x % 18446744073709551616 := fun x => by simp [IntKind.wrap, IntKind.bits, IntKind.signed]
  rw [this]; omega
theorem take_snocC (l : List ChM) (k : Nat) (h : k < l.length) : chsB (l.take (k + 1)) = chsB (l.take k) ++ chB l[k] := by
  rw [List.take_succ_eq_append_getElem h, chsB_append]; simp [chsB]
theorem chB_gone (o : Nat) (ob : ObjM) : chB ⟨o, true, ob⟩ = uintL o ++ [1] := by unfold chB; simp
theorem chB_here (o : Nat) (ob : ObjM) : chB ⟨o, false, ob⟩ = uintL o ++ [0] ++ objB ob := by unfold chB; simp
theorem recB_eq (com : Nat) (chs : List ChM) : recB ⟨com, chs⟩ = uintL com ++ uintL chs.length ++ chsB chs := rfl
theorem pre_le (com : Nat) (chs : List ChM) (k : Nat) : (uintL com ++ uintL chs.length ++ chsB (chs.take k)).length ≤ (recB ⟨com, chs⟩).length := by
  have e : chsB chs = chsB (chs.take k) ++ chsB (chs.drop k) := by rw [← chsB_append, List.take_append_drop]
  rw [recB_eq]
  simp only [List.length_append, e]
  omega
theorem objB_len (o : ObjM) (h : rightO o = true) : (objB o).length ≤ 60000 := by
  obtain ⟨h1, h2, h3, h4, h5⟩ := rightO_parts h
  have hv : ∀ l : List VL, l.all rightV = true → (valsB l).length ≤ l.length * 11 := by
    intro l
    induction l with
    | nil => intro _; simp [valsB]
    | cons v l ih =>
      intro hl
      rw [List.all_cons, Bool.and_eq_true] at hl
      rw [valsB_cons, List.length_append, List.length_cons]
      have h6 := ih hl.2
      have h7 : (valB v).length ≤ 11 := by
        rcases rightV_cases hl.1 with ⟨n, _, rfl, hn1, hn2⟩ | ⟨n, rfl, hn1, hn2⟩ | ⟨ch, rfl, hch⟩
        · obtain ⟨m, hm⟩ := Int.eq_ofNat_of_zero_le (foldZ_lt n (by omega) (by omega)).1
          have hm2 := (foldZ_lt n (by omega) (by omega)).2
          rw [valB_int n m hm]
          have := uintL_ten m (by omega)
          simp; omega
        · rw [valB_ref]
          have := uintL_ten n (by omega)
          simp; omega
        · rw [valB_small _ _ hch]; simp
      omega
  have h6 := hv o.slots h5
  have h7 := uintL_ten o.cls.toNat (by omega)
  have h8 := uintL_ten o.slots.length (by omega)
  have h9 := uintL_ten o.bytes.length (by omega)
  simp only [objB, List.length_append]
  omega

set_option maxHeartbeats 4000000 in
set_option maxRecDepth 100000 in
theorem vputr_calls (S : Nat → Prop) (cs : List Value) (r : RecM) (w : World) (h : RecC w S cs r) :
    Calls Try.prog 30 #[.agg cs.toArray] w fun e w' => RetB w w' e (putR r) := by
  obtain ⟨com, chs⟩ := r
  replace h := h.lt
  have hrr := vrightr_calls (fun b => S b ∧ b < w.heap.size) cs ⟨com, chs⟩
  have hcc := h
  obtain ⟨A, c, rfl, hch⟩ := hcc
  simp only at hch
  have g1 := plain_i64
  have g2 := plain_lchp
  have g4 := plain_bool
  have g5 := plain_lval
  have g6 := plain_lu8
  have hle := hch.le
  have hf : Fr No w (w.alloc (.cells #[.int .i64 com, .slice A chs.length c] 52)) := (Fr.refl No w).alloc _
  have hbx := Blk.new w 52 #[.int .i64 com, .slice A chs.length c]
  have hlw := hbx.lt
  go_enter Try.func30, Try.ntmps30
  go_upto_region 1 with fail
  generalize hw1 : w.alloc (.cells #[.int .i64 com, .slice A chs.length c] 52) = w1 at *
  clear hw1
  have hball := hbx.all
  go_wp2_with (first
    | (refine wpList_ldA ag_recp rfl _ rfl ⟨w.heap.size, 0, none⟩ [.int .i64 com, .slice A chs.length c] rfl rfl hball ?_)
    | fail)
  refine (hrr _ (h.fr0 hf)).mono ?_
  rintro e w2 ⟨rfl, hf2⟩
  have hF2 := hf.tr hf2
  have hbx2 := hbx.fr0 hf2
  clear hball hrr
  cases hr : rightR ⟨com, chs⟩ with
  | false =>
    have H := Lib.hid (putR_no hr)
    clear hr
    go_wp2
    go_ret2
    rw [H.out]
    exact ⟨_, rfl, World.ownsRow_nil _ _ _ _, hF2⟩
  | true =>
  obtain ⟨hr1, hr2, hr3, hr4⟩ := rightR_parts hr
  simp only at hr1 hr2 hr3 hr4
  obtain ⟨com, rfl⟩ := Int.eq_ofNat_of_zero_le (show 0 ≤ com by omega)
  have HO := Lib.hid (chsRight_oops chs 0 hr4)
  have HBIG := Lib.hid (@putR_big ⟨com, chs⟩ hr)
  have HOK := Lib.hid (@putR_ok ⟨com, chs⟩ hr)
  have ht1 := uintL_ten com (by omega)
  have ht2 := uintL_ten chs.length (by omega)
  clear hr4 hr
  have hz2 := hF2.size
  (have p0 := hbx2.cell 0; have p1 := hbx2.cell 1; have pf0 := hbx2.frozen 0; have pf1 := hbx2.frozen 1; simp only [List.getElem?_toArray, List.getElem?_cons_zero, List.getElem?_cons_succ] at p0 p1)
  go_wp2_with fail
  have hSb : ¬ (w2.heap.size ≤ w.heap.size) := by have := hf2.size; omega
  refine T_begin2 (fun b => w2.heap.size ≤ b) [] [0, 1, 2, 4, 5, 6, 7, 3, 8, 9, 10] [3, 8, 9] (by kernel_rfl) (by kernel_rfl) ?_
  simp only [pickOps, List.filterMap_cons, List.filterMap_nil, List.getElem?_cons_zero, List.getElem?_cons_succ, Act.put]
  repeat (first | (refine T_skip (by rfl) (by rfl) (fun _ _ _ h => h) ?_; try simp only [Act.put, List.setIfInBounds_toArray, List.set_cons_zero, List.set_cons_succ]) | (refine T_pass (by rfl) (by rfl) ?_; try simp only [Act.put, List.setIfInBounds_toArray, List.set_cons_zero, List.set_cons_succ]) | (refine T_load (by assumption) (by rfl) (by rfl) (fun _ _ _ _ h => h) rfl rfl (by assumption) (by first | exact (fun hn => hn) | assumption) ?_; try simp only [Act.put, List.setIfInBounds_toArray, List.set_cons_zero, List.set_cons_succ]) | (refine T_nil (by rfl) (by rfl) (fun _ _ _ _ h => h) rfl rfl ?_; try simp only [Act.put, List.setIfInBounds_toArray, List.set_cons_zero, List.set_cons_succ]) | (refine T_quietN (by rfl) (by rfl) (by rfl) (by rfl) (fun _ _ _ _ h => h) (fun K hK => ?_); go_big_quiet_op; refine hK _ ?_; clear hK K) | (refine T_two (by rfl) (by rfl) (by rfl) (by rfl) (fun _ _ _ _ h => h) (fun K hK => ?_); go_big_quiet_op; refine ⟨_, fun _ _ => rfl, ?_⟩; refine hK _ ?_; clear hK K; try simp only [Act.put, List.setIfInBounds_toArray, List.set_cons_zero, List.set_cons_succ]) | fail)
  refine T_conv Try.underlying2 Try.underlying81 (u64_nat com (by omega)) (by rfl) (by rfl) (fun _ _ _ _ h => h) rfl rfl ?_
  try simp only [Act.put, List.setIfInBounds_toArray, List.set_cons_zero, List.set_cons_succ]
  repeat (first | (refine T_skip (by rfl) (by rfl) (fun _ _ _ h => h) ?_; try simp only [Act.put, List.setIfInBounds_toArray, List.set_cons_zero, List.set_cons_succ]) | (refine T_pass (by rfl) (by rfl) ?_; try simp only [Act.put, List.setIfInBounds_toArray, List.set_cons_zero, List.set_cons_succ]) | (refine T_load (by assumption) (by rfl) (by rfl) (fun _ _ _ _ h => h) rfl rfl (by assumption) (by first | exact (fun hn => hn) | assumption) ?_; try simp only [Act.put, List.setIfInBounds_toArray, List.set_cons_zero, List.set_cons_succ]) | (refine T_nil (by rfl) (by rfl) (fun _ _ _ _ h => h) rfl rfl ?_; try simp only [Act.put, List.setIfInBounds_toArray, List.set_cons_zero, List.set_cons_succ]) | (refine T_quietN (by rfl) (by rfl) (by rfl) (by rfl) (fun _ _ _ _ h => h) (fun K hK => ?_); go_big_quiet_op; refine hK _ ?_; clear hK K) | (refine T_two (by rfl) (by rfl) (by rfl) (by rfl) (fun _ _ _ _ h => h) (fun K hK => ?_); go_big_quiet_op; refine ⟨_, fun _ _ => rfl, ?_⟩; refine hK _ ?_; clear hK K; try simp only [Act.put, List.setIfInBounds_toArray, List.set_cons_zero, List.set_cons_succ]) | fail)
  refine T_conv Try.underlying3 Try.underlying81 (u64_nat chs.length (by omega)) (by rfl) (by rfl) (fun _ _ _ _ h => h) rfl rfl ?_
  try simp only [Act.put, List.setIfInBounds_toArray, List.set_cons_zero, List.set_cons_succ]
  (refine T_call (by rfl) (by rfl) (fun K hK => ?_); go_wp2_with fail)
  refine (uint_calls com _ (by omega)).mono ?_
  rintro e w3 ⟨v3, rfl, hown3, hf3⟩
  have hown3' := own_down hown3 (show w2.heap.size ≤ w2.drew.heap.size from Nat.le_refl _)
  (refine hK.out _ _ ((hf3.mono (fun _ _ hn => hn.elim))) ?_; clear hK K; try simp only [Act.put, List.setIfInBounds_toArray, List.set_cons_zero, List.set_cons_succ])
  repeat (first | (refine T_skip (by rfl) (by rfl) (fun _ _ _ h => h) ?_; try simp only [Act.put, List.setIfInBounds_toArray, List.set_cons_zero, List.set_cons_succ]) | (refine T_pass (by rfl) (by rfl) ?_; try simp only [Act.put, List.setIfInBounds_toArray, List.set_cons_zero, List.set_cons_succ]) | (refine T_load (by assumption) (by rfl) (by rfl) (fun _ _ _ _ h => h) rfl rfl (by assumption) (by first | exact (fun hn => hn) | assumption) ?_; try simp only [Act.put, List.setIfInBounds_toArray, List.set_cons_zero, List.set_cons_succ]) | (refine T_nil (by rfl) (by rfl) (fun _ _ _ _ h => h) rfl rfl ?_; try simp only [Act.put, List.setIfInBounds_toArray, List.set_cons_zero, List.set_cons_succ]) | (refine T_quietN (by rfl) (by rfl) (by rfl) (by rfl) (fun _ _ _ _ h => h) (fun K hK => ?_); go_big_quiet_op; refine hK _ ?_; clear hK K) | (refine T_two (by rfl) (by rfl) (by rfl) (by rfl) (fun _ _ _ _ h => h) (fun K hK => ?_); go_big_quiet_op; refine ⟨_, fun _ _ => rfl, ?_⟩; refine hK _ ?_; clear hK K; try simp only [Act.put, List.setIfInBounds_toArray, List.set_cons_zero, List.set_cons_succ]) | fail)
  (refine T_call (by rfl) (by rfl) (fun K hK => ?_); go_wp2_with fail)
  refine (uint_calls chs.length _ (by omega)).mono ?_
  rintro e w4 ⟨v4, rfl, hown4, hf4⟩
  obtain ⟨A4, c4, rfl, hc4, _, _⟩ := own_form hown4
  (refine hK.out _ _ ((hf4.mono (fun _ _ hn => hn.elim))) ?_; clear hK K; try simp only [Act.put, List.setIfInBounds_toArray, List.set_cons_zero, List.set_cons_succ])
  repeat (first | (refine T_skip (by rfl) (by rfl) (fun _ _ _ h => h) ?_; try simp only [Act.put, List.setIfInBounds_toArray, List.set_cons_zero, List.set_cons_succ]) | (refine T_pass (by rfl) (by rfl) ?_; try simp only [Act.put, List.setIfInBounds_toArray, List.set_cons_zero, List.set_cons_succ]) | (refine T_load (by assumption) (by rfl) (by rfl) (fun _ _ _ _ h => h) rfl rfl (by assumption) (by first | exact (fun hn => hn) | assumption) ?_; try simp only [Act.put, List.setIfInBounds_toArray, List.set_cons_zero, List.set_cons_succ]) | (refine T_nil (by rfl) (by rfl) (fun _ _ _ _ h => h) rfl rfl ?_; try simp only [Act.put, List.setIfInBounds_toArray, List.set_cons_zero, List.set_cons_succ]) | (refine T_quietN (by rfl) (by rfl) (by rfl) (by rfl) (fun _ _ _ _ h => h) (fun K hK => ?_); go_big_quiet_op; refine hK _ ?_; clear hK K) | (refine T_two (by rfl) (by rfl) (by rfl) (by rfl) (fun _ _ _ _ h => h) (fun K hK => ?_); go_big_quiet_op; refine ⟨_, fun _ _ => rfl, ?_⟩; refine hK _ ?_; clear hK K; try simp only [Act.put, List.setIfInBounds_toArray, List.set_cons_zero, List.set_cons_succ]) | fail)
  refine T_call (by rfl) (by rfl) (fun K hK => ?_)
  refine wp_app_at so_u8 (own_fr0 hown3' hf4) (own_rd hown4 (by omega)) (U8_one _) (by omega) (by have := hf3.size; have := hf4.size; simp only [World.drew] at *; omega) rfl rfl rfl ?_
  intro v5 w5 hown5 hg5 hat5
  refine hK.out _ _ ((Fr.refl _ _).grown hg5 (fun q hq => .inr (hown3'.lt q hq).1)) ?_
  clear hK K
  try simp only [Act.put, List.setIfInBounds_toArray, List.set_cons_zero, List.set_cons_succ]
  repeat (first | (refine T_skip (by rfl) (by rfl) (fun _ _ _ h => h) ?_; try simp only [Act.put, List.setIfInBounds_toArray, List.set_cons_zero, List.set_cons_succ]) | (refine T_pass (by rfl) (by rfl) ?_; try simp only [Act.put, List.setIfInBounds_toArray, List.set_cons_zero, List.set_cons_succ]) | (refine T_load (by assumption) (by rfl) (by rfl) (fun _ _ _ _ h => h) rfl rfl (by assumption) (by first | exact (fun hn => hn) | assumption) ?_; try simp only [Act.put, List.setIfInBounds_toArray, List.set_cons_zero, List.set_cons_succ]) | (refine T_nil (by rfl) (by rfl) (fun _ _ _ _ h => h) rfl rfl ?_; try simp only [Act.put, List.setIfInBounds_toArray, List.set_cons_zero, List.set_cons_succ]) | (refine T_quietN (by rfl) (by rfl) (by rfl) (by rfl) (fun _ _ _ _ h => h) (fun K hK => ?_); go_big_quiet_op; refine hK _ ?_; clear hK K) | (refine T_two (by rfl) (by rfl) (by rfl) (by rfl) (fun _ _ _ _ h => h) (fun K hK => ?_); go_big_quiet_op; refine ⟨_, fun _ _ => rfl, ?_⟩; refine hK _ ?_; clear hK K; try simp only [Act.put, List.setIfInBounds_toArray, List.set_cons_zero, List.set_cons_succ]) | fail)
  refine T_done ?_
  have hb3 : Buf w2 w4 w2.heap.size No v3 (uintL com) := ⟨own_fr0 hown3' hf4, fun b hb => .inr (hown3'.lt b hb).1, ((Fr.refl No w2).drew.tr hf3).tr hf4⟩
  have hb5 := hb3.app hown5 hg5 (Lib.hid hat5)
  clear hown3 hown3' hown4 hown5 hg5 hat5 hb3
  have hlen5 : (uintL com ++ uintL chs.length).length ≤ 20 := by rw [List.length_append]; omega
  have hbx5 := hbx2.fr0 hb5.2.2
  (have q0 := hbx5.cell 0; have q1 := hbx5.cell 1; have qf0 := hbx5.frozen 0; have qf1 := hbx5.frozen 1; simp only [List.getElem?_toArray, List.getElem?_cons_zero, List.getElem?_cons_succ] at q0 q1)
  go_wp2_with fail
  go_loopw [4, 23] (fun v i wr => ∃ (k : Nat) (L : List UInt8), k ≤ chs.length ∧ i = .int .i64 (k : Int) ∧ L.length ≤ 60000 ∧ Hid (L = uintL com ++ uintL chs.length ++ chsB (chs.take k)) ∧ Buf w2 wr w2.heap.size No v L) (fun _ i _ => chs.length - (intOf i).toNat)
  case atStart => exact ⟨0, uintL com ++ uintL chs.length, by omega, rfl, by omega, Lib.hid (by simp [chsB]), hb5⟩
  case round =>
    clear q0 q1 qf0 qf1 hbx5 hb5 hlen5
    obtain ⟨k, L, hk, rfl, hL, HL, hbf⟩ := hrel
    have hbxr := hbx2.fr0 hbf.2.2
    (have p0 := hbxr.cell 0; have p1 := hbxr.cell 1; have pf0 := hbxr.frozen 0; have pf1 := hbxr.frozen 1; simp only [List.getElem?_toArray, List.getElem?_cons_zero, List.getElem?_cons_succ] at p0 p1)
    by_cases hlt : k < chs.length
    · have ek : decide ((k : Int) < chs.length) = true := by simpa using (by omega : (k : Int) < chs.length)
      have hrd := hch.fr0 hF2
      obtain ⟨ga, of, Av, nn, D, mm, rfl, _, hcell0, hsl, hby⟩ := hrd.at_ hlt
      have hcell := fun j u hu => hbf.2.2.cell_some (hcell0 j u hu) (fun hn => hn)
      clear hcell0
      have HOB0 : Hid (∀ wz, Fr No w2 wz → ObjC wz (fun b => S b ∧ b < w.heap.size) [.int .i64 chs[k].obj.cls, .slice Av chs[k].obj.slots.length nn, .slice D chs[k].obj.bytes.length mm] chs[k].obj) := Lib.hid (fun wz hz => ObjC.fr0 ⟨Av, nn, D, mm, rfl, hsl, hby⟩ hz)
      obtain ⟨hx1, hx2⟩ := HO.out _ (List.getElem_mem hlt)
      have HT := Lib.hid (take_snocC chs k hlt)
      have HPL := Lib.hid (pre_le com chs (k + 1))
      clear hrd
      generalize chs[k] = x at *
      obtain ⟨oop, gone, ob⟩ := x
      simp only at hcell hsl hby hx1
      simp only [oopB, Bool.and_eq_true, decide_eq_true_eq] at hx1
      obtain ⟨oop, rfl⟩ := Int.eq_ofNat_of_zero_le (show 0 ≤ oop by omega)
      have hall := addr5 _ _ _ hcell
      clear hcell
      have HOBJ : Hid (∀ wz, Fr No w2 wz → ObjC wz (fun b => S b ∧ b < w.heap.size) [.int .i64 ob.cls, .slice Av ob.slots.length nn, .slice D ob.bytes.length mm] ob) := Lib.hid (fun wz hz => HOB0.out wz hz)
      have hto := uintL_ten oop (by omega)
      cases gone with
      | true =>
        have HCB := Lib.hid (chB_gone oop ob)
        have hfA : Fr No wr (wr.alloc (.cells #[.int .i64 (oop : Int), .bool true, .int .i64 ob.cls, .slice Av ob.slots.length nn, .slice D ob.bytes.length mm] 79)) := (Fr.refl No wr).alloc _
        have hnew := Blk.new wr 79 #[.int .i64 (oop : Int), .bool true, .int .i64 ob.cls, .slice Av ob.slots.length nn, .slice D ob.bytes.length mm]
        have hbfA := hbf.fr0 hfA
        go_upto_region 7 with (first
          | (refine wpList_ldA ag_chp rfl _ rfl ⟨ga, of + k * 5, none⟩ [.int .i64 (oop : Int), .bool true, .int .i64 ob.cls, .slice Av ob.slots.length nn, .slice D ob.bytes.length mm] rfl rfl hall ?_)
          | fail)
        generalize hwA : wr.alloc (.cells #[.int .i64 (oop : Int), .bool true, .int .i64 ob.cls, .slice Av ob.slots.length nn, .slice D ob.bytes.length mm] 79) = wA at *
        clear hwA p0 p1 pf0 pf1
        have hwl := hnew.lt
        (have z0 := hnew.cell 0; have z1 := hnew.cell 1; have z2 := hnew.cell 2; have z3 := hnew.cell 3; have z4 := hnew.cell 4; have zf0 := hnew.frozen 0; have zf1 := hnew.frozen 1; have zf2 := hnew.frozen 2; have zf3 := hnew.frozen 3; have zf4 := hnew.frozen 4; simp only [List.getElem?_toArray, List.getElem?_cons_zero, List.getElem?_cons_succ] at z0 z1 z2 z3 z4)
        go_wp2_with fail
        refine (uint_calls oop _ (by omega)).mono ?_
        rintro e w6 ⟨v6, rfl, hown6, hf6⟩
        obtain ⟨A6, c6, rfl, hc6, _, _⟩ := own_form hown6
        have hb6 := hbfA.fr0 hf6
        have hnew6 := hnew.fr0 hf6
        clear z0 z1 z2 z3 z4 zf0 zf1 zf2 zf3 zf4
        (have z0 := hnew6.cell 0; have z1 := hnew6.cell 1; have z2 := hnew6.cell 2; have z3 := hnew6.cell 3; have z4 := hnew6.cell 4; have zf0 := hnew6.frozen 0; have zf1 := hnew6.frozen 1; have zf2 := hnew6.frozen 2; have zf3 := hnew6.frozen 3; have zf4 := hnew6.frozen 4; simp only [List.getElem?_toArray, List.getElem?_cons_zero, List.getElem?_cons_succ] at z0 z1 z2 z3 z4)
        have hne6 : ∀ b, u4.ownBlock = some b → b < wr.heap.size := fun b hb => (hbf.1.lt b hb).2
        have HNE := Lib.hid hne6
        clear hne6
        go_upto_region 8 with (first
          | (refine wpList_app_hid so_u8 rfl hb6.1 (own_rd hown6 (by omega)) (U8_one _) (by omega) (hb6.base (Nat.le_refl _)) rfl rfl rfl ?_; intro v7 w7 hown7 hg7 hat7; have hb7 := hb6.app hown7 hg7 hat7; have hnew7 := hnew6.grown hg7 (fun hh => by have := HNE.out _ hh.symm; omega); (have y0 := hnew7.cell 0; have y1 := hnew7.cell 1; have y2 := hnew7.cell 2; have y3 := hnew7.cell 3; have y4 := hnew7.cell 4; have yf0 := hnew7.frozen 0; have yf1 := hnew7.frozen 1; have yf2 := hnew7.frozen 2; have yf3 := hnew7.frozen 3; have yf4 := hnew7.frozen 4; simp only [List.getElem?_toArray, List.getElem?_cons_zero, List.getElem?_cons_succ] at y0 y1 y2 y3 y4))
          | fail)
        have hl7 : (L ++ uintL oop).length ≤ 60010 := by rw [List.length_append]; omega
        have HLW := Lib.hid (show v7.ownBlock = some wr.heap.size → False from fun hh => by
          rcases hat7.out with h5 | h5
          · have := HNE.out _ (h5.symm.trans hh); omega
          · rw [h5] at hh; injection hh with hh; have := hf6.size; omega)
        clear hown6 hown7 hg7 hat7 z0 z1 z2 z3 z4 zf0 zf1 zf2 zf3 zf4
        have hb7B := hb7.fr0 ((Fr.refl No w7).alloc (.cells #[.int .u8 1] 5))
        go_upto_region 11 with (first
          | (refine wpList_app_hid so_u8 rfl hb7B.1 (rd_oneAt rfl) (by simp [Value.oneCell']) (by omega) (hb7B.base (Nat.le_refl _)) rfl rfl rfl ?_; intro v8 w8 hown8 hg8 hat8; have hb8 := hb7B.app (m := [1]) hown8 hg8 hat8)
          | fail)
        clear hown8 hg8 hat8
        have HPRE0 := Lib.hid (show L ++ uintL oop ++ [1] = uintL com ++ uintL chs.length ++ chsB (chs.take (k + 1)) by rw [HT.out, HCB.out, HL.out]; simp)
        obtain ⟨LF, hLF⟩ : ∃ LF, LF = L ++ uintL oop ++ [1] := ⟨_, rfl⟩
        rw [← hLF] at HPRE0 hb8
        have HPRE := HPRE0
        clear hLF
        obtain ⟨AF, cF, rfl, hcF, hcmF, _⟩ := own_form hb8.1
        by_cases hbig : 60000 < (LF).length
        · have eb : decide ((60000 : Int) < (LF).length) = true := by simpa using (by omega : (60000 : Int) < (LF).length)
          have HP := Lib.hid (HBIG.out (show 60000 < (recB ⟨com, chs⟩).length from Nat.lt_of_lt_of_le (by rw [← HPRE.out]; exact hbig) HPL.out))
          clear hbig
          go_wp2
          go_ret2
          rw [HP.out]
          exact ⟨_, rfl, World.ownsRow_nil _ _ _ _, hF2.tr (hb8).2.2⟩
        · have eb : decide ((60000 : Int) < (LF).length) = false := by simpa using (by omega : ¬ (60000 : Int) < (LF).length)
          go_wp2
          go_roundw
          case rel => exact ⟨k + 1, LF, by omega, by go_num, by omega, HPRE, hb8⟩
          case measure => simp [intOf]; omega
      | false =>
        have hocW : ∀ wz, Fr No w2 wz → ObjC wz (fun b => S b ∧ b < w.heap.size) [.int .i64 ob.cls, .slice Av ob.slots.length nn, .slice D ob.bytes.length mm] ob := fun wz hz => HOBJ.out wz hz
        have HCB := Lib.hid (chB_here oop ob)
        have hro : rightO ob = true := hx2
        have HRO := Lib.hid hro
        clear hro
        have hfA : Fr No wr (wr.alloc (.cells #[.int .i64 (oop : Int), .bool false, .int .i64 ob.cls, .slice Av ob.slots.length nn, .slice D ob.bytes.length mm] 79)) := (Fr.refl No wr).alloc _
        have hnew := Blk.new wr 79 #[.int .i64 (oop : Int), .bool false, .int .i64 ob.cls, .slice Av ob.slots.length nn, .slice D ob.bytes.length mm]
        have hbfA := hbf.fr0 hfA
        go_upto_region 7 with (first
          | (refine wpList_ldA ag_chp rfl _ rfl ⟨ga, of + k * 5, none⟩ [.int .i64 (oop : Int), .bool false, .int .i64 ob.cls, .slice Av ob.slots.length nn, .slice D ob.bytes.length mm] rfl rfl hall ?_)
          | fail)
        generalize hwA : wr.alloc (.cells #[.int .i64 (oop : Int), .bool false, .int .i64 ob.cls, .slice Av ob.slots.length nn, .slice D ob.bytes.length mm] 79) = wA at *
        clear hwA p0 p1 pf0 pf1
        have hwl := hnew.lt
        (have z0 := hnew.cell 0; have z1 := hnew.cell 1; have z2 := hnew.cell 2; have z3 := hnew.cell 3; have z4 := hnew.cell 4; have zf0 := hnew.frozen 0; have zf1 := hnew.frozen 1; have zf2 := hnew.frozen 2; have zf3 := hnew.frozen 3; have zf4 := hnew.frozen 4; simp only [List.getElem?_toArray, List.getElem?_cons_zero, List.getElem?_cons_succ] at z0 z1 z2 z3 z4)
        go_wp2_with fail
        refine (uint_calls oop _ (by omega)).mono ?_
        rintro e w6 ⟨v6, rfl, hown6, hf6⟩
        obtain ⟨A6, c6, rfl, hc6, _, _⟩ := own_form hown6
        have hb6 := hbfA.fr0 hf6
        have hnew6 := hnew.fr0 hf6
        clear z0 z1 z2 z3 z4 zf0 zf1 zf2 zf3 zf4
        (have z0 := hnew6.cell 0; have z1 := hnew6.cell 1; have z2 := hnew6.cell 2; have z3 := hnew6.cell 3; have z4 := hnew6.cell 4; have zf0 := hnew6.frozen 0; have zf1 := hnew6.frozen 1; have zf2 := hnew6.frozen 2; have zf3 := hnew6.frozen 3; have zf4 := hnew6.frozen 4; simp only [List.getElem?_toArray, List.getElem?_cons_zero, List.getElem?_cons_succ] at z0 z1 z2 z3 z4)
        have hne6 : ∀ b, u4.ownBlock = some b → b < wr.heap.size := fun b hb => (hbf.1.lt b hb).2
        have HNE := Lib.hid hne6
        clear hne6
        go_upto_region 8 with (first
          | (refine wpList_app_hid so_u8 rfl hb6.1 (own_rd hown6 (by omega)) (U8_one _) (by omega) (hb6.base (Nat.le_refl _)) rfl rfl rfl ?_; intro v7 w7 hown7 hg7 hat7; have hb7 := hb6.app hown7 hg7 hat7; have hnew7 := hnew6.grown hg7 (fun hh => by have := HNE.out _ hh.symm; omega); (have y0 := hnew7.cell 0; have y1 := hnew7.cell 1; have y2 := hnew7.cell 2; have y3 := hnew7.cell 3; have y4 := hnew7.cell 4; have yf0 := hnew7.frozen 0; have yf1 := hnew7.frozen 1; have yf2 := hnew7.frozen 2; have yf3 := hnew7.frozen 3; have yf4 := hnew7.frozen 4; simp only [List.getElem?_toArray, List.getElem?_cons_zero, List.getElem?_cons_succ] at y0 y1 y2 y3 y4))
          | fail)
        have hl7 : (L ++ uintL oop).length ≤ 60010 := by rw [List.length_append]; omega
        have HLW := Lib.hid (show v7.ownBlock = some wr.heap.size → False from fun hh => by
          rcases hat7.out with h5 | h5
          · have := HNE.out _ (h5.symm.trans hh); omega
          · rw [h5] at hh; injection hh with hh; have := hf6.size; omega)
        clear hown6 hown7 hg7 hat7 z0 z1 z2 z3 z4 zf0 zf1 zf2 zf3 zf4
        go_wp2_with fail
        refine T_begin2 (fun b => w2.heap.size ≤ b ∧ b ≠ wr.heap.size) [] [0, 3, 4, 1, 2, 5, 6] [1, 2, 5] (by kernel_rfl) (by kernel_rfl) ?_
        simp only [pickOps, List.filterMap_cons, List.filterMap_nil, List.getElem?_cons_zero, List.getElem?_cons_succ, Act.put]
        (first | (refine T_skip (by rfl) (by rfl) (fun _ _ _ h => h) ?_; try simp only [Act.put, List.setIfInBounds_toArray, List.set_cons_zero, List.set_cons_succ]) | (refine T_pass (by rfl) (by rfl) ?_; try simp only [Act.put, List.setIfInBounds_toArray, List.set_cons_zero, List.set_cons_succ]) | (refine T_load (by assumption) (by rfl) (by rfl) (fun _ _ _ _ h => h) rfl rfl (by assumption) (by first | exact (fun hn => hn) | assumption) ?_; try simp only [Act.put, List.setIfInBounds_toArray, List.set_cons_zero, List.set_cons_succ]) | (refine T_nil (by rfl) (by rfl) (fun _ _ _ _ h => h) rfl rfl ?_; try simp only [Act.put, List.setIfInBounds_toArray, List.set_cons_zero, List.set_cons_succ]) | (refine T_quietN (by rfl) (by rfl) (by rfl) (by rfl) (fun _ _ _ _ h => h) (fun K hK => ?_); go_big_quiet_op; refine hK _ ?_; clear hK K) | (refine T_two (by rfl) (by rfl) (by rfl) (by rfl) (fun _ _ _ _ h => h) (fun K hK => ?_); go_big_quiet_op; refine ⟨_, fun _ _ => rfl, ?_⟩; refine hK _ ?_; clear hK K; try simp only [Act.put, List.setIfInBounds_toArray, List.set_cons_zero, List.set_cons_succ]) | fail)
        (first | (refine T_skip (by rfl) (by rfl) (fun _ _ _ h => h) ?_; try simp only [Act.put, List.setIfInBounds_toArray, List.set_cons_zero, List.set_cons_succ]) | (refine T_pass (by rfl) (by rfl) ?_; try simp only [Act.put, List.setIfInBounds_toArray, List.set_cons_zero, List.set_cons_succ]) | (refine T_load (by assumption) (by rfl) (by rfl) (fun _ _ _ _ h => h) rfl rfl (by assumption) (by first | exact (fun hn => hn) | assumption) ?_; try simp only [Act.put, List.setIfInBounds_toArray, List.set_cons_zero, List.set_cons_succ]) | (refine T_nil (by rfl) (by rfl) (fun _ _ _ _ h => h) rfl rfl ?_; try simp only [Act.put, List.setIfInBounds_toArray, List.set_cons_zero, List.set_cons_succ]) | (refine T_quietN (by rfl) (by rfl) (by rfl) (by rfl) (fun _ _ _ _ h => h) (fun K hK => ?_); go_big_quiet_op; refine hK _ ?_; clear hK K) | (refine T_two (by rfl) (by rfl) (by rfl) (by rfl) (fun _ _ _ _ h => h) (fun K hK => ?_); go_big_quiet_op; refine ⟨_, fun _ _ => rfl, ?_⟩; refine hK _ ?_; clear hK K; try simp only [Act.put, List.setIfInBounds_toArray, List.set_cons_zero, List.set_cons_succ]) | fail)
        refine T_loadA (cs := [.int .i64 ob.cls, .slice Av ob.slots.length nn, .slice D ob.bytes.length mm]) ag_obj (by rfl) (by rfl) (fun _ _ _ _ h => h) rfl rfl rfl (show ∀ j u, _ → w7.drew.cell? _ = some u from addr5 wr.heap.size 2 [.int .i64 ob.cls, .slice Av ob.slots.length nn, .slice D ob.bytes.length mm] (fun j u hu => by rw [show w7.drew.cell? ⟨wr.heap.size, 2 + j, none⟩ = w7.cell? ⟨wr.heap.size, 2 + j, none⟩ from rfl, hnew7.cell]; have hj : j < 3 := (List.getElem?_eq_some_iff.1 hu).1; match j, hj, hu with | 0, _, hu => exact hu | 1, _, hu => exact hu | 2, _, hu => exact hu)) (fun hn => hn.2 rfl) ?_
        try simp only [Act.put, List.setIfInBounds_toArray, List.set_cons_zero, List.set_cons_succ]
        refine T_call (by rfl) (by rfl) (fun K hK => ?_)
        go_wp2_with fail
        refine hK.out _ _ ((Fr.refl _ _).alloc _) ?_
        clear hK K
        try simp only [Act.put, List.setIfInBounds_toArray, List.set_cons_zero, List.set_cons_succ]
        have hb7B := hb7.fr0 (((Fr.refl No w7).alloc (.cells #[.int .u8 0] 5)).drew)
        refine T_call (by rfl) (by rfl) (fun K hK => ?_)
        refine wp_app_at so_u8 hb7B.1 (news := [.int .u8 0]) (Rd.drew (rd_oneAt rfl)) (by simp [Value.oneCell']) (by omega) (hb7B.base (Nat.le_refl _)) rfl rfl rfl ?_
        intro v8 w8 hown8 hg8 hat8
        refine hK.out _ _ ((Fr.refl _ _).grown hg8 (fun q hq => .inr ⟨(hb7.1.lt q hq).1, fun e => HLW.out (e ▸ hq)⟩)) ?_
        have HL8O := Lib.hid (show ∀ b, v8.ownBlock = some b → w2.heap.size ≤ b ∧ b ≠ wr.heap.size from fun b hb => ⟨(hown8.lt b hb).1, fun e => by
          subst e
          rcases hat8 with h5 | h5
          · exact HLW.out (h5 ▸ hb)
          · rw [h5] at hb; injection hb with hb; have := hnew7.lt; simp at hb; omega⟩)
        clear hK K
        try simp only [Act.put, List.setIfInBounds_toArray, List.set_cons_zero, List.set_cons_succ]
        have hb8 := hb7B.app (m := [0]) hown8 hg8 (Lib.hid hat8)
        clear hown8 hg8 hat8
        repeat (first | (refine T_skip (by rfl) (by rfl) (fun _ _ _ h => h) ?_; try simp only [Act.put, List.setIfInBounds_toArray, List.set_cons_zero, List.set_cons_succ]) | (refine T_pass (by rfl) (by rfl) ?_; try simp only [Act.put, List.setIfInBounds_toArray, List.set_cons_zero, List.set_cons_succ]) | (refine T_load (by assumption) (by rfl) (by rfl) (fun _ _ _ _ h => h) rfl rfl (by assumption) (by first | exact (fun hn => hn) | assumption) ?_; try simp only [Act.put, List.setIfInBounds_toArray, List.set_cons_zero, List.set_cons_succ]) | (refine T_nil (by rfl) (by rfl) (fun _ _ _ _ h => h) rfl rfl ?_; try simp only [Act.put, List.setIfInBounds_toArray, List.set_cons_zero, List.set_cons_succ]) | (refine T_quietN (by rfl) (by rfl) (by rfl) (by rfl) (fun _ _ _ _ h => h) (fun K hK => ?_); go_big_quiet_op; refine hK _ ?_; clear hK K) | (refine T_two (by rfl) (by rfl) (by rfl) (by rfl) (fun _ _ _ _ h => h) (fun K hK => ?_); go_big_quiet_op; refine ⟨_, fun _ _ => rfl, ?_⟩; refine hK _ ?_; clear hK K; try simp only [Act.put, List.setIfInBounds_toArray, List.set_cons_zero, List.set_cons_succ]) | fail)
        have hl8 : (L ++ uintL oop ++ [0]).length ≤ 60011 := by rw [List.length_append, List.length_singleton]; omega
        obtain ⟨L8, hL8⟩ : ∃ L8, L8 = L ++ uintL oop ++ [0] := ⟨_, rfl⟩
        rw [← hL8] at hb8 hl8
        have HL8 := Lib.hid hL8
        clear hL8
        obtain ⟨A8, c8, rfl, hc8, hcm8, _⟩ := own_form hb8.1
        refine T_call (by rfl) (by rfl) (fun K hK => ?_)
        go_wp2_with fail
        have hoc8 : ObjC w8 (fun b => S b ∧ b < w.heap.size) [.int .i64 ob.cls, .slice Av ob.slots.length nn, .slice D ob.bytes.length mm] ob := hocW _ hb8.2.2
        refine (add_calls (fun b => S b ∧ b < w.heap.size) (fun b => (Value.slice A8 L8.length c8).ownBlock = some b) w2.heap.size A8 c8 L8 _ ob w8 hb8.1 (fun b hb => hb) (hb8.base (Nat.le_refl _)) hoc8 (fun b hb hT => by have := (hb8.1.lt b hT).1; have := hb.2; omega) (fun b hb => (hb8.1.lt b hb).2) HRO.out (by omega)).mono ?_
        rintro e w9 ⟨v9, rfl, hb9⟩
        refine hK.out _ _ (hb9.2.2.mono (fun b _ hb => HL8O.out b hb)) ?_
        clear hK K
        try simp only [Act.put, List.setIfInBounds_toArray, List.set_cons_zero, List.set_cons_succ]
        repeat (first | (refine T_skip (by rfl) (by rfl) (fun _ _ _ h => h) ?_; try simp only [Act.put, List.setIfInBounds_toArray, List.set_cons_zero, List.set_cons_succ]) | (refine T_pass (by rfl) (by rfl) ?_; try simp only [Act.put, List.setIfInBounds_toArray, List.set_cons_zero, List.set_cons_succ]) | (refine T_load (by assumption) (by rfl) (by rfl) (fun _ _ _ _ h => h) rfl rfl (by assumption) (by first | exact (fun hn => hn) | assumption) ?_; try simp only [Act.put, List.setIfInBounds_toArray, List.set_cons_zero, List.set_cons_succ]) | (refine T_nil (by rfl) (by rfl) (fun _ _ _ _ h => h) rfl rfl ?_; try simp only [Act.put, List.setIfInBounds_toArray, List.set_cons_zero, List.set_cons_succ]) | (refine T_quietN (by rfl) (by rfl) (by rfl) (by rfl) (fun _ _ _ _ h => h) (fun K hK => ?_); go_big_quiet_op; refine hK _ ?_; clear hK K) | (refine T_two (by rfl) (by rfl) (by rfl) (by rfl) (fun _ _ _ _ h => h) (fun K hK => ?_); go_big_quiet_op; refine ⟨_, fun _ _ => rfl, ?_⟩; refine hK _ ?_; clear hK K; try simp only [Act.put, List.setIfInBounds_toArray, List.set_cons_zero, List.set_cons_succ]) | fail)
        refine T_done ?_
        have hb10 : Buf w2 w9 w2.heap.size No v9 (L8 ++ objB ob) := ⟨hb9.1, fun b hb => .inr (hb9.1.lt b hb).1, hb8.2.2.trans hb9.2.2 (fun b hb hT => by have := (hb8.1.lt b hT).1; omega)⟩
        clear hb9
        have HPRE0 := Lib.hid (show L8 ++ objB ob = uintL com ++ uintL chs.length ++ chsB (chs.take (k + 1)) by rw [HT.out, HCB.out, HL8.out, HL.out]; simp)
        obtain ⟨LF, hLF⟩ : ∃ LF, LF = L8 ++ objB ob := ⟨_, rfl⟩
        rw [← hLF] at HPRE0 hb10
        have HPRE := HPRE0
        clear hLF
        obtain ⟨AF, cF, rfl, hcF, hcmF, _⟩ := own_form hb10.1
        by_cases hbig : 60000 < (LF).length
        · have eb : decide ((60000 : Int) < (LF).length) = true := by simpa using (by omega : (60000 : Int) < (LF).length)
          have HP := Lib.hid (HBIG.out (show 60000 < (recB ⟨com, chs⟩).length from Nat.lt_of_lt_of_le (by rw [← HPRE.out]; exact hbig) HPL.out))
          clear hbig
          go_wp2
          go_ret2
          rw [HP.out]
          exact ⟨_, rfl, World.ownsRow_nil _ _ _ _, hF2.tr (hb10).2.2⟩
        · have eb : decide ((60000 : Int) < (LF).length) = false := by simpa using (by omega : ¬ (60000 : Int) < (LF).length)
          go_wp2
          go_roundw
          case rel => exact ⟨k + 1, LF, by omega, by go_num, by omega, HPRE, hb10⟩
          case measure => simp [intOf]; omega
    · obtain rfl : k = chs.length := by omega
      have ek : decide ((chs.length : Int) < chs.length) = false := by simp
      have hfin := HL.out
      rw [List.take_length] at hfin
      have HP := Lib.hid (HOK.out (show ¬ 60000 < (recB ⟨com, chs⟩).length by rw [recB_eq, ← hfin]; omega))
      have HFIN := Lib.hid hfin
      clear hfin
      go_wp2
      go_ret2
      rw [HP.out, recB_eq, ← HFIN.out]
      exact ⟨_, rfl, own_down hbf.1 hz2, hF2.tr hbf.2.2⟩

set_option maxHeartbeats 4000000 in
set_option maxRecDepth 100000 in
theorem refputr_calls (S : Nat → Prop) (cs : List Value) (r : RecM) (w : World) (h : RecC w S cs r) :
    Calls Try.prog 31 #[.agg cs.toArray] w fun e w' => RetB w w' e (putR r) := by
  obtain ⟨com, chs⟩ := r
  replace h := h.lt
  have hrr := refrightr_calls (fun b => S b ∧ b < w.heap.size) cs ⟨com, chs⟩
  have hcc := h
  obtain ⟨A, c, rfl, hch⟩ := hcc
  simp only at hch
  have g1 := plain_i64
  have g2 := plain_lchr
  have g4 := plain_bool
  have g5 := plain_lval
  have g6 := plain_lu8
  have hle := hch.le
  have hf : Fr No w (w.alloc (.cells #[.int .i64 com, .slice A chs.length c] 49)) := (Fr.refl No w).alloc _
  have hbx := Blk.new w 49 #[.int .i64 com, .slice A chs.length c]
  have hlw := hbx.lt
  go_enter Try.func31, Try.ntmps31
  go_upto_region 1 with fail
  generalize hw1 : w.alloc (.cells #[.int .i64 com, .slice A chs.length c] 49) = w1 at *
  clear hw1
  have hball := hbx.all
  go_wp2_with (first
    | (refine wpList_ldA ag_recr rfl _ rfl ⟨w.heap.size, 0, none⟩ [.int .i64 com, .slice A chs.length c] rfl rfl hball ?_)
    | fail)
  refine (hrr _ (h.fr0 hf)).mono ?_
  rintro e w2 ⟨rfl, hf2⟩
  have hF2 := hf.tr hf2
  have hbx2 := hbx.fr0 hf2
  clear hball hrr
  cases hr : rightR ⟨com, chs⟩ with
  | false =>
    have H := Lib.hid (putR_no hr)
    clear hr
    go_wp2
    go_ret2
    rw [H.out]
    exact ⟨_, rfl, World.ownsRow_nil _ _ _ _, hF2⟩
  | true =>
  obtain ⟨hr1, hr2, hr3, hr4⟩ := rightR_parts hr
  simp only at hr1 hr2 hr3 hr4
  obtain ⟨com, rfl⟩ := Int.eq_ofNat_of_zero_le (show 0 ≤ com by omega)
  have HO := Lib.hid (chsRight_oops chs 0 hr4)
  have HBIG := Lib.hid (@putR_big ⟨com, chs⟩ hr)
  have HOK := Lib.hid (@putR_ok ⟨com, chs⟩ hr)
  have ht1 := uintL_ten com (by omega)
  have ht2 := uintL_ten chs.length (by omega)
  clear hr4 hr
  have hz2 := hF2.size
  (have p0 := hbx2.cell 0; have p1 := hbx2.cell 1; have pf0 := hbx2.frozen 0; have pf1 := hbx2.frozen 1; simp only [List.getElem?_toArray, List.getElem?_cons_zero, List.getElem?_cons_succ] at p0 p1)
  go_wp2_with fail
  refine (refuint_calls com _ (by omega)).mono ?_
  rintro e w3 ⟨v3, rfl, hown3, hf3⟩
  have hb3 : Buf w2 w3 w2.heap.size No v3 (uintL com) := ⟨hown3, fun b hb => .inr (hown3.lt b hb).1, hf3⟩
  have hbx3 := hbx2.fr0 hf3
  clear p0 p1 pf0 pf1
  (have p0 := hbx3.cell 0; have p1 := hbx3.cell 1; have pf0 := hbx3.frozen 0; have pf1 := hbx3.frozen 1; simp only [List.getElem?_toArray, List.getElem?_cons_zero, List.getElem?_cons_succ] at p0 p1)
  go_wp2_with fail
  refine (refuint_calls chs.length _ (by omega)).mono ?_
  rintro e w4 ⟨v4, rfl, hown4, hf4⟩
  obtain ⟨A4, c4, rfl, hc4, _, _⟩ := own_form hown4
  have hb4 := hb3.fr0 hf4
  have hbx4 := hbx3.fr0 hf4
  clear p0 p1 pf0 pf1 hown3
  (have p0 := hbx4.cell 0; have p1 := hbx4.cell 1; have pf0 := hbx4.frozen 0; have pf1 := hbx4.frozen 1; simp only [List.getElem?_toArray, List.getElem?_cons_zero, List.getElem?_cons_succ] at p0 p1)
  go_wp2_with (first
    | (refine wpList_app_hid so_u8 rfl hb4.1 (own_rd hown4 (by omega)) (U8_one _) (by omega) (hb4.base (Nat.le_refl _)) rfl rfl rfl ?_; intro v5 w5 hown5 hg5 hat5; have hb5 := hb4.app hown5 hg5 hat5; have hbx5 := hbx2.fr0 hb5.2.2; (have q0 := hbx5.cell 0; have q1 := hbx5.cell 1; have qf0 := hbx5.frozen 0; have qf1 := hbx5.frozen 1; simp only [List.getElem?_toArray, List.getElem?_cons_zero, List.getElem?_cons_succ] at q0 q1))
    | fail)
  clear hown4 hown5 hg5 hat5 hb3 hb4 p0 p1 pf0 pf1 q0 q1 qf0 qf1
  have hlen5 : (uintL com ++ uintL chs.length).length ≤ 20 := by rw [List.length_append]; omega
  have hbx5 := hbx2.fr0 hb5.2.2
  (have q0 := hbx5.cell 0; have q1 := hbx5.cell 1; have qf0 := hbx5.frozen 0; have qf1 := hbx5.frozen 1; simp only [List.getElem?_toArray, List.getElem?_cons_zero, List.getElem?_cons_succ] at q0 q1)
  go_wp2_with fail
  go_loopw [4, 5] (fun v i wr => ∃ (k : Nat) (L : List UInt8), k ≤ chs.length ∧ i = .int .i64 (k : Int) ∧ L.length ≤ 60000 ∧ Hid (L = uintL com ++ uintL chs.length ++ chsB (chs.take k)) ∧ Buf w2 wr w2.heap.size No v L) (fun _ i _ => chs.length - (intOf i).toNat)
  case atStart => exact ⟨0, uintL com ++ uintL chs.length, by omega, rfl, by omega, Lib.hid (by simp [chsB]), hb5⟩
  case round =>
    clear q0 q1 qf0 qf1 hbx5 hb5 hlen5
    obtain ⟨k, L, hk, rfl, hL, HL, hbf⟩ := hrel
    have hbxr := hbx2.fr0 hbf.2.2
    (have p0 := hbxr.cell 0; have p1 := hbxr.cell 1; have pf0 := hbxr.frozen 0; have pf1 := hbxr.frozen 1; simp only [List.getElem?_toArray, List.getElem?_cons_zero, List.getElem?_cons_succ] at p0 p1)
    by_cases hlt : k < chs.length
    · have ek : decide ((k : Int) < chs.length) = true := by simpa using (by omega : (k : Int) < chs.length)
      have hrd := hch.fr0 hF2
      obtain ⟨ga, of, Av, nn, D, mm, rfl, _, hcell0, hsl, hby⟩ := hrd.at_ hlt
      have hcell := fun j u hu => hbf.2.2.cell_some (hcell0 j u hu) (fun hn => hn)
      clear hcell0
      have HOB0 : Hid (∀ wz, Fr No w2 wz → ObjC wz (fun b => S b ∧ b < w.heap.size) [.int .i64 chs[k].obj.cls, .slice Av chs[k].obj.slots.length nn, .slice D chs[k].obj.bytes.length mm] chs[k].obj) := Lib.hid (fun wz hz => ObjC.fr0 ⟨Av, nn, D, mm, rfl, hsl, hby⟩ hz)
      obtain ⟨hx1, hx2⟩ := HO.out _ (List.getElem_mem hlt)
      have HT := Lib.hid (take_snocC chs k hlt)
      have HPL := Lib.hid (pre_le com chs (k + 1))
      clear hrd
      generalize chs[k] = x at *
      obtain ⟨oop, gone, ob⟩ := x
      simp only at hcell hsl hby hx1
      simp only [oopB, Bool.and_eq_true, decide_eq_true_eq] at hx1
      obtain ⟨oop, rfl⟩ := Int.eq_ofNat_of_zero_le (show 0 ≤ oop by omega)
      have hall := addr5 _ _ _ hcell
      clear hcell
      have HOBJ : Hid (∀ wz, Fr No w2 wz → ObjC wz (fun b => S b ∧ b < w.heap.size) [.int .i64 ob.cls, .slice Av ob.slots.length nn, .slice D ob.bytes.length mm] ob) := Lib.hid (fun wz hz => HOB0.out wz hz)
      have hto := uintL_ten oop (by omega)
      cases gone with
      | true =>
        have HCB := Lib.hid (chB_gone oop ob)
        have hfA : Fr No wr (wr.alloc (.cells #[.int .i64 (oop : Int), .bool true, .int .i64 ob.cls, .slice Av ob.slots.length nn, .slice D ob.bytes.length mm] 78)) := (Fr.refl No wr).alloc _
        have hnew := Blk.new wr 78 #[.int .i64 (oop : Int), .bool true, .int .i64 ob.cls, .slice Av ob.slots.length nn, .slice D ob.bytes.length mm]
        have hbfA := hbf.fr0 hfA
        go_upto_region 9 with (first
          | (refine wpList_ldA ag_chr rfl _ rfl ⟨ga, of + k * 5, none⟩ [.int .i64 (oop : Int), .bool true, .int .i64 ob.cls, .slice Av ob.slots.length nn, .slice D ob.bytes.length mm] rfl rfl hall ?_)
          | fail)
        generalize hwA : wr.alloc (.cells #[.int .i64 (oop : Int), .bool true, .int .i64 ob.cls, .slice Av ob.slots.length nn, .slice D ob.bytes.length mm] 78) = wA at *
        clear hwA p0 p1 pf0 pf1
        have hwl := hnew.lt
        (have z0 := hnew.cell 0; have z1 := hnew.cell 1; have z2 := hnew.cell 2; have z3 := hnew.cell 3; have z4 := hnew.cell 4; have zf0 := hnew.frozen 0; have zf1 := hnew.frozen 1; have zf2 := hnew.frozen 2; have zf3 := hnew.frozen 3; have zf4 := hnew.frozen 4; simp only [List.getElem?_toArray, List.getElem?_cons_zero, List.getElem?_cons_succ] at z0 z1 z2 z3 z4)
        go_wp2_with fail
        refine (refuint_calls oop _ (by omega)).mono ?_
        rintro e w6 ⟨v6, rfl, hown6, hf6⟩
        obtain ⟨A6, c6, rfl, hc6, _, _⟩ := own_form hown6
        have hb6 := hbfA.fr0 hf6
        have hnew6 := hnew.fr0 hf6
        clear z0 z1 z2 z3 z4 zf0 zf1 zf2 zf3 zf4
        (have z0 := hnew6.cell 0; have z1 := hnew6.cell 1; have z2 := hnew6.cell 2; have z3 := hnew6.cell 3; have z4 := hnew6.cell 4; have zf0 := hnew6.frozen 0; have zf1 := hnew6.frozen 1; have zf2 := hnew6.frozen 2; have zf3 := hnew6.frozen 3; have zf4 := hnew6.frozen 4; simp only [List.getElem?_toArray, List.getElem?_cons_zero, List.getElem?_cons_succ] at z0 z1 z2 z3 z4)
        have hne6 : ∀ b, u4.ownBlock = some b → b < wr.heap.size := fun b hb => (hbf.1.lt b hb).2
        have HNE := Lib.hid hne6
        clear hne6
        go_upto_region 10 with (first
          | (refine wpList_app_hid so_u8 rfl hb6.1 (own_rd hown6 (by omega)) (U8_one _) (by omega) (hb6.base (Nat.le_refl _)) rfl rfl rfl ?_; intro v7 w7 hown7 hg7 hat7; have hb7 := hb6.app hown7 hg7 hat7; have hnew7 := hnew6.grown hg7 (fun hh => by have := HNE.out _ hh.symm; omega); (have y0 := hnew7.cell 0; have y1 := hnew7.cell 1; have y2 := hnew7.cell 2; have y3 := hnew7.cell 3; have y4 := hnew7.cell 4; have yf0 := hnew7.frozen 0; have yf1 := hnew7.frozen 1; have yf2 := hnew7.frozen 2; have yf3 := hnew7.frozen 3; have yf4 := hnew7.frozen 4; simp only [List.getElem?_toArray, List.getElem?_cons_zero, List.getElem?_cons_succ] at y0 y1 y2 y3 y4))
          | fail)
        have hl7 : (L ++ uintL oop).length ≤ 60010 := by rw [List.length_append]; omega
        have HLW := Lib.hid (show v7.ownBlock = some wr.heap.size → False from fun hh => by
          rcases hat7.out with h5 | h5
          · have := HNE.out _ (h5.symm.trans hh); omega
          · rw [h5] at hh; injection hh with hh; have := hf6.size; omega)
        clear hown6 hown7 hg7 hat7 z0 z1 z2 z3 z4 zf0 zf1 zf2 zf3 zf4
        have hb7B := hb7.fr0 ((Fr.refl No w7).alloc (.cells #[.int .u8 1] 5))
        go_upto_region 14 with (first
          | (refine wpList_app_hid so_u8 rfl hb7B.1 (rd_oneAt rfl) (by simp [Value.oneCell']) (by omega) (hb7B.base (Nat.le_refl _)) rfl rfl rfl ?_; intro v8 w8 hown8 hg8 hat8; have hb8 := hb7B.app (m := [1]) hown8 hg8 hat8)
          | fail)
        clear hown8 hg8 hat8
        have HPRE0 := Lib.hid (show L ++ uintL oop ++ [1] = uintL com ++ uintL chs.length ++ chsB (chs.take (k + 1)) by rw [HT.out, HCB.out, HL.out]; simp)
        obtain ⟨LF, hLF⟩ : ∃ LF, LF = L ++ uintL oop ++ [1] := ⟨_, rfl⟩
        rw [← hLF] at HPRE0 hb8
        have HPRE := HPRE0
        clear hLF
        obtain ⟨AF, cF, rfl, hcF, hcmF, _⟩ := own_form hb8.1
        by_cases hbig : 60000 < (LF).length
        · have eb : decide ((60000 : Int) < (LF).length) = true := by simpa using (by omega : (60000 : Int) < (LF).length)
          have HP := Lib.hid (HBIG.out (show 60000 < (recB ⟨com, chs⟩).length from Nat.lt_of_lt_of_le (by rw [← HPRE.out]; exact hbig) HPL.out))
          clear hbig
          go_wp2
          go_ret2
          rw [HP.out]
          exact ⟨_, rfl, World.ownsRow_nil _ _ _ _, hF2.tr (hb8).2.2⟩
        · have eb : decide ((60000 : Int) < (LF).length) = false := by simpa using (by omega : ¬ (60000 : Int) < (LF).length)
          go_wp2
          go_roundw
          case rel => exact ⟨k + 1, LF, by omega, by go_num, by omega, HPRE, hb8⟩
          case measure => simp [intOf]; omega
      | false =>
        have HCB := Lib.hid (chB_here oop ob)
        have hro : rightO ob = true := hx2
        have HRO := Lib.hid hro
        clear hro
        have hocW : ∀ wz, Fr No w2 wz → ObjC wz (fun b => S b ∧ b < w.heap.size) [.int .i64 ob.cls, .slice Av ob.slots.length nn, .slice D ob.bytes.length mm] ob := fun wz hz => HOBJ.out wz hz
        have hfA : Fr No wr (wr.alloc (.cells #[.int .i64 (oop : Int), .bool false, .int .i64 ob.cls, .slice Av ob.slots.length nn, .slice D ob.bytes.length mm] 78)) := (Fr.refl No wr).alloc _
        have hnew := Blk.new wr 78 #[.int .i64 (oop : Int), .bool false, .int .i64 ob.cls, .slice Av ob.slots.length nn, .slice D ob.bytes.length mm]
        have hbfA := hbf.fr0 hfA
        go_upto_region 9 with (first
          | (refine wpList_ldA ag_chr rfl _ rfl ⟨ga, of + k * 5, none⟩ [.int .i64 (oop : Int), .bool false, .int .i64 ob.cls, .slice Av ob.slots.length nn, .slice D ob.bytes.length mm] rfl rfl hall ?_)
          | fail)
        generalize hwA : wr.alloc (.cells #[.int .i64 (oop : Int), .bool false, .int .i64 ob.cls, .slice Av ob.slots.length nn, .slice D ob.bytes.length mm] 78) = wA at *
        clear hwA p0 p1 pf0 pf1
        have hwl := hnew.lt
        (have z0 := hnew.cell 0; have z1 := hnew.cell 1; have z2 := hnew.cell 2; have z3 := hnew.cell 3; have z4 := hnew.cell 4; have zf0 := hnew.frozen 0; have zf1 := hnew.frozen 1; have zf2 := hnew.frozen 2; have zf3 := hnew.frozen 3; have zf4 := hnew.frozen 4; simp only [List.getElem?_toArray, List.getElem?_cons_zero, List.getElem?_cons_succ] at z0 z1 z2 z3 z4)
        go_wp2_with fail
        refine (refuint_calls oop _ (by omega)).mono ?_
        rintro e w6 ⟨v6, rfl, hown6, hf6⟩
        obtain ⟨A6, c6, rfl, hc6, _, _⟩ := own_form hown6
        have hb6 := hbfA.fr0 hf6
        have hnew6 := hnew.fr0 hf6
        clear z0 z1 z2 z3 z4 zf0 zf1 zf2 zf3 zf4
        (have z0 := hnew6.cell 0; have z1 := hnew6.cell 1; have z2 := hnew6.cell 2; have z3 := hnew6.cell 3; have z4 := hnew6.cell 4; have zf0 := hnew6.frozen 0; have zf1 := hnew6.frozen 1; have zf2 := hnew6.frozen 2; have zf3 := hnew6.frozen 3; have zf4 := hnew6.frozen 4; simp only [List.getElem?_toArray, List.getElem?_cons_zero, List.getElem?_cons_succ] at z0 z1 z2 z3 z4)
        have hne6 : ∀ b, u4.ownBlock = some b → b < wr.heap.size := fun b hb => (hbf.1.lt b hb).2
        have HNE := Lib.hid hne6
        clear hne6
        go_upto_region 10 with (first
          | (refine wpList_app_hid so_u8 rfl hb6.1 (own_rd hown6 (by omega)) (U8_one _) (by omega) (hb6.base (Nat.le_refl _)) rfl rfl rfl ?_; intro v7 w7 hown7 hg7 hat7; have hb7 := hb6.app hown7 hg7 hat7; have hnew7 := hnew6.grown hg7 (fun hh => by have := HNE.out _ hh.symm; omega); (have y0 := hnew7.cell 0; have y1 := hnew7.cell 1; have y2 := hnew7.cell 2; have y3 := hnew7.cell 3; have y4 := hnew7.cell 4; have yf0 := hnew7.frozen 0; have yf1 := hnew7.frozen 1; have yf2 := hnew7.frozen 2; have yf3 := hnew7.frozen 3; have yf4 := hnew7.frozen 4; simp only [List.getElem?_toArray, List.getElem?_cons_zero, List.getElem?_cons_succ] at y0 y1 y2 y3 y4))
          | fail)
        have hl7 : (L ++ uintL oop).length ≤ 60010 := by rw [List.length_append]; omega
        have HLW := Lib.hid (show v7.ownBlock = some wr.heap.size → False from fun hh => by
          rcases hat7.out with h5 | h5
          · have := HNE.out _ (h5.symm.trans hh); omega
          · rw [h5] at hh; injection hh with hh; have := hf6.size; omega)
        clear hown6 hown7 hg7 hat7 z0 z1 z2 z3 z4 zf0 zf1 zf2 zf3 zf4
        have hb7B := hb7.fr0 ((Fr.refl No w7).alloc (.cells #[.int .u8 0] 5))
        go_upto_region 13 with (first
          | (refine wpList_app_hid so_u8 rfl hb7B.1 (rd_oneAt rfl) (by simp [Value.oneCell']) (by omega) (hb7B.base (Nat.le_refl _)) rfl rfl rfl ?_; intro v8 w8 hown8 hg8 hat8; have hb8 := hb7B.app (m := [0]) hown8 hg8 hat8; have hnew8 := (hnew7.alloc (.cells #[.int .u8 0] 5)).grown hg8 (fun hh => HLW.out hh.symm); (have z0 := hnew8.cell 0; have z1 := hnew8.cell 1; have z2 := hnew8.cell 2; have z3 := hnew8.cell 3; have z4 := hnew8.cell 4; have zf0 := hnew8.frozen 0; have zf1 := hnew8.frozen 1; have zf2 := hnew8.frozen 2; have zf3 := hnew8.frozen 3; have zf4 := hnew8.frozen 4; simp only [List.getElem?_toArray, List.getElem?_cons_zero, List.getElem?_cons_succ] at z0 z1 z2 z3 z4))
          | fail)
        clear hown8 hg8 hat8
        have hl8 : (L ++ uintL oop ++ [0]).length ≤ 60011 := by rw [List.length_append, List.length_singleton]; omega
        obtain ⟨L8, hL8⟩ : ∃ L8, L8 = L ++ uintL oop ++ [0] := ⟨_, rfl⟩
        rw [← hL8] at hb8 hl8
        have HL8 := Lib.hid hL8
        clear hL8
        have hobl := objB_len ob HRO.out
        go_wp2_with fail
        refine (refbytes_calls (fun b => S b ∧ b < w.heap.size) _ ob w8 (hocW _ hb8.2.2) HRO.out).mono ?_
        rintro e w9 ⟨v9, rfl, hown9, hf9⟩
        obtain ⟨A9, c9, rfl, hc9, _, _⟩ := own_form hown9
        have hb9 := hb8.fr0 hf9
        go_upto_region 14 with (first
          | (refine wpList_app_hid so_u8 rfl hb9.1 (own_rd hown9 (by omega)) (U8_one _) (by omega) (hb9.base (Nat.le_refl _)) rfl rfl rfl ?_; intro vA wB hownA hgA hatA; have hb10 := hb9.app hownA hgA hatA)
          | fail)
        clear hownA hgA hatA hown9
        have HPRE0 := Lib.hid (show L8 ++ objB ob = uintL com ++ uintL chs.length ++ chsB (chs.take (k + 1)) by rw [HT.out, HCB.out, HL8.out, HL.out]; simp)
        obtain ⟨LF, hLF⟩ : ∃ LF, LF = L8 ++ objB ob := ⟨_, rfl⟩
        rw [← hLF] at HPRE0 hb10
        have HPRE := HPRE0
        clear hLF
        obtain ⟨AF, cF, rfl, hcF, hcmF, _⟩ := own_form hb10.1
        by_cases hbig : 60000 < (LF).length
        · have eb : decide ((60000 : Int) < (LF).length) = true := by simpa using (by omega : (60000 : Int) < (LF).length)
          have HP := Lib.hid (HBIG.out (show 60000 < (recB ⟨com, chs⟩).length from Nat.lt_of_lt_of_le (by rw [← HPRE.out]; exact hbig) HPL.out))
          clear hbig
          go_wp2
          go_ret2
          rw [HP.out]
          exact ⟨_, rfl, World.ownsRow_nil _ _ _ _, hF2.tr (hb10).2.2⟩
        · have eb : decide ((60000 : Int) < (LF).length) = false := by simpa using (by omega : ¬ (60000 : Int) < (LF).length)
          go_wp2
          go_roundw
          case rel => exact ⟨k + 1, LF, by omega, by go_num, by omega, HPRE, hb10⟩
          case measure => simp [intOf]; omega
    · obtain rfl : k = chs.length := by omega
      have ek : decide ((chs.length : Int) < chs.length) = false := by simp
      have hfin := HL.out
      rw [List.take_length] at hfin
      have HP := Lib.hid (HOK.out (show ¬ 60000 < (recB ⟨com, chs⟩).length by rw [recB_eq, ← hfin]; omega))
      have HFIN := Lib.hid hfin
      clear hfin
      go_wp2
      go_ret2
      rw [HP.out, recB_eq, ← HFIN.out]
      exact ⟨_, rfl, own_down hbf.1 hz2, hF2.tr hbf.2.2⟩
end Go.Proofs.Ytfgkioigbnlkkaa
