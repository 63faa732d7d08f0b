/- ring.record in full. No condition but size. -/
import Derived.Test.YtannkgglgmbkdaaDoorNNew
import Derived.OwnWalk
namespace Go.Proofs.YtannkgglgmbkdaaDoor
set_option linter.unusedVariables false
set_option linter.unusedSimpArgs false
open Go.RowKit

/-- What a record's sector should be, for what it says of itself. -/
def wantB (life seq : Int) (i : Nat) (s : Sec) : Sec :=
  [] ++ putL 6 life ++ putL 6 seq ++ putL 2 (i : Int) ++ [s.getD 14 0 &&& 1] ++ [s.getD 15 0] ++ subB s 16 (s.getD 15 0).toNat ++ List.replicate (112 - (s.getD 15 0).toNat) 0
def recBad (acc : Nat) (s : Sec) : Prop := (s.getD 15 0).toNat < 1 ∨ 112 < (s.getD 15 0).toNat ∨ 60000 < acc + (s.getD 15 0).toNat ∨ (s.getD 14 0 ≠ 1 ∧ (s.getD 15 0).toNat < 112)
instance (acc : Nat) (s : Sec) : Decidable (recBad acc s) := by unfold recBad; infer_instance
def lifeOf (i : Nat) (life : Int) (s : Sec) : Int := if i = 0 then getN (subB s 0 6) else life
/-- The record of a seq that some sectors begin with, its life, how many it has. -/
def recGo (seq : Int) : Nat → Int → List UInt8 → List Sec → Option (List UInt8 × Int × Nat)
  | _, _, _, [] => none
  | i, life, acc, s :: ss =>
    if recBad acc.length s ∨ wantB (lifeOf i life s) seq i s ≠ s then none
    else if s.getD 14 0 = 1 then some (acc ++ subB s 16 (s.getD 15 0).toNat, lifeOf i life s, i + 1)
    else recGo seq (i + 1) (lifeOf i life s) (acc ++ subB s 16 (s.getD 15 0).toNat) ss
def RecRes (w : World) (r : Option (List UInt8 × Int × Nat)) (e : Ending) (w' : World) : Prop :=
  (r = none ∧ e = .returned (.tuple #[.slice none 0 0, .int .i64 0, .int .i64 0]) ∨
    ∃ l life n v, r = some (l, life, n) ∧ e = .returned (.tuple #[v, .int .i64 life, .int .i64 (n : Int)]) ∧ w'.ownsRow w.heap.size 5 1 v l.length (U8 l)) ∧ Fr No w w'
theorem recGo_no {seq : Int} {i : Nat} {life : Int} {acc : List UInt8} {s : Sec} {ss : List Sec} (h : recBad acc.length s ∨ wantB (lifeOf i life s) seq i s ≠ s) : recGo seq i life acc (s :: ss) = none := by rw [recGo, if_pos h]
theorem recGo_end {seq : Int} {i : Nat} {life : Int} {acc : List UInt8} {s : Sec} {ss : List Sec} (h : ¬ recBad acc.length s) (h1 : wantB (lifeOf i life s) seq i s = s) (h2 : s.getD 14 0 = 1) :
    recGo seq i life acc (s :: ss) = some (acc ++ subB s 16 (s.getD 15 0).toNat, lifeOf i life s, i + 1) := by rw [recGo, if_neg (by rintro (h3 | h3); exact h h3; exact h3 h1), if_pos h2]
theorem recGo_on {seq : Int} {i : Nat} {life : Int} {acc : List UInt8} {s : Sec} {ss : List Sec} (h : ¬ recBad acc.length s) (h1 : wantB (lifeOf i life s) seq i s = s) (h2 : s.getD 14 0 ≠ 1) :
    recGo seq i life acc (s :: ss) = recGo seq (i + 1) (lifeOf i life s) (acc ++ subB s 16 (s.getD 15 0).toNat) ss := by rw [recGo, if_neg (by rintro (h3 | h3); exact h h3; exact h3 h1), if_neg h2]
set_option maxRecDepth 100000 in
theorem and1_all : ∀ n : Fin 256, bits .and .u8 (n.val : Int) 1 = ((UInt8.ofNat n.val &&& 1).toNat : Int) := by decide +kernel
theorem and1_u8 (x : UInt8) : bits .and .u8 (x.toNat : Int) 1 = ((x &&& 1).toNat : Int) := by
  have := and1_all ⟨x.toNat, x.toNat_lt⟩
  simpa using this
set_option maxRecDepth 100000 in
theorem run_neq_sec4 (w : World) (xs ys : Sec) (hx : xs.length = 128) (hy : ys.length = 128) : (binOp .neq tSec (.agg (U8 xs).toArray) (.agg (U8 ys).toArray)).run Tryd.prog w = .ok (.bool (!(xs == ys))) w := by
  have h := run_equalIn_bytes (P := Tryd.prog) w 9998 tSec 5 128 Tryd.underlying61 Tryd.underlying5 (fun w => by unfold sizeOf typeInfo; rfl) xs ys hx hy
  rw [run_neq_struct]
  unfold U8
  have e : (fun b : UInt8 => Value.int .u8 (b.toNat : Int)) = Extern.Stop.cell := rfl
  rw [e, h]
  rfl
theorem wpList_neqSec4 {ops : Array Oper} {rest : List Oper} {Q : Exit → Go.Act → World → Prop} {o : Oper} {a : Go.Act} {w : World} {xs ys : Sec} (hlx : xs.length = 128) (hly : ys.length = 128) {x y : Operand} {ty : TypeId}
    (hw : Region.wanted o (yielded ops a.tmps) = true)
    (ho : o.op = .binOp .neq tSec x y ty) (hx : a.eval x = .agg (U8 xs).toArray) (hy : a.eval y = .agg (U8 ys).toArray)
    (h : wpList Tryd.prog ops Q rest (a.put o.dst (.bool (!(xs == ys)))) w) : wpList Tryd.prog ops Q (o :: rest) a w := by
  refine BigFrame.wpList_want hw fun K hK => ?_
  unfold Oper.wp execOp
  simp only [ho, hx, hy, Sem.run_bind, run_eqGuard_agg w .neq tSec x y (U8 xs).toArray (U8 ys).toArray eg_sec4, Result.andThen_ok, run_neq_sec4 w xs ys hlx hly, Sem.run_pure]
  exact hK _ _ h
set_option maxHeartbeats 8000000 in
set_option maxRecDepth 100000 in
theorem record_calls (w : World) (A : Option Addr) (c : Nat) (ss : List Sec) (seq : Int) (hrd : Rd w (fun b => b < w.heap.size) 1 A (ss.length * 128) (U8 ss.flatten)) (hss : Len128 ss) (hc : ss.length * 128 ≤ c) (hcm : c ≤ maxLen) (hsm : ss.length ≤ 4096) :
    Calls Tryd.prog 36 #[.slice A (ss.length * 128) c, .int .i64 seq] w (RecRes w (recGo seq 0 0 [] ss)) := by
  have g1 : ∀ w, (isAgg 2).run Tryd.prog w = .ok false w := plain_of Tryd.underlying2 rfl
  have g3 : ∀ w, (isAgg 5).run Tryd.prog w = .ok false w := plain_of Tryd.underlying5 rfl
  obtain ⟨m, hm⟩ : ∃ m, m = ss.length * 128 := ⟨_, rfl⟩
  rw [← hm] at hrd hc ⊢
  have HM := Lib.hid hm
  have hm5 : m ≤ 524288 := by omega
  clear hm
  have HSS := Lib.hid hss
  clear hss
  go_enter Tryd.func36, Tryd.ntmps36
  go_wp2_with fail
  go_loopw [0, 7, 8, 9] (fun v0 v7 v8 v9 wr => ∃ (j n cb : Nat) (B : Option Addr) (life : Int) (acc : List UInt8), j ≤ ss.length ∧ v0 = .slice B n cb ∧ Hid (n = (ss.length - j) * 128) ∧ n ≤ cb ∧ cb ≤ maxLen ∧ n ≤ 524288 ∧ v9 = .int .i64 (j : Int) ∧ v8 = .int .i64 life ∧
    wr.ownsRow w.heap.size 5 1 v7 acc.length (U8 acc) ∧ acc.length ≤ 60000 ∧ Rd wr (fun b => b < w.heap.size) 1 B n (U8 (ss.drop j).flatten) ∧ Hid (recGo seq 0 0 [] ss = recGo seq j life acc (ss.drop j)) ∧ Fr No w wr) (fun v0 _ _ _ _ => (match v0 with | .slice _ n _ => n | _ => 0))
  case atStart => exact ⟨0, m, c, A, 0, [], by omega, rfl, HM, hc, hcm, hm5, rfl, rfl, World.ownsRow_nil _ _ _ _, by simp, hrd, Lib.hid rfl, Fr.refl _ _⟩
  case round =>
    obtain ⟨j, n, cb, B, life, acc, hj, rfl, HN, hncb, hcbm, hn5, rfl, rfl, hown, hacc, hrj, HR, hf⟩ := hrel
    have hn0 := HN.out
    obtain ⟨A7, c7, rfl, hc7, hc7m, hA7⟩ := own_form hown
    by_cases hlt : j < ss.length
    · have hn1 : 128 ≤ n := by omega
      have en : decide ((128 : Int) ≤ n) = true := by simp; omega
      have hls := HSS.out _ (List.getElem_mem hlt)
      obtain ⟨hh1, hh2⟩ := flat_head HSS.out hlt
      have hdr : ss.drop j = ss[j] :: ss.drop (j + 1) := List.drop_eq_getElem_cons hlt
      have hgo := HR.out
      rw [hdr] at hgo
      have HGO := Lib.hid hgo
      have hcut := hrj.cut (k := 128) (cap := cb) hn1 hncb
      simp only [Nat.mul_one, hh2] at hcut
      have hrs := hrj.take (k := 128) hn1
      simp only [Nat.mul_one, hh1] at hrs
      obtain ⟨ad, rfl, hadb, hcs⟩ := hrs.2.2 (by decide)
      have HCUT := Lib.hid hcut
      clear hn0 hdr hgo hh1 hh2 hcut hrs HR HM
      generalize ss[j] = s at *
      have hus : (U8 s).length = 128 := by rw [U8_length]; exact hls
      have hja : j ≤ 4096 := by omega
      go_upto_region 7 with (first
        | (refine wpList_arr4 rfl _ rfl _ _ _ rfl (by first | done | omega) ?_)
        | (refine wpList_ldA ag_sec4 rfl _ rfl ad (U8 s) rfl hus hcs ?_)
        | (refine wpList_allocA (show (Tryd.prog.info? tSec).bind (·.zero) = some (.agg (U8 zsec).toArray) from zero_sec) rfl rfl ?_)
        | (refine wpList_stA ag_sec4.info rfl _ _ rfl wr.heap.size 0 _ _ (U8 s) _ rfl rfl rfl hus (U8_one s) (Blk.new wr tSec (U8 zsec).toArray) (by rw [List.size_toArray, U8_length, zsec_len]; decide) ?_; intro w2 hs2 hg2 hz2)
        | fail)
      rw [splice_all _ _ (by rw [hus, List.size_toArray, U8_length, zsec_len])] at hs2
      have hf2 : Fr No wr w2 := ((Fr.refl No wr).alloc _).grown hg2 (fun q hq => by injection hq with hq; exact .inl (by rw [← hq]; exact Nat.le_refl _))
      obtain ⟨gs, hgs⟩ : ∃ gs, gs = wr.heap.size := ⟨_, rfl⟩
      have hge : wr.heap.size ≤ gs := by omega
      try simp only [Act.put, List.setIfInBounds_toArray, List.set_cons_zero, List.set_cons_succ]
      rw [← hgs] at hs2 ⊢
      clear hgs hg2 hz2
      go_cut [0] (fun s0 wx => ∃ A2 n2 c2, s0 = .slice A2 n2 c2 ∧ Hid (n2 + 128 = n) ∧ n2 ≤ c2 ∧ c2 ≤ maxLen ∧ n2 ≤ 524288 ∧ Hid (Rd w2 (fun b => b < w.heap.size) 1 A2 n2 (U8 (ss.drop (j + 1)).flatten)) ∧ wx = w2)
      case first =>
        have hmx : n - 128 ≤ 524288 := by omega
        by_cases hcb : cb = 128
        · subst hcb
          obtain rfl : n = 128 := by omega
          have hc := (HCUT.out).fr0 hf2
          rw [if_pos rfl] at hc
          have HC := Lib.hid hc
          clear hc
          go_wp2_with fail
          go_meet
          case rel => exact ⟨_, _, _, rfl, Lib.hid rfl, by omega, by omega, by omega, HC, rfl⟩
        · have hc := (HCUT.out).fr0 hf2
          rw [if_neg hcb] at hc
          have HC := Lib.hid hc
          clear hc
          go_wp2_with fail
          go_meet
          case rel => exact ⟨_, _, _, rfl, Lib.hid (by omega), by omega, by omega, by omega, HC, rfl⟩
      case rest =>
        obtain ⟨A2, n2, c2, rfl, HN2, hn2c, hc2m, hn25, HR2, hwx⟩ := hcut
        subst hwx
        have hown2 := own_fr0 hown hf2
        have hF2 := hf.tr hf2
        have hF2z := hF2.size
        clear hrj hf hown hf2 hcs hadb HCUT hrd
        have hg15 : (U8 s)[15]? = some (.int .u8 ((s.getD 15 0).toNat : Int)) := by rw [U8_get s 15 (by omega), List.getD_eq_getElem?_getD, List.getElem?_eq_getElem (by omega)]; rfl
        have hg14 : (U8 s)[14]? = some (.int .u8 ((s.getD 14 0).toNat : Int)) := by rw [U8_get s 14 (by omega), List.getD_eq_getElem?_getD, List.getElem?_eq_getElem (by omega)]; rfl
        have hc15 : wc.cell? ⟨gs, 15, none⟩ = some (.int .u8 ((s.getD 15 0).toNat : Int)) := by rw [hs2.cell, List.getElem?_toArray]; exact hg15
        have hc14 : wc.cell? ⟨gs, 14, none⟩ = some (.int .u8 ((s.getD 14 0).toNat : Int)) := by rw [hs2.cell, List.getElem?_toArray]; exact hg14
        have hpr := (s.getD 15 0).toNat_lt
        obtain ⟨p, hp⟩ : ∃ p, p = (s.getD 15 0).toNat := ⟨_, rfl⟩
        obtain ⟨x, hx⟩ : ∃ x, x = s.getD 14 0 := ⟨_, rfl⟩
        obtain ⟨la, hla⟩ : ∃ la : Bool, la = ((x.toNat : Int) == 1) := ⟨_, rfl⟩
        have hlax : (la = true) ↔ x = 1 := by
          rw [hla, beq_iff_eq]
          constructor
          · intro h; apply UInt8.toNat.inj; have : x.toNat = 1 := by omega
            rw [this]; rfl
          · intro h; rw [h]; rfl
        have HLF : Hid (lifeOf j life s = if j = 0 then getN (subB s 0 6) else life) := Lib.hid rfl
        have HP := Lib.hid hp
        have HX := Lib.hid hx
        have HLX := Lib.hid hlax
        rw [← hp] at hc15 hpr
        rw [← hx] at hc14
        have HLA := Lib.hid hla.symm
        clear hp hx hlax hg15 hg14
        go_wp2_with fail
        (refine T_begin No [0, 1, 2, 3, 4, 5, 6, 7] [] (by kernel_rfl) (by kernel_rfl) ?_; simp only [pickOps, List.filterMap_cons, List.filterMap_nil, List.getElem?_cons_zero, List.getElem?_cons_succ, Act.put])
        (first | (refine T_skip (by rfl) (by rfl) (fun _ _ _ h => h) ?_; try simp only [Act.put, List.setIfInBounds_toArray, List.set_cons_zero, List.set_cons_succ]) | (refine T_pass (by rfl) (by rfl) ?_; try simp only [Act.put, List.setIfInBounds_toArray, List.set_cons_zero, List.set_cons_succ]) | (refine T_load (by assumption) (by rfl) (by rfl) (fun _ _ _ _ h => h) rfl rfl (by assumption) (by first | exact (fun hn => hn) | assumption) ?_; try simp only [Act.put, List.setIfInBounds_toArray, List.set_cons_zero, List.set_cons_succ]) | (refine T_nil (by rfl) (by rfl) (fun _ _ _ _ h => h) rfl rfl ?_; try simp only [Act.put, List.setIfInBounds_toArray, List.set_cons_zero, List.set_cons_succ]) | (refine T_quietN (by rfl) (by rfl) (by rfl) (by rfl) (fun _ _ _ _ h => h) (fun K hK => ?_); go_big_quiet_op; refine hK _ ?_; clear hK K) | (refine T_two (by rfl) (by rfl) (by rfl) (by rfl) (fun _ _ _ _ h => h) (fun K hK => ?_); go_big_quiet_op; refine ⟨_, fun _ _ => rfl, ?_⟩; refine hK _ ?_; clear hK K; try simp only [Act.put, List.setIfInBounds_toArray, List.set_cons_zero, List.set_cons_succ]) | fail)
        (refine T_load g3 (by rfl) (by rfl) (fun _ _ _ _ h => h) rfl rfl hc15 (fun hn => hn) ?_; try simp only [Act.put, List.setIfInBounds_toArray, List.set_cons_zero, List.set_cons_succ])
        (refine T_u8i (by omega) (by omega) (by rfl) (by rfl) (fun _ _ _ _ h => h) rfl rfl ?_; try simp only [Act.put, List.setIfInBounds_toArray, List.set_cons_zero, List.set_cons_succ])
        (first | (refine T_skip (by rfl) (by rfl) (fun _ _ _ h => h) ?_; try simp only [Act.put, List.setIfInBounds_toArray, List.set_cons_zero, List.set_cons_succ]) | (refine T_pass (by rfl) (by rfl) ?_; try simp only [Act.put, List.setIfInBounds_toArray, List.set_cons_zero, List.set_cons_succ]) | (refine T_load (by assumption) (by rfl) (by rfl) (fun _ _ _ _ h => h) rfl rfl (by assumption) (by first | exact (fun hn => hn) | assumption) ?_; try simp only [Act.put, List.setIfInBounds_toArray, List.set_cons_zero, List.set_cons_succ]) | (refine T_nil (by rfl) (by rfl) (fun _ _ _ _ h => h) rfl rfl ?_; try simp only [Act.put, List.setIfInBounds_toArray, List.set_cons_zero, List.set_cons_succ]) | (refine T_quietN (by rfl) (by rfl) (by rfl) (by rfl) (fun _ _ _ _ h => h) (fun K hK => ?_); go_big_quiet_op; refine hK _ ?_; clear hK K) | (refine T_two (by rfl) (by rfl) (by rfl) (by rfl) (fun _ _ _ _ h => h) (fun K hK => ?_); go_big_quiet_op; refine ⟨_, fun _ _ => rfl, ?_⟩; refine hK _ ?_; clear hK K; try simp only [Act.put, List.setIfInBounds_toArray, List.set_cons_zero, List.set_cons_succ]) | fail)
        (refine T_load g3 (by rfl) (by rfl) (fun _ _ _ _ h => h) rfl rfl hc14 (fun hn => hn) ?_; try simp only [Act.put, List.setIfInBounds_toArray, List.set_cons_zero, List.set_cons_succ])
        (first | (refine T_skip (by rfl) (by rfl) (fun _ _ _ h => h) ?_; try simp only [Act.put, List.setIfInBounds_toArray, List.set_cons_zero, List.set_cons_succ]) | (refine T_pass (by rfl) (by rfl) ?_; try simp only [Act.put, List.setIfInBounds_toArray, List.set_cons_zero, List.set_cons_succ]) | (refine T_load (by assumption) (by rfl) (by rfl) (fun _ _ _ _ h => h) rfl rfl (by assumption) (by first | exact (fun hn => hn) | assumption) ?_; try simp only [Act.put, List.setIfInBounds_toArray, List.set_cons_zero, List.set_cons_succ]) | (refine T_nil (by rfl) (by rfl) (fun _ _ _ _ h => h) rfl rfl ?_; try simp only [Act.put, List.setIfInBounds_toArray, List.set_cons_zero, List.set_cons_succ]) | (refine T_quietN (by rfl) (by rfl) (by rfl) (by rfl) (fun _ _ _ _ h => h) (fun K hK => ?_); go_big_quiet_op; refine hK _ ?_; clear hK K) | (refine T_two (by rfl) (by rfl) (by rfl) (by rfl) (fun _ _ _ _ h => h) (fun K hK => ?_); go_big_quiet_op; refine ⟨_, fun _ _ => rfl, ?_⟩; refine hK _ ?_; clear hK K; try simp only [Act.put, List.setIfInBounds_toArray, List.set_cons_zero, List.set_cons_succ]) | fail)
        try rw [HLA.out]
        (first | (refine T_skip (by rfl) (by rfl) (fun _ _ _ h => h) ?_; try simp only [Act.put, List.setIfInBounds_toArray, List.set_cons_zero, List.set_cons_succ]) | (refine T_pass (by rfl) (by rfl) ?_; try simp only [Act.put, List.setIfInBounds_toArray, List.set_cons_zero, List.set_cons_succ]) | (refine T_load (by assumption) (by rfl) (by rfl) (fun _ _ _ _ h => h) rfl rfl (by assumption) (by first | exact (fun hn => hn) | assumption) ?_; try simp only [Act.put, List.setIfInBounds_toArray, List.set_cons_zero, List.set_cons_succ]) | (refine T_nil (by rfl) (by rfl) (fun _ _ _ _ h => h) rfl rfl ?_; try simp only [Act.put, List.setIfInBounds_toArray, List.set_cons_zero, List.set_cons_succ]) | (refine T_quietN (by rfl) (by rfl) (by rfl) (by rfl) (fun _ _ _ _ h => h) (fun K hK => ?_); go_big_quiet_op; refine hK _ ?_; clear hK K) | (refine T_two (by rfl) (by rfl) (by rfl) (by rfl) (fun _ _ _ _ h => h) (fun K hK => ?_); go_big_quiet_op; refine ⟨_, fun _ _ => rfl, ?_⟩; refine hK _ ?_; clear hK K; try simp only [Act.put, List.setIfInBounds_toArray, List.set_cons_zero, List.set_cons_succ]) | fail)
        (first | (refine T_skip (by rfl) (by rfl) (fun _ _ _ h => h) ?_; try simp only [Act.put, List.setIfInBounds_toArray, List.set_cons_zero, List.set_cons_succ]) | (refine T_pass (by rfl) (by rfl) ?_; try simp only [Act.put, List.setIfInBounds_toArray, List.set_cons_zero, List.set_cons_succ]) | (refine T_load (by assumption) (by rfl) (by rfl) (fun _ _ _ _ h => h) rfl rfl (by assumption) (by first | exact (fun hn => hn) | assumption) ?_; try simp only [Act.put, List.setIfInBounds_toArray, List.set_cons_zero, List.set_cons_succ]) | (refine T_nil (by rfl) (by rfl) (fun _ _ _ _ h => h) rfl rfl ?_; try simp only [Act.put, List.setIfInBounds_toArray, List.set_cons_zero, List.set_cons_succ]) | (refine T_quietN (by rfl) (by rfl) (by rfl) (by rfl) (fun _ _ _ _ h => h) (fun K hK => ?_); go_big_quiet_op; refine hK _ ?_; clear hK K) | (refine T_two (by rfl) (by rfl) (by rfl) (by rfl) (fun _ _ _ _ h => h) (fun K hK => ?_); go_big_quiet_op; refine ⟨_, fun _ _ => rfl, ?_⟩; refine hK _ ?_; clear hK K; try simp only [Act.put, List.setIfInBounds_toArray, List.set_cons_zero, List.set_cons_succ]) | fail)
        refine T_done ?_
        clear hla
        have hs3 := hs2.drew
        have hown3 : wc.drew.ownsRow w.heap.size 5 1 (.slice A7 acc.length c7) acc.length (U8 acc) := own_fr0 hown2 (Fr.refl No wc).drew
        have hF3 := hF2.drew
        have HR3 : Hid (Rd wc.drew (fun b => b < w.heap.size) 1 A2 n2 (U8 (ss.drop (j + 1)).flatten)) := Lib.hid (HR2.out.drew)
        have hc15d : wc.drew.cell? ⟨gs, 15, none⟩ = some (.int .u8 (p : Int)) := hc15
        have hc14d : wc.drew.cell? ⟨gs, 14, none⟩ = some (.int .u8 (x.toNat : Int)) := hc14
        have hzd : wc.drew.heap.size = wc.heap.size := rfl
        have hgd : gs < wc.drew.heap.size := hs3.lt
        clear hs2 hown2 hF2 HR2 hc15 hc14 hzd hF2z
        generalize wc.drew = wd at *
        go_upto_if 32 with fail
        go_cut [8] (fun s8 wx => s8 = .int .i64 (lifeOf j life s) ∧ wx = wd)
        case first =>
          by_cases hj0 : j = 0
          · subst hj0
            have HL := Lib.hid (show lifeOf 0 life s = getN (subB s 0 6) from if_pos rfl)
            go_wp2_with fail
            refine (get_at _ gs _ s 0 6 128 hs3 (by omega) (by decide)).mono ?_
            rintro e w4 ⟨rfl, hw4⟩
            subst hw4
            go_wp2_with fail
            go_meet
            case rel => exact ⟨by rw [HL.out], rfl⟩
          · have hlf : lifeOf j life s = life := if_neg hj0
            have ej : ((j : Int) == 0) = false := by rw [beq_eq_false_iff_ne]; omega
            have HL := Lib.hid hlf
            clear hj0 hlf
            go_wp2_with fail
            go_meet
            case rel => exact ⟨by rw [HL.out], rfl⟩
        case rest =>
          obtain ⟨rfl, hwx⟩ := hcut
          subst hwx
          obtain ⟨lf, hlf⟩ : ∃ lf, lf = lifeOf j life s := ⟨_, rfl⟩
          have HLF := Lib.hid hlf
          rw [← hlf]
          clear hlf
          have hbad : recBad acc.length s ↔ (p < 1 ∨ 112 < p ∨ 60000 < acc.length + p ∨ (x ≠ 1 ∧ p < 112)) := by unfold recBad; rw [← HP.out, ← HX.out]
          have HB := Lib.hid hbad
          have HNB : Hid (recBad acc.length s → recGo seq 0 0 [] ss = none) := Lib.hid (fun h => by rw [HGO.out]; exact recGo_no (.inl h))
          clear hbad
          by_cases hbd : recBad acc.length s
          · have HE := Lib.hid (HNB.out hbd)
            rw [HB.out] at hbd
            by_cases b1 : p < 1
            · have q1 : decide ((p : Int) < 1) = true := by simp; omega
              clear b1 hbd
              go_wp2_with fail
              go_ret3
              exact ⟨.inl ⟨HE.out, rfl⟩, hF3⟩
            · have q1 : decide ((p : Int) < 1) = false := by simp; omega
              by_cases b2 : 112 < p
              · have q2 : decide ((112 : Int) < p) = true := by simp; omega
                clear b1 b2 hbd
                go_wp2_with fail
                go_ret3
                exact ⟨.inl ⟨HE.out, rfl⟩, hF3⟩
              · have q2 : decide ((112 : Int) < p) = false := by simp; omega
                by_cases b3 : 60000 < acc.length + p
                · have q3 : decide ((60000 : Int) < (acc.length : Int) + p) = true := by simp; omega
                  clear b1 b2 b3 hbd
                  go_wp2_with fail
                  go_ret3
                  exact ⟨.inl ⟨HE.out, rfl⟩, hF3⟩
                · have q3 : decide ((60000 : Int) < (acc.length : Int) + p) = false := by simp; omega
                  have hb4 : x ≠ 1 ∧ p < 112 := by
                    rcases hbd with h | h | h | h
                    · exact absurd h b1
                    · exact absurd h b2
                    · exact absurd h b3
                    · exact h
                  obtain ⟨hx1, b4⟩ := hb4
                  have hla : la = false := by
                    cases la with
                    | false => rfl
                    | true => exact absurd (HLX.out.1 rfl) hx1
                  have q4 : decide ((p : Int) < 112) = true := by simp; omega
                  subst hla
                  clear b1 b2 b3 hbd b4 hx1
                  go_wp2_with fail
                  go_ret3
                  exact ⟨.inl ⟨HE.out, rfl⟩, hF3⟩
          · have HG := Lib.hid hbd
            rw [HB.out] at hbd
            have hp1 : 1 ≤ p := by omega
            have hp2 : p ≤ 112 := by omega
            have hp3 : acc.length + p ≤ 60000 := by omega
            have hp4 : x ≠ 1 → 112 ≤ p := fun hx => by
              rcases Nat.lt_or_ge p 112 with h | h
              · exact absurd (.inr (.inr (.inr ⟨hx, h⟩))) hbd
              · exact h
            have HP4 := Lib.hid hp4
            clear hbd hp4
            go_upto_region 11 with fail
            go_cut [55] (fun s55 wx => s55 = .bool false ∧ wx = wc)
            case first =>
              have q1 : decide ((p : Int) < 1) = false := by simp; omega
              have q2 : decide ((112 : Int) < p) = false := by simp; omega
              have q3 : decide ((60000 : Int) < (acc.length : Int) + p) = false := by simp; omega
              cases la with
              | true =>
                go_wp2_with fail
                go_meet
                case rel => exact ⟨rfl, rfl⟩
              | false =>
                have q4 : decide ((p : Int) < 112) = false := by
                  have := HP4.out (fun h => by have := HLX.out.2 h; cases this)
                  simp; omega
                go_wp2_with fail
                go_meet
                case rel => exact ⟨rfl, rfl⟩
            case rest =>
              obtain ⟨rfl, hwx⟩ := hcut
              rename_i wz
              replace hwx := hwx.symm
              subst hwx
              have hb0 := Blk.new wc tSec (U8 zsec).toArray
              have hF0 : Fr No wc (wc.alloc (.cells (U8 zsec).toArray tSec)) := (Fr.refl No wc).alloc _
              have hs4 := hs3.alloc (.cells (U8 zsec).toArray tSec)
              go_upto_region 14 with (first
                | (refine wpList_allocA (show (Tryd.prog.info? tSec).bind (·.zero) = some (.agg (U8 zsec).toArray) from zero_sec) rfl rfl ?_)
                | fail)
              obtain ⟨gw, hgw⟩ : ∃ gw, gw = wc.heap.size := ⟨_, rfl⟩
              have hgew : wc.heap.size ≤ gw := by omega
              have hne : ¬ (gs = gw) := by omega
              try simp only [Act.put, List.setIfInBounds_toArray, List.set_cons_zero, List.set_cons_succ]
              rw [← hgw] at hb0 ⊢
              clear hgw hc15d hc14d
              generalize wc.alloc (.cells (U8 zsec).toArray tSec) = w1 at *
              go_wp2_with fail
              refine (put_calls _ gw 0 6 128 tSec _ lf hb0 (by rw [List.size_toArray, U8_length, zsec_len]; decide) (by decide)).mono ?_
              rintro e w2 ⟨rfl, hb2, hf2⟩
              have e0 : (U8 zsec).toArray = (U8 ([] ++ List.replicate 128 0)).toArray := rfl
              rw [e0, splice_pre [] _ 128 122 0 rfl (by rw [putL_len])] at hb2
              have hF2 : Fr No wc w2 := hF0.trans hf2 (fun b hb e => by omega)
              have hs5 := hs4.fr hf2 hne
              clear hb0 hF0 hf2 e0 hs4
              go_wp2_with fail
              refine (put_calls _ gw 6 6 122 tSec _ seq hb2 (by rw [List.size_toArray, U8_length]; simp [putL_len]) (by decide)).mono ?_
              rintro e w3 ⟨rfl, hb3, hf3⟩
              rw [splice_pre _ _ 122 116 6 (by simp [putL_len]) (by rw [putL_len])] at hb3
              have hF4 : Fr No wc w3 := hF2.trans hf3 (fun b hb e => by omega)
              have hs6 := hs5.fr hf3 hne
              clear hb2 hF2 hf3 hs5
              go_wp2_with fail
              refine (put_calls _ gw 12 2 116 tSec _ (j : Int) hb3 (by rw [List.size_toArray, U8_length]; simp [putL_len]) (by decide)).mono ?_
              rintro e w4 ⟨rfl, hb4, hf4⟩
              rw [splice_pre _ _ 116 114 12 (by simp [putL_len]) (by rw [putL_len])] at hb4
              have hF5 : Fr No wc w4 := hF4.trans hf4 (fun b hb e => by omega)
              have hs7 := hs6.fr hf4 hne
              clear hb3 hF4 hf4 hs6
              obtain ⟨pre, hpre⟩ : ∃ pre, pre = [] ++ putL 6 lf ++ putL 6 seq ++ putL 2 (j : Int) := ⟨_, rfl⟩
              have hpl : pre.length = 14 := by rw [hpre]; simp [putL_len]
              have hwant : wantB lf seq j s = pre ++ [x &&& 1] ++ [UInt8.ofNat p] ++ subB s 16 p ++ List.replicate (112 - p) 0 := by
                unfold wantB
                rw [← hpre, ← HX.out, ← HP.out]
                congr 4
                rw [HP.out]
                exact UInt8.ofNat_toNat.symm
              have HWT := Lib.hid hwant
              rw [← hpre] at hb4
              clear hpre hwant
              have hx14 : w4.cell? ⟨gs, 14, none⟩ = some (.int .u8 (x.toNat : Int)) := by
                rw [hs7.cell, List.getElem?_toArray, U8_get s 14 (by omega), HX.out, List.getD_eq_getElem?_getD, List.getElem?_eq_getElem (by omega)]; rfl
              have hx15 : w4.cell? ⟨gs, 15, none⟩ = some (.int .u8 (p : Int)) := by
                rw [hs7.cell, List.getElem?_toArray, U8_get s 15 (by omega), HP.out, List.getD_eq_getElem?_getD, List.getElem?_eq_getElem (by omega)]; rfl
              have hc14 := (hb4.cell 14).trans (Array.getElem?_eq_getElem (by rw [List.size_toArray, U8_length, List.length_append, hpl, List.length_replicate]; decide))
              have hz14 := hb4.frozen 14
              have hc15 := (hb4.cell 15).trans (Array.getElem?_eq_getElem (by rw [List.size_toArray, U8_length, List.length_append, hpl, List.length_replicate]; decide))
              have hz15 := hb4.frozen 15
              have hb5 := hb4.put 14 (.int .u8 (bits .and .u8 (x.toNat : Int) 1))
              have hb6 := hb5.put 15 (.int .u8 (p : Int))
              rw [and1_u8, set_pre pre (x &&& 1) 113 14 hpl] at hb6
              have hp15 : (pre ++ [x &&& 1]).length = 15 := by rw [List.length_append, hpl]; rfl
              have hset := set_pre (pre ++ [x &&& 1]) (UInt8.ofNat p) 112 15 hp15
              rw [show ((UInt8.ofNat p).toNat : Int) = (p : Int) by rw [UInt8.toNat_ofNat']; omega] at hset
              rw [hset] at hb6
              have HAN := Lib.hid (and1_u8 x)
              clear hset hb5
              generalize (U8 (pre ++ List.replicate 114 0)).toArray[14]'_ = old14 at hc14
              generalize (U8 (pre ++ List.replicate 114 0)).toArray[15]'_ = old15 at hc15
              go_upto_region 18 with fail
              try rw [HAN.out]
              have hF6 : Fr No wc ((w4.setCell ⟨gw, 14, none⟩ (.int .u8 ((x &&& 1).toNat : Int))).setCell ⟨gw, 15, none⟩ (.int .u8 (p : Int))) := (hF5.set (p := ⟨gw, 14, none⟩) (.inl hgew) _).set (p := ⟨gw, 15, none⟩) (.inl hgew) _
              have hs8 : Blk ((w4.setCell ⟨gw, 14, none⟩ (.int .u8 ((x &&& 1).toNat : Int))).setCell ⟨gw, 15, none⟩ (.int .u8 (p : Int))) gs tSec (U8 s).toArray := (hs7.far hne _).far hne _
              clear hx14 hx15 hc14 hz14 hc15 hz15 hb4 hF5 hs7
              generalize (w4.setCell ⟨gw, 14, none⟩ (.int .u8 ((x &&& 1).toNat : Int))).setCell ⟨gw, 15, none⟩ (.int .u8 (p : Int)) = w6 at *
              have hp16 : (pre ++ [x &&& 1] ++ [UInt8.ofNat p]).length = 16 := by rw [List.length_append, hp15]; rfl
              have hsl : (subB s 16 p).length = p := by unfold subB; rw [List.length_take, List.length_drop]; omega
              have hsrc : ∀ w', Blk w' gs tSec (U8 s).toArray → Rd w' (fun b => b = gs) 1 (some ⟨gs, 16, none⟩) p (U8 (subB s 16 p)) := fun w' hb => by
                refine ⟨by rw [U8_length, hsl]; omega, by omega, fun _ => ⟨_, rfl, rfl, hb.cells 16 _ (fun i u hu => ?_)⟩⟩
                rw [subB, U8_take, U8_drop, List.getElem?_take] at hu
                split at hu
                · rw [List.getElem?_drop] at hu
                  simpa using hu
                · cases hu
              obtain ⟨q, hq⟩ : ∃ q, q = 16 + p := ⟨_, rfl⟩
              have HQ := Lib.hid (show (16 : Int) + (p : Int) = (q : Int) by omega)
              have hq1 : (16 : Int) ≤ (q : Int) := by omega
              have hq2 : (q : Int) ≤ 128 := by omega
              have HQP := Lib.hid (show q - 16 = p by omega)
              clear hq
              go_wp2_with fail
              (refine T_begin (fun b => b = gw) [0, 1, 2, 3, 4] [4] (by kernel_rfl) (by kernel_rfl) ?_; simp only [pickOps, List.filterMap_cons, List.filterMap_nil, List.getElem?_cons_zero, List.getElem?_cons_succ, Act.put])
              (first | (refine T_skip (by rfl) (by rfl) (fun _ _ _ h => h) ?_; try simp only [Act.put, List.setIfInBounds_toArray, List.set_cons_zero, List.set_cons_succ]) | (refine T_pass (by rfl) (by rfl) ?_; try simp only [Act.put, List.setIfInBounds_toArray, List.set_cons_zero, List.set_cons_succ]) | (refine T_load (by assumption) (by rfl) (by rfl) (fun _ _ _ _ h => h) rfl rfl (by assumption) (by first | exact (fun hn => hn) | assumption) ?_; try simp only [Act.put, List.setIfInBounds_toArray, List.set_cons_zero, List.set_cons_succ]) | (refine T_nil (by rfl) (by rfl) (fun _ _ _ _ h => h) rfl rfl ?_; try simp only [Act.put, List.setIfInBounds_toArray, List.set_cons_zero, List.set_cons_succ]) | (refine T_quietN (by rfl) (by rfl) (by rfl) (by rfl) (fun _ _ _ _ h => h) (fun K hK => ?_); go_big_quiet_op; refine hK _ ?_; clear hK K) | (refine T_two (by rfl) (by rfl) (by rfl) (by rfl) (fun _ _ _ _ h => h) (fun K hK => ?_); go_big_quiet_op; refine ⟨_, fun _ _ => rfl, ?_⟩; refine hK _ ?_; clear hK K; try simp only [Act.put, List.setIfInBounds_toArray, List.set_cons_zero, List.set_cons_succ]) | fail)
              (first | (refine T_skip (by rfl) (by rfl) (fun _ _ _ h => h) ?_; try simp only [Act.put, List.setIfInBounds_toArray, List.set_cons_zero, List.set_cons_succ]) | (refine T_pass (by rfl) (by rfl) ?_; try simp only [Act.put, List.setIfInBounds_toArray, List.set_cons_zero, List.set_cons_succ]) | (refine T_load (by assumption) (by rfl) (by rfl) (fun _ _ _ _ h => h) rfl rfl (by assumption) (by first | exact (fun hn => hn) | assumption) ?_; try simp only [Act.put, List.setIfInBounds_toArray, List.set_cons_zero, List.set_cons_succ]) | (refine T_nil (by rfl) (by rfl) (fun _ _ _ _ h => h) rfl rfl ?_; try simp only [Act.put, List.setIfInBounds_toArray, List.set_cons_zero, List.set_cons_succ]) | (refine T_quietN (by rfl) (by rfl) (by rfl) (by rfl) (fun _ _ _ _ h => h) (fun K hK => ?_); go_big_quiet_op; refine hK _ ?_; clear hK K) | (refine T_two (by rfl) (by rfl) (by rfl) (by rfl) (fun _ _ _ _ h => h) (fun K hK => ?_); go_big_quiet_op; refine ⟨_, fun _ _ => rfl, ?_⟩; refine hK _ ?_; clear hK K; try simp only [Act.put, List.setIfInBounds_toArray, List.set_cons_zero, List.set_cons_succ]) | fail)
              (first | (refine T_skip (by rfl) (by rfl) (fun _ _ _ h => h) ?_; try simp only [Act.put, List.setIfInBounds_toArray, List.set_cons_zero, List.set_cons_succ]) | (refine T_pass (by rfl) (by rfl) ?_; try simp only [Act.put, List.setIfInBounds_toArray, List.set_cons_zero, List.set_cons_succ]) | (refine T_load (by assumption) (by rfl) (by rfl) (fun _ _ _ _ h => h) rfl rfl (by assumption) (by first | exact (fun hn => hn) | assumption) ?_; try simp only [Act.put, List.setIfInBounds_toArray, List.set_cons_zero, List.set_cons_succ]) | (refine T_nil (by rfl) (by rfl) (fun _ _ _ _ h => h) rfl rfl ?_; try simp only [Act.put, List.setIfInBounds_toArray, List.set_cons_zero, List.set_cons_succ]) | (refine T_quietN (by rfl) (by rfl) (by rfl) (by rfl) (fun _ _ _ _ h => h) (fun K hK => ?_); go_big_quiet_op; refine hK _ ?_; clear hK K) | (refine T_two (by rfl) (by rfl) (by rfl) (by rfl) (fun _ _ _ _ h => h) (fun K hK => ?_); go_big_quiet_op; refine ⟨_, fun _ _ => rfl, ?_⟩; refine hK _ ?_; clear hK K; try simp only [Act.put, List.setIfInBounds_toArray, List.set_cons_zero, List.set_cons_succ]) | fail)
              try rw [HQ.out]
              (first | (refine T_skip (by rfl) (by rfl) (fun _ _ _ h => h) ?_; try simp only [Act.put, List.setIfInBounds_toArray, List.set_cons_zero, List.set_cons_succ]) | (refine T_pass (by rfl) (by rfl) ?_; try simp only [Act.put, List.setIfInBounds_toArray, List.set_cons_zero, List.set_cons_succ]) | (refine T_load (by assumption) (by rfl) (by rfl) (fun _ _ _ _ h => h) rfl rfl (by assumption) (by first | exact (fun hn => hn) | assumption) ?_; try simp only [Act.put, List.setIfInBounds_toArray, List.set_cons_zero, List.set_cons_succ]) | (refine T_nil (by rfl) (by rfl) (fun _ _ _ _ h => h) rfl rfl ?_; try simp only [Act.put, List.setIfInBounds_toArray, List.set_cons_zero, List.set_cons_succ]) | (refine T_quietN (by rfl) (by rfl) (by rfl) (by rfl) (fun _ _ _ _ h => h) (fun K hK => ?_); go_big_quiet_op; refine hK _ ?_; clear hK K) | (refine T_two (by rfl) (by rfl) (by rfl) (by rfl) (fun _ _ _ _ h => h) (fun K hK => ?_); go_big_quiet_op; refine ⟨_, fun _ _ => rfl, ?_⟩; refine hK _ ?_; clear hK K; try simp only [Act.put, List.setIfInBounds_toArray, List.set_cons_zero, List.set_cons_succ]) | fail)
              try rw [HQP.out]
              refine T_call (by rfl) (by rfl) (fun K hK => ?_)
              refine wp_copyA so_u8 rfl hb6.drew (hsrc _ hs8.drew) (U8_one _) rfl rfl (by rw [List.size_toArray, U8_length, List.length_append, hp16, List.length_replicate]; omega) ?_
              intro w7 hb7 hg7 hz7
              rw [show min p 112 * 1 = p by omega, List.take_of_length_le (by rw [U8_length, hsl]; exact Nat.le_refl _), splice_pre _ _ 112 (112 - p) 16 hp16 (by rw [hsl]; omega), ← HWT.out] at hb7
              (refine hK.out _ _ ((Fr.refl _ _).grown hg7 (fun q hq => by injection hq with hq; exact .inr hq.symm)) ?_; clear hK K; try simp only [Act.put, List.setIfInBounds_toArray, List.set_cons_zero, List.set_cons_succ])
              refine T_done ?_
              have hf7 : Fr No wc w7 := (hF6.drew).grown hg7 (fun q hq => by injection hq with hq; exact .inl (by omega))
              have hs9 := hs8.drew.grown hg7 (fun h => hne (Option.some.inj h))
              have hlw : (wantB lf seq j s).length = 128 := by rw [HWT.out, List.length_append, List.length_append, hp16, hsl, List.length_replicate]; omega
              have hF7 := hF3.tr hf7
              have hown7 := own_fr0 hown3 hf7
              have HR7 := Lib.hid (HR3.out.fr0 hf7)
              have HGW : Hid (wantB (lifeOf j life s) seq j s = s ↔ wantB lf seq j s = s) := Lib.hid (by rw [HLF.out])
              obtain ⟨wt, hwt⟩ : ∃ wt, wt = wantB lf seq j s := ⟨_, rfl⟩
              have HWE := Lib.hid hwt
              rw [← hwt] at hlw hb7
              have hlu : (U8 wt).length = 128 := by rw [U8_length]; exact hlw
              have hsrc7 := hsrc _ hs9
              clear hb6 hs8 hF6 hg7 hf7 hown3 HR3 hF3 hsrc hwt hs3
              by_cases hws : wt = s
              · have hq : (wt == s) = true := by rw [beq_iff_eq]; exact hws
                have hweq : wantB (lifeOf j life s) seq j s = s := HGW.out.2 (by rw [← HWE.out]; exact hws)
                have HEND : Hid (x = 1 → recGo seq 0 0 [] ss = some (acc ++ subB s 16 p, lf, j + 1)) := Lib.hid (fun h => by rw [HGO.out, recGo_end HG.out hweq (by rw [← HX.out]; exact h), ← HP.out, ← HLF.out])
                have HON : Hid (x ≠ 1 → recGo seq 0 0 [] ss = recGo seq (j + 1) lf (acc ++ subB s 16 p) (ss.drop (j + 1))) := Lib.hid (fun h => by rw [HGO.out, recGo_on HG.out hweq (by rw [← HX.out]; exact h), ← HP.out, ← HLF.out])
                have HQB := Lib.hid (show (!(wt == s)) = false by rw [hq]; rfl)
                have q5 : (16 : Int) ≤ 16 + (p : Int) := by omega
                have q6 : 16 + (p : Int) ≤ 128 := by omega
                clear hws hweq hq
                have hbase := hF7.size
                have hsrc8 : Rd w7 (fun b => b = gs) 1 (some ⟨gs, 16, none⟩) (16 + p - 16) (U8 (subB s 16 p)) := by rw [show 16 + p - 16 = p by omega]; exact hsrc7
                clear hsrc7
                have HSL := Lib.hid hsl
                cases la with
                | true =>
                  have HE := Lib.hid (HEND.out (HLX.out.1 rfl))
                  go_wp2_with (first
                    | (refine wpList_ldA ag_sec4 rfl _ rfl ⟨gw, 0, none⟩ (U8 wt) rfl hlu hb7.all ?_)
                    | (refine wpList_ldA ag_sec4 rfl _ rfl ⟨gs, 0, none⟩ (U8 s) rfl hus hs9.all ?_)
                    | (refine wpList_neqSec4 (xs := wt) (ys := s) hlw hls rfl rfl rfl rfl ?_; rw [HQB.out])
                    | (at_builtin; refine wpList_app_at so_u8 hown7 hsrc8 (U8_one _) (by omega) hbase rfl rfl rfl rfl ?_; intro v8 w8 hown8 hg8 hat8)
                    | fail)
                  rw [← U8_append, show acc.length + (16 + p - 16) = acc.length + p by omega] at hown8
                  have hf8 : Fr No w w8 := hF7.grown hg8 (fun q hq => .inl ((hown7.lt q hq).1))
                  go_ret3
                  refine ⟨.inr ⟨_, _, _, _, HE.out, rfl, ?_⟩, hf8⟩
                  rw [List.length_append, HSL.out]
                  exact hown8
                | false =>
                  have HE := Lib.hid (HON.out (fun h => by have := HLX.out.2 h; cases this))
                  go_wp2_with (first
                    | (refine wpList_ldA ag_sec4 rfl _ rfl ⟨gw, 0, none⟩ (U8 wt) rfl hlu hb7.all ?_)
                    | (refine wpList_ldA ag_sec4 rfl _ rfl ⟨gs, 0, none⟩ (U8 s) rfl hus hs9.all ?_)
                    | (refine wpList_neqSec4 (xs := wt) (ys := s) hlw hls rfl rfl rfl rfl ?_; rw [HQB.out])
                    | (at_builtin; refine wpList_app_at so_u8 hown7 hsrc8 (U8_one _) (by omega) hbase rfl rfl rfl rfl ?_; intro v8 w8 hown8 hg8 hat8)
                    | fail)
                  rw [← U8_append, show acc.length + (16 + p - 16) = acc.length + p by omega] at hown8
                  have hf8 : Fr No w w8 := hF7.grown hg8 (fun q hq => .inl ((hown7.lt q hq).1))
                  have hR8 := HR7.out.grown hg8 (fun g hg hb => by have := (hown7.lt g hg).1; omega)
                  go_roundw
                  case rel =>
                    refine ⟨j + 1, n2, c2, A2, lf, acc ++ subB s 16 p, by omega, rfl, Lib.hid (by have := HN.out; have := HN2.out; omega), by omega, by omega, by omega, by go_num, rfl, ?_, by rw [List.length_append, HSL.out]; omega, hR8, HE, hf8⟩
                    rw [List.length_append, HSL.out]
                    exact hown8
                  case measure => simp; have := HN2.out; omega
              · have hq : (wt == s) = false := by rw [beq_eq_false_iff_ne]; exact hws
                have HE : Hid (recGo seq 0 0 [] ss = none) := Lib.hid (by rw [HGO.out]; exact recGo_no (.inr (fun h => hws (by rw [HWE.out]; exact HGW.out.1 h))))
                have HQB := Lib.hid (show (!(wt == s)) = true by rw [hq]; rfl)
                clear hws hq
                go_wp2_with (first
                  | (refine wpList_ldA ag_sec4 rfl _ rfl ⟨gw, 0, none⟩ (U8 wt) rfl hlu hb7.all ?_)
                  | (refine wpList_ldA ag_sec4 rfl _ rfl ⟨gs, 0, none⟩ (U8 s) rfl hus hs9.all ?_)
                  | (refine wpList_neqSec4 (xs := wt) (ys := s) hlw hls rfl rfl rfl rfl ?_; rw [HQB.out])
                  | fail)
                go_ret3
                exact ⟨.inl ⟨HE.out, rfl⟩, hF7⟩
    · obtain rfl : j = ss.length := by omega
      obtain rfl : n = 0 := by omega
      have hgo := HR.out
      rw [List.drop_length] at hgo
      have HE := Lib.hid (show recGo seq 0 0 [] ss = none from hgo)
      have en : decide ((128 : Int) ≤ ((0 : Nat) : Int)) = false := by simp
      clear hgo hn0
      go_wp2_with fail
      go_ret3
      exact ⟨.inl ⟨HE.out, rfl⟩, hf⟩
end Go.Proofs.YtannkgglgmbkdaaDoor
