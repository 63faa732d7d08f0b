/- ring.sectors in full. No condition but size. -/
import Derived.Test.YtannkgglgmbkdaaDoorNBufC
import Derived.Test.YtannkgglgmbkdaaDoorNHeadT
import Derived.Shelf.Bytes.WriteAny
namespace Go.Proofs.YtannkgglgmbkdaaDoor
set_option linter.unusedVariables false
set_option linter.unusedSimpArgs false
open Go.RowKit

/-- How many sectors a record of l bytes has, and what they are. -/
def recN (l : Nat) : Nat := (l + 111) / 112
def recPart (rec : List UInt8) (j : Nat) : List UInt8 := (rec.drop (112 * j)).take 112
def recPre (life seq : Int) (rec : List UInt8) (j : Nat) : List UInt8 := [] ++ putL 6 life ++ putL 6 seq ++ putL 2 (j : Int)
def recSec (life seq : Int) (rec : List UInt8) (j : Nat) : Sec :=
  recPre life seq rec j ++ [if rec.length ≤ 112 * (j + 1) then 1 else 0] ++ [UInt8.ofNat (recPart rec j).length] ++ recPart rec j ++ List.replicate (112 - (recPart rec j).length) 0
def recB (life seq : Int) (rec : List UInt8) : List Sec := (List.range (recN rec.length)).map (recSec life seq rec)
theorem recPart_len (rec : List UInt8) (j : Nat) : (recPart rec j).length = min 112 (rec.length - 112 * j) := by unfold recPart; rw [List.length_take, List.length_drop]
theorem recPre_len (life seq : Int) (rec : List UInt8) (j : Nat) : (recPre life seq rec j).length = 14 := by simp [recPre, putL_len]
theorem recSec_len (life seq : Int) (rec : List UInt8) (j : Nat) : (recSec life seq rec j).length = 128 := by
  have := recPart_len rec j
  simp only [recSec, List.length_append, recPre_len, List.length_cons, List.length_nil, List.length_replicate]
  omega
theorem recB_len (life seq : Int) (rec : List UInt8) : (recB life seq rec).length = recN rec.length := by simp [recB]
theorem recB_128 (life seq : Int) (rec : List UInt8) : Len128 (recB life seq rec) := fun s hs => by
  obtain ⟨j, _, rfl⟩ := List.mem_map.1 hs
  exact recSec_len _ _ _ _
def recUp (life seq : Int) (rec : List UInt8) (j : Nat) : List UInt8 := ((List.range j).map (recSec life seq rec)).flatten
theorem recUp_step (life seq : Int) (rec : List UInt8) (j : Nat) : recUp life seq rec (j + 1) = recUp life seq rec j ++ recSec life seq rec j := by
  unfold recUp; rw [List.range_succ, List.map_append, List.flatten_append]; simp
theorem recUp_len (life seq : Int) (rec : List UInt8) (j : Nat) : (recUp life seq rec j).length = j * 128 := by
  induction j with
  | zero => rfl
  | succ j ih => rw [recUp_step, List.length_append, ih, recSec_len]; omega
theorem isbuf_fr0 {T e : TypeId} {B b : Nat} {bs : List Value} {w w' : World} (h : Lib.IsBuffer T e B b bs w) (hf : Fr No w w') : Lib.IsBuffer T e B b bs w' := by
  have hlt := h.lt
  obtain ⟨h1, v, lr, h2, h3, h4⟩ := h
  exact ⟨h1, v, lr, (hf.block b hlt (fun hn => hn)).trans h2, own_fr0 h3 hf, h4⟩
theorem bufwrite_any (B b : Nat) (bs cs : List Value) (a : Addr) (n c : Nat) (w : World) (h : Lib.IsBuffer 104 5 B b bs w) (hBw : B ≤ w.heap.size) (h1 : ∀ v ∈ bs, v.oneCell' = true)
    (hn : cs.length = n) (hab : a.block ≠ b) (hsrc : ∀ j v, cs[j]? = some v → w.cell? (a.add j) = some v) (h1c : ∀ v ∈ cs, v.oneCell' = true) (hlim : bs.length + n ≤ 140737488355328) :
    Calls Tryd.prog 49 #[.pointer (some ⟨b, 0, none⟩), .slice (some a) n c] w fun e w' => e = .returned (.tuple #[.int .i64 n, .nilIface]) ∧ Lib.IsBuffer 104 5 B b (bs ++ cs) w' ∧ Below B w w' :=
  (Any.Buffer_Write_any layBufWrite B b bs cs a n c w h hBw h1 hn hab hsrc h1c hlim).mono (fun _ _ h => ⟨h.1, h.2.1, h.2.2.1⟩)
theorem zero_secZ : (Tryd.prog.info? tSec).bind (·.zero) = some (.agg (U8 zsec).toArray) := zero_sec
theorem fr_below {w w1 w2 : World} (h : Fr No w w1) (k : Below w.heap.size w1 w2) (hs : w.heap.size ≤ w1.heap.size) : Fr No w w2 :=
  ⟨k.os.trans h.os, k.tape.trans h.tape, k.output.trans h.output, Nat.le_trans h.size k.size, fun i hi _ => (k.block i hi).trans (h.block i hi (fun hn => hn))⟩
set_option maxHeartbeats 8000000 in
set_option maxRecDepth 100000 in
theorem recs_calls (w : World) (life seq : Int) (A : Option Addr) (c : Nat) (rec : List UInt8) (hr : RdB w (fun b => b < w.heap.size) A rec) (hl : rec.length ≤ 60000) (hc : rec.length ≤ c) (hcm : c ≤ maxLen) :
    Calls Tryd.prog 38 #[.int .i64 life, .int .i64 seq, .slice A rec.length c] w fun e w' => ∃ v, e = .returned v ∧ w'.ownsRow w.heap.size 5 1 v (recN rec.length * 128) (U8 (recB life seq rec).flatten) ∧ Fr No w w' := by
  go_enter Tryd.func38, Tryd.ntmps38
  go_wp2_with fail
  have hI0 : Lib.IsBuffer 104 5 w.heap.size w.heap.size (U8 (recUp life seq rec 0)) (w.alloc (.cells #[.slice none 0 0, .int .i64 0, .int .i8 0] 104)) := Lib.fresh_isBuffer _ _ w
  have hf0 : Fr No w (w.alloc (.cells #[.slice none 0 0, .int .i64 0, .int .i8 0] 104)) := (Fr.refl No w).alloc _
  have hr0 := hr.fr0 hf0
  go_loopw [2, 8] (fun v2 v8 wr => ∃ (j nj cj : Nat) (Aj : Option Addr), j ≤ recN rec.length ∧ v8 = .int .i64 (j : Int) ∧ v2 = .slice Aj nj cj ∧ Hid (nj = rec.length - 112 * j) ∧ nj ≤ cj ∧ cj ≤ maxLen ∧ nj ≤ 60000 ∧
    Rd wr (fun b => b < w.heap.size) 1 Aj nj (U8 (rec.drop (112 * j))) ∧ Lib.IsBuffer 104 5 w.heap.size w.heap.size (U8 (recUp life seq rec j)) wr ∧ Fr No w wr) (fun v2 _ _ => (match v2 with | .slice _ n _ => n | _ => 0))
  case atStart => exact ⟨0, rec.length, c, A, by omega, rfl, rfl, Lib.hid (by omega), hc, hcm, hl, hr0, hI0, hf0⟩
  case round =>
    obtain ⟨j, nj, cj, Aj, hj, rfl, rfl, HN, hnc, hcj, hn6, hrd, hI, hf⟩ := hrel
    have hn0 := HN.out
    have hj6 : j ≤ 536 := by unfold recN at hj; omega
    by_cases hlt : 0 < nj
    · have hpl := recPart_len rec j
      have hjl : j < recN rec.length := by unfold recN; omega
      have HJL := Lib.hid hjl
      have HUL := Lib.hid (recUp_len life seq rec j)
      have HUS := Lib.hid (recUp_step life seq rec j)
      have hpre := recPre_len life seq rec j
      have en : decide ((0 : Int) < nj) = true := by simp; omega
      obtain ⟨m, hm⟩ : ∃ m, m = (recPart rec j).length := ⟨_, rfl⟩
      have hmm : m = min nj 112 := by omega
      have hm1 : m ≤ nj := by omega
      have hm2 : m ≤ 112 := by omega
      have hm3 : m ≤ cj := by omega
      have hm0 : 0 < m := by omega
      have HMI := Lib.hid (show (m : Int) = min (nj : Int) 112 by omega)
      have HM := Lib.hid hm
      have hpt := (hrd.take (k := m) hm1)
      rw [Nat.mul_one, ← U8_take] at hpt
      have hpp : (List.drop (112 * j) rec).take m = recPart rec j := by
        unfold recPart
        rw [hm, recPart_len]
        apply List.take_eq_take_iff.2
        rw [List.length_drop]
        omega
      rw [hpp] at hpt
      have hcut := hrd.cut (k := m) (cap := cj) hm1 hnc
      rw [Nat.mul_one, ← U8_drop, List.drop_drop] at hcut
      have hrem : nj - m = rec.length - 112 * (j + 1) := by omega
      have hdr : rec.drop (112 * j + m) = rec.drop (112 * (j + 1)) := by
        rcases Nat.lt_or_ge (112 * j + m) rec.length with h | h
        · congr 1; omega
        · rw [List.drop_eq_nil_of_le h, List.drop_eq_nil_of_le (by omega)]
      rw [hdr] at hcut
      have HREM := Lib.hid hrem
      have HCUT := Lib.hid hcut
      clear hcut hrem hdr hpp
      by_cases hla : nj ≤ 112
      · have hmn : m = nj := by omega
        have HS : Hid (recSec life seq rec j = recPre life seq rec j ++ [1] ++ [UInt8.ofNat m] ++ recPart rec j ++ List.replicate (112 - m) 0) := Lib.hid (by unfold recSec; rw [if_pos (by omega), ← hm])
        have emn : ((m : Int) == (nj : Int)) = true := by rw [hmn]; exact beq_self_eq_true _
        clear hmn hla hn0 hmm hm hpl hjl
        go_upto_region 7 with (first
          | (refine wpList_allocA zero_secZ rfl rfl ?_)
          | (refine wpList_min (nj : Int) 112 (m : Int) HMI.out rfl rfl rfl rfl ?_)
          | fail)
        have hb1 := Blk.new wr tSec (U8 zsec).toArray
        have hF1 : Fr No wr (wr.alloc (.cells (U8 zsec).toArray tSec)) := (Fr.refl No wr).alloc _
        obtain ⟨gs, hgs⟩ : ∃ gs, gs = wr.heap.size := ⟨_, rfl⟩
        have hge : wr.heap.size ≤ gs := by omega
        have hgw : w.heap.size < gs := by have := hI.lt; omega
        try simp only [Act.put, List.setIfInBounds_toArray, List.set_cons_zero, List.set_cons_succ]
        rw [← hgs] at hb1 ⊢
        clear hgs
        generalize wr.alloc (.cells (U8 zsec).toArray tSec) = w1 at *
        go_wp2_with fail
        refine (put_calls _ gs 0 6 128 tSec _ life hb1 (by rw [List.size_toArray, U8_length, zsec_len]; decide) (by decide)).mono ?_
        rintro e w2 ⟨rfl, hb2, hf2⟩
        have e0 : (U8 zsec).toArray = (U8 ([] ++ List.replicate 128 0)).toArray := rfl
        rw [e0, splice_pre [] _ 128 122 0 rfl (by rw [putL_len])] at hb2
        have hF2 : Fr No wr w2 := hF1.trans hf2 (fun b hb e => by omega)
        clear hb1 hF1 hf2 e0
        go_wp2_with fail
        refine (put_calls _ gs 6 6 122 tSec _ seq hb2 (by rw [List.size_toArray, U8_length]; simp [putL_len]) (by decide)).mono ?_
        rintro e w3 ⟨rfl, hb3, hf3⟩
        rw [splice_pre _ _ 122 116 6 (by simp [putL_len]) (by rw [putL_len])] at hb3
        have hF3 : Fr No wr w3 := hF2.trans hf3 (fun b hb e => by omega)
        clear hb2 hF2 hf3
        go_wp2_with fail
        refine (put_calls _ gs 12 2 116 tSec _ (j : Int) hb3 (by rw [List.size_toArray, U8_length]; simp [putL_len]) (by decide)).mono ?_
        rintro e w4 ⟨rfl, hb4, hf4⟩
        rw [splice_pre _ _ 116 114 12 (by simp [putL_len]) (by rw [putL_len]), show [] ++ putL 6 life ++ putL 6 seq ++ putL 2 (j : Int) = recPre life seq rec j from rfl] at hb4
        have hF4 : Fr No wr w4 := hF3.trans hf4 (fun b hb e => by omega)
        clear hb3 hF3 hf4
        have hc14 := (hb4.cell 14).trans (Array.getElem?_eq_getElem (by rw [List.size_toArray, U8_length, List.length_append, hpre, List.length_replicate]; decide))
        have hz14 := hb4.frozen 14
        have hb5 := hb4.put 14 (.int .u8 1)
        have hset := set_pre (recPre life seq rec j) 1 113 14 hpre
        rw [show ((1 : UInt8).toNat : Int) = 1 from rfl] at hset
        rw [hset] at hb5
        clear hset
        generalize (U8 (recPre life seq rec j ++ List.replicate 114 0)).toArray[14]'_ = old at hc14
        go_upto_region 12 with fail
        have hF5 : Fr No wr (w4.setCell ⟨gs, 14, none⟩ (.int .u8 1)) := hF4.trans ((Fr.refl (fun b => b = gs) w4).set (p := ⟨gs, 14, none⟩) (.inr rfl) _) (fun b hb e => by omega)
        clear hc14 hz14 hb4 hF4
        generalize w4.setCell ⟨gs, 14, none⟩ (.int .u8 1) = w5 at *
        have hp15 : (recPre life seq rec j ++ [1]).length = 15 := by rw [List.length_append, hpre]; rfl
        have hc15 := (hb5.cell 15).trans (Array.getElem?_eq_getElem (by rw [List.size_toArray, U8_length, List.length_append, hp15, List.length_replicate]; decide))
        have hz15 := hb5.frozen 15
        have hb6 := hb5.put 15 (.int .u8 (m : Int))
        have hset := set_pre (recPre life seq rec j ++ [1]) (UInt8.ofNat m) 112 15 hp15
        rw [show ((UInt8.ofNat m).toNat : Int) = (m : Int) by rw [UInt8.toNat_ofNat']; omega] at hset
        rw [hset] at hb6
        clear hset
        generalize (U8 (recPre life seq rec j ++ [1] ++ List.replicate 113 0)).toArray[15]'_ = old at hc15
        have hmod : (m : Int) % 256 = (m : Int) := by omega
        go_upto_region 13 with fail
        try rw [hmod]
        have hF6 : Fr No wr (w5.setCell ⟨gs, 15, none⟩ (.int .u8 (m : Int))) := hF5.trans ((Fr.refl (fun b => b = gs) w5).set (p := ⟨gs, 15, none⟩) (.inr rfl) _) (fun b hb e => by omega)
        clear hc15 hz15 hb5 hF5 hmod
        generalize w5.setCell ⟨gs, 15, none⟩ (.int .u8 (m : Int)) = w6 at *
        have hp16 : (recPre life seq rec j ++ [1] ++ [UInt8.ofNat m]).length = 16 := by rw [List.length_append, hp15]; rfl
        have hpt6 := hpt.fr0 hF6
        go_wp2_with fail
        (refine T_begin (fun b => b = gs) [0, 1, 2, 3, 4] [4] (by kernel_rfl) (by kernel_rfl) ?_; simp only [pickOps, List.filterMap_cons, List.filterMap_nil, List.getElem?_cons_zero, List.getElem?_cons_succ, Act.put])
        repeat (first | (refine T_skip (by rfl) (by rfl) (fun _ _ _ h => h) ?_; try simp only [Act.put, List.setIfInBounds_toArray, List.set_cons_zero, List.set_cons_succ]) | (refine T_pass (by rfl) (by rfl) ?_; try simp only [Act.put, List.setIfInBounds_toArray, List.set_cons_zero, List.set_cons_succ]) | (refine T_load (by assumption) (by rfl) (by rfl) (fun _ _ _ _ h => h) rfl rfl (by assumption) (by first | exact (fun hn => hn) | assumption) ?_; try simp only [Act.put, List.setIfInBounds_toArray, List.set_cons_zero, List.set_cons_succ]) | (refine T_nil (by rfl) (by rfl) (fun _ _ _ _ h => h) rfl rfl ?_; try simp only [Act.put, List.setIfInBounds_toArray, List.set_cons_zero, List.set_cons_succ]) | (refine T_quietN (by rfl) (by rfl) (by rfl) (by rfl) (fun _ _ _ _ h => h) (fun K hK => ?_); go_big_quiet_op; refine hK _ ?_; clear hK K) | (refine T_two (by rfl) (by rfl) (by rfl) (by rfl) (fun _ _ _ _ h => h) (fun K hK => ?_); go_big_quiet_op; refine ⟨_, fun _ _ => rfl, ?_⟩; refine hK _ ?_; clear hK K; try simp only [Act.put, List.setIfInBounds_toArray, List.set_cons_zero, List.set_cons_succ]) | fail)
        refine T_call (by rfl) (by rfl) (fun K hK => ?_)
        refine wp_copyA so_u8 rfl hb6.drew hpt6.drew (U8_one _) rfl rfl (by rw [List.size_toArray, U8_length, List.length_append, hp16, List.length_replicate]; omega) ?_
        intro w7 hb7 hg7 hz7
        rw [show min m 112 * 1 = m by omega, List.take_of_length_le (by rw [U8_length, ← HM.out]; exact Nat.le_refl _), splice_pre _ _ 112 (112 - m) 16 hp16 (by rw [← HM.out]; omega), ← HS.out] at hb7
        (refine hK.out _ _ ((Fr.refl _ _).grown hg7 (fun q hq => by injection hq with hq; exact .inr hq.symm)) ?_; clear hK K; try simp only [Act.put, List.setIfInBounds_toArray, List.set_cons_zero, List.set_cons_succ])
        repeat (first | (refine T_skip (by rfl) (by rfl) (fun _ _ _ h => h) ?_; try simp only [Act.put, List.setIfInBounds_toArray, List.set_cons_zero, List.set_cons_succ]) | (refine T_pass (by rfl) (by rfl) ?_; try simp only [Act.put, List.setIfInBounds_toArray, List.set_cons_zero, List.set_cons_succ]) | (refine T_load (by assumption) (by rfl) (by rfl) (fun _ _ _ _ h => h) rfl rfl (by assumption) (by first | exact (fun hn => hn) | assumption) ?_; try simp only [Act.put, List.setIfInBounds_toArray, List.set_cons_zero, List.set_cons_succ]) | (refine T_nil (by rfl) (by rfl) (fun _ _ _ _ h => h) rfl rfl ?_; try simp only [Act.put, List.setIfInBounds_toArray, List.set_cons_zero, List.set_cons_succ]) | (refine T_quietN (by rfl) (by rfl) (by rfl) (by rfl) (fun _ _ _ _ h => h) (fun K hK => ?_); go_big_quiet_op; refine hK _ ?_; clear hK K) | (refine T_two (by rfl) (by rfl) (by rfl) (by rfl) (fun _ _ _ _ h => h) (fun K hK => ?_); go_big_quiet_op; refine ⟨_, fun _ _ => rfl, ?_⟩; refine hK _ ?_; clear hK K; try simp only [Act.put, List.setIfInBounds_toArray, List.set_cons_zero, List.set_cons_succ]) | fail)
        refine T_done ?_
        have hF7 : Fr No wr w7 := (hF6.drew).grown hg7 (fun q hq => by injection hq with hq; exact .inl (by omega))
        have hI7 := isbuf_fr0 hI hF7
        have hlen := recSec_len life seq rec j
        clear hb6 hF6 hg7
        go_wp2_with fail
        refine (bufwrite_any _ _ _ (U8 (recSec life seq rec j)) ⟨gs, 0, none⟩ 128 128 _ hI7 (hf.tr hF7).size (U8_one _) (by rw [U8_length]; exact hlen) (by show gs ≠ w.heap.size; omega) (fun i v hv => hb7.all i v (by simpa using hv)) (U8_one _) (by rw [U8_length, HUL.out]; omega)).mono ?_
        rintro e w8 ⟨rfl, hI8, hbel⟩
        have hf8 : Fr No w w8 := fr_below (hf.tr hF7) hbel (hf.tr hF7).size
        rw [← U8_append, ← HUS.out] at hI8
        have hrd8 : ∀ A xs, Rd wr (fun b => b < w.heap.size) 1 A (nj - m) xs → Rd w8 (fun b => b < w.heap.size) 1 A (nj - m) xs := fun A xs h => (h.fr0 hF7).keep (fun p hp u hu => by
          have hb := hbel.block p.block hp
          exact (World.cell?_of_block hb).trans hu)
        have HR8 := Lib.hid hrd8
        clear hI7 hbel hb7 hrd8 hF7
        by_cases hcb : cj = m
        · subst hcb
          have hc := HCUT.out
          rw [if_pos rfl] at hc
          have hx := HR8.out _ _ hc
          have hz : nj - cj = 0 := by omega
          rw [hz] at hx
          have HC := Lib.hid hx
          have HREM0 := HREM.out
          rw [hz] at HREM0
          have HRE := Lib.hid HREM0
          clear hc hx HREM0 hz
          go_wp2
          go_roundw
          case rel => exact ⟨j + 1, _, _, _, by have := HJL.out; omega, by go_num, rfl, HRE, by omega, by omega, by omega, HC.out, hI8, hf8⟩
          case measure => simp; omega
        · have hc := HCUT.out
          rw [if_neg hcb] at hc
          have HC := Lib.hid (HR8.out _ _ hc)
          clear hc
          go_wp2
          go_roundw
          case rel => exact ⟨j + 1, _, _, _, by have := HJL.out; omega, by go_num, rfl, HREM, by omega, by omega, by omega, HC.out, hI8, hf8⟩
          case measure => simp; omega
      · have hmn : m ≠ nj := by omega
        have HS : Hid (recSec life seq rec j = recPre life seq rec j ++ [0] ++ [UInt8.ofNat m] ++ recPart rec j ++ List.replicate (112 - m) 0) := Lib.hid (by unfold recSec; rw [if_neg (by omega), ← hm])
        have emn : ((m : Int) == (nj : Int)) = false := by rw [beq_eq_false_iff_ne]; omega
        clear hmn hla hn0 hmm hm hpl hjl
        go_upto_region 7 with (first
          | (refine wpList_allocA zero_secZ rfl rfl ?_)
          | (refine wpList_min (nj : Int) 112 (m : Int) HMI.out rfl rfl rfl rfl ?_)
          | fail)
        have hb1 := Blk.new wr tSec (U8 zsec).toArray
        have hF1 : Fr No wr (wr.alloc (.cells (U8 zsec).toArray tSec)) := (Fr.refl No wr).alloc _
        obtain ⟨gs, hgs⟩ : ∃ gs, gs = wr.heap.size := ⟨_, rfl⟩
        have hge : wr.heap.size ≤ gs := by omega
        have hgw : w.heap.size < gs := by have := hI.lt; omega
        try simp only [Act.put, List.setIfInBounds_toArray, List.set_cons_zero, List.set_cons_succ]
        rw [← hgs] at hb1 ⊢
        clear hgs
        generalize wr.alloc (.cells (U8 zsec).toArray tSec) = w1 at *
        go_wp2_with fail
        refine (put_calls _ gs 0 6 128 tSec _ life hb1 (by rw [List.size_toArray, U8_length, zsec_len]; decide) (by decide)).mono ?_
        rintro e w2 ⟨rfl, hb2, hf2⟩
        have e0 : (U8 zsec).toArray = (U8 ([] ++ List.replicate 128 0)).toArray := rfl
        rw [e0, splice_pre [] _ 128 122 0 rfl (by rw [putL_len])] at hb2
        have hF2 : Fr No wr w2 := hF1.trans hf2 (fun b hb e => by omega)
        clear hb1 hF1 hf2 e0
        go_wp2_with fail
        refine (put_calls _ gs 6 6 122 tSec _ seq hb2 (by rw [List.size_toArray, U8_length]; simp [putL_len]) (by decide)).mono ?_
        rintro e w3 ⟨rfl, hb3, hf3⟩
        rw [splice_pre _ _ 122 116 6 (by simp [putL_len]) (by rw [putL_len])] at hb3
        have hF3 : Fr No wr w3 := hF2.trans hf3 (fun b hb e => by omega)
        clear hb2 hF2 hf3
        go_wp2_with fail
        refine (put_calls _ gs 12 2 116 tSec _ (j : Int) hb3 (by rw [List.size_toArray, U8_length]; simp [putL_len]) (by decide)).mono ?_
        rintro e w4 ⟨rfl, hb4, hf4⟩
        rw [splice_pre _ _ 116 114 12 (by simp [putL_len]) (by rw [putL_len]), show [] ++ putL 6 life ++ putL 6 seq ++ putL 2 (j : Int) = recPre life seq rec j from rfl] at hb4
        have hF4 : Fr No wr w4 := hF3.trans hf4 (fun b hb e => by omega)
        clear hb3 hF3 hf4
        go_upto_region 12 with fail
        have hb5 : Blk w4 gs tSec (U8 (recPre life seq rec j ++ [0] ++ List.replicate 113 0)).toArray := by
          have e : recPre life seq rec j ++ List.replicate 114 0 = recPre life seq rec j ++ [0] ++ List.replicate 113 0 := by rw [List.replicate_succ]; simp
          rw [← e]; exact hb4
        have hF5 := hF4
        clear hb4 hF4
        generalize w4 = w5 at *
        have hp15 : (recPre life seq rec j ++ [0]).length = 15 := by rw [List.length_append, hpre]; rfl
        have hc15 := (hb5.cell 15).trans (Array.getElem?_eq_getElem (by rw [List.size_toArray, U8_length, List.length_append, hp15, List.length_replicate]; decide))
        have hz15 := hb5.frozen 15
        have hb6 := hb5.put 15 (.int .u8 (m : Int))
        have hset := set_pre (recPre life seq rec j ++ [0]) (UInt8.ofNat m) 112 15 hp15
        rw [show ((UInt8.ofNat m).toNat : Int) = (m : Int) by rw [UInt8.toNat_ofNat']; omega] at hset
        rw [hset] at hb6
        clear hset
        generalize (U8 (recPre life seq rec j ++ [0] ++ List.replicate 113 0)).toArray[15]'_ = old at hc15
        have hmod : (m : Int) % 256 = (m : Int) := by omega
        go_upto_region 13 with fail
        try rw [hmod]
        have hF6 : Fr No wr (w5.setCell ⟨gs, 15, none⟩ (.int .u8 (m : Int))) := hF5.trans ((Fr.refl (fun b => b = gs) w5).set (p := ⟨gs, 15, none⟩) (.inr rfl) _) (fun b hb e => by omega)
        clear hc15 hz15 hb5 hF5 hmod
        generalize w5.setCell ⟨gs, 15, none⟩ (.int .u8 (m : Int)) = w6 at *
        have hp16 : (recPre life seq rec j ++ [0] ++ [UInt8.ofNat m]).length = 16 := by rw [List.length_append, hp15]; rfl
        have hpt6 := hpt.fr0 hF6
        go_wp2_with fail
        (refine T_begin (fun b => b = gs) [0, 1, 2, 3, 4] [4] (by kernel_rfl) (by kernel_rfl) ?_; simp only [pickOps, List.filterMap_cons, List.filterMap_nil, List.getElem?_cons_zero, List.getElem?_cons_succ, Act.put])
        repeat (first | (refine T_skip (by rfl) (by rfl) (fun _ _ _ h => h) ?_; try simp only [Act.put, List.setIfInBounds_toArray, List.set_cons_zero, List.set_cons_succ]) | (refine T_pass (by rfl) (by rfl) ?_; try simp only [Act.put, List.setIfInBounds_toArray, List.set_cons_zero, List.set_cons_succ]) | (refine T_load (by assumption) (by rfl) (by rfl) (fun _ _ _ _ h => h) rfl rfl (by assumption) (by first | exact (fun hn => hn) | assumption) ?_; try simp only [Act.put, List.setIfInBounds_toArray, List.set_cons_zero, List.set_cons_succ]) | (refine T_nil (by rfl) (by rfl) (fun _ _ _ _ h => h) rfl rfl ?_; try simp only [Act.put, List.setIfInBounds_toArray, List.set_cons_zero, List.set_cons_succ]) | (refine T_quietN (by rfl) (by rfl) (by rfl) (by rfl) (fun _ _ _ _ h => h) (fun K hK => ?_); go_big_quiet_op; refine hK _ ?_; clear hK K) | (refine T_two (by rfl) (by rfl) (by rfl) (by rfl) (fun _ _ _ _ h => h) (fun K hK => ?_); go_big_quiet_op; refine ⟨_, fun _ _ => rfl, ?_⟩; refine hK _ ?_; clear hK K; try simp only [Act.put, List.setIfInBounds_toArray, List.set_cons_zero, List.set_cons_succ]) | fail)
        refine T_call (by rfl) (by rfl) (fun K hK => ?_)
        refine wp_copyA so_u8 rfl hb6.drew hpt6.drew (U8_one _) rfl rfl (by rw [List.size_toArray, U8_length, List.length_append, hp16, List.length_replicate]; omega) ?_
        intro w7 hb7 hg7 hz7
        rw [show min m 112 * 1 = m by omega, List.take_of_length_le (by rw [U8_length, ← HM.out]; exact Nat.le_refl _), splice_pre _ _ 112 (112 - m) 16 hp16 (by rw [← HM.out]; omega), ← HS.out] at hb7
        (refine hK.out _ _ ((Fr.refl _ _).grown hg7 (fun q hq => by injection hq with hq; exact .inr hq.symm)) ?_; clear hK K; try simp only [Act.put, List.setIfInBounds_toArray, List.set_cons_zero, List.set_cons_succ])
        repeat (first | (refine T_skip (by rfl) (by rfl) (fun _ _ _ h => h) ?_; try simp only [Act.put, List.setIfInBounds_toArray, List.set_cons_zero, List.set_cons_succ]) | (refine T_pass (by rfl) (by rfl) ?_; try simp only [Act.put, List.setIfInBounds_toArray, List.set_cons_zero, List.set_cons_succ]) | (refine T_load (by assumption) (by rfl) (by rfl) (fun _ _ _ _ h => h) rfl rfl (by assumption) (by first | exact (fun hn => hn) | assumption) ?_; try simp only [Act.put, List.setIfInBounds_toArray, List.set_cons_zero, List.set_cons_succ]) | (refine T_nil (by rfl) (by rfl) (fun _ _ _ _ h => h) rfl rfl ?_; try simp only [Act.put, List.setIfInBounds_toArray, List.set_cons_zero, List.set_cons_succ]) | (refine T_quietN (by rfl) (by rfl) (by rfl) (by rfl) (fun _ _ _ _ h => h) (fun K hK => ?_); go_big_quiet_op; refine hK _ ?_; clear hK K) | (refine T_two (by rfl) (by rfl) (by rfl) (by rfl) (fun _ _ _ _ h => h) (fun K hK => ?_); go_big_quiet_op; refine ⟨_, fun _ _ => rfl, ?_⟩; refine hK _ ?_; clear hK K; try simp only [Act.put, List.setIfInBounds_toArray, List.set_cons_zero, List.set_cons_succ]) | fail)
        refine T_done ?_
        have hF7 : Fr No wr w7 := (hF6.drew).grown hg7 (fun q hq => by injection hq with hq; exact .inl (by omega))
        have hI7 := isbuf_fr0 hI hF7
        have hlen := recSec_len life seq rec j
        clear hb6 hF6 hg7
        go_wp2_with fail
        refine (bufwrite_any _ _ _ (U8 (recSec life seq rec j)) ⟨gs, 0, none⟩ 128 128 _ hI7 (hf.tr hF7).size (U8_one _) (by rw [U8_length]; exact hlen) (by show gs ≠ w.heap.size; omega) (fun i v hv => hb7.all i v (by simpa using hv)) (U8_one _) (by rw [U8_length, HUL.out]; omega)).mono ?_
        rintro e w8 ⟨rfl, hI8, hbel⟩
        have hf8 : Fr No w w8 := fr_below (hf.tr hF7) hbel (hf.tr hF7).size
        rw [← U8_append, ← HUS.out] at hI8
        have hrd8 : ∀ A xs, Rd wr (fun b => b < w.heap.size) 1 A (nj - m) xs → Rd w8 (fun b => b < w.heap.size) 1 A (nj - m) xs := fun A xs h => (h.fr0 hF7).keep (fun p hp u hu => by
          have hb := hbel.block p.block hp
          exact (World.cell?_of_block hb).trans hu)
        have HR8 := Lib.hid hrd8
        clear hI7 hbel hb7 hrd8 hF7
        by_cases hcb : cj = m
        · subst hcb
          have hc := HCUT.out
          rw [if_pos rfl] at hc
          have hx := HR8.out _ _ hc
          have hz : nj - cj = 0 := by omega
          rw [hz] at hx
          have HC := Lib.hid hx
          have HREM0 := HREM.out
          rw [hz] at HREM0
          have HRE := Lib.hid HREM0
          clear hc hx HREM0 hz
          go_wp2
          go_roundw
          case rel => exact ⟨j + 1, _, _, _, by have := HJL.out; omega, by go_num, rfl, HRE, by omega, by omega, by omega, HC.out, hI8, hf8⟩
          case measure => simp; omega
        · have hc := HCUT.out
          rw [if_neg hcb] at hc
          have HC := Lib.hid (HR8.out _ _ hc)
          clear hc
          go_wp2
          go_roundw
          case rel => exact ⟨j + 1, _, _, _, by have := HJL.out; omega, by go_num, rfl, HREM, by omega, by omega, by omega, HC.out, hI8, hf8⟩
          case measure => simp; omega
    · obtain rfl : nj = 0 := by omega
      have hje : j = recN rec.length := by unfold recN at *; omega
      have en : decide ((0 : Int) < ((0 : Nat) : Int)) = false := by simp
      have hIe := hI
      rw [hje] at hIe
      clear hje hn0 hj6
      go_wp2_with fail
      refine (bufbytes_calls _ _ _ _ hIe).mono ?_
      rintro e w9 ⟨v, rfl, hown, n9, rfl⟩
      rw [U8_length, recUp_len] at hown
      go_wp2
      go_ret
      exact ⟨_, rfl, hown, hf.drewN n9⟩
end Go.Proofs.YtannkgglgmbkdaaDoor
