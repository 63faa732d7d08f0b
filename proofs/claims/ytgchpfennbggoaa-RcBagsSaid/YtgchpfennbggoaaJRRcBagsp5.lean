/- RcBags: the walk. No condition. -/
import Derived.Test.YtgchpfennbggoaaJRRcBagsp4
import Derived.Deep.CutBlock
import Derived.Deep.DeepCutAuto
namespace Go.Proofs.Ytgchpfennbggoaa
set_option linter.unusedVariables false
set_option linter.unusedSimpArgs false
open Go.RowKit

theorem op_one {a b c d : Value} (h1 : a.oneCell' = true) (h2 : b.oneCell' = true) (h3 : c.oneCell' = true) (h4 : d.oneCell' = true) : ∀ u ∈ [a, b, c, d], u.oneCell' = true := by
  intro u hu
  simp only [List.mem_cons, List.not_mem_nil, or_false] at hu
  rcases hu with rfl | rfl | rfl | rfl <;> assumption
theorem opsC_snoc (l : List OpM) (p : OpM) : opsC (l ++ [p]) = opsC l ++ opcells p := by rw [opsC_append]; simp [opsC]
theorem grown_cell {w w' : World} {b : Option Nat} (hg : w.grownBy w' b) {p : Addr} {v : Value} (hc : w.cell? p = some v) (hne : ¬ b = some p.block) : w'.cell? p = some v :=
  ((Fr.refl (fun q => b = some q) w).grown hg (fun q hq => .inr hq)).cell_some hc hne
set_option maxHeartbeats 8000000 in
set_option maxRecDepth 100000 in
theorem law_RcBags (W : World) (a0 : Option Addr) (cap0 : Nat) (l : List Int) (h : Rd W (fun b => b < W.heap.size) 1 a0 l.length (l.map (Value.int .i64))) (a1 : Option Addr) (cap1 : Nat) (ops : List OpM) (hops : RdO W (fun b => b < W.heap.size) a1 ops) (n0 : Int) (wn : (Lit.int .i64 n0).wf = true) :
    Calls Try.prog 5 #[.slice a0 l.length cap0, .slice a1 ops.length cap1, .int .i64 n0] W fun e w' => e = .returned (.bool true) ∧ Fr No W w' := by
  have hle := h.2.1
  have hle1 := hops.2.1
  have g4 := plain_i64
  have g5 := plain_bool
  have g6 := plain_int
  by_cases hl40 : 40 < l.length
  · have e40 : decide (40 < (l.length : Int)) = true := by simp; omega
    clear hl40
    go_enter Try.func5, Try.ntmps5
    go_wp2_with fail
    refine (known_calls _).mono ?_
    rintro e wz ⟨rfl, hfz⟩
    go_wp2
    go_ret
    exact ⟨rfl, hfz⟩
  have e40 : decide (40 < (l.length : Int)) = false := by simp; omega
  by_cases ho60 : 60 < ops.length
  · have e60 : decide (60 < (ops.length : Int)) = true := by simp; omega
    clear ho60 hl40
    go_enter Try.func5, Try.ntmps5
    go_wp2_with fail
    refine (known_calls _).mono ?_
    rintro e wz ⟨rfl, hfz⟩
    go_wp2
    go_ret
    exact ⟨rfl, hfz⟩
  have e60 : decide (60 < (ops.length : Int)) = false := by simp; omega
  obtain ⟨n, hn⟩ : ∃ n, Hid (n = n0.tmod 5) := ⟨_, Lib.hid rfl⟩
  go_enter Try.func5, Try.ntmps5
  go_upto_block 0 with fail
  rw [← hn.out]
  have hf1 : Fr No W (W.alloc (.cells #[.int .i64 14, .slice none 0 0, .slice none 0 0] 25)) := (Fr.refl No W).alloc _
  have hbo1 := Blk.new W 25 #[.int .i64 14, .slice none 0 0, .slice none 0 0]
  have hz1 := hbo1.lt
  obtain ⟨go, hgo⟩ : ∃ go, go = W.heap.size := ⟨_, rfl⟩
  rw [← hgo] at hbo1 hz1 ⊢
  generalize hw1 : W.alloc (.cells #[.int .i64 14, .slice none 0 0, .slice none 0 0] 25) = w1 at *
  clear hw1 hgo
  have hz0 := hf1.size
  go_cut [8, 9] (fun s8 s9 wx => ∃ (A : Option Addr) (c : Nat) (all : List OpM) (s : List VL), s8 = .int .i64 (cntM n s : Nat) ∧ s9 = .slice A all.length c ∧ wx.ownsRow w1.heap.size 41 4 (.slice A all.length c) all.length (opsC all) ∧ all.length ≤ 40 ∧ BagR all s ∧ Fr No w1 wx)
  case first =>
    go_wp2_with fail
    go_loopw [8, 9, 10] (fun s8 s9 s10 wr => ∃ (A : Option Addr) (c : Nat) (all : List OpM) (s : List VL), s8 = .int .i64 (cntM n s : Nat) ∧ s9 = .slice A all.length c ∧ s10 = .int .i64 (all.length : Int) ∧ wr.ownsRow w1.heap.size 41 4 (.slice A all.length c) all.length (opsC all) ∧ all.length ≤ l.length ∧ BagR all s ∧ Fr No w1 wr) (fun _ _ s10 _ => l.length - (intOf s10).toNat)
    case atStart => exact ⟨none, 0, [], [], rfl, rfl, rfl, World.ownsRow_nil _ _ _ _, Nat.zero_le _, ⟨rfl, Nat.le_refl _⟩, Fr.refl _ _⟩
    case round =>
      obtain ⟨A, c, all, s, rfl, rfl, rfl, hown, hk, hB, hf⟩ := hrel
      have hsr := hf.size
      have hcs : cntM n s ≤ 40 := by
        have h1 : cntM n s ≤ s.length := List.countP_le_length
        have := hB.len
        omega
      by_cases hlt : all.length < l.length
      · have ek : decide ((all.length : Int) < l.length) = true := by simp; omega
        obtain ⟨g, of, rfl, _, hc⟩ := Rd.plain h (by omega) (by decide)
        have hc0 := hc all.length (.int .i64 l[all.length]) (by simp [hlt])
        have hcx := (hf1.tr hf).cell_some hc0 (fun hn => hn)
        have hgW : g < W.heap.size := World.block_lt_of_cell? W _ hc0
        generalize hx : l[all.length] = x at *
        clear hx hc hc0
        have hB2 := hB.add (by have := hB.len; omega) (x.tmod 5)
        have HC := Lib.hid (cntM_add n s ⟨3, x.tmod 5⟩)
        have HO := Lib.hid (opsC_snoc all (bagOp true (x.tmod 5)))
        have hal : (all ++ [bagOp true (x.tmod 5)]).length = all.length + 1 := by simp
        have HAL := Lib.hid hal
        clear hal
        generalize hk' : all.length = k at *
        unfold hitV at HC
        simp only at HC
        have hcx2 := ((Fr.refl No wr).alloc (.cells #[.int .i64 0, .bool true, .int .i64 3, .int .i64 (x.tmod 5)] 41)).cell_some hcx (fun hn => hn)
        have hgne : ¬ ((Value.slice A k c).ownBlock = some g) := fun e => by have := (hown.lt g e).1; omega
        by_cases hxn : x.tmod 5 = n
        · have ex : (x.tmod 5 == n) = true := by simpa using hxn
          have HC := Lib.hid (HC.out.trans (show cntM n s + _ = cntM n s + 1 by rw [if_pos (by simpa using hxn)]))
          clear hxn
          generalize cntM n s = cn at *
          go_wp2_with (first
            | (at_builtin; refine wpList_app_at so_op (own_fr0 hown ((Fr.refl No wr).alloc (.cells #[.int .i64 0, .bool true, .int .i64 3, .int .i64 (x.tmod 5)] 41))) ((Blk.new wr _ _).rd (size := 4) (n := 1) (by rfl) (by decide)) (op_one rfl rfl rfl rfl) (by omega) (by simp; omega) rfl rfl rfl rfl ?_; intro v5 w5 hown5 hg5 hat5; have hcx5 := grown_cell hg5 hcx2 hgne)
            | fail)
          obtain ⟨A3, c3, rfl, _, _, _⟩ := own_form hown5
          go_roundw
          case rel => exact ⟨A3, c3, all ++ [bagOp true (x.tmod 5)], addM s ⟨3, x.tmod 5⟩, by rw [HC.out]; go_num, by rw [HAL.out], by rw [HAL.out]; go_num, by rw [HAL.out, HO.out]; exact hown5, by rw [HAL.out]; omega, hB2, (hf.alloc _).grown hg5 (fun q hq => .inl (hown.lt q hq).1)⟩
          case measure => simp [intOf]; omega
        · have ex : (x.tmod 5 == n) = false := by simpa using hxn
          have HC := Lib.hid (HC.out.trans (show cntM n s + _ = cntM n s by rw [if_neg (by simpa using hxn)]; rfl))
          clear hxn
          generalize cntM n s = cn at *
          go_wp2_with (first
            | (at_builtin; refine wpList_app_at so_op (own_fr0 hown ((Fr.refl No wr).alloc (.cells #[.int .i64 0, .bool true, .int .i64 3, .int .i64 (x.tmod 5)] 41))) ((Blk.new wr _ _).rd (size := 4) (n := 1) (by rfl) (by decide)) (op_one rfl rfl rfl rfl) (by omega) (by simp; omega) rfl rfl rfl rfl ?_; intro v5 w5 hown5 hg5 hat5; have hcx5 := grown_cell hg5 hcx2 hgne)
            | fail)
          obtain ⟨A3, c3, rfl, _, _, _⟩ := own_form hown5
          go_roundw
          case rel => exact ⟨A3, c3, all ++ [bagOp true (x.tmod 5)], addM s ⟨3, x.tmod 5⟩, by rw [HC.out], by rw [HAL.out], by rw [HAL.out]; go_num, by rw [HAL.out, HO.out]; exact hown5, by rw [HAL.out]; omega, hB2, (hf.alloc _).grown hg5 (fun q hq => .inl (hown.lt q hq).1)⟩
          case measure => simp [intOf]; omega
      · have ek : decide ((all.length : Int) < l.length) = false := by simp; omega
        go_wp2_with fail
        go_meet
        case rel => exact ⟨A, c, all, s, rfl, rfl, hown, by omega, hB, hf⟩
  case rest =>
    obtain ⟨A, c, all, s, rfl, rfl, hown, hk, hB, hf⟩ := hcut
    obtain ⟨wa, hwa⟩ : ∃ wa, wa = wc := ⟨_, rfl⟩
    subst hwa
    go_wp2_with fail
    go_loopw [8, 9, 11] (fun s8 s9 s11 wr => ∃ (j : Nat) (A : Option Addr) (c : Nat) (all : List OpM) (s : List VL), j ≤ ops.length ∧ s8 = .int .i64 (cntM n s : Nat) ∧ s9 = .slice A all.length c ∧ s11 = .int .i64 (j : Int) ∧ wr.ownsRow w1.heap.size 41 4 (.slice A all.length c) all.length (opsC all) ∧ all.length ≤ 40 + j ∧ BagR all s ∧ Fr No w1 wr) (fun _ _ s11 _ => ops.length - (intOf s11).toNat)
    case atStart => exact ⟨0, A, c, all, s, Nat.zero_le _, rfl, rfl, rfl, hown, by omega, hB, hf⟩
    case round =>
      clear hown hB hf hk
      obtain ⟨j, A, c, all, s, hj, rfl, rfl, rfl, hown, hk, hB, hf⟩ := hrel
      have hsr := hf.size
      have hcs : cntM n s ≤ 100 := by
        have h1 : cntM n s ≤ s.length := List.countP_le_length
        have := hB.len
        omega
      have hbor := hbo1.fr0 hf
      by_cases hlt : j < ops.length
      · have ek : decide ((j : Int) < ops.length) = true := by simp; omega
        obtain ⟨g, of, rfl, _, hco⟩ := RdO.at_ (w := wr) (S := fun b => b < W.heap.size) (A := a1) (l := ops) (Rd.fr hops (hf1.tr hf) (fun _ _ hn => hn)) hlt
        have HXX := Lib.hid (show True from trivial)
        generalize hpp : ops[j] = pp at *
        clear hpp
        obtain ⟨oop, add, ⟨kk, y⟩⟩ := pp
        unfold opcells at hco
        simp only at hco
        have k1 := hco 1 _ rfl
        have k3 := hco 3 _ rfl
        have ea : ∀ i, (⟨g, of + j * 4, none⟩ : Addr).add i = ⟨g, of + j * 4 + i, none⟩ := by intro i; unfold Addr.add; split <;> simp_all
        rw [ea] at k1 k3
        clear hco ea
        obtain ⟨x, hx⟩ : ∃ x, Hid (x = y.tmod 5) := ⟨_, Lib.hid rfl⟩
        have hfv : Fr No wr (wr.alloc (.cells #[.int .i64 3, .int .i64 x] 30)) := (Fr.refl No wr).alloc _
        have hbv := Blk.new wr 30 #[.int .i64 3, .int .i64 x]
        go_upto_region 17 with fail
        rw [← hx.out]
        generalize hwv : wr.alloc (.cells #[.int .i64 3, .int .i64 x] 30) = wv at *
        clear hwv
        have k1v := hfv.cell_some k1 (fun hn => hn)
        have hv := hbv.all
        refine T_begin2 No [8] [0, 1, 2, 3, 4, 5, 6, 7, 8] [7, 8] (by kernel_rfl) (by kernel_rfl) ?_
        simp only [pickOps, List.filterMap_cons, List.filterMap_nil, List.getElem?_cons_zero, List.getElem?_cons_succ, Act.put]
        repeat (first | (refine T_skip (by rfl) (by rfl) (fun _ _ _ h => h) ?_; try simp only [Act.put, List.setIfInBounds_toArray, List.set_cons_zero, List.set_cons_succ]) | (refine T_pass (by rfl) (by rfl) ?_; try simp only [Act.put, List.setIfInBounds_toArray, List.set_cons_zero, List.set_cons_succ]) | (refine T_load (by assumption) (by rfl) (by rfl) (fun _ _ _ _ h => h) rfl rfl (by assumption) (by first | exact (fun hn => hn) | assumption) ?_; try simp only [Act.put, List.setIfInBounds_toArray, List.set_cons_zero, List.set_cons_succ]) | (refine T_nil (by rfl) (by rfl) (fun _ _ _ _ h => h) rfl rfl ?_; try simp only [Act.put, List.setIfInBounds_toArray, List.set_cons_zero, List.set_cons_succ]) | (refine T_quietN (by rfl) (by rfl) (by rfl) (by rfl) (fun _ _ _ _ h => h) (fun K hK => ?_); go_big_quiet_op; refine hK _ ?_; clear hK K) | (refine T_two (by rfl) (by rfl) (by rfl) (by rfl) (fun _ _ _ _ h => h) (fun K hK => ?_); go_big_quiet_op; refine ⟨_, fun _ _ => rfl, ?_⟩; refine hK _ ?_; clear hK K; try simp only [Act.put, List.setIfInBounds_toArray, List.set_cons_zero, List.set_cons_succ]) | fail)
        refine T_loadA (cs := [.int .i64 3, .int .i64 x]) ag_val (by rfl) (by rfl) (fun _ _ _ _ h => h) rfl rfl rfl hv (fun hn => hn) ?_
        try simp only [Act.put, List.setIfInBounds_toArray, List.set_cons_zero, List.set_cons_succ]
        repeat (first | (refine T_skip (by rfl) (by rfl) (fun _ _ _ h => h) ?_; try simp only [Act.put, List.setIfInBounds_toArray, List.set_cons_zero, List.set_cons_succ]) | (refine T_pass (by rfl) (by rfl) ?_; try simp only [Act.put, List.setIfInBounds_toArray, List.set_cons_zero, List.set_cons_succ]) | (refine T_load (by assumption) (by rfl) (by rfl) (fun _ _ _ _ h => h) rfl rfl (by assumption) (by first | exact (fun hn => hn) | assumption) ?_; try simp only [Act.put, List.setIfInBounds_toArray, List.set_cons_zero, List.set_cons_succ]) | (refine T_nil (by rfl) (by rfl) (fun _ _ _ _ h => h) rfl rfl ?_; try simp only [Act.put, List.setIfInBounds_toArray, List.set_cons_zero, List.set_cons_succ]) | (refine T_quietN (by rfl) (by rfl) (by rfl) (by rfl) (fun _ _ _ _ h => h) (fun K hK => ?_); go_big_quiet_op; refine hK _ ?_; clear hK K) | (refine T_two (by rfl) (by rfl) (by rfl) (by rfl) (fun _ _ _ _ h => h) (fun K hK => ?_); go_big_quiet_op; refine ⟨_, fun _ _ => rfl, ?_⟩; refine hK _ ?_; clear hK K; try simp only [Act.put, List.setIfInBounds_toArray, List.set_cons_zero, List.set_cons_succ]) | fail)
        (refine T_call (by rfl) (by rfl) (fun K hK => ?_); go_wp2_with fail)
        (refine hK.out _ _ (((Fr.refl _ _).alloc _)) ?_; clear hK K; try simp only [Act.put, List.setIfInBounds_toArray, List.set_cons_zero, List.set_cons_succ])
        refine T_turn No [] (by rfl) (by rfl) (by rfl) (fun K hK => ?_)
        go_wp2_with fail
        refine hK.out _ _ ?_
        clear hK K
        try simp only [Act.put, List.setIfInBounds_toArray, List.set_cons_zero, List.set_cons_succ]
        refine T_done ?_
        have hfp : Fr No wv ((wv.alloc (.cells #[.int .i64 0, .bool add, .int .i64 3, .int .i64 x] 41)).drew) := ((Fr.refl No wv).alloc _).drew
        have hbp : Blk ((wv.alloc (.cells #[.int .i64 0, .bool add, .int .i64 3, .int .i64 x] 41)).drew) wv.heap.size 41 #[.int .i64 0, .bool add, .int .i64 3, .int .i64 x] := (Blk.new wv _ _).drew
        generalize (wv.alloc (.cells #[.int .i64 0, .bool add, .int .i64 3, .int .i64 x] 41)).drew = wp at *
        have hzv := hfv.size
        have hzp := hfp.size
        have hlv := hbv.lt
        have hlp := hbp.lt
        have hFp := hfv.tr hfp
        have hownp := own_fr0 hown hFp
        have hrdp := own_rd hownp (show all.length ≤ 211106232532992 by omega)
        go_upto_region 20 with (first
          | (at_builtin; refine wpList_app_at so_op (show wp.ownsRow wp.heap.size 41 4 (.slice none 0 0) 0 [] from World.ownsRow_nil _ _ _ _) hrdp (opsC_one all) (by omega) (Nat.le_refl _) rfl rfl rfl rfl ?_; intro v6 w6 hown6 hg6 hat6; rw [Nat.zero_add, List.nil_append] at hown6)
          | fail)
        obtain ⟨A6, c6, rfl, hc6, _, _⟩ := own_form hown6
        have hf6 : Fr No wp w6 := (Fr.refl No wp).grown hg6 (fun q hq => by cases hq)
        have hbp6 := hbp.fr0 hf6
        have hz6 := hf6.size
        have hp6 := hbp6.all
        have hf67 : Fr No w6 (w6.alloc (.cells #[.int .i64 0, .bool add, .int .i64 3, .int .i64 x] 41)) := (Fr.refl No w6).alloc _
        have hz67 := hf67.size
        go_upto_region 21 with (first
          | (refine wpList_ldA ag_op rfl _ rfl ⟨wv.heap.size, 0, none⟩ [.int .i64 0, .bool add, .int .i64 3, .int .i64 x] rfl rfl hp6 ?_)
          | (at_builtin; refine wpList_app_at so_op (own_fr0 hown6 hf67) ((Blk.new w6 41 #[.int .i64 0, .bool add, .int .i64 3, .int .i64 x]).rd (size := 4) (n := 1) (by rfl) (by decide)) (op_one rfl rfl rfl rfl) (by omega) (by omega) rfl rfl rfl rfl ?_; intro v7 w7 hown7 hg7 hat7)
          | fail)
        obtain ⟨A7, c7, rfl, _, _, _⟩ := own_form hown7
        have hf7 : Fr No wp w7 := (hf6.tr hf67).trans ((Fr.refl (fun b => wp.heap.size ≤ b) _).grown hg7 (fun q hq => .inr (hown6.lt q hq).1)) (fun b hb hT => by omega)
        have hz7 := hf7.size
        obtain ⟨opsN, hopsN⟩ : ∃ opsN, opsN = all ++ [bagOp add x] := ⟨_, rfl⟩
        have hlN : opsN.length = all.length + 1 := by rw [hopsN]; simp
        have hrN := hB.next (bagOp add x)
        rw [← hopsN] at hrN
        have hRO : RdO w7 (fun b => b < w7.heap.size) A7 opsN := by
          unfold RdO
          rw [hlN, hopsN, opsC_snoc]
          have h1 := own_rd hown7 (by omega)
          exact Rd.mono h1 (fun b hl _ => hl) (by decide)
        have hF7 := hFp.tr hf7
        have hbo7 := hbor.fr0 hF7
        have ho7 := hbo7.all
        have HRN := Lib.hid hrN
        have HON := Lib.hid hopsN
        clear hrN hopsN
        rw [← hlN]
        have HLN := Lib.hid hlN
        clear hlN
        go_wp2_with (first
          | (refine wpList_ldA ag_obj rfl _ rfl ⟨go, 0, none⟩ [.int .i64 14, .slice none 0 0, .slice none 0 0] rfl rfl ho7 ?_)
          | fail)
        refine (replay14_calls No [.int .i64 14, .slice none 0 0, .slice none 0 0] ⟨14, [], []⟩ w7 A7 c7 opsN ⟨none, 0, none, 0, rfl, Rd.nil_, Rd.nil_⟩ rfl (by decide) hRO).mono ?_
        simp only
        rw [HRN.out]
        cases add with
        | true =>
          rw [putM_bagadd (by have := hB.len; omega)]
          rintro e w8 ⟨hf8, (⟨hn', _⟩ | ⟨l4, cs4, hs4, rfl, ho4⟩)⟩
          · cases hn'
          injection hs4 with hs4
          have HS4 := Lib.hid hs4.symm
          clear hs4
          have hB2 := hB.add (by have := hB.len; omega) x
          rw [← HS4.out] at hB2
          have HC := Lib.hid (cntM_add n s ⟨3, x⟩)
          rw [← HS4.out] at HC
          unfold hitV at HC
          simp only at HC
          by_cases hxn : x = n
          · have ex : (x == n) = true := by simpa using hxn
            have HC := Lib.hid (HC.out.trans (show cntM n s + _ = cntM n s + 1 by rw [if_pos (by simpa using hxn)]))
            clear hxn
            generalize cntM n s = cn at *
            have efin : (((cn + 1 : Nat) : Int) != (cn : Int) + 1) = false := by simp
            obtain ⟨A9, c9, D9, d9, rfl, hr9, hq9⟩ := id ho4
            simp only [List.length_nil] at hr9 hq9 ho4 ⊢
            have hf89 : Fr No w8 (w8.alloc (.cells #[.int .i64 14, .slice A9 l4.length c9, .slice D9 0 d9] 25)) := (Fr.refl No w8).alloc _
            have hb15 := Blk.new w8 25 #[.int .i64 14, .slice A9 l4.length c9, .slice D9 0 d9]
            have hbp9 := ((hbp.fr0 hf7).fr0 hf8).fr0 hf89
            have hbv9 := (((hbv.fr0 hfp).fr0 hf7).fr0 hf8).fr0 hf89
            have hF9 := (hF7.tr hf8).tr hf89
            have ho9 := ho4.fr0 hf89
            have hz8 := hf8.size
            (have y0 := hbp9.cell 0; have y1 := hbp9.cell 1; have y2 := hbp9.cell 2; have y3 := hbp9.cell 3; have yf0 := hbp9.frozen 0; have yf1 := hbp9.frozen 1; have yf2 := hbp9.frozen 2; have yf3 := hbp9.frozen 3; simp only [List.getElem?_toArray, List.getElem?_cons_zero, List.getElem?_cons_succ] at y0 y1 y2 y3)
            (have z0 := hbv9.cell 0; have z1 := hbv9.cell 1; have zf0 := hbv9.frozen 0; have zf1 := hbv9.frozen 1; simp only [List.getElem?_toArray, List.getElem?_cons_zero, List.getElem?_cons_succ] at z0 z1)
            go_upto_region 29 with fail
            generalize w8.alloc (.cells #[.int .i64 14, .slice A9 l4.length c9, .slice D9 0 d9] 25) = w9 at *
            have hown9 := own_fr0 hown hF9
            have hz9 := hF9.size
            have hf9a : Fr No w9 (w9.alloc (.cells #[.int .i64 0, .bool true, .int .i64 3, .int .i64 x] 41)) := (Fr.refl No w9).alloc _
            have hz9a := hf9a.size
            have hp9 := hbp9.all
            go_upto_region 30 with (first
              | (refine wpList_ldA ag_op rfl _ rfl ⟨wv.heap.size, 0, none⟩ [.int .i64 0, .bool true, .int .i64 3, .int .i64 x] rfl rfl hp9 ?_)
              | (at_builtin; refine wpList_app_at so_op (own_fr0 hown9 hf9a) ((Blk.new w9 41 #[.int .i64 0, .bool true, .int .i64 3, .int .i64 x]).rd (size := 4) (n := 1) (by rfl) (by decide)) (op_one rfl rfl rfl rfl) (by omega) (by omega) rfl rfl rfl rfl ?_; intro v10 w10 hown10 hg10 hat10)
              | fail)
            obtain ⟨A10, c10, rfl, _, _, _⟩ := own_form hown10
            have hf10 : Fr (fun q => (Value.slice A all.length c).ownBlock = some q) w9 w10 := (hf9a.mono (fun _ _ hn => hn.elim)).trans ((Fr.refl (fun q => (Value.slice A all.length c).ownBlock = some q) _).grown hg10 (fun q hq => .inr hq)) (fun _ _ e => e)
            have hb16 := hb15.fr hf10 (fun e => by have := (hown.lt _ e).2; omega)
            have ho10 := ho9.keep hf10 (fun b hb e => by have := (hown.lt _ e).2; omega)
            have h16 := hb16.all
            go_wp2_with (first
              | (refine wpList_ldA ag_obj rfl _ rfl ⟨w8.heap.size, 0, none⟩ [.int .i64 14, .slice A9 l4.length c9, .slice D9 0 d9] rfl rfl h16 ?_)
              | fail)
            refine (count16_calls _ _ ⟨14, l4, []⟩ n w10 ho10 (by have := hB2.len; simp at this; show l4.length ≤ 1048576; omega)).mono ?_
            simp only
            rw [HC.out]
            rintro e w11 ⟨rfl, hf11⟩
            go_wp2_with fail
            go_roundw
            case rel => exact ⟨j + 1, A10, c10, all ++ [bagOp true x], l4, by omega, by rw [HC.out]; go_num, by rw [List.length_append]; rfl, by go_num, by rw [List.length_append, opsC_snoc]; exact own_fr0 hown10 hf11, by simp; omega, hB2, ((hf.tr hF9).tr hf9a).grown hg10 (fun q hq => .inl (hown.lt q hq).1) |>.tr hf11⟩
            case measure => simp [intOf]; omega
          · have ex : (x == n) = false := by simpa using hxn
            have HC := Lib.hid (HC.out.trans (show cntM n s + _ = cntM n s by rw [if_neg (by simpa using hxn)]; rfl))
            clear hxn
            generalize cntM n s = cn at *
            have efin : ((cn : Int) != (cn : Int)) = false := by simp
            obtain ⟨A9, c9, D9, d9, rfl, hr9, hq9⟩ := id ho4
            simp only [List.length_nil] at hr9 hq9 ho4 ⊢
            have hf89 : Fr No w8 (w8.alloc (.cells #[.int .i64 14, .slice A9 l4.length c9, .slice D9 0 d9] 25)) := (Fr.refl No w8).alloc _
            have hb15 := Blk.new w8 25 #[.int .i64 14, .slice A9 l4.length c9, .slice D9 0 d9]
            have hbp9 := ((hbp.fr0 hf7).fr0 hf8).fr0 hf89
            have hbv9 := (((hbv.fr0 hfp).fr0 hf7).fr0 hf8).fr0 hf89
            have hF9 := (hF7.tr hf8).tr hf89
            have ho9 := ho4.fr0 hf89
            have hz8 := hf8.size
            (have y0 := hbp9.cell 0; have y1 := hbp9.cell 1; have y2 := hbp9.cell 2; have y3 := hbp9.cell 3; have yf0 := hbp9.frozen 0; have yf1 := hbp9.frozen 1; have yf2 := hbp9.frozen 2; have yf3 := hbp9.frozen 3; simp only [List.getElem?_toArray, List.getElem?_cons_zero, List.getElem?_cons_succ] at y0 y1 y2 y3)
            (have z0 := hbv9.cell 0; have z1 := hbv9.cell 1; have zf0 := hbv9.frozen 0; have zf1 := hbv9.frozen 1; simp only [List.getElem?_toArray, List.getElem?_cons_zero, List.getElem?_cons_succ] at z0 z1)
            go_upto_region 29 with fail
            generalize w8.alloc (.cells #[.int .i64 14, .slice A9 l4.length c9, .slice D9 0 d9] 25) = w9 at *
            have hown9 := own_fr0 hown hF9
            have hz9 := hF9.size
            have hf9a : Fr No w9 (w9.alloc (.cells #[.int .i64 0, .bool true, .int .i64 3, .int .i64 x] 41)) := (Fr.refl No w9).alloc _
            have hz9a := hf9a.size
            have hp9 := hbp9.all
            go_upto_region 30 with (first
              | (refine wpList_ldA ag_op rfl _ rfl ⟨wv.heap.size, 0, none⟩ [.int .i64 0, .bool true, .int .i64 3, .int .i64 x] rfl rfl hp9 ?_)
              | (at_builtin; refine wpList_app_at so_op (own_fr0 hown9 hf9a) ((Blk.new w9 41 #[.int .i64 0, .bool true, .int .i64 3, .int .i64 x]).rd (size := 4) (n := 1) (by rfl) (by decide)) (op_one rfl rfl rfl rfl) (by omega) (by omega) rfl rfl rfl rfl ?_; intro v10 w10 hown10 hg10 hat10)
              | fail)
            obtain ⟨A10, c10, rfl, _, _, _⟩ := own_form hown10
            have hf10 : Fr (fun q => (Value.slice A all.length c).ownBlock = some q) w9 w10 := (hf9a.mono (fun _ _ hn => hn.elim)).trans ((Fr.refl (fun q => (Value.slice A all.length c).ownBlock = some q) _).grown hg10 (fun q hq => .inr hq)) (fun _ _ e => e)
            have hb16 := hb15.fr hf10 (fun e => by have := (hown.lt _ e).2; omega)
            have ho10 := ho9.keep hf10 (fun b hb e => by have := (hown.lt _ e).2; omega)
            have h16 := hb16.all
            go_wp2_with (first
              | (refine wpList_ldA ag_obj rfl _ rfl ⟨w8.heap.size, 0, none⟩ [.int .i64 14, .slice A9 l4.length c9, .slice D9 0 d9] rfl rfl h16 ?_)
              | fail)
            refine (count16_calls _ _ ⟨14, l4, []⟩ n w10 ho10 (by have := hB2.len; simp at this; show l4.length ≤ 1048576; omega)).mono ?_
            simp only
            rw [HC.out]
            rintro e w11 ⟨rfl, hf11⟩
            go_wp2_with fail
            go_roundw
            case rel => exact ⟨j + 1, A10, c10, all ++ [bagOp true x], l4, by omega, by rw [HC.out], by rw [List.length_append]; rfl, by go_num, by rw [List.length_append, opsC_snoc]; exact own_fr0 hown10 hf11, by simp; omega, hB2, ((hf.tr hF9).tr hf9a).grown hg10 (fun q hq => .inl (hown.lt q hq).1) |>.tr hf11⟩
            case measure => simp [intOf]; omega
        | false =>
          rw [putM_bagdel]
          by_cases hm : (⟨3, x⟩ : VL) ∈ s
          · have hd : delM s ⟨3, x⟩ = some (s.erase ⟨3, x⟩) := by unfold delM; rw [if_pos hm]
            rw [hd]
            clear hd
            rintro e w8 ⟨hf8, (⟨hn', _⟩ | ⟨l4, cs4, hs4, rfl, ho4⟩)⟩
            · cases hn'
            injection hs4 with hs4
            have HS4 := Lib.hid hs4.symm
            clear hs4
            have hB2 := hB.del hm
            rw [← HS4.out] at hB2
            have HC := Lib.hid (cntM_del n hm)
            rw [← HS4.out] at HC
            unfold hitV at HC
            simp only at HC
            clear hm
            by_cases hxn : x = n
            · have ex : (x == n) = true := by simpa using hxn
              have HC2 := Lib.hid (HC.out.trans (show cntM n l4 + _ = cntM n l4 + 1 by rw [if_pos (by simpa using hxn)]))
              have HC := Lib.hid (show cntM n l4 = cntM n l4 from rfl)
              clear hxn
              have hc4 : cntM n l4 ≤ 100 := by have := HC2.out; omega
              rw [HC2.out]
              have HCM := Lib.hid (show ((cntM n l4 + 1 : Nat) : Int) = (cntM n l4 : Int) + 1 by omega)
              generalize cntM n s = cn0 at *
              generalize hcn : cntM n l4 = cn at *
              have epos : decide (0 < ((cn + 1 : Nat) : Int)) = true := by simp <;> omega
              have efin : ((cn : Int) != ((cn + 1 : Nat) : Int) - 1) = false := by simp <;> omega
              have ebb : ((true : Bool) != true) = false := rfl
              obtain ⟨A9, c9, D9, d9, rfl, hr9, hq9⟩ := id ho4
              simp only [List.length_nil] at hr9 hq9 ho4 ⊢
              have hf89 : Fr No w8 (w8.alloc (.cells #[.int .i64 14, .slice A9 l4.length c9, .slice D9 0 d9] 25)) := (Fr.refl No w8).alloc _
              have hb15 := Blk.new w8 25 #[.int .i64 14, .slice A9 l4.length c9, .slice D9 0 d9]
              have hbp9 := ((hbp.fr0 hf7).fr0 hf8).fr0 hf89
              have hbv9 := (((hbv.fr0 hfp).fr0 hf7).fr0 hf8).fr0 hf89
              have hF9 := (hF7.tr hf8).tr hf89
              have ho9 := ho4.fr0 hf89
              have hz8 := hf8.size
              (have y0 := hbp9.cell 0; have y1 := hbp9.cell 1; have y2 := hbp9.cell 2; have y3 := hbp9.cell 3; have yf0 := hbp9.frozen 0; have yf1 := hbp9.frozen 1; have yf2 := hbp9.frozen 2; have yf3 := hbp9.frozen 3; simp only [List.getElem?_toArray, List.getElem?_cons_zero, List.getElem?_cons_succ] at y0 y1 y2 y3)
              (have z0 := hbv9.cell 0; have z1 := hbv9.cell 1; have zf0 := hbv9.frozen 0; have zf1 := hbv9.frozen 1; simp only [List.getElem?_toArray, List.getElem?_cons_zero, List.getElem?_cons_succ] at z0 z1)
              go_upto_region 29 with fail
              generalize w8.alloc (.cells #[.int .i64 14, .slice A9 l4.length c9, .slice D9 0 d9] 25) = w9 at *
              have hown9 := own_fr0 hown hF9
              have hz9 := hF9.size
              have hf9a : Fr No w9 (w9.alloc (.cells #[.int .i64 0, .bool false, .int .i64 3, .int .i64 x] 41)) := (Fr.refl No w9).alloc _
              have hz9a := hf9a.size
              have hp9 := hbp9.all
              go_upto_region 30 with (first
                | (refine wpList_ldA ag_op rfl _ rfl ⟨wv.heap.size, 0, none⟩ [.int .i64 0, .bool false, .int .i64 3, .int .i64 x] rfl rfl hp9 ?_)
                | (at_builtin; refine wpList_app_at so_op (own_fr0 hown9 hf9a) ((Blk.new w9 41 #[.int .i64 0, .bool false, .int .i64 3, .int .i64 x]).rd (size := 4) (n := 1) (by rfl) (by decide)) (op_one rfl rfl rfl rfl) (by omega) (by omega) rfl rfl rfl rfl ?_; intro v10 w10 hown10 hg10 hat10)
                | fail)
              obtain ⟨A10, c10, rfl, _, _, _⟩ := own_form hown10
              have hf10 : Fr (fun q => (Value.slice A all.length c).ownBlock = some q) w9 w10 := (hf9a.mono (fun _ _ hn => hn.elim)).trans ((Fr.refl (fun q => (Value.slice A all.length c).ownBlock = some q) _).grown hg10 (fun q hq => .inr hq)) (fun _ _ e => e)
              have hb16 := hb15.fr hf10 (fun e => by have := (hown.lt _ e).2; omega)
              have ho10 := ho9.keep hf10 (fun b hb e => by have := (hown.lt _ e).2; omega)
              have h16 := hb16.all
              go_wp2_with (first
                | (refine wpList_ldA ag_obj rfl _ rfl ⟨w8.heap.size, 0, none⟩ [.int .i64 14, .slice A9 l4.length c9, .slice D9 0 d9] rfl rfl h16 ?_)
                | fail)
              refine (count16_calls _ _ ⟨14, l4, []⟩ n w10 ho10 (by have := hB2.len; simp at this; show l4.length ≤ 1048576; omega)).mono ?_
              simp only
              rw [hcn]
              rintro e w11 ⟨rfl, hf11⟩
              go_wp2_with fail
              go_roundw
              case rel => exact ⟨j + 1, A10, c10, all ++ [bagOp false x], l4, by omega, by rw [hcn], by rw [List.length_append]; rfl, by go_num, by rw [List.length_append, opsC_snoc]; exact own_fr0 hown10 hf11, by simp; omega, hB2, ((hf.tr hF9).tr hf9a).grown hg10 (fun q hq => .inl (hown.lt q hq).1) |>.tr hf11⟩
              case measure => simp [intOf]; omega
            · have ex : (x == n) = false := by simpa using hxn
              have HC := Lib.hid ((HC.out.trans (show cntM n l4 + _ = cntM n l4 by rw [if_neg (by simpa using hxn)]; rfl)).symm)
              clear hxn
              generalize cntM n s = cn at *
              have efin : ((cn : Int) != (cn : Int)) = false := by simp
              obtain ⟨A9, c9, D9, d9, rfl, hr9, hq9⟩ := id ho4
              simp only [List.length_nil] at hr9 hq9 ho4 ⊢
              have hf89 : Fr No w8 (w8.alloc (.cells #[.int .i64 14, .slice A9 l4.length c9, .slice D9 0 d9] 25)) := (Fr.refl No w8).alloc _
              have hb15 := Blk.new w8 25 #[.int .i64 14, .slice A9 l4.length c9, .slice D9 0 d9]
              have hbp9 := ((hbp.fr0 hf7).fr0 hf8).fr0 hf89
              have hbv9 := (((hbv.fr0 hfp).fr0 hf7).fr0 hf8).fr0 hf89
              have hF9 := (hF7.tr hf8).tr hf89
              have ho9 := ho4.fr0 hf89
              have hz8 := hf8.size
              (have y0 := hbp9.cell 0; have y1 := hbp9.cell 1; have y2 := hbp9.cell 2; have y3 := hbp9.cell 3; have yf0 := hbp9.frozen 0; have yf1 := hbp9.frozen 1; have yf2 := hbp9.frozen 2; have yf3 := hbp9.frozen 3; simp only [List.getElem?_toArray, List.getElem?_cons_zero, List.getElem?_cons_succ] at y0 y1 y2 y3)
              (have z0 := hbv9.cell 0; have z1 := hbv9.cell 1; have zf0 := hbv9.frozen 0; have zf1 := hbv9.frozen 1; simp only [List.getElem?_toArray, List.getElem?_cons_zero, List.getElem?_cons_succ] at z0 z1)
              go_upto_region 29 with fail
              generalize w8.alloc (.cells #[.int .i64 14, .slice A9 l4.length c9, .slice D9 0 d9] 25) = w9 at *
              have hown9 := own_fr0 hown hF9
              have hz9 := hF9.size
              have hf9a : Fr No w9 (w9.alloc (.cells #[.int .i64 0, .bool false, .int .i64 3, .int .i64 x] 41)) := (Fr.refl No w9).alloc _
              have hz9a := hf9a.size
              have hp9 := hbp9.all
              go_upto_region 30 with (first
                | (refine wpList_ldA ag_op rfl _ rfl ⟨wv.heap.size, 0, none⟩ [.int .i64 0, .bool false, .int .i64 3, .int .i64 x] rfl rfl hp9 ?_)
                | (at_builtin; refine wpList_app_at so_op (own_fr0 hown9 hf9a) ((Blk.new w9 41 #[.int .i64 0, .bool false, .int .i64 3, .int .i64 x]).rd (size := 4) (n := 1) (by rfl) (by decide)) (op_one rfl rfl rfl rfl) (by omega) (by omega) rfl rfl rfl rfl ?_; intro v10 w10 hown10 hg10 hat10)
                | fail)
              obtain ⟨A10, c10, rfl, _, _, _⟩ := own_form hown10
              have hf10 : Fr (fun q => (Value.slice A all.length c).ownBlock = some q) w9 w10 := (hf9a.mono (fun _ _ hn => hn.elim)).trans ((Fr.refl (fun q => (Value.slice A all.length c).ownBlock = some q) _).grown hg10 (fun q hq => .inr hq)) (fun _ _ e => e)
              have hb16 := hb15.fr hf10 (fun e => by have := (hown.lt _ e).2; omega)
              have ho10 := ho9.keep hf10 (fun b hb e => by have := (hown.lt _ e).2; omega)
              have h16 := hb16.all
              go_wp2_with (first
                | (refine wpList_ldA ag_obj rfl _ rfl ⟨w8.heap.size, 0, none⟩ [.int .i64 14, .slice A9 l4.length c9, .slice D9 0 d9] rfl rfl h16 ?_)
                | fail)
              refine (count16_calls _ _ ⟨14, l4, []⟩ n w10 ho10 (by have := hB2.len; simp at this; show l4.length ≤ 1048576; omega)).mono ?_
              simp only
              rw [HC.out]
              rintro e w11 ⟨rfl, hf11⟩
              go_wp2_with fail
              go_roundw
              case rel => exact ⟨j + 1, A10, c10, all ++ [bagOp false x], l4, by omega, by rw [HC.out], by rw [List.length_append]; rfl, by go_num, by rw [List.length_append, opsC_snoc]; exact own_fr0 hown10 hf11, by simp; omega, hB2, ((hf.tr hF9).tr hf9a).grown hg10 (fun q hq => .inl (hown.lt q hq).1) |>.tr hf11⟩
              case measure => simp [intOf]; omega
          · have hd : delM s ⟨3, x⟩ = none := by unfold delM; rw [if_neg hm]
            rw [hd]
            clear hd
            rintro e w8 ⟨hf8, hdd⟩
            have he : e = .returned (.tuple #[.agg #[.int .i64 0, .slice none 0 0, .slice none 0 0], .int .i64 30]) := by
              rcases hdd with ⟨_, he⟩ | ⟨l4, cs4, hs4, _⟩
              · exact he
              · cases hs4
            subst he
            clear hdd
            by_cases hxn : x = n
            · have ex : (x == n) = true := by simpa using hxn
              have h0 : cntM n s = 0 := by
                rcases Nat.eq_zero_or_pos (cntM n s) with h | h
                · exact h
                · rw [hxn] at hm; exact absurd (cntM_mem.1 h) hm
              have epos : decide (0 < cntM n s) = false := by simp <;> omega
              clear hxn hm h0
              have hf89 : Fr No w8 (w8.alloc (.cells #[.int .i64 0, .slice none 0 0, .slice none 0 0] 25)) := (Fr.refl No w8).alloc _
              have hbp9 := ((hbp.fr0 hf7).fr0 hf8).fr0 hf89
              have hbv9 := (((hbv.fr0 hfp).fr0 hf7).fr0 hf8).fr0 hf89
              have hF9 := (hF7.tr hf8).tr hf89
              (have y0 := hbp9.cell 0; have y1 := hbp9.cell 1; have y2 := hbp9.cell 2; have y3 := hbp9.cell 3; have yf0 := hbp9.frozen 0; have yf1 := hbp9.frozen 1; have yf2 := hbp9.frozen 2; have yf3 := hbp9.frozen 3; simp only [List.getElem?_toArray, List.getElem?_cons_zero, List.getElem?_cons_succ] at y0 y1 y2 y3)
              (have z0 := hbv9.cell 0; have z1 := hbv9.cell 1; have zf0 := hbv9.frozen 0; have zf1 := hbv9.frozen 1; simp only [List.getElem?_toArray, List.getElem?_cons_zero, List.getElem?_cons_succ] at z0 z1)
              go_wp2_with fail
              go_roundw
              case rel => exact ⟨j + 1, A, c, all, s, by omega, rfl, rfl, by go_num, own_fr0 hown hF9, by omega, hB, hf.tr hF9⟩
              case measure => simp [intOf]; omega
            · have ex : (x == n) = false := by simpa using hxn
              clear hxn hm
              have hf89 : Fr No w8 (w8.alloc (.cells #[.int .i64 0, .slice none 0 0, .slice none 0 0] 25)) := (Fr.refl No w8).alloc _
              have hbp9 := ((hbp.fr0 hf7).fr0 hf8).fr0 hf89
              have hbv9 := (((hbv.fr0 hfp).fr0 hf7).fr0 hf8).fr0 hf89
              have hF9 := (hF7.tr hf8).tr hf89
              (have y0 := hbp9.cell 0; have y1 := hbp9.cell 1; have y2 := hbp9.cell 2; have y3 := hbp9.cell 3; have yf0 := hbp9.frozen 0; have yf1 := hbp9.frozen 1; have yf2 := hbp9.frozen 2; have yf3 := hbp9.frozen 3; simp only [List.getElem?_toArray, List.getElem?_cons_zero, List.getElem?_cons_succ] at y0 y1 y2 y3)
              (have z0 := hbv9.cell 0; have z1 := hbv9.cell 1; have zf0 := hbv9.frozen 0; have zf1 := hbv9.frozen 1; simp only [List.getElem?_toArray, List.getElem?_cons_zero, List.getElem?_cons_succ] at z0 z1)
              go_wp2_with fail
              go_roundw
              case rel => exact ⟨j + 1, A, c, all, s, by omega, rfl, rfl, by go_num, own_fr0 hown hF9, by omega, hB, hf.tr hF9⟩
              case measure => simp [intOf]; omega

      · obtain rfl : j = ops.length := by omega
        have ek : decide ((ops.length : Int) < ops.length) = false := by simp
        go_wp2_with fail
        refine (known_calls _).mono ?_
        rintro e wz ⟨rfl, hfz⟩
        go_wp2
        go_ret
        exact ⟨rfl, (hf1.tr hf).tr hfz⟩

end Go.Proofs.Ytgchpfennbggoaa
