/- RcSum: the walk. No condition. -/
import Derived.Test.YtgchpfennbggoaaRcKnow
import Derived.Deep.CutBlock
import Derived.Deep.DeepCutAuto
namespace Go.Proofs.Ytgchpfennbggoaa
set_option linter.unusedVariables false
set_option linter.unusedSimpArgs false
open Go.RowKit

def byOp (x : Int) : OpM := ⟨5, true, ⟨3, x.tmod 1000000⟩⟩
def sumK (m : Int) (l : List Int) : Int := m + (l.map (·.tmod 1000000)).sum
theorem tmod_lt (x : Int) : -1000000 < x.tmod 1000000 ∧ x.tmod 1000000 < 1000000 := by
  have h1 := Int.tmod_lt_of_pos x (show (0 : Int) < 1000000 by decide)
  have h2 := Int.lt_tmod_of_pos x (show (0 : Int) < 1000000 by decide)
  exact ⟨h2, h1⟩
theorem sumK_one (m : Int) (l : List Int) {k : Nat} (hk : k < l.length) : sumK m (l.take (k + 1)) = sumK m (l.take k) + l[k].tmod 1000000 := by
  unfold sumK
  rw [← List.take_append_getElem hk, List.map_append, List.sum_append]
  simp only [List.map_cons, List.map_nil, List.sum_cons, List.sum_nil]
  omega
theorem sumK_lt (m : Int) (l : List Int) (hm : -1000000 < m ∧ m < 1000000) : -(1000000 * ((l.length : Int) + 1)) < sumK m l ∧ sumK m l < 1000000 * ((l.length : Int) + 1) := by
  unfold sumK
  induction l with
  | nil => simp; omega
  | cons x l ih =>
    have := tmod_lt x
    simp only [List.map_cons, List.sum_cons, List.length_cons]
    omega
theorem countM_by {m x : Int} (hm : -1000000000 ≤ m ∧ m ≤ 1000000000) : countM [⟨3, m⟩] (byOp x) = some [⟨3, m + x.tmod 1000000⟩] := by
  have := tmod_lt x
  unfold countM byOp
  simp only
  rw [if_pos (by simp; omega)]
theorem runM_by (l : List Int) : ∀ (m : Int), -(1000000 * (110 - (l.length : Int))) ≤ m → m ≤ 1000000 * (110 - (l.length : Int)) → l.length ≤ 100 → runM countM [⟨3, m⟩] (l.map byOp) = some [⟨3, sumK m l⟩] := by
  induction l with
  | nil => intro m _ _ _; simp [runM, sumK]
  | cons x l ih =>
    intro m h1 h2 h3
    simp only [List.length_cons] at h1 h2 h3
    have := tmod_lt x
    simp only [List.map_cons, runM]
    rw [countM_by (by omega)]
    simp only
    rw [ih _ (by omega) (by omega) (by omega)]
    unfold sumK
    simp only [List.map_cons, List.sum_cons]
    congr 3; omega
theorem opcells_by (x : Int) : opcells (byOp x) = [.int .i64 5, .bool true, .int .i64 3, .int .i64 (x.tmod 1000000)] := rfl
set_option maxHeartbeats 4000000 in
set_option maxRecDepth 100000 in
theorem law_RcSum (W : World) (m0 : Int) (hm0 : (Lit.int .i64 m0).wf = true) (a1 : Option Addr) (cap1 : Nat) (l : List Int) (h : Rd W (fun b => b < W.heap.size) 1 a1 l.length (l.map (Value.int .i64))) :
    Calls Try.prog 4 #[.int .i64 m0, .slice a1 l.length cap1] W fun e w' => e = .returned (.bool true) ∧ Fr No W w' := by
  have hle := h.2.1
  have g4 := plain_i64
  obtain ⟨m, hm⟩ : ∃ m, Hid (m = m0.tmod 1000000) := ⟨_, Lib.hid rfl⟩
  have hmb := tmod_lt m0
  rw [← hm.out] at hmb
  go_enter Try.func4, Try.ntmps4
  go_upto_block 0 with fail
  rw [← hm.out]
  go_cut [5, 6] (fun s5 s6 wx => ∃ (k : Nat) (A : Option Addr) (c : Nat), k ≤ l.length ∧ k ≤ 100 ∧ s5 = .int .i64 (sumK m (l.take k)) ∧ s6 = .slice A k c ∧ wx.ownsRow W.heap.size 41 4 (.slice A k c) k (opsC ((l.take k).map byOp)) ∧ Fr No W wx)
  case first =>
    go_wp2_with fail
    go_loopw [5, 6, 7] (fun s5 s6 s7 wr => ∃ (k : Nat) (A : Option Addr) (c : Nat), k ≤ l.length ∧ k ≤ 100 ∧ s5 = .int .i64 (sumK m (l.take k)) ∧ s6 = .slice A k c ∧ s7 = .int .i64 (k : Int) ∧ wr.ownsRow W.heap.size 41 4 (.slice A k c) k (opsC ((l.take k).map byOp)) ∧ Fr No W wr) (fun _ _ s7 _ => l.length - (intOf s7).toNat)
    case atStart => exact ⟨0, none, 0, by omega, by omega, by simp [sumK], rfl, rfl, by simpa [opsC] using World.ownsRow_nil _ _ _ _, Fr.refl _ _⟩
    case round =>
      obtain ⟨k, A, c, hk, hk1, rfl, rfl, rfl, hown, hf⟩ := hrel
      have hsr := hf.size
      by_cases hlt : k < l.length
      · have ek : decide ((k : Int) < l.length) = true := by simpa using (by omega : (k : Int) < l.length)
        by_cases h100 : k < 100
        · have ek2 : decide ((k : Int) < 100) = true := by simpa using (by omega : (k : Int) < 100)
          obtain ⟨g, of, rfl, _, hc⟩ := Rd.plain h (by omega) (by decide)
          have hc0 := hc k (.int .i64 l[k]) (by simp [hlt])
          have hcx := hf.cell_some hc0 (fun hn => hn)
          have HT := Lib.hid (show opsC ((l.take (k + 1)).map byOp) = opsC ((l.take k).map byOp) ++ opcells (byOp l[k]) by
            rw [← List.take_append_getElem hlt, List.map_append, opsC_append]; simp [opsC])
          have HS := Lib.hid (sumK_one m l hlt)
          have hsb := sumK_lt m (l.take k) hmb
          rw [List.length_take, Nat.min_eq_left hk] at hsb
          have htb := tmod_lt l[k]
          generalize hx : l[k] = x at *
          clear hx hc hc0
          generalize hs : sumK m (l.take k) = s at *
          clear hs
          have r1 : -9223372036854775808 ≤ s + x.tmod 1000000 := by omega
          have r2 : s + x.tmod 1000000 ≤ 9223372036854775807 := by omega
          go_wp2_with (first
            | (refine wpList_app so_op (own_fr0 hown ((Fr.refl No wr).alloc (.cells #[.int .i64 5, .bool true, .int .i64 3, .int .i64 (x.tmod 1000000)] 41))) ((Blk.new wr _ _).rd (size := 4) (n := 1) (by rfl) (by decide)) (by intro u hu; simp at hu; rcases hu with rfl | rfl | rfl | rfl <;> rfl) (by omega) (by simp; omega) rfl rfl rfl rfl ?_; intro v5 w5 hown5 hg5 hat5)
            | fail)
          obtain ⟨A3, c3, rfl, _, _, _⟩ := own_form hown5
          go_roundw
          case rel => exact ⟨k + 1, A3, c3, by omega, by omega, by rw [HS.out], rfl, by go_num, by rw [HT.out]; exact hown5, (hf.alloc _).grown hg5 (fun q hq => .inl (hown.lt q hq).1)⟩
          case measure => simp [intOf]; omega
        · have ek2 : decide ((k : Int) < 100) = false := by simp; omega
          go_wp2_with fail
          go_meet
          case rel => exact ⟨k, A, c, hk, hk1, rfl, rfl, hown, hf⟩
      · obtain rfl : k = l.length := by omega
        have ek : decide ((l.length : Int) < l.length) = false := by simp
        go_wp2_with fail
        go_meet
        case rel => exact ⟨l.length, A, c, hk, hk1, rfl, rfl, hown, hf⟩
  case rest =>
    obtain ⟨k, A, c, hk, hk1, rfl, rfl, hown, hf⟩ := hcut
    have hlen : ((l.take k).map byOp).length = k := by simp; omega
    have hrun : runM countM [⟨3, m⟩] ((l.take k).map byOp) = some [⟨3, sumK m (l.take k)⟩] := by
      have hl2 : (l.take k).length = k := by simp; omega
      exact runM_by (l.take k) m (by omega) (by omega) (by omega)
    have hbnd : ∀ p ∈ (l.take k).map byOp, -9223372036854775808 ≤ p.v.n ∧ p.v.n ≤ 9223372036854775807 := by
      intro p hp
      obtain ⟨x, _, rfl⟩ := List.mem_map.1 hp
      have := tmod_lt x
      show -9223372036854775808 ≤ x.tmod 1000000 ∧ x.tmod 1000000 ≤ 9223372036854775807
      omega
    have hro : RdO wc (fun b => b < wc.heap.size) A ((l.take k).map byOp) := by
      unfold RdO; rw [hlen]
      exact Rd.mono (own_rd hown (by omega)) (fun b hlt _ => hlt) (by decide)
    generalize hops : (l.take k).map byOp = ops at *
    clear hops
    generalize hss : sumK m (l.take k) = s at *
    clear hss hown
    have HRUN := Lib.hid hrun
    have HB := Lib.hid hbnd
    clear hrun hbnd
    subst hlen
    go_wp2_with fail
    refine (counter_calls m _).mono ?_
    rintro e w3 ⟨cs3, rfl, ho3, hf3⟩
    have hsz3 := hf3.size
    go_wp2_with fail
    refine (replay13_calls _ cs3 ⟨13, [⟨3, m⟩], []⟩ w3 A c ops ho3 rfl (show (1 : Nat) ≤ 1048576 by decide) (Rd.mono (Rd.fr0 hro hf3) (fun b hlt _ => hlt) (by decide)) HB.out).mono ?_
    simp only
    rw [HRUN.out]
    rintro e w4 ⟨hf4, (⟨hn, _⟩ | ⟨l4, cs4, hs4, rfl, ho4⟩)⟩
    · cases hn
    injection hs4 with hs4
    subst hs4
    obtain ⟨A4, c4, D4, d4, rfl, hr4, hq4⟩ := id ho4
    go_wp2_with fail
    have hf5 : Fr No w4 (w4.alloc (.cells #[.int .i64 13, .slice A4 1 c4, .slice D4 0 d4] 25)) := (Fr.refl No w4).alloc _
    have hbx := Blk.new w4 25 #[.int .i64 13, .slice A4 1 c4, .slice D4 0 d4]
    have ho5 := ho4.fr0 hf5
    obtain ⟨gx, hgx⟩ : ∃ gx, gx = w4.heap.size := ⟨_, rfl⟩
    rw [← hgx] at hbx ⊢
    generalize hw5 : w4.alloc (.cells #[.int .i64 13, .slice A4 1 c4, .slice D4 0 d4] 25) = w5 at *
    clear hw5 hgx
    (refine T_begin No [0, 1, 2, 3, 4, 5, 6, 7, 8, 9, 10, 11] [5, 6, 9] (by kernel_rfl) (by kernel_rfl) ?_; simp only [pickOps, List.filterMap_cons, List.filterMap_nil, List.getElem?_cons_zero, List.getElem?_cons_succ, Act.put])
    repeat (first | (refine T_skip (by rfl) (by rfl) (fun _ _ _ h => h) ?_; try simp only [Act.put, List.setIfInBounds_toArray, List.set_cons_zero, List.set_cons_succ]) | (refine T_pass (by rfl) (by rfl) ?_; try simp only [Act.put, List.setIfInBounds_toArray, List.set_cons_zero, List.set_cons_succ]) | (refine T_load (by assumption) (by rfl) (by rfl) (fun _ _ _ _ h => h) rfl rfl (by assumption) (by first | exact (fun hn => hn) | assumption) ?_; try simp only [Act.put, List.setIfInBounds_toArray, List.set_cons_zero, List.set_cons_succ]) | (refine T_nil (by rfl) (by rfl) (fun _ _ _ _ h => h) rfl rfl ?_; try simp only [Act.put, List.setIfInBounds_toArray, List.set_cons_zero, List.set_cons_succ]) | (refine T_quietN (by rfl) (by rfl) (by rfl) (by rfl) (fun _ _ _ _ h => h) (fun K hK => ?_); go_big_quiet_op; refine hK _ ?_; clear hK K) | (refine T_two (by rfl) (by rfl) (by rfl) (by rfl) (fun _ _ _ _ h => h) (fun K hK => ?_); go_big_quiet_op; refine ⟨_, fun _ _ => rfl, ?_⟩; refine hK _ ?_; clear hK K; try simp only [Act.put, List.setIfInBounds_toArray, List.set_cons_zero, List.set_cons_succ]) | fail)
    refine T_loadA (cs := [.int .i64 13, .slice A4 1 c4, .slice D4 0 d4]) ag_obj (by rfl) (by rfl) (fun _ _ _ _ h => h) rfl rfl rfl hbx.all (fun hn => hn) ?_
    try simp only [Act.put, List.setIfInBounds_toArray, List.set_cons_zero, List.set_cons_succ]
    repeat (first | (refine T_skip (by rfl) (by rfl) (fun _ _ _ h => h) ?_; try simp only [Act.put, List.setIfInBounds_toArray, List.set_cons_zero, List.set_cons_succ]) | (refine T_pass (by rfl) (by rfl) ?_; try simp only [Act.put, List.setIfInBounds_toArray, List.set_cons_zero, List.set_cons_succ]) | (refine T_load (by assumption) (by rfl) (by rfl) (fun _ _ _ _ h => h) rfl rfl (by assumption) (by first | exact (fun hn => hn) | assumption) ?_; try simp only [Act.put, List.setIfInBounds_toArray, List.set_cons_zero, List.set_cons_succ]) | (refine T_nil (by rfl) (by rfl) (fun _ _ _ _ h => h) rfl rfl ?_; try simp only [Act.put, List.setIfInBounds_toArray, List.set_cons_zero, List.set_cons_succ]) | (refine T_quietN (by rfl) (by rfl) (by rfl) (by rfl) (fun _ _ _ _ h => h) (fun K hK => ?_); go_big_quiet_op; refine hK _ ?_; clear hK K) | (refine T_two (by rfl) (by rfl) (by rfl) (by rfl) (fun _ _ _ _ h => h) (fun K hK => ?_); go_big_quiet_op; refine ⟨_, fun _ _ => rfl, ?_⟩; refine hK _ ?_; clear hK K; try simp only [Act.put, List.setIfInBounds_toArray, List.set_cons_zero, List.set_cons_succ]) | fail)
    refine T_call (by rfl) (by rfl) (fun K hK => ?_)
    go_wp2_with fail
    refine (counter_calls s _).mono ?_
    rintro e w6 ⟨cs6, rfl, ho6, hf6⟩
    go_wp2_with fail
    (refine hK.out _ _ (hf6) ?_; clear hK K; try simp only [Act.put, List.setIfInBounds_toArray, List.set_cons_zero, List.set_cons_succ])
    refine T_call (by rfl) (by rfl) (fun K hK => ?_)
    go_wp2_with fail
    refine (same_calls _ _ [.int .i64 13, .slice A4 1 c4, .slice D4 0 d4] cs6 ⟨13, [⟨3, s⟩], []⟩ w6 (ho5.fr0 ((Fr.refl No w5).drew.tr hf6)) ho6).mono ?_
    rintro e w7 ⟨rfl, hf7⟩
    go_wp2_with fail
    (refine hK.out _ _ (hf7) ?_; clear hK K; try simp only [Act.put, List.setIfInBounds_toArray, List.set_cons_zero, List.set_cons_succ])
    repeat (first | (refine T_skip (by rfl) (by rfl) (fun _ _ _ h => h) ?_; try simp only [Act.put, List.setIfInBounds_toArray, List.set_cons_zero, List.set_cons_succ]) | (refine T_pass (by rfl) (by rfl) ?_; try simp only [Act.put, List.setIfInBounds_toArray, List.set_cons_zero, List.set_cons_succ]) | (refine T_load (by assumption) (by rfl) (by rfl) (fun _ _ _ _ h => h) rfl rfl (by assumption) (by first | exact (fun hn => hn) | assumption) ?_; try simp only [Act.put, List.setIfInBounds_toArray, List.set_cons_zero, List.set_cons_succ]) | (refine T_nil (by rfl) (by rfl) (fun _ _ _ _ h => h) rfl rfl ?_; try simp only [Act.put, List.setIfInBounds_toArray, List.set_cons_zero, List.set_cons_succ]) | (refine T_quietN (by rfl) (by rfl) (by rfl) (by rfl) (fun _ _ _ _ h => h) (fun K hK => ?_); go_big_quiet_op; refine hK _ ?_; clear hK K) | (refine T_two (by rfl) (by rfl) (by rfl) (by rfl) (fun _ _ _ _ h => h) (fun K hK => ?_); go_big_quiet_op; refine ⟨_, fun _ _ => rfl, ?_⟩; refine hK _ ?_; clear hK K; try simp only [Act.put, List.setIfInBounds_toArray, List.set_cons_zero, List.set_cons_succ]) | fail)
    refine T_call (by rfl) (by rfl) (fun K hK => ?_)
    go_wp2_with fail
    refine (known_calls w7).mono ?_
    rintro e w8 ⟨rfl, hf8⟩
    go_wp2_with fail
    (refine hK.out _ _ (hf8) ?_; clear hK K; try simp only [Act.put, List.setIfInBounds_toArray, List.set_cons_zero, List.set_cons_succ])
    repeat (first | (refine T_skip (by rfl) (by rfl) (fun _ _ _ h => h) ?_; try simp only [Act.put, List.setIfInBounds_toArray, List.set_cons_zero, List.set_cons_succ]) | (refine T_pass (by rfl) (by rfl) ?_; try simp only [Act.put, List.setIfInBounds_toArray, List.set_cons_zero, List.set_cons_succ]) | (refine T_load (by assumption) (by rfl) (by rfl) (fun _ _ _ _ h => h) rfl rfl (by assumption) (by first | exact (fun hn => hn) | assumption) ?_; try simp only [Act.put, List.setIfInBounds_toArray, List.set_cons_zero, List.set_cons_succ]) | (refine T_nil (by rfl) (by rfl) (fun _ _ _ _ h => h) rfl rfl ?_; try simp only [Act.put, List.setIfInBounds_toArray, List.set_cons_zero, List.set_cons_succ]) | (refine T_quietN (by rfl) (by rfl) (by rfl) (by rfl) (fun _ _ _ _ h => h) (fun K hK => ?_); go_big_quiet_op; refine hK _ ?_; clear hK K) | (refine T_two (by rfl) (by rfl) (by rfl) (by rfl) (fun _ _ _ _ h => h) (fun K hK => ?_); go_big_quiet_op; refine ⟨_, fun _ _ => rfl, ?_⟩; refine hK _ ?_; clear hK K; try simp only [Act.put, List.setIfInBounds_toArray, List.set_cons_zero, List.set_cons_succ]) | fail)
    refine T_done ?_
    go_wp2
    go_ret
    exact ⟨rfl, ((((hf.tr hf3).tr hf4).tr hf5).tr (((Fr.refl No w5).drew.tr hf6).tr hf7)).tr hf8⟩
end Go.Proofs.Ytgchpfennbggoaa
