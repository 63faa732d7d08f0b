/- The walk of lapidarylaw01.WireUint. No condition but that the bytes are not more than a slice can hold. -/
import Derived.Test.YtonpnplcbcagfaaLWireShort
import Derived.Test.YtonpnplcbcagfaaWRead
import Derived.Test.YtonpnplcbcagfaaReg
namespace Go.Proofs.Ytonpnplcbcagfaa
set_option linter.unusedVariables false
set_option linter.unusedSimpArgs false
open Go.RowKit

theorem conv_fr {w : World} {S : Nat → Prop} {A : Option Addr} {l : List UInt8} (c : Nat) (h : RdB w S A l) :
    ∀ w', Fr No w w' → Sem.run Try.prog (convert 22 9 (.slice A l.length c)) w' = .ok (.string ⟨l.toArray⟩) w' :=
  fun w' hf => run_str w' Try.underlying22 Try.underlying5 Try.underlying9 c (Rd.fr0 h hf)

set_option maxRecDepth 100000 in
set_option maxHeartbeats 1000000 in
theorem law_WireUint (W : World) (a : Int) (ha : (Lit.int .u64 a).wf = true) (b : Option Addr) (cap : Nat) (l : List UInt8) (h : RdB W (fun b => b < W.heap.size) b l) (hb : l.length ≤ 140737488351232) :
    Calls Try.prog 6 #[.int .u64 a, .slice b l.length cap] W fun e w' => e = .returned (.bool true) ∧ Fr No W w' := by
  obtain ⟨ha0, ha1⟩ := u64_of_wf ha
  obtain ⟨n, rfl⟩ := Int.eq_ofNat_of_zero_le ha0
  have hlen := uintL_ten n (by omega)
  have HB := Lib.hid (readU_uintL n (by omega) l)
  go_enter Try.func6, Try.ntmps6
  go_wp2_with fail
  refine (lent_calls _ _ _ l _ h).mono ?_
  rintro e w1 ⟨g, rfl, _, hg, hf1⟩
  go_wp2_with fail
  refine (uint_calls n _ (by omega)).mono ?_
  rintro e w2 ⟨v2, rfl, hown2, hf2⟩
  obtain ⟨A2, c2, rfl, hc2, _, _⟩ := own_form hown2
  have hg2 : LentAt w2 g l := Blk.fr0 hg hf2
  go_wp2_with fail
  refine (readuint_calls _ _ _ l _ (hg2.rd (by omega)) (by omega)).mono ?_
  rintro e _ ⟨rfl, rfl⟩
  go_wp2_with fail
  have hf12 := hf1.tr hf2
  refine (refreaduint_calls _ _ _ l _ (Rd.fr0 h hf12)).mono ?_
  rintro e _ ⟨rfl, rfl⟩
  go_wp2_with fail
  have hr2 : RdB w2 _ A2 (uintL n) := own_rd hown2 (by omega)
  refine T_begin No [3, 24] (by kernel_rfl) (by kernel_rfl) ?_
  have hd2 := (Fr.refl No w2).drew
  repeat (first | (refine T_skip (by rfl) (by rfl) (fun _ _ _ h => h) ?_; try simp only [Act.put, List.setIfInBounds_toArray, List.set_cons_zero, List.set_cons_succ]) | (refine T_pass (by rfl) (by rfl) ?_; try simp only [Act.put, List.setIfInBounds_toArray, List.set_cons_zero, List.set_cons_succ]) | (refine T_quiet (by rfl) (by rfl) (by rfl) (fun _ _ _ _ h => h) (fun K hK => ?_); go_big_quiet_op; refine hK _ ?_; clear hK K) | (refine T_two (by rfl) (by rfl) (by rfl) (by rfl) (fun _ _ _ _ h => h) (fun K hK => ?_); go_big_quiet_op; refine ⟨Value.bool _, fun _ _ => rfl, ?_⟩; refine hK _ ?_; clear hK K; try simp only [Act.put, List.setIfInBounds_toArray, List.set_cons_zero, List.set_cons_succ]) | fail)
  (refine T_str Try.underlying22 Try.underlying5 Try.underlying9 (Rd.drew hr2) (fun _ _ hn => hn) (by rfl) (by rfl) (fun _ _ _ _ h => h) rfl rfl rfl ?_; try simp only [Act.put, List.setIfInBounds_toArray, List.set_cons_zero, List.set_cons_succ])
  repeat (first | (refine T_skip (by rfl) (by rfl) (fun _ _ _ h => h) ?_; try simp only [Act.put, List.setIfInBounds_toArray, List.set_cons_zero, List.set_cons_succ]) | (refine T_pass (by rfl) (by rfl) ?_; try simp only [Act.put, List.setIfInBounds_toArray, List.set_cons_zero, List.set_cons_succ]) | (refine T_quiet (by rfl) (by rfl) (by rfl) (fun _ _ _ _ h => h) (fun K hK => ?_); go_big_quiet_op; refine hK _ ?_; clear hK K) | (refine T_two (by rfl) (by rfl) (by rfl) (by rfl) (fun _ _ _ _ h => h) (fun K hK => ?_); go_big_quiet_op; refine ⟨Value.bool _, fun _ _ => rfl, ?_⟩; refine hK _ ?_; clear hK K; try simp only [Act.put, List.setIfInBounds_toArray, List.set_cons_zero, List.set_cons_succ]) | fail)
  (refine T_call (by rfl) (by rfl) (fun K hK => ?_); go_wp2_with fail)
  refine (refuint_calls n _ (by omega)).mono ?_
  rintro e w3 ⟨v3, rfl, hown3, hf3⟩
  obtain ⟨A3, c3, rfl, hc3, _, _⟩ := own_form hown3
  (refine hK.out _ _ (hf3) ?_; clear hK K; try simp only [Act.put, List.setIfInBounds_toArray, List.set_cons_zero, List.set_cons_succ])
  (refine T_str Try.underlying22 Try.underlying5 Try.underlying9 (own_rd hown3 (by omega)) (fun _ _ hn => hn) (by rfl) (by rfl) (fun _ _ _ _ h => h) rfl rfl rfl ?_; try simp only [Act.put, List.setIfInBounds_toArray, List.set_cons_zero, List.set_cons_succ])
  repeat (first | (refine T_skip (by rfl) (by rfl) (fun _ _ _ h => h) ?_; try simp only [Act.put, List.setIfInBounds_toArray, List.set_cons_zero, List.set_cons_succ]) | (refine T_pass (by rfl) (by rfl) ?_; try simp only [Act.put, List.setIfInBounds_toArray, List.set_cons_zero, List.set_cons_succ]) | (refine T_quiet (by rfl) (by rfl) (by rfl) (fun _ _ _ _ h => h) (fun K hK => ?_); go_big_quiet_op; refine hK _ ?_; clear hK K) | (refine T_two (by rfl) (by rfl) (by rfl) (by rfl) (fun _ _ _ _ h => h) (fun K hK => ?_); go_big_quiet_op; refine ⟨Value.bool _, fun _ _ => rfl, ?_⟩; refine hK _ ?_; clear hK K; try simp only [Act.put, List.setIfInBounds_toArray, List.set_cons_zero, List.set_cons_succ]) | fail)
  (refine T_call (by rfl) (by rfl) (fun K hK => ?_); go_wp2_with fail)
  have hd3 := hd2.tr hf3
  refine (kept_calls _ _ g _ l _ (Blk.fr0 hg2 hd3) (Rd.fr0 h (hf12.tr hd3)) (by omega)).mono ?_
  rintro e w4 ⟨rfl, hf4⟩
  have hd4 := hd3.tr hf4
  (refine hK.out _ _ (hf4) ?_; clear hK K; try simp only [Act.put, List.setIfInBounds_toArray, List.set_cons_zero, List.set_cons_succ])
  repeat (first | (refine T_skip (by rfl) (by rfl) (fun _ _ _ h => h) ?_; try simp only [Act.put, List.setIfInBounds_toArray, List.set_cons_zero, List.set_cons_succ]) | (refine T_pass (by rfl) (by rfl) ?_; try simp only [Act.put, List.setIfInBounds_toArray, List.set_cons_zero, List.set_cons_succ]) | (refine T_quiet (by rfl) (by rfl) (by rfl) (fun _ _ _ _ h => h) (fun K hK => ?_); go_big_quiet_op; refine hK _ ?_; clear hK K) | (refine T_two (by rfl) (by rfl) (by rfl) (by rfl) (fun _ _ _ _ h => h) (fun K hK => ?_); go_big_quiet_op; refine ⟨Value.bool _, fun _ _ => rfl, ?_⟩; refine hK _ ?_; clear hK K; try simp only [Act.put, List.setIfInBounds_toArray, List.set_cons_zero, List.set_cons_succ]) | fail)
  refine T_done ?_
  go_wp2_with (first
    | (at_builtin; refine wpList_app so_u8 (World.ownsRow_nil w4 w4.heap.size _ _) (Rd.fr0 hr2 hd4) (U8_one _) (by omega) (Nat.le_refl _) rfl rfl rfl rfl ?_; intro v5 w5 hown5 hg5 hat5; have hf5 : Fr No w4 w5 := (Fr.refl No w4).grown hg5 (by simp [Value.ownBlock]))
    | (at_builtin; refine wpList_app so_u8 hown5 (Rd.fr0 (Rd.fr0 h hf12) (hd4.tr hf5)) (U8_one _) (by omega) hf5.size rfl rfl rfl rfl ?_; intro v6 w6 hown6 hg6 hat6; have hf6 : Fr No w4 w6 := hf5.grown hg6 (fun b hb => .inl (hown5.lt b hb).1); obtain ⟨A6, c6, rfl, hc6, _, _⟩ := own_form hown6)
    | fail)
  have hn6 : w6.ownsRow w4.heap.size 5 1 (.slice A6 (uintL n ++ l).length c6) (uintL n ++ l).length (U8 (uintL n ++ l)) := by
    rw [U8_append]; simpa [List.length_append] using hown6
  have hr6 : RdB w6 _ A6 (uintL n ++ l) := own_rd hn6 (by rw [List.length_append]; omega)
  have hc6' := readuint_calls _ A6 c6 _ w6 hr6 (by rw [List.length_append]; omega)
  rw [List.length_append, HB.out] at hc6'
  refine hc6'.mono ?_
  rintro e _ ⟨rfl, rfl⟩
  go_wp2_with fail
  refine (known_calls _).mono ?_
  rintro e w7 ⟨rfl, hf7⟩
  go_wp2
  go_ret
  exact ⟨rfl, (hf12.tr hd4).tr (hf6.tr hf7)⟩
end Go.Proofs.Ytonpnplcbcagfaa