/- disk.Disk.Copy; slices.Clone. No condition but size. -/
import Derived.Test.YthhncjeabamceaaDRead
namespace Go.Proofs.Ythhncjeabamceaa
set_option linter.unusedVariables false
set_option linter.unusedSimpArgs false
open Go.RowKit

theorem ways_one (l : List (Nat × Sec)) : ∀ u ∈ ways l, u.oneCell' = true := by
  intro u hu
  obtain ⟨p, _, hp⟩ := List.mem_flatMap.1 hu
  exact way1_one p u hp
set_option maxRecDepth 100000 in
theorem clone_sec (w : World) (g cap : Nat) (L : List Sec) (h : SecAt w g cap L) (hl : L.length ≤ 4096) :
    Calls Try.prog 21 #[.slice (some ⟨g, 0, none⟩) L.length cap] w fun e w' => ∃ v, e = .returned v ∧ w'.ownsRow w.heap.size 51 128 v L.length (secs L) ∧ Fr No w w' := by
  have hrd := h.rd (by omega)
  have E := fun (w : World) (a : Option Addr) (n c n' c' : Nat) => Lib.run_eql_slice_nil (P := Try.prog) w 46 51 a n c n' c' Try.underlying46
  go_enter Try.func21, Try.ntmps21
  go_wp2_with (refine wpList_app so_sec (World.ownsRow_made w #[] 0 (Nat.le_refl _) (Nat.zero_le _) rfl) (Rd.alloc hrd _) (secs_one _) (by omega) (by simp) rfl rfl rfl rfl ?_; intro v2 w2 hown2 hg2 hat2)
  go_ret
  exact ⟨v2, rfl, by simpa using hown2, ((Fr.refl No w).alloc _).grown hg2 (by simp [Value.ownBlock])⟩
set_option maxRecDepth 100000 in
theorem clone_wrote (S : Nat → Prop) (w : World) (A : Option Addr) (c : Nat) (l : List (Nat × Sec)) (h : Rd w S 129 A l.length (ways l)) (hl : l.length ≤ 100000) :
    Calls Try.prog 22 #[.slice A l.length c] w fun e w' => ∃ v, e = .returned v ∧ w'.ownsRow w.heap.size 53 129 v l.length (ways l) ∧ Fr No w w' := by
  have E := fun (w : World) (a : Option Addr) (n c n' c' : Nat) => Lib.run_eql_slice_nil (P := Try.prog) w 47 53 a n c n' c' Try.underlying47
  cases A with
  | none =>
    obtain rfl : l = [] := by
      cases l with
      | nil => rfl
      | cons x l => obtain ⟨ad, hA, _⟩ := h.2.2 (by simp); cases hA
    go_enter Try.func22, Try.ntmps22
    go_wp2
    go_ret
    exact ⟨_, rfl, World.ownsRow_nil _ _ _ _, Fr.refl _ _⟩
  | some ad =>
    go_enter Try.func22, Try.ntmps22
    go_wp2_with (refine wpList_app so_wrote (World.ownsRow_made w #[] 0 (Nat.le_refl _) (Nat.zero_le _) rfl) (Rd.alloc h _) (ways_one _) (by omega) (by simp) rfl rfl rfl rfl ?_; intro v2 w2 hown2 hg2 hat2)
    go_ret
    exact ⟨v2, rfl, by simpa using hown2, ((Fr.refl No w).alloc _).grown hg2 (by simp [Value.ownBlock])⟩
theorem SecAt.of_own {w : World} {base n : Nat} {v : Value} {L : List Sec} (h : w.ownsRow base 51 128 v n (secs L)) (hL : Len128 L) (hn : n = L.length) (h0 : 0 < n) : ∃ g c, v = .slice (some ⟨g, 0, none⟩) n c ∧ base ≤ g ∧ SecAt w g c L := by
  rcases h.2 with ⟨_, h1⟩ | ⟨g, cap, cur, hv, h1, h2, h3, h4, h5, h6⟩
  · omega
  · exact ⟨g, cap, hv, h1, hL, by omega, h4, cur, h2, h5, fun j u hu => by
      rw [← h6, List.getElem?_take] at hu
      split at hu
      · simpa using hu
      · cases hu⟩

set_option maxHeartbeats 4000000 in
set_option maxRecDepth 100000 in
theorem copy_calls (w : World) (X : Nat → Prop) (H : Nat) (d : DiskM) (h : DiskAt w X H d) (h1 : 1 ≤ d.now.length) (hway : d.way.length ≤ 100000) :
    Calls Try.prog 18 #[.pointer (some ⟨H, 0, none⟩)] w fun e w' => ∃ H', w.heap.size ≤ H' ∧ e = .returned (.pointer (some ⟨H', 0, none⟩)) ∧ DiskAt w' (fun b => w.heap.size ≤ b) H' d ∧ Fr No w w' := by
  obtain ⟨gs, cs, gn, cn, A, c, hP⟩ := h
  obtain ⟨hb, hsafe, hnow, hown, hne, hv, hX, hlen, hmax, hwf⟩ := id hP
  have g1 := plain_int
  have g2 := plain_bool
  have g3 := plain_lsec
  have g4 := plain_lwrote
  have q0 := hb.cell 0
  have q1 := hb.cell 1
  have q2 := hb.cell 2
  have q3 := hb.cell 3
  have q4 := hb.cell 4
  simp only [List.getElem?_toArray, List.getElem?_cons_zero, List.getElem?_cons_succ] at q0 q1 q2 q3 q4
  have HV := Lib.hid hv
  have HW := Lib.hid hwf
  have HLEN := Lib.hid hlen
  clear hv hwf hlen
  go_enter Try.func18, Try.ntmps18
  go_wp2_with fail
  (refine T_begin No [0, 1, 2, 3, 5, 6, 7, 8, 10, 11, 12, 13, 15, 16, 17, 18, 19, 20, 21, 22, 4, 9, 14, 23, 24, 25] [4, 9, 14, 24] (by kernel_rfl) (by kernel_rfl) ?_; simp only [pickOps, List.filterMap_cons, List.filterMap_nil, List.getElem?_cons_zero, List.getElem?_cons_succ, Act.put])
  repeat (first | (refine T_skip (by rfl) (by rfl) (fun _ _ _ h => h) ?_; try simp only [Act.put, List.setIfInBounds_toArray, List.set_cons_zero, List.set_cons_succ]) | (refine T_pass (by rfl) (by rfl) ?_; try simp only [Act.put, List.setIfInBounds_toArray, List.set_cons_zero, List.set_cons_succ]) | (refine T_load (by assumption) (by rfl) (by rfl) (fun _ _ _ _ h => h) rfl rfl (by assumption) (by first | exact (fun hn => hn) | assumption) ?_; try simp only [Act.put, List.setIfInBounds_toArray, List.set_cons_zero, List.set_cons_succ]) | (refine T_nil (by rfl) (by rfl) (fun _ _ _ _ h => h) rfl rfl ?_; try simp only [Act.put, List.setIfInBounds_toArray, List.set_cons_zero, List.set_cons_succ]) | (refine T_quietN (by rfl) (by rfl) (by rfl) (by rfl) (fun _ _ _ _ h => h) (fun K hK => ?_); go_big_quiet_op; refine hK _ ?_; clear hK K) | (refine T_two (by rfl) (by rfl) (by rfl) (by rfl) (fun _ _ _ _ h => h) (fun K hK => ?_); go_big_quiet_op; refine ⟨_, fun _ _ => rfl, ?_⟩; refine hK _ ?_; clear hK K; try simp only [Act.put, List.setIfInBounds_toArray, List.set_cons_zero, List.set_cons_succ]) | fail)
  (refine T_call (by rfl) (by rfl) (fun K hK => ?_); go_wp2_with fail)
  refine (clone_sec _ gs cs d.safe (hsafe.fr (Fr.refl No w).drew (fun hn => hn)) (by have := HLEN.out; omega)).mono ?_
  rintro e w2 ⟨v2, rfl, hown2, hf2⟩
  obtain ⟨gs', cs', rfl, hgs', hs2⟩ := SecAt.of_own hown2 hsafe.1 rfl (by have := HLEN.out; omega)
  (refine hK.out _ _ (hf2) ?_; clear hK K; try simp only [Act.put, List.setIfInBounds_toArray, List.set_cons_zero, List.set_cons_succ])
  have hf2' : Fr No w w2 := (Fr.refl No w).drew.tr hf2
  (refine T_call (by rfl) (by rfl) (fun K hK => ?_); go_wp2_with fail)
  refine (clone_sec _ gn cn d.now (hnow.fr hf2' (fun hn => hn)) (by omega)).mono ?_
  rintro e w3 ⟨v3, rfl, hown3, hf3⟩
  obtain ⟨gn', cn', rfl, hgn', hn3⟩ := SecAt.of_own hown3 hnow.1 rfl (by omega)
  (refine hK.out _ _ (hf3) ?_; clear hK K; try simp only [Act.put, List.setIfInBounds_toArray, List.set_cons_zero, List.set_cons_succ])
  have hf3' := hf2'.tr hf3
  (refine T_call (by rfl) (by rfl) (fun K hK => ?_); go_wp2_with fail)
  refine (clone_wrote _ _ A c d.way (Rd.fr0 (own_rd hown (by omega)) hf3') hway).mono ?_
  rintro e w4 ⟨v4, rfl, hown4, hf4⟩
  obtain ⟨A4, c4, rfl, hc4, _, hA4⟩ := own_form hown4
  (refine hK.out _ _ (hf4) ?_; clear hK K; try simp only [Act.put, List.setIfInBounds_toArray, List.set_cons_zero, List.set_cons_succ])
  have hf4' := hf3'.tr hf4
  repeat (first | (refine T_skip (by rfl) (by rfl) (fun _ _ _ h => h) ?_; try simp only [Act.put, List.setIfInBounds_toArray, List.set_cons_zero, List.set_cons_succ]) | (refine T_pass (by rfl) (by rfl) ?_; try simp only [Act.put, List.setIfInBounds_toArray, List.set_cons_zero, List.set_cons_succ]) | (refine T_load (by assumption) (by rfl) (by rfl) (fun _ _ _ _ h => h) rfl rfl (by assumption) (by first | exact (fun hn => hn) | assumption) ?_; try simp only [Act.put, List.setIfInBounds_toArray, List.set_cons_zero, List.set_cons_succ]) | (refine T_nil (by rfl) (by rfl) (fun _ _ _ _ h => h) rfl rfl ?_; try simp only [Act.put, List.setIfInBounds_toArray, List.set_cons_zero, List.set_cons_succ]) | (refine T_quietN (by rfl) (by rfl) (by rfl) (by rfl) (fun _ _ _ _ h => h) (fun K hK => ?_); go_big_quiet_op; refine hK _ ?_; clear hK K) | (refine T_two (by rfl) (by rfl) (by rfl) (by rfl) (fun _ _ _ _ h => h) (fun K hK => ?_); go_big_quiet_op; refine ⟨_, fun _ _ => rfl, ?_⟩; refine hK _ ?_; clear hK K; try simp only [Act.put, List.setIfInBounds_toArray, List.set_cons_zero, List.set_cons_succ]) | fail)
  (refine T_call (by rfl) (by rfl) (fun K hK => ?_); go_wp2_with fail)
  (refine hK.out _ _ (((Fr.refl _ w4).alloc _)) ?_; clear hK K; try simp only [Act.put, List.setIfInBounds_toArray, List.set_cons_zero, List.set_cons_succ])
  repeat (first | (refine T_skip (by rfl) (by rfl) (fun _ _ _ h => h) ?_; try simp only [Act.put, List.setIfInBounds_toArray, List.set_cons_zero, List.set_cons_succ]) | (refine T_pass (by rfl) (by rfl) ?_; try simp only [Act.put, List.setIfInBounds_toArray, List.set_cons_zero, List.set_cons_succ]) | (refine T_load (by assumption) (by rfl) (by rfl) (fun _ _ _ _ h => h) rfl rfl (by assumption) (by first | exact (fun hn => hn) | assumption) ?_; try simp only [Act.put, List.setIfInBounds_toArray, List.set_cons_zero, List.set_cons_succ]) | (refine T_nil (by rfl) (by rfl) (fun _ _ _ _ h => h) rfl rfl ?_; try simp only [Act.put, List.setIfInBounds_toArray, List.set_cons_zero, List.set_cons_succ]) | (refine T_quietN (by rfl) (by rfl) (by rfl) (by rfl) (fun _ _ _ _ h => h) (fun K hK => ?_); go_big_quiet_op; refine hK _ ?_; clear hK K) | (refine T_two (by rfl) (by rfl) (by rfl) (by rfl) (fun _ _ _ _ h => h) (fun K hK => ?_); go_big_quiet_op; refine ⟨_, fun _ _ => rfl, ?_⟩; refine hK _ ?_; clear hK K; try simp only [Act.put, List.setIfInBounds_toArray, List.set_cons_zero, List.set_cons_succ]) | fail)
  refine T_done ?_
  go_wp2
  go_ret
  have hs1 : w.heap.size ≤ gs' := hgs'
  have hl2 := hs2.lt
  have hl3 := hn3.lt
  have hsz4 := hf4.size
  have hsz3 := hf3.size
  have hsz2 := hf2'.size
  refine ⟨w4.heap.size, hf4'.size, rfl, ⟨gs', cs', gn', cn', A4, c4, ?_⟩, hf4'.alloc _⟩
  have hfA : Fr No w4 (w4.alloc (.cells #[.slice (some ⟨gs', 0, none⟩) d.safe.length cs', .slice (some ⟨gn', 0, none⟩) d.now.length cn', .slice A4 d.way.length c4, .bool d.dead, .int .i64 (d.left : Int)] 49)) := (Fr.refl No w4).alloc _
  refine ⟨Blk.new w4 _ _, ((hs2.fr hf3 (fun hn => hn)).fr hf4 (fun hn => hn)).fr hfA (fun hn => hn), (hn3.fr hf4 (fun hn => hn)).fr hfA (fun hn => hn), own_down (own_fr0 hown4 hfA) (Nat.zero_le _), ⟨by omega, by omega, by omega⟩, fun b hb => ?_, ⟨hf4'.size, hs1, by omega⟩, HLEN.out, hmax, HW.out⟩
  have := hown4.lt b hb
  exact ⟨by omega, by omega, by omega, by omega⟩
end Go.Proofs.Ythhncjeabamceaa
