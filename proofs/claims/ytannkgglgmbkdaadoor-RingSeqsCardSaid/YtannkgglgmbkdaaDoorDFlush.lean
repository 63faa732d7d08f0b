/- disk.Disk's Flush, Fail, Pending, Size. No condition but size. -/
import Derived.Test.YtannkgglgmbkdaaDoorDWrite
namespace Go.Proofs.YtannkgglgmbkdaaDoor
set_option linter.unusedVariables false
set_option linter.unusedSimpArgs false
open Go.RowKit

theorem splice_secs {cur : Array Value} {cap : Nat} {L : List Sec} (hL : Len128 L) (hc : cur.size = cap * 128) (hl : L.length ≤ cap) (j : Nat) (u : Value) (hu : (secs L)[j]? = some u) : (splice cur 0 (secs L))[j]? = some u := by
  have hlen := secs_len hL
  have hj := (List.getElem?_eq_some_iff.1 hu).1
  rw [splice_get _ _ _ (by omega), if_neg (by omega), if_pos (by omega), Nat.sub_zero]
  exact hu
/-- A row of sectors written over by another one as long. -/
theorem SecAt.over {w w' : World} {g cap : Nat} {L L' : List Sec} (h : SecAt w g cap L) {cur : Array Value} (hb : Blk w g 88 cur) (hL : Len128 L') (hl : L'.length = L.length) (hb' : Blk w' g 88 (splice cur 0 (secs L'))) : SecAt w' g cap L' := by
  obtain ⟨h1, h2, h3, cur0, hb0, h4, h5⟩ := h
  have e : cur0 = cur := by
    have := hb0.symm.trans hb
    simpa using this
  subst e
  have hlen := secs_len hL
  exact ⟨hL, by omega, h3, _, hb', by rw [splice_size _ _ _ (by omega), h4], fun j u hu => splice_secs hL h4 (by omega) j u hu⟩
theorem size_calls (w : World) (X : Nat → Prop) (H : Nat) (d : DiskM) (h : DiskAt w X H d) : Calls Tryd.prog 32 #[.pointer (some ⟨H, 0, none⟩)] w fun e w' => e = .returned (.int .i64 (d.now.length : Int)) ∧ w = w' := by
  obtain ⟨gs, cs, gn, cn, A, c, hb, _⟩ := h
  have q1 := hb.cell 1
  simp only [List.getElem?_toArray, List.getElem?_cons_zero, List.getElem?_cons_succ] at q1
  go_enter Tryd.func32, Tryd.ntmps32
  go_wp2
  go_ret
  exact ⟨rfl, rfl⟩
theorem fail_calls (w : World) (X : Nat → Prop) (H : Nat) (d : DiskM) (n : Nat) (hn : n ≤ 1000000) (h : DiskAt w X H d) : Calls Tryd.prog 23 #[.pointer (some ⟨H, 0, none⟩), .int .i64 (n : Int)] w fun e w' => e = .returned (.tuple #[]) ∧ Left w X X H { d with left := n } w' := by
  obtain ⟨gs, cs, gn, cn, A, c, hP⟩ := h
  have hb := hP.1
  have q4 := hb.cell 4
  have z4 := hb.frozen 4
  simp only [List.getElem?_toArray, List.getElem?_cons_zero, List.getElem?_cons_succ] at q4
  have HM := Lib.hid (show (n : Int) = max 0 (n : Int) by omega)
  go_enter Tryd.func23, Tryd.ntmps23
  go_wp2_with (first
    | (refine wpList_max (t := 3) 0 (n : Int) (n : Int) HM.out rfl rfl rfl rfl ?_)
    | fail)
  go_end0
  have hset : Fr (fun b => b = H) w (w.setCell ⟨H, 4, none⟩ (.int .i64 (n : Int))) := (Fr.refl (fun b => b = H) w).set (.inr rfl) _
  exact ⟨rfl, ⟨gs, cs, gn, cn, A, c, hP.head hset (hb.put 4 _)⟩, hset.mono (fun b _ hb2 => by subst hb2; exact hP.2.2.2.2.2.2.1.1)⟩

set_option maxHeartbeats 4000000 in
set_option maxRecDepth 100000 in
theorem flush_calls (w : World) (X : Nat → Prop) (H : Nat) (d : DiskM) (h : DiskAt w X H d) (hdead : d.dead = false) :
    Calls Tryd.prog 46 #[.pointer (some ⟨H, 0, none⟩)] w fun e w' => e = .returned (.int .i64 0) ∧ Left w X X H { d with safe := d.now, way := [] } w' := by
  obtain ⟨gs, cs, gn, cn, A, c, hP⟩ := h
  obtain ⟨hb, hsafe, hnow, hown, hne, hv, hX, hlen, hmax, hwf⟩ := id hP
  have g3 := plain_lsec
  have q0 := hb.cell 0
  have q1 := hb.cell 1
  have q3 := hb.cell 3
  have hneH : ¬ (H = gs) := fun e => hne.2.1 e.symm
  simp only [List.getElem?_toArray, List.getElem?_cons_zero, List.getElem?_cons_succ] at q0 q1 q3
  rw [hdead] at q3
  have hLn := hnow.1
  have HLN := Lib.hid hLn
  obtain ⟨_, hcs, _, cur, hbs, hcz, _⟩ := id hsafe
  have HV := Lib.hid hv
  have HW := Lib.hid hwf
  have HLEN := Lib.hid hlen
  have HD := Lib.hid hdead
  clear hv hwf hdead hLn hlen
  go_enter Tryd.func46, Tryd.ntmps46
  go_wp2_with fail
  (refine T_begin (fun b => b = gs) [0, 1, 2, 3, 4, 5, 6, 7, 8] [8] (by kernel_rfl) (by kernel_rfl) ?_; simp only [pickOps, List.filterMap_cons, List.filterMap_nil, List.getElem?_cons_zero, List.getElem?_cons_succ, Act.put])
  repeat (first | (refine T_skip (by rfl) (by rfl) (fun _ _ _ h => h) ?_; try simp only [Act.put, List.setIfInBounds_toArray, List.set_cons_zero, List.set_cons_succ]) | (refine T_pass (by rfl) (by rfl) ?_; try simp only [Act.put, List.setIfInBounds_toArray, List.set_cons_zero, List.set_cons_succ]) | (refine T_load (by assumption) (by rfl) (by rfl) (fun _ _ _ _ h => h) rfl rfl (by assumption) (by first | exact (fun hn => hn) | assumption) ?_; try simp only [Act.put, List.setIfInBounds_toArray, List.set_cons_zero, List.set_cons_succ]) | (refine T_nil (by rfl) (by rfl) (fun _ _ _ _ h => h) rfl rfl ?_; try simp only [Act.put, List.setIfInBounds_toArray, List.set_cons_zero, List.set_cons_succ]) | (refine T_quietN (by rfl) (by rfl) (by rfl) (by rfl) (fun _ _ _ _ h => h) (fun K hK => ?_); go_big_quiet_op; refine hK _ ?_; clear hK K) | (refine T_two (by rfl) (by rfl) (by rfl) (by rfl) (fun _ _ _ _ h => h) (fun K hK => ?_); go_big_quiet_op; refine ⟨_, fun _ _ => rfl, ?_⟩; refine hK _ ?_; clear hK K; try simp only [Act.put, List.setIfInBounds_toArray, List.set_cons_zero, List.set_cons_succ]) | fail)
  refine T_call (by rfl) (by rfl) (fun K hK => ?_)
  have hrd := hnow.rd (by omega)
  refine wp_copyA so_sec rfl hbs (hrd.drew) (secs_one _) rfl rfl (by have := HLEN.out; rw [hcz]; omega) ?_
  intro w3 hb3 hg3 hz3
  refine hK.out _ _ ((Fr.refl _ _).grown hg3 (fun q hq => by injection hq with hq; exact .inr hq.symm)) ?_
  clear hK K
  try simp only [Act.put, List.setIfInBounds_toArray, List.set_cons_zero, List.set_cons_succ]
  refine T_done ?_
  rw [List.take_of_length_le (by rw [secs_len HLN.out]; have := HLEN.out; omega)] at hb3
  have hf3 : Fr (fun b => b = gs) w w3 := ((Fr.refl (fun b => b = gs) w).drew).grown hg3 (fun q hq => by injection hq with hq; exact .inr hq.symm)
  have hP3 := hP.saved hf3 (L := d.now) HLEN.out.symm (hsafe.over hbs HLN.out HLEN.out.symm hb3)
  have hb3H := hP3.1
  have q32 := hb3H.cell 2
  have z32 := hb3H.frozen 2
  simp only [List.getElem?_toArray, List.getElem?_cons_zero, List.getElem?_cons_succ] at q32
  go_wp2
  go_ret
  have hset : Fr (fun b => b = H) w3 (w3.setCell ⟨H, 2, none⟩ (.slice none 0 0)) := (Fr.refl (fun b => b = H) w3).set (.inr rfl) _
  refine ⟨rfl, ⟨gs, cs, gn, cn, none, 0, ?_⟩, (hf3.mono (T := X) (fun b _ hb2 => by subst hb2; exact hX.2.1)).trans (hset.mono (T := X) (fun b _ hb2 => by subst hb2; exact hX.1)) (fun _ _ hb => hb)⟩
  obtain ⟨_, h1, h2, _, _, _, _, h7, h8, _⟩ := hP3
  exact ⟨hb3H.put 2 _, h1.fr hset hne.2.1, h2.fr hset hne.2.2, World.ownsRow_nil _ _ _ _, hne, fun b hb => by simp [Value.ownBlock] at hb, hX, h7, h8, fun p hp => by cases hp⟩
end Go.Proofs.YtannkgglgmbkdaaDoor
