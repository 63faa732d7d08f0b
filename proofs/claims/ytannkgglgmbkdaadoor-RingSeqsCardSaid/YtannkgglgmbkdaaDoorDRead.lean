/- disk.Disk.Read. No condition but size. -/
import Derived.Test.YtannkgglgmbkdaaDoorDCrash
namespace Go.Proofs.YtannkgglgmbkdaaDoor
set_option linter.unusedVariables false
set_option linter.unusedSimpArgs false
open Go.RowKit

theorem read_dead (w : World) (X : Nat → Prop) (H : Nat) (d : DiskM) (a n : Nat) (h : DiskAt w X H d) (hfit : a + n ≤ d.now.length) (hdead : d.dead = true) :
    Calls Tryd.prog 31 #[.pointer (some ⟨H, 0, none⟩), .int .i64 (a : Int), .int .i64 (n : Int)] w fun e w' => e = .returned (.tuple #[.slice none 0 0, .int .i64 14]) ∧ w = w' := by
  obtain ⟨gs, cs, gn, cn, A', c', hP⟩ := h
  obtain ⟨hb, _, _, _, _, _, _, hlen, hmax, _⟩ := hP
  have q1 := hb.cell 1
  have q3 := hb.cell 3
  simp only [List.getElem?_toArray, List.getElem?_cons_zero, List.getElem?_cons_succ] at q1 q3
  rw [hdead] at q3
  have e1 : decide ((a : Int) < 0) = false := by simp
  have e2 : decide ((n : Int) < 0) = false := by simp
  have e3 : ¬ (d.now.length < a) := by omega
  have h4 : 0 ≤ (d.now.length : Int) - a := by omega
  have h5 : (d.now.length : Int) - a ≤ 4096 := by omega
  have e4 : decide ((d.now.length : Int) - a < n) = false := by simp; omega
  clear hdead hlen
  go_enter Tryd.func31, Tryd.ntmps31
  go_wp2
  go_ret2
  exact ⟨rfl, rfl⟩
theorem sub_step {L : List Sec} {a j : Nat} (h : a + j < L.length) : (L.drop a).take (j + 1) = (L.drop a).take j ++ [L[a + j]] := by
  rw [List.take_add_one, List.getElem?_drop, List.getElem?_eq_getElem h]; rfl
/-- A sector as bytes. -/
theorem SecAt.rdB {w : World} {g cap : Nat} {L : List Sec} (h : SecAt w g cap L) {k : Nat} (hk : k < L.length) : Rd w (fun b => b = g) 1 (some ⟨g, k * 128, none⟩) 128 (U8 L[k]) :=
  ⟨by rw [U8_length, h.1 _ (List.getElem_mem hk)], by omega, fun _ => ⟨_, rfl, rfl, fun j u hu => h.at_ hk j u hu⟩⟩
theorem splice_room (l s : List UInt8) (n : Nat) (hn : l.length + s.length ≤ n) : splice (U8 (l ++ List.replicate (n - l.length) 0)).toArray l.length (U8 s) = (U8 ((l ++ s) ++ List.replicate (n - (l ++ s).length) 0)).toArray := by
  unfold splice
  obtain ⟨m, rfl⟩ : ∃ m, n = l.length + s.length + m := ⟨n - (l.length + s.length), by omega⟩
  rw [show l.length + s.length + m - l.length = s.length + m by omega, show l.length + s.length + m - (l ++ s).length = m by rw [List.length_append]; omega]
  rw [← List.replicate_append_replicate, List.append_assoc l s, U8_append, U8_append, U8_append, U8_append]
  congr 1
  have e1 : (U8 l).length = l.length := U8_length l
  have e2 : (U8 (List.replicate s.length 0)).length = s.length := by rw [U8_length, List.length_replicate]
  rw [U8_length]
  rw [← e1, List.take_left, List.append_assoc]
  congr 2
  rw [← List.drop_drop, List.drop_left]
  conv => lhs; arg 1; rw [← e2]
  rw [List.drop_left]

set_option maxHeartbeats 4000000 in
set_option maxRecDepth 100000 in
theorem read_calls (w : World) (X : Nat → Prop) (H : Nat) (d : DiskM) (a n : Nat) (h : DiskAt w X H d) (hfit : a + n ≤ d.now.length) (hdead : d.dead = false) :
    Calls Tryd.prog 31 #[.pointer (some ⟨H, 0, none⟩), .int .i64 (a : Int), .int .i64 (n : Int)] w fun e w' => e = .returned (.tuple #[.slice (some ⟨w.heap.size, 0, none⟩) (n * 128) (n * 128), .int .i64 0]) ∧ Blk w' w.heap.size 5 (U8 ((d.now.drop a).take n).flatten).toArray ∧ Fr No w w' := by
  have hH : DiskAt w X H d := h
  obtain ⟨gs, cs, gn, cn, A', c', hP⟩ := h
  obtain ⟨hb, _, hnow, _, _, _, _, hlen, hmax, _⟩ := id hP
  have q1 := hb.cell 1
  have q3 := hb.cell 3
  simp only [List.getElem?_toArray, List.getElem?_cons_zero, List.getElem?_cons_succ] at q1 q3
  rw [hdead] at q3
  obtain ⟨m, hm⟩ : ∃ m, m = n * 128 := ⟨_, rfl⟩
  have hmi : (n : Int) * 128 = (m : Int) := by omega
  have e1 : decide ((a : Int) < 0) = false := by simp
  have e2 : decide ((n : Int) < 0) = false := by simp
  have e3 : ¬ (d.now.length < a) := by omega
  have h4 : 0 ≤ (d.now.length : Int) - a := by omega
  have h5 : (d.now.length : Int) - a ≤ 4096 := by omega
  have e4 : decide ((d.now.length : Int) - a < n) = false := by simp; omega
  have hn4 : n ≤ 4096 := by omega
  have hm4 : m ≤ 524288 := by omega
  have HM := Lib.hid hm
  have HMI := Lib.hid hmi
  rw [← hm]
  clear hdead hlen hm hmi
  go_enter Tryd.func31, Tryd.ntmps31
  go_wp2_with (first
    | (refine wpList_make so_u8 (n := 0) (c := m) (Nat.zero_le _) (by omega) rfl rfl rfl (show _ = Value.int .i64 (m : Int) from congrArg _ HMI.out) ?_)
    | fail)
  have hb0 : Blk (w.alloc (.cells (madeCells #[Value.int .u8 0] m) 5)) w.heap.size 5 (U8 ([] ++ List.replicate (m - 0) 0)).toArray := by
    have := Blk.new w 5 (madeCells #[Value.int .u8 0] m)
    rw [made_u8] at this
    simpa [made_u8] using this
  have hf0 : Fr No w (w.alloc (.cells (madeCells #[Value.int .u8 0] m) 5)) := (Fr.refl No w).alloc _
  clear e1 e2 e3 h4 h5 e4
  go_loopw [8, 49] (fun v i wr => ∃ (j q : Nat) (l : List UInt8), j ≤ n ∧ i = .int .i64 (j : Int) ∧ v = .slice (some ⟨w.heap.size, 0, none⟩) q m ∧ Hid (l = ((d.now.drop a).take j).flatten) ∧ Hid (q = l.length) ∧ Hid (q = j * 128) ∧ Blk wr w.heap.size 5 (U8 (l ++ List.replicate (m - l.length) 0)).toArray ∧ Fr No w wr) (fun _ i _ => n - (intOf i).toNat)
  case atStart => exact ⟨0, 0, [], by omega, rfl, rfl, Lib.hid (by simp), Lib.hid rfl, Lib.hid (by omega), hb0, hf0⟩
  case round =>
    obtain ⟨j, q, l, hj, rfl, rfl, HL, HQ, HJ, hbl, hf⟩ := hrel
    by_cases hlt : j < n
    · have ek : decide ((j : Int) < n) = true := by simpa using (by omega : (j : Int) < n)
      have q1r := hf.cell_some q1 (fun hn => hn)
      have hin : a + j < d.now.length := by omega
      have hnr := hnow.fr hf (fun hn => hn)
      have hrd := hnr.rdB hin
      have hcn := hnr.2.1
      have hls : d.now[a + j].length = 128 := hnr.1 _ (List.getElem_mem hin)
      have hst := sub_step hin
      have HST := Lib.hid hst
      have HLS := Lib.hid hls
      have hq1 : q = j * 128 := HJ.out
      have hq2 : q = l.length := HQ.out
      have hm1 : m = n * 128 := HM.out
      have hroom : q + 128 ≤ m := by omega
      obtain ⟨p, hp⟩ : ∃ p, p = a + j := ⟨_, rfl⟩
      have HP := Lib.hid (show (a : Int) + (j : Int) = (p : Int) by omega)
      have HLen := Lib.hid hq2
      have HM2 := Lib.hid hm1
      have HSp := Lib.hid (splice_room l d.now[a + j] m (by rw [hls]; omega))
      have hsz : (U8 (l ++ List.replicate (m - l.length) 0)).toArray.size = m := by rw [List.size_toArray, U8_length, List.length_append, List.length_replicate]; omega
      have HSZ := Lib.hid hsz
      clear hst hls hq1 hq2 hm1 hsz
      generalize d.now[a + j] = s at *
      go_wp2_with (first
        | (at_builtin; refine wpList_app_room so_u8 hbl hrd (U8_one _) hroom (by rw [HSZ.out]; omega) rfl rfl rfl rfl ?_; intro w2 hb2 hg2 hz2)
        | fail)
      rw [Nat.mul_one, HLen.out, HSp.out] at hb2
      go_roundw
      case rel => exact ⟨j + 1, q + 128, l ++ s, by omega, by go_num, rfl, Lib.hid (by rw [HST.out, List.flatten_append, ← HL.out]; simp), Lib.hid (by rw [List.length_append, HLS.out, ← HLen.out]), Lib.hid (by have := HJ.out; omega), hb2, hf.grown hg2 (fun b hb => by injection hb with hb; exact .inl (by omega))⟩
      case measure => simp [intOf]; omega
    · obtain rfl : j = n := by omega
      have hl : l = ((d.now.drop a).take j).flatten := HL.out
      have hq : q = m := by have := HJ.out; have := HM.out; omega
      have hb2 : Blk wr w.heap.size 5 (U8 ((d.now.drop a).take j).flatten).toArray := by
        rw [← hl]
        have e : m - l.length = 0 := by have := HQ.out; omega
        rw [e, List.replicate_zero, List.append_nil] at hbl
        exact hbl
      subst hq
      have ek : decide ((j : Int) < j) = false := by simp
      clear hl hbl
      go_wp2
      go_ret2
      exact ⟨rfl, hb2, hf⟩
end Go.Proofs.YtannkgglgmbkdaaDoor
