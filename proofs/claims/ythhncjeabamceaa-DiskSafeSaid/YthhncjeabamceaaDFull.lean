/- The law's full; disk.New, Fail, Pending, Size. No condition but size. -/
import Derived.Test.YthhncjeabamceaaDOne
namespace Go.Proofs.Ythhncjeabamceaa
set_option linter.unusedVariables false
set_option linter.unusedSimpArgs false
open Go.RowKit

theorem made_u8 (n : Nat) : madeCells #[Value.int .u8 0] n = (U8 (List.replicate n 0)).toArray := by
  rw [← Array.toArray_toList (xs := madeCells _ n), toList_madeCells_one]
  simp [U8]
theorem made_any (z : Array Value) (v : Value) (n : Nat) (hz : 0 < z.size) (h : ∀ i (hi : i < z.size), z[i] = v) : (madeCells z n).toList = List.replicate n v := by
  apply List.ext_getElem
  · simp [size_madeCells]
  · intro i h1 h2
    have hm : i % z.size < z.size := Nat.mod_lt _ hz
    simp only [madeCells, Array.getElem_toList, Array.getElem_map, Array.getElem_range, List.getElem_replicate]
    rw [getElem!_pos z (i % z.size) hm, h _ hm]
theorem made_sec (n : Nat) : madeCells (U8 zsec).toArray n = (U8 (List.replicate n 0)).toArray := by
  unfold zsec
  rw [← Array.toArray_toList (xs := madeCells _ n), made_any _ (.int .u8 0) n (by rw [List.size_toArray, U8_length, List.length_replicate]; decide) (fun i hi => by
    rw [List.getElem_toArray]
    have : i < 128 := by rw [List.size_toArray, U8_length, List.length_replicate] at hi; exact hi
    unfold U8
    rw [List.getElem_map, List.getElem_replicate]; rfl)]
  unfold U8
  rw [List.map_replicate]; rfl
theorem fill_set (k m : Nat) (b : UInt8) (h : k < m) : (U8 (List.replicate k b ++ List.replicate (m - k) 0)).toArray.setIfInBounds k (.int .u8 (b.toNat : Int)) = (U8 (List.replicate (k + 1) b ++ List.replicate (m - (k + 1)) 0)).toArray := by
  obtain ⟨j, rfl⟩ : ∃ j, m = k + 1 + j := ⟨m - (k + 1), by omega⟩
  rw [show k + 1 + j - k = j + 1 by omega, show k + 1 + j - (k + 1) = j by omega, List.replicate_succ, List.replicate_succ']
  simp [U8, List.set_append]
set_option maxHeartbeats 1000000 in
/-- So many sectors of one byte. -/
theorem full_calls (n : Nat) (b : UInt8) (w : World) (hn : n ≤ 4096) :
    Calls Try.prog 10 #[.int .i64 (n : Int), .int .u8 (b.toNat : Int)] w fun e w' => e = .returned (.slice (some ⟨w.heap.size, 0, none⟩) (n * 128) (n * 128)) ∧ Blk w' w.heap.size 5 (U8 (List.replicate (n * 128) b)).toArray ∧ Fr No w w' := by
  have hm : n * 128 ≤ 524288 := by omega
  obtain ⟨m, hmn⟩ : ∃ m, m = n * 128 := ⟨_, rfl⟩
  have hmi : (n : Int) * 128 = (m : Int) := by omega
  have HMI := Lib.hid hmi
  rw [← hmn] at hm ⊢
  clear hmn hmi
  have hbz : b.toNat < 256 := b.toNat_lt
  go_enter Try.func10, Try.ntmps10
  go_wp2_with (refine wpList_make so_u8 (n := m) (c := m) (Nat.le_refl _) (by omega) rfl rfl (show _ = Value.int .i64 (m : Int) from congrArg _ HMI.out) (show _ = Value.int .i64 (m : Int) from congrArg _ HMI.out) ?_)
  have hb0 : Blk (w.alloc (.cells (madeCells #[Value.int .u8 0] m) 5)) w.heap.size 5 (U8 (List.replicate 0 b ++ List.replicate (m - 0) 0)).toArray := by
    have := Blk.new w 5 (madeCells #[Value.int .u8 0] m)
    rw [made_u8] at this
    simpa [made_u8] using this
  have hf0 : Fr No w (w.alloc (.cells (madeCells #[Value.int .u8 0] m) 5)) := (Fr.refl No w).alloc _
  go_loopw [6] (fun i wr => ∃ k : Nat, k ≤ m ∧ i = .int .i64 k ∧ Blk wr w.heap.size 5 (U8 (List.replicate k b ++ List.replicate (m - k) 0)).toArray ∧ Fr No w wr) (fun i _ => m - (intOf i).toNat)
  case atStart => exact ⟨0, by omega, rfl, hb0, hf0⟩
  case round =>
    obtain ⟨k, hk, rfl, hb, hf⟩ := hrel
    by_cases hlt : k < m
    · have ek : decide ((k : Int) < m) = true := by simpa using (by omega : (k : Int) < m)
      have hc := (hb.cell k).trans (Array.getElem?_eq_getElem (by simp [U8_length]; omega))
      have hz := hb.frozen k
      have hp := hb.put k (.int .u8 (b.toNat : Int))
      rw [fill_set k m b hlt] at hp
      have HP := Lib.hid hp
      clear hp
      generalize (U8 (List.replicate k b ++ List.replicate (m - k) 0)).toArray[k]'_ = old at hc
      go_wp2
      go_roundw
      case rel => exact ⟨k + 1, by omega, by go_num, HP.out, hf.set (.inl (Nat.le_refl _)) _⟩
      case measure => simp [intOf]; omega
    · obtain rfl : k = m := by omega
      have ek : decide ((k : Int) < k) = false := by simp
      rw [Nat.sub_self, List.replicate_zero, List.append_nil] at hb
      go_wp2
      go_ret
      exact ⟨rfl, hb, hf⟩
theorem full_rd {w : World} {g n : Nat} {b : UInt8} (h : Blk w g 5 (U8 (List.replicate (n * 128) b)).toArray) (hn : n ≤ 4096) : Rd w (fun x => x = g) 1 (some ⟨g, 0, none⟩) (n * 128) (U8 (List.replicate (n * 128) b)) := by
  have := h.rd (size := 1) (n := n * 128) (by simp [U8_length]) (by omega)
  exact this
end Go.Proofs.Ythhncjeabamceaa
