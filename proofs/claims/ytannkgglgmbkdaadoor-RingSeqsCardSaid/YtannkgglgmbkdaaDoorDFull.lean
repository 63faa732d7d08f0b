/- The law's full; disk.New, Fail, Pending, Size. No condition but size. -/
import Derived.Test.YtannkgglgmbkdaaDoorDOne
namespace Go.Proofs.YtannkgglgmbkdaaDoor
set_option linter.unusedVariables false
set_option linter.unusedSimpArgs false
open Go.RowKit

theorem made_u8 (n : Nat) : madeCells #[Value.int .u8 0] n = (U8 (List.replicate n 0)).toArray := by
  rw [← Array.toArray_toList (xs := madeCells _ n), toList_madeCells_one]
  simp [U8]
theorem made_any (z : Array Value) (v : Value) (n : Nat) (hz : 0 < z.size) (h : ∀ i (hi : i < z.size), z[i] = v) : (madeCells z n).toList = List.replicate n v := by
  apply List.ext_getElem
  · simp [size_madeCells]
  · intro i h1 h2
    have hm : i % z.size < z.size := Nat.mod_lt _ hz
    simp only [madeCells, Array.getElem_toList, Array.getElem_map, Array.getElem_range, List.getElem_replicate]
    rw [getElem!_pos z (i % z.size) hm, h _ hm]
theorem made_sec (n : Nat) : madeCells (U8 zsec).toArray n = (U8 (List.replicate n 0)).toArray := by
  unfold zsec
  rw [← Array.toArray_toList (xs := madeCells _ n), made_any _ (.int .u8 0) n (by rw [List.size_toArray, U8_length, List.length_replicate]; decide) (fun i hi => by
    rw [List.getElem_toArray]
    have : i < 128 := by rw [List.size_toArray, U8_length, List.length_replicate] at hi; exact hi
    unfold U8
    rw [List.getElem_map, List.getElem_replicate]; rfl)]
  unfold U8
  rw [List.map_replicate]; rfl
theorem fill_set (k m : Nat) (b : UInt8) (h : k < m) : (U8 (List.replicate k b ++ List.replicate (m - k) 0)).toArray.setIfInBounds k (.int .u8 (b.toNat : Int)) = (U8 (List.replicate (k + 1) b ++ List.replicate (m - (k + 1)) 0)).toArray := by
  obtain ⟨j, rfl⟩ : ∃ j, m = k + 1 + j := ⟨m - (k + 1), by omega⟩
  rw [show k + 1 + j - k = j + 1 by omega, show k + 1 + j - (k + 1) = j by omega, List.replicate_succ, List.replicate_succ']
  simp [U8, List.set_append]
theorem full_rd {w : World} {g n : Nat} {b : UInt8} (h : Blk w g 5 (U8 (List.replicate (n * 128) b)).toArray) (hn : n ≤ 4096) : Rd w (fun x => x = g) 1 (some ⟨g, 0, none⟩) (n * 128) (U8 (List.replicate (n * 128) b)) := by
  have := h.rd (size := 1) (n := n * 128) (by simp [U8_length]) (by omega)
  exact this
end Go.Proofs.YtannkgglgmbkdaaDoor
