/- How a row's arguments are opened: byte slices. No condition. -/
import Derived.Test.YtannkgglgmbkdaaDoorRowG
namespace Go.Proofs.YtannkgglgmbkdaaDoor
set_option linter.unusedVariables false
set_option linter.unusedSimpArgs false
open Go.ChangeShapes Go.WideShapes Go.ChangeAt Go.RowKit

section
variable {H : Type} {enc : TypeId × Value → H} {W : World} {held : Bool}
set_option maxRecDepth 100000 in
/-- A []byte that came in; with its room, and what its bulk is at the least. -/
theorem open_bytes_all {ts : List TypeId} {ds : List (DataW H)} (hsz : (DataW.weightsEach Tryd.prog ts ds).all (· ≤ reachBytes) = true) {j : Nat} {a : Option Addr} {len cap : Nat} {d : DataW H} {p : List MemPlace}
    (ht : ts[j]? = some 40) (hd : ds[j]? = some d) (h : DataW.Trod enc Tryd.prog W 0 (fun _ => true) held 40 (.slice a len cap) d p) :
    ∃ l : List UInt8, len = l.length ∧ RdB W (fun b => b < W.heap.size) a l ∧ l.length ≤ 140737488351232 ∧ l.length ≤ cap ∧ cap ≤ maxLen ∧ l.length < Rows.uptoBulk d := by
  obtain ⟨fuel, hf⟩ := h
  rcases open_ints Tryd.underlying40 Tryd.underlying5 (by kernel_rfl) hf with ⟨hcs, hx⟩ | ⟨x, l, c, zs, hcs, _, hl, hm, hz, hx, hcell, hwz⟩
  · simp [Value.cells] at hcs
    obtain ⟨rfl, rfl, rfl⟩ := hcs
    exact ⟨[], rfl, Rd.nil_, by simp, by simp, by decide, by simpa using bulk_pos d⟩
  · simp [Value.cells] at hcs
    obtain ⟨rfl, rfl, rfl⟩ := hcs
    simp only [Prod.mk.injEq] at hx
    obtain ⟨rfl, _⟩ := hx
    have hbulk := bulk_slice (lits (H := H) .u8 (zs.take len)) (lits .u8 (zs.drop len))
    simp only [lits, List.length_map, List.length_take] at hbulk
    have hs := sized_slice hsz ht hd Tryd.underlying40
    have hb : Tryd.prog.bytesOf 5 = 1 := by kernel_rfl
    have hzl : zs.length = cap := by simpa using hz
    rw [hb] at hs
    simp only [lits, List.length_map, List.length_take, List.length_drop, reachBytes] at hs
    have hlen : ((zs.take len).map fun n => UInt8.ofNat n.toNat).length = len := by simp; omega
    have hbd : len ≤ 140737488351232 := by omega
    refine ⟨(zs.take len).map fun n => UInt8.ofNat n.toNat, hlen.symm, ⟨by rw [U8_length]; omega, by omega, fun hn => ⟨x, rfl, ?_, fun i u hu => ?_⟩⟩, by omega, by omega, hm, by simp only [lits]; omega⟩
    · have := World.block_lt_of_cell? W _ (hcell 0 (by omega))
      rwa [block_of_add] at this
    · have hi : i < len := by
        have := (List.getElem?_eq_some_iff.1 hu).1
        rw [U8_length, hlen] at this
        exact this
      rw [hcell i (by omega)]
      have hw := hwz (zs.getD i 0) (by
        rw [List.getD_eq_getElem?_getD, List.getElem?_eq_getElem (by omega)]
        simp)
      have hr : 0 ≤ zs.getD i 0 ∧ zs.getD i 0 ≤ 255 := by simpa [Lit.wf, IntKind.min, IntKind.max, IntKind.signed, IntKind.bits] using hw
      have hg : (U8 ((zs.take len).map fun n => UInt8.ofNat n.toNat))[i]? = some (.int .u8 (zs.getD i 0)) := by
        simp only [U8, List.map_map, List.getElem?_map, List.getElem?_take, if_pos hi, List.getElem?_eq_getElem (show i < zs.length by omega), Option.map_some, Function.comp]
        congr 2
        rw [List.getD_eq_getElem?_getD, List.getElem?_eq_getElem (show i < zs.length by omega)] at hr ⊢
        simp only [Option.getD_some] at hr ⊢
        rw [UInt8.toNat_ofNat']
        omega
      rw [← hu, hg]
/-- A []byte that came in. -/
theorem open_bytes {ts : List TypeId} {ds : List (DataW H)} (hsz : (DataW.weightsEach Tryd.prog ts ds).all (· ≤ reachBytes) = true) {j : Nat} {a : Option Addr} {len cap : Nat} {d : DataW H} {p : List MemPlace}
    (ht : ts[j]? = some 40) (hd : ds[j]? = some d) (h : DataW.Trod enc Tryd.prog W 0 (fun _ => true) held 40 (.slice a len cap) d p) :
    ∃ l : List UInt8, len = l.length ∧ RdB W (fun b => b < W.heap.size) a l ∧ l.length ≤ 140737488351232 := by
  obtain ⟨l, h1, h2, h3, _⟩ := open_bytes_all hsz ht hd h
  exact ⟨l, h1, h2, h3⟩
end
end Go.Proofs.YtannkgglgmbkdaaDoor
