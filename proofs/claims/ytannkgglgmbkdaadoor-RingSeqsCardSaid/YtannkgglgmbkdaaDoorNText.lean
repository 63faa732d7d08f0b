/- law04.text; devices that do not fail. No condition but size. -/
import Derived.Test.YtannkgglgmbkdaaDoorNApp
import Derived.Test.YtannkgglgmbkdaaDoorCount
namespace Go.Proofs.YtannkgglgmbkdaaDoor
set_option linter.unusedVariables false
set_option linter.unusedSimpArgs false
open Go.RowKit

set_option maxHeartbeats 1000000 in
/-- So many bytes. -/
theorem text_calls (m : Nat) (b : UInt8) (w : World) (hm : m ≤ 524288) :
    Calls Tryd.prog 19 #[.int .i64 (m : Int), .int .u8 (b.toNat : Int)] w fun e w' => e = .returned (.slice (some ⟨w.heap.size, 0, none⟩) m m) ∧ Blk w' w.heap.size 5 (U8 (List.replicate m b)).toArray ∧ Fr No w w' := by
  have hbz : b.toNat < 256 := b.toNat_lt
  go_enter Tryd.func19, Tryd.ntmps19
  go_wp2_with (refine wpList_make so_u8 (n := m) (c := m) (Nat.le_refl _) (by omega) rfl rfl rfl rfl ?_)
  have hb0 : Blk (w.alloc (.cells (madeCells #[Value.int .u8 0] m) 5)) w.heap.size 5 (U8 (List.replicate 0 b ++ List.replicate (m - 0) 0)).toArray := by
    have := Blk.new w 5 (madeCells #[Value.int .u8 0] m)
    rw [made_u8] at this
    simpa [made_u8] using this
  have hf0 : Fr No w (w.alloc (.cells (madeCells #[Value.int .u8 0] m) 5)) := (Fr.refl No w).alloc _
  go_loopw [6] (fun i wr => ∃ k : Nat, k ≤ m ∧ i = .int .i64 k ∧ Blk wr w.heap.size 5 (U8 (List.replicate k b ++ List.replicate (m - k) 0)).toArray ∧ Fr No w wr) (fun i _ => m - (intOf i).toNat)
  case atStart => exact ⟨0, by omega, rfl, hb0, hf0⟩
  case round =>
    obtain ⟨k, hk, rfl, hb, hf⟩ := hrel
    by_cases hlt : k < m
    · have ek : decide ((k : Int) < m) = true := by simpa using (by omega : (k : Int) < m)
      have hc := (hb.cell k).trans (Array.getElem?_eq_getElem (by simp [U8_length]; omega))
      have hz := hb.frozen k
      have hp := hb.put k (.int .u8 (b.toNat : Int))
      rw [fill_set k m b hlt] at hp
      have HP := Lib.hid hp
      clear hp
      generalize (U8 (List.replicate k b ++ List.replicate (m - k) 0)).toArray[k]'_ = old at hc
      go_wp2
      go_roundw
      case rel => exact ⟨k + 1, by omega, by go_num, HP.out, hf.set (.inl (Nat.le_refl _)) _⟩
      case measure => simp [intOf]; omega
    · obtain rfl : k = m := by omega
      have ek : decide ((k : Int) < k) = false := by simp
      rw [Nat.sub_self, List.replicate_zero, List.append_nil] at hb
      go_wp2
      go_ret
      exact ⟨rfl, hb, hf⟩
theorem text_rd {w : World} {g m : Nat} {b : UInt8} (h : Blk w g 5 (U8 (List.replicate m b)).toArray) (hn : m ≤ 524288) : RdB w (fun _ => True) (some ⟨g, 0, none⟩) (List.replicate m b) := by
  have h1 := h.rd (size := 1) (n := m) (by simp [U8_length]) (by omega)
  have h2 := h1.mono (T := fun _ => True) (fun _ _ _ => trivial) (by decide)
  unfold RdB
  rw [List.length_replicate]
  exact h2
/-- Sectors laid one behind the other. -/
def putN : List Sec → Nat → List Sec → List Sec
  | now, _, [] => now
  | now, k, s :: ss => putN (now.set k s) (k + 1) ss
theorem putN_len : ∀ (ss now : List Sec) (k : Nat), (putN now k ss).length = now.length
  | [], _, _ => rfl
  | s :: ss, now, k => by rw [putN, putN_len ss]; simp
/-- A device that does not fail, and has nothing on the way. -/
def Quiet (d : DiskM) (n : Nat) : Prop := d.dead = false ∧ d.left = 0 ∧ d.way = [] ∧ d.now.length = n
theorem putsM_ok : ∀ (ss : List Sec) (d : DiskM) (k : Nat), d.dead = false → d.left = 0 → (putsM d k ss).2 = true ∧ (putsM d k ss).1.now = putN d.now k ss ∧ (putsM d k ss).1.dead = false ∧ (putsM d k ss).1.left = 0
  | [], d, k, h1, h2 => ⟨rfl, rfl, h1, h2⟩
  | s :: ss, d, k, h1, h2 => by
    have ho : oneM d k s = ({ d with left := d.left - 1, now := d.now.set k s, way := d.way ++ [(k, s)] }, true) := by
      unfold oneM
      rw [if_neg (by omega), if_neg (by rw [h1]; exact Bool.false_ne_true)]
    rw [putsM_cons, ho, if_pos rfl]
    exact putsM_ok ss _ _ h1 (by show d.left - 1 = 0; omega)
theorem safely_quiet {d : DiskM} {n : Nat} (h : Quiet d n) (k : Nat) (ss : List Sec) : ∃ d', safelyM d k ss = (d', true) ∧ Quiet d' n ∧ d'.now = putN d.now k ss ∧ d'.safe = d'.now := by
  obtain ⟨h1, h2, h3, h4⟩ := h
  obtain ⟨a1, a2, a3, a4⟩ := putsM_ok ss d k h1 h2
  refine ⟨{ (putsM d k ss).1 with safe := (putsM d k ss).1.now, way := [] }, by unfold safelyM; rw [if_pos a1], ⟨a3, a4, rfl, ?_⟩, a2, rfl⟩
  show (putsM d k ss).1.now.length = n
  rw [a2, putN_len]; exact h4
end Go.Proofs.YtannkgglgmbkdaaDoor
