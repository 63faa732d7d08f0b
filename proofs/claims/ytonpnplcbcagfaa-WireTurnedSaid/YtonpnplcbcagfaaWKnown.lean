/- lapidarylaw01.known: what must come of fixed calls is true. No condition. -/
import Derived.Test.YtonpnplcbcagfaaWFrame
import Derived.Test.YtonpnplcbcagfaaWLent
import Derived.Lib.SlBytesConst
namespace Go.Proofs.Ytonpnplcbcagfaa
set_option linter.unusedVariables false
set_option linter.unusedSimpArgs false
open Go.RowKit

theorem marked_rd (w : World) (e : TypeId) (l : List UInt8) (f : Nat × Nat) (hl : l.length ≤ 211106232532992) : RdB (w.alloc (.cells (U8 l).toArray e f)) (fun b => b = w.heap.size) (some ⟨w.heap.size, 0, none⟩) l :=
  ⟨by simp [U8_length], hl, fun _ => ⟨_, rfl, rfl, fun j u hu => by rw [add_plain, cell_of_row _ _ _ _ _ _ (heap_alloc_new w _)]; simpa using hu⟩⟩

theorem known_frame : frameM [97] = ([0, 0, 0, 1, 0xe8, 0xb7, 0xbe, 0x43, 97], 0) := by decide +kernel
theorem known_uint : uintL 300 = [0xac, 2] := by rw [uintL_big 300 (by omega), uintL_small _ (by omega)]; rfl
theorem known_sum : (crc [49, 50, 51, 52, 53, 54, 55, 56, 57]).toNat = 3421780262 := by decide +kernel
theorem known_fold : foldZ (-1) = 1 := by decide

theorem known_calls (w : World) : Calls Try.prog 14 #[] w fun e w' => e = .returned (.bool true) ∧ Fr No w w' := by
  have kc := fun (w : World) (C : Array Value) (n c : Nat) => Lib.run_convert_bytes_const (P := Try.prog) w 22 5 C n c Try.underlying22 Try.underlying5
  go_enter Try.func14, Try.ntmps14
  go_wp2_with fail
  refine (frame_calls _ _ 1 [97] _ (marked_rd w 5 [97] _ (by decide))).mono ?_
  rintro e w1 ⟨v1, rfl, hown1, hf1⟩
  rw [known_frame] at hown1 ⊢
  have hf1' := ((Fr.refl No w).alloc _).trans hf1 (fun _ _ hn => hn)
  clear hf1
  obtain ⟨A1, c1, rfl, _, _, _⟩ := own_form hown1
  go_wp2_with fail
  refine (uint_calls 300 _ (by omega)).mono ?_
  rintro e w2 ⟨v2, rfl, hown2, hf2⟩
  rw [known_uint] at hown2
  obtain ⟨A2, c2, rfl, _, _, _⟩ := own_form hown2
  have hr2 : RdB w2 _ A2 [0xac, 2] := own_rd hown2 (by decide)
  go_wp2_with (refine wpList_str Try.underlying22 Try.underlying5 Try.underlying9 rfl (.tmp 9) rfl rfl rfl hr2 ?_)
  refine (fold_calls (-1) _ (by omega) (by omega)).mono ?_
  rintro e _ ⟨rfl, rfl⟩
  rw [known_fold]
  go_wp2_with fail
  refine (sum_calls _ _ 9 [49, 50, 51, 52, 53, 54, 55, 56, 57] _ (marked_rd w2 5 [49, 50, 51, 52, 53, 54, 55, 56, 57] _ (by decide))).mono ?_
  rintro e _ ⟨rfl, rfl⟩
  rw [known_sum]
  have hr1 : RdB w1 _ A1 [0, 0, 0, 1, 0xe8, 0xb7, 0xbe, 0x43, 97] := own_rd hown1 (by decide)
  have hr1' := Rd.alloc (Rd.fr0 hr1 hf2) (Obj.cells (U8 [49, 50, 51, 52, 53, 54, 55, 56, 57]).toArray 5 (9, 10))
  go_wp2_with (refine wpList_str Try.underlying22 Try.underlying5 Try.underlying9 rfl (.tmp 27) rfl rfl rfl hr1' ?_)
  go_ret
  exact ⟨rfl, (hf1'.trans hf2 (fun _ _ hn => hn)).alloc _⟩
end Go.Proofs.Ytonpnplcbcagfaa
