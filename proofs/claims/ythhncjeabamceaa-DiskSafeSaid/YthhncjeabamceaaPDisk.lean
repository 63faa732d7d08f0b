/- What the law of the failing write comes to, as plain data. No condition. -/
import Derived.Test.YthhncjeabamceaaDKnown
namespace Go.Proofs.Ythhncjeabamceaa
set_option linter.unusedVariables false
set_option linter.unusedSimpArgs false
open Go.RowKit

/-- A device of 16 of which so many were written, from the first on. -/
def dW (s : Sec) (D : Nat) (dead : Bool) (left : Nat) : DiskM := ⟨zeros 16, List.replicate D s ++ List.replicate (16 - D) zsec, (List.range D).map (fun k => (k, s)), dead, left⟩
theorem upto8 {D : Nat} (h : D ≤ 8) : D = 0 ∨ D = 1 ∨ D = 2 ∨ D = 3 ∨ D = 4 ∨ D = 5 ∨ D = 6 ∨ D = 7 ∨ D = 8 := by omega
theorem upto10 {D : Nat} (h : D ≤ 10) (h1 : 1 ≤ D) : D = 1 ∨ D = 2 ∨ D = 3 ∨ D = 4 ∨ D = 5 ∨ D = 6 ∨ D = 7 ∨ D = 8 ∨ D = 9 ∨ D = 10 := by omega
set_option maxHeartbeats 2000000 in
theorem puts_yes (s : Sec) (N M : Nat) (h1 : 1 ≤ M) (h2 : M ≤ 8) (h3 : M < N) (h4 : N ≤ 10) : putsM { zeroM 16 with left := N } 0 (List.replicate M s) = (dW s M false (N - M), true) := by
  unfold zeroM dW zeros
  generalize zsec = z
  rcases upto8 h2 with rfl | rfl | rfl | rfl | rfl | rfl | rfl | rfl | rfl <;> rcases upto10 h4 (by omega) with rfl | rfl | rfl | rfl | rfl | rfl | rfl | rfl | rfl | rfl <;> first | (exfalso; omega) | kernel_rfl
set_option maxHeartbeats 2000000 in
theorem puts_no (s : Sec) (N M : Nat) (h1 : 1 ≤ N) (h2 : M ≤ 8) (h3 : N ≤ M) : putsM { zeroM 16 with left := N } 0 (List.replicate M s) = (dW s (N - 1) true 1, false) := by
  unfold zeroM dW zeros
  generalize zsec = z
  rcases upto8 h2 with rfl | rfl | rfl | rfl | rfl | rfl | rfl | rfl | rfl <;> rcases upto10 (show N ≤ 10 by omega) h1 with rfl | rfl | rfl | rfl | rfl | rfl | rfl | rfl | rfl | rfl <;> first | (exfalso; omega) | kernel_rfl
theorem puts_dead (s t : Sec) (D : Nat) : putsM (dW s D true 1) 0 [t] = (dW s D true 1, false) := rfl
def dE (s : Sec) (D : Nat) : DiskM := ⟨List.replicate D s ++ List.replicate (16 - D) zsec, List.replicate D s ++ List.replicate (16 - D) zsec, [], false, 0⟩
theorem crash_dW (s : Sec) (D : Nat) (dead : Bool) (left : Nat) (h : D ≤ 8) : crashM (dW s D dead left) (List.replicate D true) = dE s D := by
  unfold dE dW zeros
  generalize zsec = z
  rcases upto8 h with rfl | rfl | rfl | rfl | rfl | rfl | rfl | rfl | rfl <;> kernel_rfl
set_option maxHeartbeats 2000000 in
theorem puts_dE (s t : Sec) (D : Nat) (h : D ≤ 8) : (putsM (dE s D) 0 (List.replicate 16 t)).2 = true := by
  unfold dE
  generalize zsec = z
  rcases upto8 h with rfl | rfl | rfl | rfl | rfl | rfl | rfl | rfl | rfl <;> kernel_rfl
theorem dE_len (s : Sec) (D : Nat) (h : D ≤ 8) : (dE s D).now.length = 16 := by simp [dE]; omega
theorem dW_len (s : Sec) (D : Nat) (dead : Bool) (left : Nat) (h : D ≤ 8) : (dW s D dead left).now.length = 16 := by simp [dW]; omega
theorem dE_bytes (b : UInt8) (D : Nat) (h : D ≤ 8) : (((dE (fsec b) D).now.drop 0).take 16).flatten = List.replicate (D * 128) b ++ List.replicate ((16 - D) * 128) 0 := by
  rw [List.drop_zero, List.take_of_length_le (by rw [dE_len _ _ h]; decide)]
  show (List.replicate D (fsec b) ++ List.replicate (16 - D) zsec).flatten = _
  rw [List.flatten_append, fsecs_flat, zsec, List.flatten_replicate_replicate]

set_option maxRecDepth 100000 in
theorem flush_dead (w : World) (X : Nat → Prop) (H : Nat) (d : DiskM) (h : DiskAt w X H d) (hdead : d.dead = true) :
    Calls Try.prog 12 #[.pointer (some ⟨H, 0, none⟩)] w fun e w' => e = .returned (.int .i64 14) ∧ w = w' := by
  obtain ⟨gs, cs, gn, cn, A, c, hb, _⟩ := h
  have q3 := hb.cell 3
  simp only [List.getElem?_toArray, List.getElem?_cons_zero, List.getElem?_cons_succ] at q3
  rw [hdead] at q3
  clear hdead
  go_enter Try.func12, Try.ntmps12
  go_wp2
  go_ret
  exact ⟨rfl, rfl⟩
theorem so_bool : SliceOf Try.prog 23 4 (.bool false) 1 1 := ⟨Try.underlying23, by kernel_rfl, rfl, by decide, by decide, by decide⟩
theorem BLs_snoc (n : Nat) : BLs (List.replicate (n + 1) true) = BLs (List.replicate n true) ++ [.bool true] := by
  rw [List.replicate_succ']; simp [BLs]
theorem BLs_one (ks : List Bool) : ∀ u ∈ BLs ks, u.oneCell' = true := by
  intro u hu
  obtain ⟨x, _, rfl⟩ := List.mem_map.1 hu
  rfl
/-- A write's answer when the range is right: a bool that is known. -/
theorem WriteR.ok {w w' : World} {X Y : Nat → Prop} {H : Nat} {r : DiskM × Bool} {e : Ending} (h : WriteR w X Y H r e w') (hr : r.2 = true) : e = .returned (.int .i64 0) ∧ Left w X Y H r.1 w' := ⟨by rw [h.1, if_pos hr], h.2⟩
theorem WriteR.bad {w w' : World} {X Y : Nat → Prop} {H : Nat} {r : DiskM × Bool} {e : Ending} (h : WriteR w X Y H r e w') (hr : r.2 = false) : e = .returned (.int .i64 14) ∧ Left w X Y H r.1 w' := ⟨by rw [h.1, if_neg (by rw [hr]; exact Bool.false_ne_true)], h.2⟩
/-- What a call wrote of one byte, handed to Write. -/
theorem full_in {w : World} {X : Nat → Prop} {g n : Nat} {b : UInt8} (h : Blk w g 5 (U8 (List.replicate (n * 128) b)).toArray) (hn : n ≤ 4096) (hX : ¬ X g) : Rd w (fun x => ¬ X x) 1 (some ⟨g, 0, none⟩) ((List.replicate n (fsec b)).length * 128) (U8 (List.replicate n (fsec b)).flatten) := by
  rw [fsecs_flat, List.length_replicate]
  exact (full_rd h hn).mono (fun x _ hx => by subst hx; exact hX) (by decide)
/-- Write of some sectors of one byte. -/
theorem write_full (w : World) (X Y : Nat → Prop) (H : Nat) (d : DiskM) (k n : Nat) (b : UInt8) (g : Nat) (h : DiskAt w X H d) (hb : Blk w g 5 (U8 (List.replicate (n * 128) b)).toArray) (hg : ¬ X g) (hn : 1 ≤ n) (hfit : k + n ≤ d.now.length) (hway : d.way.length ≤ 50000) (hleft : d.left ≤ 1000000) (hXY : ∀ b, X b → Y b) (hY : ∀ b, w.heap.size ≤ b → Y b) :
    Calls Try.prog 9 #[.pointer (some ⟨H, 0, none⟩), .int .i64 (k : Int), .slice (some ⟨g, 0, none⟩) (n * 128) (n * 128)] w (WriteR w X Y H (putsM d k (List.replicate n (fsec b)))) := by
  have hmax : d.now.length ≤ 4096 := by obtain ⟨_, _, _, _, _, _, hP⟩ := h; exact hP.2.2.2.2.2.2.2.2.1
  have hl : (List.replicate n (fsec b)).length = n := List.length_replicate ..
  have := write_calls w X Y H d k (List.replicate n (fsec b)) (some ⟨g, 0, none⟩) (n * 128) h (full_in hb (by omega) hg) (fsecs_len n b) (by rw [hl]; exact Nat.le_refl _) (Nat.le_trans (show n * 128 ≤ 524288 by omega) (by decide)) (by rw [hl]; exact hn) (by rw [hl]; exact hfit) hway hleft hXY hY
  rw [hl] at this
  exact this
end Go.Proofs.Ythhncjeabamceaa
