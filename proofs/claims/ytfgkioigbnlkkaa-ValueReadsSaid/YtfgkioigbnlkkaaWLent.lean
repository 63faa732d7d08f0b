/- lapidaryref01.Lent, Kept, Spoil, Count. No condition. -/
import Derived.Test.YtfgkioigbnlkkaaWGrow
import Derived.Deep.QuietTactic
import Derived.BigQuiet
namespace Go.Proofs.Ytfgkioigbnlkkaa
set_option linter.unusedVariables false
set_option linter.unusedSimpArgs false
open Go.RowKit

def a5 : List UInt8 := List.replicate 8 165
/-- Bytes that were lent: a block of their own, with room behind. -/
def LentAt (w : World) (g : Nat) (l : List UInt8) : Prop := Blk w g 5 (U8 (l ++ a5)).toArray

theorem lent_calls (S : Nat → Prop) (A : Option Addr) (c : Nat) (l : List UInt8) (w : World) (h : RdB w S A l) :
    Calls Try.prog 16 #[.slice A l.length c] w fun e w' => ∃ g, e = .returned (.slice (some ⟨g, 0, none⟩) l.length (l.length + 8)) ∧ w.heap.size ≤ g ∧ LentAt w' g l ∧ Fr No w w' := by
  have hle := h.le
  go_enter Try.func16, Try.ntmps16
  go_wp2_with (first
    | (refine wpList_make so_u8 (n := 0) (c := l.length + 8) (by omega) (by omega) rfl rfl rfl rfl ?_)
    | (at_builtin; refine wpList_app_room so_u8 (Blk.new _ _ _) (Rd.alloc h _) (U8_one _) (by omega) (by simp [size_madeCells]) rfl rfl rfl rfl ?_; intro w1 hb1 hg1 hz1)
    | (at_builtin; refine wpList_app_room so_u8 (hb1.alloc _) (Blk.rd (Blk.new _ _ _) (n := 8) (size := 1) rfl (by omega)) (U8_one a5) (by omega) (by simp [splice_size, size_madeCells, U8_length]) rfl rfl rfl rfl ?_; intro w2 hb2 hg2 hz2))
  go_ret
  have hf1 : Fr No w w1 := ((Fr.refl No w).alloc _).grown hg1 (by rintro k hk; injection hk with hk; subst hk; exact .inl (Nat.le_refl _))
  have hf2 : Fr No w w2 := (hf1.alloc _).grown hg2 (by rintro k hk; injection hk with hk; subst hk; exact .inl (Nat.le_refl _))
  refine ⟨w.heap.size, rfl, Nat.le_refl _, ?_, hf2⟩
  have e := splice_made #[Value.int IntKind.u8 0] (U8 l) (U8 a5) (l.length + 8) (by simp [U8_length]; rfl)
  rw [U8_length] at e
  unfold LentAt
  rw [U8_append, ← e]
  simp only [Nat.zero_mul, Nat.mul_one] at hb2
  exact hb2

theorem LentAt.rd {w : World} {g : Nat} {l : List UInt8} (h : LentAt w g l) (hl : l.length ≤ 211106232532992) : RdB w (fun b => b = g) (some ⟨g, 0, none⟩) l := by
  refine ⟨by simp [U8_length], hl, fun _ => ⟨_, rfl, rfl, fun j u hu => ?_⟩⟩
  rw [add_plain, Blk.cell h]
  have hj : j < (U8 l).length := (List.getElem?_eq_some_iff.1 hu).1
  simpa [U8_append, List.getElem?_append_left hj] using hu
theorem LentAt.rd8 {w : World} {g : Nat} {l : List UInt8} (h : LentAt w g l) (hl : l.length + 8 ≤ 211106232532992) : RdB w (fun b => b = g) (some ⟨g, 0, none⟩) (l ++ a5) := by
  refine ⟨by simp [U8_length], by simpa [a5] using hl, fun _ => ⟨_, rfl, rfl, fun j u hu => ?_⟩⟩
  rw [add_plain, Blk.cell h]
  simpa using hu

theorem kept_calls (S : Nat → Prop) (A : Option Addr) (g c : Nat) (l : List UInt8) (w : World) (hg : LentAt w g l) (h : RdB w S A l) (hl : l.length + 8 ≤ 211106232532992) :
    Calls Try.prog 18 #[.slice (some ⟨g, 0, none⟩) l.length (l.length + 8), .slice A l.length c] w fun e w' => e = .returned (.bool true) ∧ Fr No w w' := by
  have hs8 : (l ++ a5).length = l.length + 8 := by simp [a5]
  have HS := Lib.hid hs8
  clear hs8
  go_enter Try.func18, Try.ntmps18
  go_wp2_with (first
    | (refine wpList_str Try.underlying23 Try.underlying5 Try.underlying9 rfl (.tmp 5) rfl rfl rfl (hg.rd (by omega)) ?_)
    | (refine wpList_str Try.underlying23 Try.underlying5 Try.underlying9 rfl (.tmp 7) rfl rfl rfl h ?_))
  have hc1 : ∀ n, Sem.run Try.prog (convert 23 9 (.slice (some ⟨g, 0, none⟩) (l.length + 8) (l.length + 8))) (w.drewN n) = .ok (.string ⟨(l ++ a5).toArray⟩) (w.drewN n) := fun n => by
    rw [← HS.out]
    exact run_str (w.drewN n) Try.underlying23 Try.underlying5 Try.underlying9 _ (Rd.drewN (hg.rd8 hl) n)
  have hc2 : ∀ n, Sem.run Try.prog (convert 23 9 (.slice A l.length c)) (w.drewN n) = .ok (.string ⟨l.toArray⟩) (w.drewN n) := fun n =>
    run_str (w.drewN n) Try.underlying23 Try.underlying5 Try.underlying9 _ (Rd.drewN h n)
  go_quiet (fail)
  go_wp2
  go_ret
  refine ⟨?_, (Fr.refl No w).drewN _⟩
  have e : (ByteArray.mk l.toArray ++ ByteArray.mk #[165, 165, 165, 165, 165, 165, 165, 165]) = ByteArray.mk (l ++ a5).toArray := by
    apply ByteArray.ext
    simp [a5, List.replicate_succ]
  rw [e]
  simp
end Go.Proofs.Ytfgkioigbnlkkaa
