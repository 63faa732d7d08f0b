/- The law's known. No condition. -/
import Derived.Test.YtmcmjnflahfbkaaVGiven
namespace Go.Proofs.Ytmcmjnflahfbkaa
set_option linter.unusedVariables false
set_option linter.unusedSimpArgs false
open Go.RowKit Go.Maps

def kDone : List Txn := [⟨0, 3, [], [5, 7]⟩]
theorem k1 : checkM kDone ⟨2, 0, [7], []⟩ = some 7 := by decide
theorem k2 : checkM kDone ⟨3, 0, [7], []⟩ = none := by decide
theorem wf_small : ∀ x : Int, 0 ≤ x → x ≤ 100 → (Lit.int .i64 x).wf = true := by
  intro x h1 h2
  simp [Lit.wf, IntKind.min, IntKind.max, IntKind.signed, IntKind.bits]; omega
theorem kRoom (a : Int) (h : a = 2 ∨ a = 3) : Room kDone ⟨a, 0, [7], []⟩ (sinceP a) := by
  refine ⟨⟨?_, ?_⟩, ?_, ?_, ?_⟩
  · intro x hx; simp at hx; subst hx; exact wf_small 7 (by omega) (by omega)
  · intro x hx; simp at hx
  · intro d hd x hx
    simp [kDone] at hd; subst hd
    simp at hx
    rcases hx with rfl | rfl
    · exact wf_small 5 (by omega) (by omega)
    · exact wf_small 7 (by omega) (by omega)
  · intro d hd _; simp [kDone] at hd; subst hd; simp
  · rcases h with rfl | rfl <;> decide
theorem rd_i64s (w : World) (g : Nat) (l : List Int) (t : TypeId) (hb : Blk w g t (I64 l).toArray) (hl : l.length ≤ 100) : RdI w (fun b => b = g) (some ⟨g, 0, none⟩) l := by
  have := hb.rd (size := 1) (n := l.length) (by simp [I64]) (by omega)
  simpa [RdI] using this

theorem kRdT (w : World) (g h : Nat) (t1 t2 : TypeId) (hb : Blk w g t1 #[.int .i64 5, .int .i64 7]) (hc : Blk w h t2 #[.int .i64 0, .int .i64 3, .slice none 0 0, .slice (some ⟨g, 0, none⟩) 2 2]) :
    RdT w (fun _ => True) (some ⟨h, 0, none⟩) kDone := by
  refine ⟨[.int .i64 0, .int .i64 3, .slice none 0 0, .slice (some ⟨g, 0, none⟩) 2 2], (hc.rd (size := 4) (n := 1) (by rfl) (by decide)).mono (fun _ _ _ => trivial) (by decide), _, [], by simp, ⟨none, 0, some ⟨g, 0, none⟩, 2, rfl, Rd.nil_, ?_⟩, rfl⟩
  exact Rd.mono (rd_i64s w g [5, 7] t1 hb (by simp)) (fun _ _ _ => trivial) (by decide)
theorem kTxn (w : World) (g : Nat) (t1 : TypeId) (a : Int) (hb : Blk w g t1 #[.int .i64 7]) : TxnC w (fun _ => True) [.int .i64 a, .int .i64 0, .slice (some ⟨g, 0, none⟩) 1 1, .slice none 0 0] ⟨a, 0, [7], []⟩ :=
  ⟨some ⟨g, 0, none⟩, 1, none, 0, rfl, Rd.mono (rd_i64s w g [7] t1 hb (by simp)) (fun _ _ _ => trivial) (by decide), Rd.nil_⟩
set_option maxHeartbeats 1000000 in
theorem known_calls (w : World) : Calls Try.prog 9 #[] w fun e w' => e = .returned (.bool true) ∧ Fr No w w' := by
  have K1 := Lib.hid k1
  have K2 := Lib.hid k2
  go_enter Try.func9, Try.ntmps9
  go_wp2_with fail
  have hA := Blk.new w 2 #[.int .i64 5, .int .i64 7]
  have hB : Blk _ (w.heap.size + 1) _ _ := Blk.newAt (w := w.alloc (.cells #[.int .i64 5, .int .i64 7] 2)) (t := 32) (cs := #[.int .i64 0, .int .i64 3, .slice none 0 0, .slice (some ⟨w.heap.size, 0, none⟩) 2 2]) (by simp)
  have hA2 := hA.alloc (.cells #[.int .i64 0, .int .i64 3, .slice none 0 0, .slice (some ⟨w.heap.size, 0, none⟩) 2 2] 32)
  have hf1 : Fr No w ((w.alloc (.cells #[.int .i64 5, .int .i64 7] 2)).alloc (.cells #[.int .i64 0, .int .i64 3, .slice none 0 0, .slice (some ⟨w.heap.size, 0, none⟩) 2 2] 32)) := ((Fr.refl No w).alloc _).alloc _
  have hs1 : ((w.alloc (.cells #[.int .i64 5, .int .i64 7] 2)).alloc (.cells #[.int .i64 0, .int .i64 3, .slice none 0 0, .slice (some ⟨w.heap.size, 0, none⟩) 2 2] 32)).heap.size = w.heap.size + 1 + 1 := by simp
  generalize (w.alloc (.cells #[.int .i64 5, .int .i64 7] 2)).alloc (.cells #[.int .i64 0, .int .i64 3, .slice none 0 0, .slice (some ⟨w.heap.size, 0, none⟩) 2 2] 32) = w1 at *
  clear hA
  refine (check_calls (fun _ => True) _ 1 kDone [.int .i64 2, .int .i64 0, .slice (some ⟨w.heap.size + 1 + 1, 0, none⟩) 1 1, .slice none 0 0] ⟨2, 0, [7], []⟩ _ (kRdT _ _ _ _ _ (hA2.alloc _) (hB.alloc _)) (kTxn _ _ 2 2 (Blk.newAt hs1.symm)) (kRoom 2 (.inl rfl))).mono ?_
  rintro e w2 ⟨rfl, hf2⟩
  rw [K1.out]
  simp only [iv, errOf, Option.getD_some, Option.isSome_some, if_true]
  have hf12 := (Fr.refl No w1).alloc (.cells #[.int .i64 7] 2) |>.tr hf2
  have hA3 := hA2.fr0 hf12
  have hB3 := hB.fr0 hf12
  go_wp2_with fail
  refine (check_calls (fun _ => True) _ 1 kDone [.int .i64 3, .int .i64 0, .slice (some ⟨w2.heap.size, 0, none⟩) 1 1, .slice none 0 0] ⟨3, 0, [7], []⟩ _ (kRdT _ _ _ _ _ (hA3.alloc _) (hB3.alloc _)) (kTxn _ _ 2 3 (Blk.new _ _ _)) (kRoom 3 (.inr rfl))).mono ?_
  rintro e w3 ⟨rfl, hf3⟩
  rw [K2.out]
  simp only [iv, errOf, Option.getD_none, Option.isSome_none]
  go_wp2
  go_ret
  exact ⟨rfl, hf1.tr (hf12.tr (((Fr.refl No w2).alloc _).tr hf3))⟩
end Go.Proofs.Ytmcmjnflahfbkaa
