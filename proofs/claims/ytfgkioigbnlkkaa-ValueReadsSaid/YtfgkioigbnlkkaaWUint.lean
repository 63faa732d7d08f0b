/- wire.Uint, lapidaryref01.Uint; Fold, Unfold of both. No condition. -/
import Derived.Test.YtfgkioigbnlkkaaWGrow
import Derived.Test.YtfgkioigbnlkkaaPUint
namespace Go.Proofs.Ytfgkioigbnlkkaa
set_option linter.unusedVariables false
set_option linter.unusedSimpArgs false
open Go.RowKit

theorem ret_int {k : IntKind} {a b : Int} (h : a = b) : Ending.returned (.int k a) = .returned (.int k b) := by rw [h]
theorem rd_one (w : World) (v : Value) (e : TypeId) : Rd (w.alloc (.cells #[v] e)) (fun b => b = w.heap.size) 1 (some ⟨w.heap.size, 0, none⟩) 1 [v] := by
  refine ⟨rfl, by omega, fun _ => ⟨_, rfl, rfl, fun j u hu => ?_⟩⟩
  match j, hu with
  | 0, hu =>
    simp at hu
    subst hu
    rw [add_plain]
    exact (cell_of_row _ _ 0 _ e (0, 0) (heap_alloc_new w _)).trans rfl

theorem uint_calls (n : Nat) (w : World) (hn : n < 18446744073709551616) :
    Calls Try.prog 49 #[.int .u64 (n : Int)] w fun e w' => ∃ v, e = .returned v ∧ w'.ownsRow w.heap.size 5 1 v (uintL n).length (U8 (uintL n)) ∧ Fr No w w' := by
  go_enter Try.func49, Try.ntmps49
  go_wp2
  go_loopw [0, 3] (fun x v wr => ∃ (m : Nat) (l : List UInt8), m < 18446744073709551616 ∧ x = .int .u64 m ∧ l ++ uintL m = uintL n ∧ wr.ownsRow w.heap.size 5 1 v l.length (U8 l) ∧ Fr No w wr) (fun x _ _ => (intOf x).toNat)
  case atStart => exact ⟨n, [], hn, rfl, rfl, World.ownsRow_nil _ _ _ _, Fr.refl _ _⟩
  case round =>
    obtain ⟨m, l, hm, rfl, hl, hown, hf⟩ := hrel
    have hlen := (uintL_ten n hn).2
    rw [← hl, List.length_append] at hlen
    have HL := Lib.hid hl
    clear hl
    by_cases hlt : m < 128
    · have H1 := Lib.hid (uintL_small m hlt)
      have e1 : (m : Int) = ((UInt8.ofNat m).toNat : Int) := by rw [UInt8.toNat_ofNat']; omega
      have HE := Lib.hid e1
      clear e1
      go_wp2_with (at_builtin; refine wpList_app so_u8 (hown.alloc _) (rd_one _ _ _) (by simp [Value.oneCell']) (by omega) (by have := hf.size; simp; omega) rfl rfl rfl rfl ?_; intro v2 w2 hown2 hg2 hat2)
      go_ret
      refine ⟨_, rfl, ?_, (hf.alloc _).grown hg2 (fun b hb => .inl (hown.lt b hb).1)⟩
      rw [← HL.out, H1.out, U8_append, List.length_append]
      rw [HE.out] at hown2
      exact hown2
    · have H1 := Lib.hid (uintL_big m hlt)
      have e1 : bits .or .u8 128 ((m : Int) % 256) = ((UInt8.ofNat (128 + m % 128)).toNat : Int) := more_byte m
      have HE := Lib.hid e1
      clear e1
      go_wp2_with (at_builtin; refine wpList_app so_u8 (hown.alloc _) (rd_one _ _ _) (by simp [Value.oneCell']) (by omega) (by have := hf.size; simp; omega) rfl rfl rfl rfl ?_; intro v2 w2 hown2 hg2 hat2)
      go_roundw
      case rel =>
        refine ⟨m / 128, l ++ [UInt8.ofNat (128 + m % 128)], by omega, by go_num, ?_, ?_, (hf.alloc _).grown hg2 (fun b hb => .inl (hown.lt b hb).1)⟩
        · rw [← HL.out, H1.out, List.append_assoc]; rfl
        · rw [HE.out] at hown2
          rw [U8_append, List.length_append]
          exact hown2
      case measure => simp [intOf]; omega
set_option maxRecDepth 100000 in
theorem refuint_calls (n : Nat) (w : World) (hn : n < 18446744073709551616) :
    Calls Try.prog 50 #[.int .u64 (n : Int)] w fun e w' => ∃ v, e = .returned v ∧ w'.ownsRow w.heap.size 5 1 v (uintL n).length (U8 (uintL n)) ∧ Fr No w w' := by
  go_enter Try.func50, Try.ntmps50
  go_wp2
  go_loopw [0, 3] (fun x v wr => ∃ (m : Nat) (l : List UInt8), m < 18446744073709551616 ∧ x = .int .u64 m ∧ l ++ uintL m = uintL n ∧ wr.ownsRow w.heap.size 5 1 v l.length (U8 l) ∧ Fr No w wr) (fun x _ _ => (intOf x).toNat)
  case atStart => exact ⟨n, [], hn, rfl, rfl, World.ownsRow_nil _ _ _ _, Fr.refl _ _⟩
  case round =>
    obtain ⟨m, l, hm, rfl, hl, hown, hf⟩ := hrel
    have hlen := (uintL_ten n hn).2
    rw [← hl, List.length_append] at hlen
    have HL := Lib.hid hl
    clear hl
    by_cases hlt : m < 128
    · have H1 := Lib.hid (uintL_small m hlt)
      have e1 : (m : Int) = ((UInt8.ofNat m).toNat : Int) := by rw [UInt8.toNat_ofNat']; omega
      have HE := Lib.hid e1
      clear e1
      go_wp2_with (at_builtin; refine wpList_app so_u8 (hown.alloc _) (rd_one _ _ _) (by simp [Value.oneCell']) (by omega) (by have := hf.size; simp; omega) rfl rfl rfl rfl ?_; intro v2 w2 hown2 hg2 hat2)
      go_ret
      refine ⟨_, rfl, ?_, (hf.alloc _).grown hg2 (fun b hb => .inl (hown.lt b hb).1)⟩
      rw [← HL.out, H1.out, U8_append, List.length_append]
      rw [HE.out] at hown2
      exact hown2
    · have H1 := Lib.hid (uintL_big m hlt)
      have e1 : (m : Int) % 128 + 128 = ((UInt8.ofNat (128 + m % 128)).toNat : Int) := by rw [UInt8.toNat_ofNat']; omega
      have HE := Lib.hid e1
      clear e1
      go_wp2_with (at_builtin; refine wpList_app so_u8 (hown.alloc _) (rd_one _ _ _) (by simp [Value.oneCell']) (by omega) (by have := hf.size; simp; omega) rfl rfl rfl rfl ?_; intro v2 w2 hown2 hg2 hat2)
      go_roundw
      case rel =>
        refine ⟨m / 128, l ++ [UInt8.ofNat (128 + m % 128)], by omega, by go_num, ?_, ?_, (hf.alloc _).grown hg2 (fun b hb => .inl (hown.lt b hb).1)⟩
        · rw [← HL.out, H1.out, List.append_assoc]; rfl
        · rw [HE.out] at hown2
          rw [U8_append, List.length_append]
          exact hown2
      case measure => simp [intOf]; omega

theorem fold_calls (n : Int) (w : World) (h0 : -9223372036854775808 ≤ n) (h1 : n ≤ 9223372036854775807) :
    Calls Try.prog 56 #[.int .i64 n] w fun e w' => e = .returned (.int .u64 (foldZ n)) ∧ w = w' := by
  have H := Lib.hid (fold_bits n h0 h1)
  go_enter Try.func56, Try.ntmps56
  go_wp2
  go_ret
  exact ⟨by rw [← H.out]; rfl, rfl⟩
theorem reffold_calls (n : Int) (w : World) (h0 : -9223372036854775808 ≤ n) (h1 : n ≤ 9223372036854775807) :
    Calls Try.prog 58 #[.int .i64 n] w fun e w' => e = .returned (.int .u64 (foldZ n)) ∧ w = w' := by
  by_cases h : 0 ≤ n
  · go_enter Try.func58, Try.ntmps58
    go_wp2
    go_ret
    exact ⟨by rw [foldZ, if_pos h]; rfl, rfl⟩
  · go_enter Try.func58, Try.ntmps58
    go_wp2
    go_ret
    exact ⟨ret_int (by rw [foldZ, if_neg (by omega)]; omega), rfl⟩
theorem unfold_calls (m : Int) (w : World) (h0 : 0 ≤ m) (h1 : m ≤ 18446744073709551615) :
    Calls Try.prog 68 #[.int .u64 m] w fun e w' => e = .returned (.int .i64 (unfoldZ m)) ∧ w = w' := by
  have H := Lib.hid (unfold_bits m h0 h1)
  go_enter Try.func68, Try.ntmps68
  go_wp2
  go_ret
  exact ⟨ret_int H.out, rfl⟩
theorem refunfold_calls (m : Int) (w : World) (h0 : 0 ≤ m) (h1 : m ≤ 18446744073709551615) :
    Calls Try.prog 62 #[.int .u64 m] w fun e w' => e = .returned (.int .i64 (unfoldZ m)) ∧ w = w' := by
  go_enter Try.func62, Try.ntmps62
  go_wp2
  · rename_i h
    go_ret
    exact ⟨ret_int (by rw [unfoldZ, if_pos (by simpa using h)]), rfl⟩
  · rename_i h
    go_ret
    exact ⟨ret_int (by rw [unfoldZ, if_neg (by simpa using h)]), rfl⟩
end Go.Proofs.Ytfgkioigbnlkkaa
