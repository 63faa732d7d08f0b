/- slices.Grow at nil, slices.Concat of byte slices. No condition but the room. -/
import Derived.Test.YtfgkioigbnlkkaaSoU8
namespace Go.Proofs.Ytfgkioigbnlkkaa
set_option linter.unusedVariables false
set_option linter.unusedSimpArgs false
open Go.RowKit

theorem grow_nil (n : Nat) (w : World) (hn : n ≤ 211106232532992) :
    Calls Try.prog 71 #[.slice none 0 0, .int .i64 (n : Int)] w fun e w' => ∃ v, e = .returned v ∧ w'.ownsRow w.heap.size 5 1 v 0 [] ∧ Fr No w w' := by
  rcases Nat.eq_zero_or_pos n with rfl | h0
  · go_enter Try.func71, Try.ntmps71
    go_wp2
    go_ret
    exact ⟨_, rfl, World.ownsRow_nil _ _ _ _, Fr.refl _ _⟩
  · go_enter Try.func71, Try.ntmps71
    go_wp2_with (at_builtin; refine wpList_app_zeros so_u8 rfl _ _ _ rfl Try.underlying3 n h0 rfl rfl (by omega) ?_; intro c cs h1 h2 h3)
    go_ret
    exact ⟨_, rfl, own_zero _ _ _ _ cs (Nat.le_refl _) (heap_alloc_new w _) h2 h3, ((Fr.refl _ _).alloc _).drew⟩

/-- Elements that are byte slices. -/
def RdBs (w : World) (S : Nat → Prop) (vs : List Value) (ls : List (List UInt8)) : Prop :=
  vs.length = ls.length ∧ ∀ i, i < ls.length → ∃ A c, vs[i]? = some (.slice A (ls.getD i []).length c) ∧ RdB w S A (ls.getD i [])
theorem RdBs.keep {w w' : World} {S T : Nat → Prop} {vs : List Value} {ls : List (List UInt8)} (h : RdBs w S vs ls) (hf : Fr T w w') (hd : ∀ b, S b → ¬ T b) : RdBs w' S vs ls :=
  ⟨h.1, fun i hi => by
    obtain ⟨A, c, h1, h2⟩ := h.2 i hi
    exact ⟨A, c, h1, Rd.fr h2 hf hd⟩⟩
def total (ls : List (List UInt8)) : Nat := (ls.map List.length).sum
theorem total_take (ls : List (List UInt8)) (k : Nat) (hk : k < ls.length) : total (ls.take (k + 1)) = total (ls.take k) + (ls.getD k []).length := by
  unfold total
  rw [List.take_succ_eq_append_getElem hk, List.map_append, List.sum_append]
  simp [List.getD_eq_getElem?_getD, hk]
theorem total_le (ls : List (List UInt8)) (k : Nat) : total (ls.take k) ≤ total ls := by
  have h : total ls = total (ls.take k) + total (ls.drop k) := by
    unfold total
    rw [← List.sum_append, ← List.map_append, List.take_append_drop]
  omega
theorem flat_len (ls : List (List UInt8)) : ls.flatten.length = total ls := by simp [total]
theorem flat_take (ls : List (List UInt8)) (k : Nat) (hk : k < ls.length) : (ls.take (k + 1)).flatten = (ls.take k).flatten ++ ls.getD k [] := by
  rw [List.take_succ_eq_append_getElem hk, List.flatten_append]
  simp [List.getD_eq_getElem?_getD, hk]

theorem concat_calls (S T : Nat → Prop) (A : Option Addr) (c : Nat) (vs : List Value) (ls : List (List UInt8)) (w : World)
    (h : Rd w S 1 A ls.length vs) (hb : RdBs w T vs ls) (ht : total ls ≤ 211106232532992) :
    Calls Try.prog 67 #[.slice A ls.length c] w fun e w' => ∃ v, e = .returned v ∧ w'.ownsRow w.heap.size 5 1 v ls.flatten.length (U8 ls.flatten) ∧ Fr No w w' := by
  have hle := h.le
  go_enter Try.func67, Try.ntmps67
  go_wp2
  go_loop [3, 11] (fun s i => ∃ k : Nat, k ≤ ls.length ∧ i = .int .i64 k ∧ s = .int .i64 (total (ls.take k))) (fun _ i => ls.length - (intOf i).toNat)
  case atStart => exact ⟨0, Nat.zero_le _, rfl, rfl⟩
  case round =>
    obtain ⟨k, hk, rfl, rfl⟩ := hrel
    have hk1 := total_le ls k
    by_cases hlt : k < ls.length
    · obtain ⟨ad, u, hA, _, hv, hc⟩ := h.at_ hlt
      obtain ⟨B, d, hv2, hB⟩ := hb.2 k hlt
      have hu : u = .slice B (ls.getD k []).length d := by rw [hv] at hv2; injection hv2
      have hT1 := total_le ls (k + 1)
      have HT := Lib.hid (total_take ls k hlt)
      rw [HT.out] at hT1
      subst hA hu
      clear hv hv2
      generalize ls.getD k [] = x at *
      go_wp2
      go_round
      case rel => exact ⟨k + 1, by omega, by go_num, by rw [HT.out]; go_num⟩
      case measure => simp [intOf]; omega
    · obtain rfl : k = ls.length := by omega
      rw [List.take_length] at *
      go_wp2_with (go_at_call 71; refine (grow_nil _ _ ht).mono ?_; rintro e w1 ⟨v1, rfl, hown, hf⟩)
      go_loopw [6, 27] (fun v i wr => ∃ k : Nat, k ≤ ls.length ∧ i = .int .i64 k ∧ wr.ownsRow w.heap.size 5 1 v (ls.take k).flatten.length (U8 (ls.take k).flatten) ∧ Fr No w wr) (fun _ i _ => ls.length - (intOf i).toNat)
      case atStart => exact ⟨0, Nat.zero_le _, rfl, hown, hf⟩
      case round =>
        obtain ⟨k, hk, rfl, hown, hf⟩ := hrel
        by_cases hlt : k < ls.length
        · obtain ⟨ad, u, hA, hSa, hv, hc0⟩ := h.at_ hlt
          have hc := hf.cell_some hc0 (fun hn => hn)
          clear hc0
          obtain ⟨B, d, hv2, hB0⟩ := hb.2 k hlt
          have hB := Rd.fr0 hB0 hf
          have hu : u = .slice B (ls.getD k []).length d := by rw [hv] at hv2; injection hv2
          have hT1 := total_le ls (k + 1)
          rw [← flat_len (ls.take (k + 1)), flat_take ls k hlt] at hT1
          have HT := Lib.hid (flat_take ls k hlt)
          subst hA hu
          clear hv hv2 hB0
          generalize ls.getD k [] = x at *
          generalize (ls.take k).flatten = y at *
          rw [List.length_append] at hT1
          go_wp2_with (at_builtin; refine wpList_app so_u8 hown hB (U8_one _) (by omega) hf.size rfl rfl rfl rfl ?_; intro v2 w2 hown2 hg2 hat2)
          go_roundw
          case rel => exact ⟨k + 1, by omega, by go_num, by rw [HT.out, List.length_append, U8_append]; exact hown2, hf.grown hg2 (fun b hb => .inl (hown.lt b hb).1)⟩
          case measure => simp [intOf]; omega
        · obtain rfl : k = ls.length := by omega
          rw [List.take_length] at hown
          go_wp2
          go_ret
          exact ⟨_, rfl, hown, hf⟩

theorem RdBs.two {w : World} {T : Nat → Prop} {A1 A2 : Option Addr} {c1 c2 : Nat} {l1 l2 : List UInt8} (h1 : RdB w T A1 l1) (h2 : RdB w T A2 l2) :
    RdBs w T [.slice A1 l1.length c1, .slice A2 l2.length c2] [l1, l2] :=
  ⟨rfl, fun i hi => match i, hi with
    | 0, _ => ⟨A1, c1, rfl, h1⟩
    | 1, _ => ⟨A2, c2, rfl, h2⟩⟩
theorem concat2_calls (T : Nat → Prop) (g d : Nat) (A1 A2 : Option Addr) (c1 c2 n1 n2 : Nat) (l1 l2 : List UInt8) (t : TypeId) (w : World) (hn1 : n1 = l1.length) (hn2 : n2 = l2.length)
    (hg : Blk w g t #[.slice A1 n1 c1, .slice A2 n2 c2]) (h1 : RdB w T A1 l1) (h2 : RdB w T A2 l2) (ht : l1.length + l2.length ≤ 211106232532992) :
    Calls Try.prog 67 #[.slice (some ⟨g, 0, none⟩) 2 d] w fun e w' => ∃ v, e = .returned v ∧ w'.ownsRow w.heap.size 5 1 v (l1 ++ l2).length (U8 (l1 ++ l2)) ∧ Fr No w w' := by
  subst hn1 hn2
  have h := concat_calls (fun b => b = g) T (some ⟨g, 0, none⟩) d [.slice A1 l1.length c1, .slice A2 l2.length c2] [l1, l2] w (hg.rd rfl (by simp)) (RdBs.two h1 h2) (by simpa [total] using ht)
  simpa using h
/-- What a call hands back as bytes of its own and an error's number. -/
def RetB (w w' : World) (e : Ending) (r : List UInt8 × Int) : Prop :=
  ∃ v, e = .returned (.tuple #[v, .int .i64 r.2]) ∧ w'.ownsRow w.heap.size 5 1 v r.1.length (U8 r.1) ∧ Fr No w w'
end Go.Proofs.Ytfgkioigbnlkkaa
