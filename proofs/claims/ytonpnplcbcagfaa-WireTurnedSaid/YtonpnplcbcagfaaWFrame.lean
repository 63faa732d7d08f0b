/- wire.head, wire.Frame, lapidaryref01.four, lapidaryref01.Frame. No condition. -/
import Derived.Test.YtonpnplcbcagfaaWUint
import Derived.Test.YtonpnplcbcagfaaWSum
namespace Go.Proofs.Ytonpnplcbcagfaa
set_option linter.unusedVariables false
set_option linter.unusedSimpArgs false
open Go.RowKit

def b4 (n : Nat) : List UInt8 := [UInt8.ofNat (n / 16777216), UInt8.ofNat (n / 65536), UInt8.ofNat (n / 256), UInt8.ofNat n]
/-- the head behind k rounds -/
def headAt (n s k : Nat) : Array Value := (U8 ((b4 n).take k ++ List.replicate (4 - k) 0 ++ (b4 s).take k ++ List.replicate (4 - k) 0)).toArray
def hv (n k : Nat) : Value := .int .u8 ((n : Int) / 2 ^ (24 - 8 * k) % 256)
theorem headAt_succ (n s k : Nat) (hk : k < 4) : ((headAt n s k).setIfInBounds k (hv n k)).setIfInBounds (4 + k) (hv s k) = headAt n s (k + 1) ∧
    ((headAt n s k).setIfInBounds (4 + k) (hv s k)).setIfInBounds k (hv n k) = headAt n s (k + 1) := by
  match k, hk with
  | 0, _ => constructor <;> simp [headAt, hv, U8, b4, List.replicate_succ]
  | 1, _ => constructor <;> simp [headAt, hv, U8, b4, List.replicate_succ]
  | 2, _ => constructor <;> simp [headAt, hv, U8, b4, List.replicate_succ]
  | 3, _ => constructor <;> simp [headAt, hv, U8, b4, List.replicate_succ]
theorem headAt_size (n s k : Nat) (hk : k ≤ 4) : (headAt n s k).size = 8 := by
  simp [headAt, U8_length, b4]; omega
theorem headAt_one (n s k : Nat) : ∀ u ∈ (headAt n s k).toList, u.oneCell' = true := by
  intro u hu
  exact U8_one _ u (by simpa [headAt] using hu)
theorem ag_8 : AggOf Try.prog 47 8 := ⟨⟨_, Try.underlying47, rfl⟩, by kernel_rfl⟩
theorem head_calls (n s : Nat) (w : World) (hn : n < 4294967296) (hs : s < 4294967296) :
    Calls Try.prog 33 #[.int .i64 n, .int .u32 s] w fun e w' => e = .returned (.agg (U8 (b4 n ++ b4 s)).toArray) ∧ Fr No w w' := by
  go_enter Try.func33, Try.ntmps33
  go_wp2
  go_loopw [7] (fun i wr => ∃ k : Nat, k ≤ 4 ∧ i = .int .i64 k ∧ Blk wr w.heap.size 47 (headAt n s 0) ∧ Blk wr (w.heap.size + 1) 47 (headAt n s k) ∧ Fr No w wr) (fun i _ => 4 - (intOf i).toNat)
  case atStart => exact ⟨0, by omega, rfl, (Blk.new w _ _).alloc _, (by rw [show w.heap.size + 1 = (w.alloc (.cells (headAt n s 0) 47)).heap.size by simp]; exact Blk.new _ _ _), ((Fr.refl No w).alloc _).alloc _⟩
  case round =>
    obtain ⟨k, hk, rfl, hb0, hb1, hf⟩ := hrel
    by_cases hlt : k < 4
    · obtain ⟨hA, hB⟩ := headAt_succ n s k hlt
      have hsz := headAt_size n s k hk
      obtain ⟨v1, hv1⟩ : ∃ v, wr.cell? ⟨w.heap.size + 1, k, none⟩ = some v := ⟨_, (hb1.cell k).trans (Array.getElem?_eq_getElem (by omega))⟩
      obtain ⟨v2, hv2⟩ : ∃ v, wr.cell? ⟨w.heap.size + 1, 4 + k, none⟩ = some v := ⟨_, (hb1.cell (4 + k)).trans (Array.getElem?_eq_getElem (by omega))⟩
      have hf1 := hb1.frozen k
      have hf2 := hb1.frozen (4 + k)
      have HA := Lib.hid hA
      clear hA hB
      go_wp2
      go_region
      all_goals go_wp2
      go_roundw
      case rel => exact ⟨k + 1, by omega, by go_num, ((hb0.far (by simp) _).far (by simp) _).drew, by rw [← HA.out]; exact ((hb1.put _ _).put _ _).drew, ((hf.set (.inl (by simp)) _).set (.inl (by simp)) _).drew⟩
      case measure => simp [intOf] <;> omega
    · obtain rfl : k = 4 := by omega
      go_wp2_with (first
        | (refine wpList_ldA ag_8 rfl _ rfl _ _ rfl (by rw [Array.length_toList, headAt_size _ _ _ hk]) hb1.all ?_)
        | (refine wpList_stA ag_8.info rfl _ _ rfl _ _ _ _ _ _ rfl rfl rfl (by rw [Array.length_toList, headAt_size _ _ _ hk]) (headAt_one _ _ _) hb0 (by rw [headAt_size _ _ _ (by omega)]; decide) ?_; intro w2 hb2 hg2 _))
      rw [splice_all _ _ (by rw [Array.length_toList, headAt_size _ _ _ hk, headAt_size _ _ _ (by omega)])] at hb2
      refine bodyPost_ret (results_blk ag_8 rfl _ _ _ _ _ rfl hb2 (by simpa using headAt_size n s 4 hk)) rfl ⟨?_, hf.grown hg2 (by simp)⟩
      simp [headAt, b4]

def frameL (l : List UInt8) : List UInt8 := b4 l.length ++ b4 (crc l).toNat ++ l
def frameM (l : List UInt8) : List UInt8 × Int := if l.length = 0 ∨ 60000 < l.length then ([], 3) else (frameL l, 0)
theorem frameM_bad (l : List UInt8) (h : l.length = 0 ∨ 60000 < l.length) : frameM l = ([], 3) := by rw [frameM, if_pos h]
theorem frameM_ok (l : List UInt8) (h : 0 < l.length) (h2 : l.length ≤ 60000) : frameM l = (frameL l, 0) := by rw [frameM, if_neg (by omega)]
theorem b4_length (n : Nat) : (b4 n).length = 4 := rfl
theorem frameL_length (l : List UInt8) : (frameL l).length = l.length + 8 := by simp [frameL, b4_length]; omega

/-- What a call hands back as bytes of its own and an error's number. -/
def RetB (w w' : World) (e : Ending) (r : List UInt8 × Int) : Prop :=
  ∃ v, e = .returned (.tuple #[v, .int .i64 r.2]) ∧ w'.ownsRow w.heap.size 5 1 v r.1.length (U8 r.1) ∧ Fr No w w'

theorem frame_calls (S : Nat → Prop) (A : Option Addr) (c : Nat) (l : List UInt8) (w : World) (h : RdB w S A l) :
    Calls Try.prog 23 #[.slice A l.length c] w fun e w' => RetB w w' e (frameM l) := by
  have hle := h.le
  by_cases h0 : l.length = 0
  · have H := Lib.hid (frameM_bad l (.inl h0))
    go_enter Try.func23, Try.ntmps23
    go_wp2
    go_ret2
    rw [H.out]
    exact ⟨_, rfl, World.ownsRow_nil _ _ _ _, Fr.refl _ _⟩
  by_cases h1 : 60000 < l.length
  · have H := Lib.hid (frameM_bad l (.inr h1))
    have e0 : ((l.length : Int) == 0) = false := by simpa using h0
    go_enter Try.func23, Try.ntmps23
    go_wp2
    go_ret2
    rw [H.out]
    exact ⟨_, rfl, World.ownsRow_nil _ _ _ _, Fr.refl _ _⟩
  · have H := Lib.hid (frameM_ok l (by omega) (by omega))
    have e0 : ((l.length : Int) == 0) = false := by simpa using h0
    go_enter Try.func23, Try.ntmps23
    go_wp2_with (first
      | (go_at_call 11; refine (sum_calls S A c l _ h).mono ?_; rintro e w1 ⟨rfl, rfl⟩)
      | (go_at_call 33; refine (head_calls _ _ _ (by omega) (crc l).isLt).mono ?_; rintro e w1 ⟨rfl, hf1⟩)
      | (refine wpList_stA ag_8.info rfl _ _ rfl _ _ _ _ _ _ rfl rfl rfl (by simp [U8_length, b4_length]) (U8_one _) (Blk.new _ _ _) (by decide) ?_; intro w2 hb2 hg2 hz2))
    rw [splice_all _ _ (by simp [U8_length, b4_length])] at hb2
    have hf2 : Fr No w w2 := (hf1.alloc _).grown hg2 (by rintro k hk; injection hk with hk; subst hk; exact .inl hf1.size)
    have hlt2 : w1.heap.size < w2.heap.size := hb2.lt
    clear hg2
    refine (concat2_calls (fun b => b = w1.heap.size ∨ S b) _ _ _ _ _ _ _ _ (b4 l.length ++ b4 (crc l).toNat) l _ _ rfl rfl (Blk.new _ _ _) ?_ ?_ (by simp [b4_length]; omega)).mono ?_
    · refine Rd.alloc ?_ _
      have := hb2.rd (size := 1) (n := 8) (by simp [U8_length, b4_length]) (by omega)
      refine Rd.mono (S := fun b => b = w1.heap.size) ?_ (fun b _ hb => .inl hb) (by decide)
      simpa [RdB, b4_length] using this
    · refine Rd.alloc ?_ _
      exact (Rd.fr0 h hf2).mono (fun b _ hb => .inr hb) (by decide)
    · rintro e w3 ⟨v3, rfl, hown3, hf3⟩
      have hf4 : Fr No w w3 := (hf2.alloc _).trans hf3 (fun _ _ hn => hn)
      go_wp2
      go_ret2
      rw [H.out]
      refine ⟨_, rfl, ?_, hf4⟩
      exact own_down hown3 (by have := hf2.size; simp; omega)

theorem four_calls (n : Nat) (w : World) (hn : n < 4294967296) :
    Calls Try.prog 35 #[.int .u32 (n : Int)] w fun e w' => ∃ v, e = .returned v ∧ w'.ownsRow w.heap.size 5 1 v (b4 n).length (U8 (b4 n)) ∧ Fr No w w' := by
  go_enter Try.func35, Try.ntmps35
  go_wp2
  go_ret
  refine ⟨_, rfl, ⟨rfl, .inr ⟨w.heap.size, 4, _, rfl, Nat.le_refl _, heap_alloc_new w _, Nat.le_refl _, by decide, rfl, ?_⟩⟩, (Fr.refl _ _).alloc _⟩
  simp [b4, U8]
  omega

theorem refframe_calls (S : Nat → Prop) (A : Option Addr) (c : Nat) (l : List UInt8) (w : World) (h : RdB w S A l) :
    Calls Try.prog 24 #[.slice A l.length c] w fun e w' => RetB w w' e (frameM l) := by
  have hle := h.le
  by_cases h0 : l.length = 0
  · have H := Lib.hid (frameM_bad l (.inl h0))
    go_enter Try.func24, Try.ntmps24
    go_wp2
    go_ret2
    rw [H.out]
    exact ⟨_, rfl, World.ownsRow_nil _ _ _ _, Fr.refl _ _⟩
  by_cases h1 : 60000 < l.length
  · have H := Lib.hid (frameM_bad l (.inr h1))
    have e0 : ((l.length : Int) == 0) = false := by simpa using h0
    go_enter Try.func24, Try.ntmps24
    go_wp2
    go_ret2
    rw [H.out]
    exact ⟨_, rfl, World.ownsRow_nil _ _ _ _, Fr.refl _ _⟩
  · have H := Lib.hid (frameM_ok l (by omega) (by omega))
    have e0 : ((l.length : Int) == 0) = false := by simpa using h0
    go_enter Try.func24, Try.ntmps24
    go_wp2_with fail
    refine (four_calls l.length _ (by omega)).mono ?_
    rintro e w1 ⟨v1, rfl, hown1, hf1⟩
    go_wp2_with fail
    refine (refsum_calls S A c l _ (Rd.fr0 h hf1)).mono ?_
    rintro e _ ⟨rfl, rfl⟩
    go_wp2_with fail
    refine (four_calls _ _ (crc l).isLt).mono ?_
    rintro e w2 ⟨v2, rfl, hown2, hf2⟩
    have hown1' := own_fr0 hown1 hf2
    obtain ⟨A2, c2, rfl, hc2, hc2m, hA2⟩ := own_form hown2
    have hf12 : Fr No w w2 := hf1.trans hf2 (fun _ _ hn => hn)
    have hl : (b4 l.length).length = 4 := rfl
    have hl2 : (b4 (crc l).toNat).length = 4 := rfl
    have HL := Lib.hid hl
    have HL2 := Lib.hid hl2
    clear hl hl2
    have hr := Rd.fr0 h hf12
    go_wp2_with (first
      | (at_builtin; refine wpList_app so_u8 hown1' (own_rd hown2 (by rw [HL2.out]; decide)) (U8_one _) (by rw [HL.out, HL2.out]; decide) hf12.size rfl rfl rfl rfl ?_; intro v3 w3 hown3 hg3 hat3; have hf3 : Fr No w w3 := hf12.grown hg3 (fun b hb => .inl (hown1'.lt b hb).1))
      | (at_builtin; refine wpList_app so_u8 hown3 (Rd.fr0 h hf3) (U8_one _) (by rw [HL.out, HL2.out]; omega) hf3.size rfl rfl rfl rfl ?_; intro v4 w4 hown4 hg4 hat4; have hf4 : Fr No w w4 := hf3.grown hg4 (fun b hb => .inl (hown3.lt b hb).1)))
    go_ret2
    rw [H.out]
    refine ⟨_, rfl, ?_, hf4⟩
    simpa [frameL, U8_append, Nat.add_assoc] using hown4
end Go.Proofs.Ytonpnplcbcagfaa
