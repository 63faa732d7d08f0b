/- The walk of lapidarylaw01.WireTurned. No condition but that a slice can hold the bytes. -/
import Derived.Test.YtonpnplcbcagfaaPTurn
import Derived.Test.YtonpnplcbcagfaaWReadF
import Derived.Test.YtonpnplcbcagfaaWKnown
import Derived.Test.YtonpnplcbcagfaaLWireFold
namespace Go.Proofs.Ytonpnplcbcagfaa
set_option linter.unusedVariables false
set_option linter.unusedSimpArgs false
open Go.RowKit

theorem own_rdB {w : World} {base n c : Nat} {e : TypeId} {A : Option Addr} {l : List UInt8} (h : w.ownsRow base e 1 (.slice A n c) n (U8 l)) (hl : l.length = n) (hn : n ≤ 211106232532992) : RdB w (fun b => A.map (·.block) = some b) A l := by
  subst hl; exact own_rd h hn
/-- A row of the call's own, one of its bytes written. -/
theorem own_set {w : World} {base n g c : Nat} {e : TypeId} {xs : List Value} (h : w.ownsRow base e 1 (.slice (some ⟨g, 0, none⟩) n c) n xs) (i : Nat) (u : Value) :
    (w.setCell ⟨g, i, none⟩ u).ownsRow base e 1 (.slice (some ⟨g, 0, none⟩) n c) n (xs.set i u) := by
  refine ⟨by rw [List.length_set]; exact h.1, ?_⟩
  rcases h.2 with ⟨hv, _⟩ | ⟨g', cap, cur, hv, hb, hg, h1, h2, h3, h4⟩
  · cases hv
  · injection hv with hA _ hc
    injection hA with hA
    injection hA with hA _ _
    subst hA hc
    refine .inr ⟨g, c, cur.setIfInBounds i u, rfl, hb, Blk.put hg i u, h1, h2, by simpa using h3, ?_⟩
    rw [Array.toList_setIfInBounds, List.take_set, h4]

set_option maxRecDepth 100000 in
set_option maxHeartbeats 1000000 in
theorem law_WireTurned (W : World) (a0 : Option Addr) (cap0 : Nat) (l0 : List UInt8) (h0 : RdB W (fun b => b < W.heap.size) a0 l0) (b0 : l0.length ≤ 140737488351232) (c0 : l0.length ≤ cap0) (m0 : cap0 ≤ maxLen)
    (a1 : Int) (w1 : (Lit.int .i64 a1).wf = true) :
    Calls Try.prog 8 #[.slice a0 l0.length cap0, .int .i64 a1] W fun e w' => e = .returned (.bool true) ∧ Fr No W w' := by
  obtain ⟨k0, k1⟩ := i64_of_wf w1
  by_cases hbad : l0.length = 0 ∨ 60000 < l0.length
  · have H := Lib.hid (frameM_bad l0 hbad)
    go_enter Try.func8, Try.ntmps8
    go_wp2_with fail
    refine (frame_calls _ _ _ l0 _ h0).mono ?_
    rintro e w2 ⟨v2, rfl, hown2, hf2⟩
    rw [H.out] at hown2 ⊢
    go_wp2_with fail
    refine (known_calls _).mono ?_
    rintro e w3 ⟨rfl, hf3⟩
    go_wp2
    go_ret
    exact ⟨rfl, hf2.tr hf3⟩
  · have hlen : (frameL l0).length = l0.length + 8 := frameL_length l0
    have H := Lib.hid (frameM_ok l0 (by omega) (by omega))
    have HT := Lib.hid (fun i y h4 hi hy => readF_turned l0 (by omega) (by omega) i y h4 hi hy)
    go_enter Try.func8, Try.ntmps8
    go_wp2_with fail
    refine (frame_calls _ _ _ l0 _ h0).mono ?_
    rintro e w2 ⟨v2, rfl, hown2, hf2⟩
    rw [H.out] at hown2 ⊢
    simp only at hown2
    generalize frameL l0 = F at *
    obtain ⟨A2, c2, rfl, hc2, hm2, _⟩ := own_form hown2
    have hN : F.length ≤ 60008 := by omega
    have hN9 : 9 ≤ F.length := by omega
    clear hlen
    have e1 : decide ((F.length : Int) < 9) = false := by simpa using (by omega : ¬ (F.length : Int) < 9)
    go_wp2_with fail
    refine (count_calls a1 (8 * F.length - 32) _ k0 k1 (by omega) (by omega)).mono ?_
    rintro e _ ⟨rfl, rfl⟩
    obtain ⟨r1, r2⟩ := countZ_range a1 (8 * F.length - 32) (by omega)
    obtain ⟨p, hp⟩ := Int.eq_ofNat_of_zero_le r1
    rw [hp] at r2 ⊢
    clear r1 hp
    obtain ⟨i, j, rfl, hj⟩ : ∃ i j, p = 8 * i + j ∧ j < 8 := ⟨p / 8, p % 8, by omega, by omega⟩
    have hi1 : (32 + ((8 * i + j : Nat) : Int)) / 8 = ((i + 4 : Nat) : Int) := by omega
    have hi2 : (32 + ((8 * i + j : Nat) : Int)) % 8 = (j : Int) := by omega
    have hi3 : i + 4 < F.length := by omega
    generalize 8 * i + j = p at *
    generalize hI : i + 4 = I at *
    have hI4 : 4 ≤ I := by omega
    clear hI
    rcases id hown2.2 with ⟨hv, _⟩ | ⟨g, cap, cur, hv, hgb, hgg, h1, h2, h3, h4⟩
    · injection hv with _ hn _
      omega
    · injection hv with hA _ hc
      subst hA hc
      obtain ⟨ad, hAd, _, hcell⟩ := RdB.at_ (S := fun b => (some (⟨g, 0, none⟩ : Addr)).map (·.block) = some b) (own_rd hown2 (by omega)) hi3
      injection hAd with hAd
      subst hAd
      rw [add_plain] at hcell
      have hfz := Blk.frozen (show Blk w2 g 5 cur from hgg) I
      have HTI := fun y hy => HT.out I y hI4 hi3 hy
      generalize F[I] = x at *
      obtain ⟨hx1, hx2⟩ := xor_bit_ne x j hj
      have hst : bits .xor .u8 (x.toNat : Int) (2 ^ j % 256) = ((UInt8.ofNat (x.toNat ^^^ 2 ^ j)).toNat : Int) := by
        have hp : 2 ^ j < 256 := Nat.lt_of_lt_of_le (Nat.pow_lt_pow_right (by decide) hj) (by decide)
        have e : (2 : Int) ^ j % 256 = ((2 ^ j : Nat) : Int) := by
          rw [show (2 : Int) ^ j = ((2 ^ j : Nat) : Int) by push_cast; rfl]
          generalize 2 ^ j = m at hp
          omega
        have hx := x.toNat_lt
        rw [e, u8_xor_nat _ _ (by omega) hp, UInt8.toNat_ofNat', Nat.mod_eq_of_lt hx1]
      have HS := Lib.hid hst
      have HR := Lib.hid (HTI _ hx2)
      clear hst HTI
      go_wp2_with fail
      rw [HS.out]
      have hown3 := own_set hown2 I (.int .u8 ((UInt8.ofNat (x.toNat ^^^ 2 ^ j)).toNat : Int))
      generalize UInt8.ofNat (x.toNat ^^^ 2 ^ j) = y at *
      have hu8 : (U8 F).set I (.int .u8 (y.toNat : Int)) = U8 (F.set I y) := by simp [U8, List.map_set]
      rw [hu8] at hown3
      have hf3 : Fr No W (w2.setCell ⟨g, I, none⟩ (.int .u8 (y.toNat : Int))) := hf2.set (.inl hgb) _
      have hls : (F.set I y).length = F.length := List.length_set
      have hr3 := own_rdB hown3 hls (by omega)
      have hc3 := readframe_calls _ _ c2 _ _ hr3 (by rw [hls]; exact h1) h2
      rw [hls, HR.out] at hc3
      refine hc3.mono ?_
      rintro e w4 ⟨v4, rfl, hown4, hf4⟩
      go_wp2_with fail
      refine (known_calls _).mono ?_
      rintro e w5 ⟨rfl, hf5⟩
      go_wp2
      go_ret
      exact ⟨rfl, hf3.tr (hf4.tr hf5)⟩
end Go.Proofs.Ytonpnplcbcagfaa
