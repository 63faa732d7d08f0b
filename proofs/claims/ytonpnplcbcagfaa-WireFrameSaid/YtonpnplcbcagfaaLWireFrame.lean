/- The walk of lapidarylaw01.WireFrame. No condition but that a slice can hold the bytes. -/
import Derived.Test.YtonpnplcbcagfaaWReadF
import Derived.Test.YtonpnplcbcagfaaWKnown
import Derived.Test.YtonpnplcbcagfaaWLent
namespace Go.Proofs.Ytonpnplcbcagfaa
set_option linter.unusedVariables false
set_option linter.unusedSimpArgs false
open Go.RowKit

set_option maxHeartbeats 1000000 in
theorem law_WireFrame (W : World) (a0 : Option Addr) (cap0 : Nat) (l0 : List UInt8) (h0 : RdB W (fun b => b < W.heap.size) a0 l0) (b0 : l0.length ≤ 140737488351232) (c0 : l0.length ≤ cap0) (m0 : cap0 ≤ maxLen)
    (a1 : Option Addr) (cap1 : Nat) (l1 : List UInt8) (h1 : RdB W (fun b => b < W.heap.size) a1 l1) (b1 : l1.length ≤ 140737488351232) (c1 : l1.length ≤ cap1) (m1 : cap1 ≤ maxLen) :
    Calls Try.prog 7 #[.slice a0 l0.length cap0, .slice a1 l1.length cap1] W fun e w' => e = .returned (.bool true) ∧ Fr No W w' := by
  have hxl := frameM_len l0
  have hxe := frameM_err l0
  have hql := readF_len l1
  have HB := Lib.hid (fun h => frameM_back l0 h l1)
  go_enter Try.func7, Try.ntmps7
  go_wp2_with fail
  refine (lent_calls _ _ _ l1 _ h1).mono ?_
  rintro e w1 ⟨g, rfl, hgW, hg, hf1⟩
  go_wp2_with fail
  refine (frame_calls _ _ _ l0 _ (Rd.fr0 h0 hf1)).mono ?_
  rintro e w2 ⟨v2, rfl, hown2, hf2⟩
  go_wp2_with fail
  refine (refframe_calls _ _ _ l0 _ (Rd.fr0 h0 (hf1.tr hf2))).mono ?_
  rintro e w3 ⟨v3, rfl, hown3, hf3⟩
  generalize frameM l0 = p at *
  obtain ⟨x, f⟩ := p
  simp only at *
  obtain ⟨A2, k2, rfl, hk2, _, _⟩ := own_form hown2
  obtain ⟨A3, k3, rfl, hk3, _, hA3⟩ := own_form hown3
  go_wp2_with fail
  have hg3 := Blk.fr0 hg (hf2.tr hf3)
  refine (readframe_calls _ _ (l1.length + 8) l1 _ (LentAt.rd hg3 (by omega)) (by omega) (by unfold maxLen; omega)).mono ?_
  rintro e w4 ⟨v4, rfl, hown4, hf4⟩
  go_wp2_with fail
  have hf14 := hf1.tr (hf2.tr (hf3.tr hf4))
  refine (refreadframe_calls _ _ _ l1 _ (Rd.fr0 h1 hf14) c1 m1).mono ?_
  rintro e w5 ⟨v5, rfl, hown5, hf5⟩
  generalize readF l1 = p at *
  obtain ⟨q, u, z⟩ := p
  simp only at *
  obtain ⟨A4, k4, rfl, hk4, _, hA4⟩ := own_form hown4
  obtain ⟨A5, k5, rfl, hk5, _, _⟩ := own_form hown5
  have hr2 := Rd.fr0 (own_rd hown2 (by omega)) (hf3.tr (hf4.tr hf5))
  have hr3 := Rd.fr0 (own_rd hown3 (by omega)) (hf4.tr hf5)
  have hr4 := Rd.fr0 (own_rd hown4 (by omega)) hf5
  have hr5 := own_rd hown5 (by omega)
  go_wp2_with (first
    | (refine wpList_str Try.underlying22 Try.underlying5 Try.underlying9 rfl (.tmp 41) rfl rfl rfl hr2 ?_)
    | (refine wpList_str Try.underlying22 Try.underlying5 Try.underlying9 rfl (.tmp 43) rfl rfl rfl hr3 ?_)
    | (refine wpList_str Try.underlying22 Try.underlying5 Try.underlying9 rfl (.tmp 52) rfl rfl rfl hr4 ?_)
    | (refine wpList_str Try.underlying22 Try.underlying5 Try.underlying9 rfl (.tmp 54) rfl rfl rfl hr5 ?_)
    | fail)
  have hlt4 : ∀ b, A4.map (·.block) = some b → w3.heap.size ≤ b := fun b hb => (hown4.lt b ((hA4 b).2 hb)).1
  refine (spoil_calls A4 k4 q.length _ _ w5 (own_fr0 hown4 hf5) (by omega)).mono ?_
  rintro e w6 ⟨rfl, hf6⟩
  have hf13 := hf1.tr (hf2.tr hf3)
  have hs13 := hf13.size
  have hs3 := (hf2.tr hf3).size
  have hgl := Blk.lt hg
  have hf16 : Fr No W w6 := (hf14.tr hf5).trans hf6 (fun b hb hT => by have := hlt4 b hT; omega)
  have hg6 : LentAt w6 g l1 := Blk.fr (Blk.fr0 hg3 (hf4.tr hf5)) hf6 (fun hT => by have := hlt4 g hT; omega)
  have hown6 := own_fr (own_fr0 hown3 (hf4.tr hf5)) hf6 (fun b hb hT => by have := hlt4 b hT; have := (hown3.lt b hb).2; omega)
  go_wp2_with fail
  refine (kept_calls _ _ g cap1 l1 _ hg6 (Rd.fr0 h1 hf16) (by omega)).mono ?_
  rintro e w7 ⟨rfl, hf7⟩
  have hf17 := hf16.tr hf7
  by_cases hf : f = 0
  · have e1 : (f != 0) = false := by simpa using hf
    have HB' := Lib.hid (HB.out hf)
    clear HB hxe hf
    have hown7 := own_fr0 hown6 hf7
    have hr7 := own_rd hown7 (by omega)
    go_wp2_with (first
      | (at_builtin; refine wpList_app so_u8 (World.ownsRow_nil w7 w7.heap.size _ _) hr7 (U8_one _) (by omega) (Nat.le_refl _) rfl rfl rfl rfl ?_; intro v8 w8 hown8 hg8 hat8; have hf8 : Fr No w7 w8 := (Fr.refl No w7).grown hg8 (by simp [Value.ownBlock]))
      | (at_builtin; refine wpList_app so_u8 hown8 (Rd.fr0 h1 (hf17.tr hf8)) (U8_one _) (by omega) hf8.size rfl rfl rfl rfl ?_; intro v9 w9 hown9 hg9 hat9; have hf9 : Fr No w7 w9 := hf8.grown hg9 (fun b hb => .inl (hown8.lt b hb).1); obtain ⟨A9, c9, rfl, hc9, hc9m, _⟩ := own_form hown9)
      | fail)
    have hn9 : w9.ownsRow w7.heap.size 5 1 (.slice A9 (x ++ l1).length c9) (x ++ l1).length (U8 (x ++ l1)) := by
      rw [U8_append]; simpa [List.length_append] using hown9
    have hr9 : RdB w9 _ A9 (x ++ l1) := own_rd hn9 (by rw [List.length_append]; omega)
    have hc9' := readframe_calls _ A9 c9 _ w9 hr9 (by rw [List.length_append]; omega) hc9m
    rw [List.length_append, HB'.out] at hc9'
    refine hc9'.mono ?_
    rintro e w10 ⟨v10, rfl, hown10, hf10⟩
    obtain ⟨A10, k10, rfl, hk10, _, _⟩ := own_form hown10
    have hr10 := own_rd hown10 (by simp only; omega)
    have hf1A := hf17.tr (hf9.tr hf10)
    go_wp2_with (first
      | (refine wpList_str Try.underlying22 Try.underlying5 Try.underlying9 rfl (.tmp 96) rfl rfl rfl hr10 ?_)
      | (refine wpList_str Try.underlying22 Try.underlying5 Try.underlying9 rfl (.tmp 98) rfl rfl rfl (Rd.fr0 h0 hf1A) ?_)
      | fail)
    refine (known_calls _).mono ?_
    rintro e w11 ⟨rfl, hf11⟩
    go_wp2
    go_ret
    exact ⟨rfl, hf1A.tr hf11⟩
  · have e1 : (f != 0) = true := by simpa using hf
    clear HB
    go_wp2_with fail
    refine (kept_calls _ _ g cap1 l1 _ (Blk.fr0 hg6 hf7) (Rd.fr0 h1 hf17) (by omega)).mono ?_
    rintro e w8 ⟨rfl, hf8⟩
    go_wp2_with fail
    refine (known_calls _).mono ?_
    rintro e w9 ⟨rfl, hf9⟩
    go_wp2
    go_ret
    exact ⟨rfl, hf17.tr (hf8.tr hf9)⟩
end Go.Proofs.Ytonpnplcbcagfaa
