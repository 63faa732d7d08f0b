/- wire.Text, wire.ReadText, and the reference's. No condition. -/
import Derived.Test.YtfgkioigbnlkkaaWPart
namespace Go.Proofs.Ytfgkioigbnlkkaa
set_option linter.unusedVariables false
set_option linter.unusedSimpArgs false
open Go.RowKit

theorem text_calls (S : Nat → Prop) (A : Option Addr) (c : Nat) (l : List UInt8) (w : World) (h : RdB w S A l) :
    Calls Try.prog 57 #[.slice A l.length c] w fun e w' => RetB w w' e (textM l) := by
  have hle := h.le
  by_cases h1 : 60000 < l.length
  · have H := Lib.hid (textM_bad l h1)
    go_enter Try.func57, Try.ntmps57
    go_wp2
    go_ret2
    rw [H.out]
    exact ⟨_, rfl, World.ownsRow_nil _ _ _ _, Fr.refl _ _⟩
  · have H := Lib.hid (textM_ok l h1)
    have hten := uintL_ten l.length (by omega)
    go_enter Try.func57, Try.ntmps57
    go_wp2_with fail
    refine (uint_calls l.length _ (by omega)).mono ?_
    rintro e w1 ⟨v1, rfl, hown1, hf1⟩
    obtain ⟨A1, c1, rfl, hc1, _, _⟩ := own_form hown1
    go_wp2_with fail
    refine (concat2_calls (fun b => b < w1.heap.size) _ _ _ _ _ _ _ _ (uintL l.length) l _ _ rfl rfl (Blk.new _ _ _) (Rd.alloc ((own_rd hown1 (by omega)).lt (by decide) |>.mono (fun b _ hb => hb.2) (by decide)) _) (Rd.alloc ((Rd.fr0 h hf1).lt (by decide) |>.mono (fun b _ hb => hb.2) (by decide)) _) (by omega)).mono ?_
    rintro e w3 ⟨v3, rfl, hown3, hf3⟩
    go_wp2
    go_ret2
    rw [H.out]
    exact ⟨_, rfl, own_down hown3 (by have := hf1.size; simp; omega), (hf1.alloc _).tr hf3⟩
theorem reftext_calls (S : Nat → Prop) (A : Option Addr) (c : Nat) (l : List UInt8) (w : World) (h : RdB w S A l) :
    Calls Try.prog 59 #[.slice A l.length c] w fun e w' => RetB w w' e (textM l) := by
  have hle := h.le
  by_cases h1 : 60000 < l.length
  · have H := Lib.hid (textM_bad l h1)
    go_enter Try.func59, Try.ntmps59
    go_wp2
    go_ret2
    rw [H.out]
    exact ⟨_, rfl, World.ownsRow_nil _ _ _ _, Fr.refl _ _⟩
  · have H := Lib.hid (textM_ok l h1)
    have hten := uintL_ten l.length (by omega)
    go_enter Try.func59, Try.ntmps59
    go_wp2_with fail
    refine (refuint_calls l.length _ (by omega)).mono ?_
    rintro e w1 ⟨v1, rfl, hown1, hf1⟩
    obtain ⟨A1, c1, rfl, hc1, _, _⟩ := own_form hown1
    go_wp2_with (at_builtin; refine wpList_app so_u8 hown1 (Rd.fr0 h hf1) (U8_one _) (by omega) hf1.size rfl rfl rfl rfl ?_; intro v3 w3 hown3 hg3 hat3)
    go_ret2
    rw [H.out]
    refine ⟨_, rfl, by rw [List.length_append, U8_append]; exact hown3, hf1.grown hg3 (fun b hb => .inl (hown1.lt b hb).1)⟩

theorem readtext_calls (S : Nat → Prop) (A : Option Addr) (c : Nat) (l : List UInt8) (w : World) (h : RdB w S A l) (hc : l.length ≤ c) (hcm : c ≤ maxLen) :
    Calls Try.prog 61 #[.slice A l.length c] w fun e w' => RetC w w' e (readT l) := by
  have hle := h.le
  have hu := readU_used l
  have hx := readU_lt l
  by_cases h1 : (readU l).2.2 = 0
  · have H := Lib.hid (readT_ok l h1)
    have e1 : ((readU l).2.2 != 0) = false := by simpa using h1
    go_enter Try.func61, Try.ntmps61
    go_wp2_with fail
    refine (readuint_calls S A c l _ h hc).mono ?_
    rintro e _ ⟨rfl, rfl⟩
    go_wp2_with fail
    refine (part_calls S A c l _ _ _ h hc hcm hu hx).mono ?_
    rintro e w1 ⟨v1, rfl, hown1, hf1⟩
    go_wp2
    go_ret3
    rw [H.out]
    exact ⟨_, rfl, hown1, hf1⟩
  · have H := Lib.hid (readT_bad l h1)
    have e1 : ((readU l).2.2 != 0) = true := by simpa using h1
    go_enter Try.func61, Try.ntmps61
    go_wp2_with fail
    refine (readuint_calls S A c l _ h hc).mono ?_
    rintro e _ ⟨rfl, rfl⟩
    go_wp2
    go_ret3
    rw [H.out]
    exact ⟨_, rfl, World.ownsRow_nil _ _ _ _, Fr.refl _ _⟩
theorem refreadtext_calls (S : Nat → Prop) (A : Option Addr) (c : Nat) (l : List UInt8) (w : World) (h : RdB w S A l) (hc : l.length ≤ c) (hcm : c ≤ maxLen) :
    Calls Try.prog 70 #[.slice A l.length c] w fun e w' => RetC w w' e (readT l) := by
  have hle := h.le
  have hu := readU_used l
  have hx := readU_lt l
  by_cases h1 : (readU l).2.2 = 0
  · have H := Lib.hid (readT_ok l h1)
    have HR := Lib.hid (Eq.refl (readU l))
    have e1 : ((readU l).2.2 != 0) = false := by simpa using h1
    have hrd := refreaduint_calls S A c l w h
    generalize readU l = r at *
    obtain ⟨n, k, e⟩ := r
    simp only at *
    obtain ⟨d, hd⟩ : ∃ d, l.length = k + d := ⟨l.length - k, by omega⟩
    have e3 : ((l.length : Int) - k) = d := by omega
    by_cases h2 : 60000 < n
    · have e2 : decide ((60000 : Int) < n) = true := by simpa using (by omega : (60000 : Int) < n)
      have H2 := Lib.hid (partM_big l k n h2)
      clear hd
      go_enter Try.func70, Try.ntmps70
      go_wp2_with fail
      refine hrd.mono ?_
      rintro e _ ⟨rfl, rfl⟩
      go_wp2
      go_ret3
      rw [H.out, H2.out]
      exact ⟨_, rfl, World.ownsRow_nil _ _ _ _, Fr.refl _ _⟩
    have e2 : decide ((60000 : Int) < n) = false := by simpa using (by omega : ¬ (60000 : Int) < n)
    by_cases h4 : d < n
    · have e4 : decide ((d : Int) < n) = true := by simpa using (by omega : (d : Int) < n)
      have H2 := Lib.hid (partM_short l k n h2 (by omega))
      clear hd
      go_enter Try.func70, Try.ntmps70
      go_wp2_with fail
      refine hrd.mono ?_
      rintro e _ ⟨rfl, rfl⟩
      go_wp2
      go_ret3
      rw [H.out, H2.out]
      exact ⟨_, rfl, World.ownsRow_nil _ _ _ _, Fr.refl _ _⟩
    · have e4 : decide ((d : Int) < n) = false := by simpa using (by omega : ¬ (d : Int) < n)
      have H2 := Lib.hid (partM_ok l k n h2 (by omega))
      have HP := Lib.hid (RdB.partN h hc (k := k) (n := n) (by omega))
      have hl : ((l.drop k).take n).length = n := by rw [List.length_take, List.length_drop]; omega
      clear hd
      by_cases hck : c = k
      · rw [if_pos hck] at HP
        subst hck
        go_enter Try.func70, Try.ntmps70
        go_wp2_with fail
        refine hrd.mono ?_
        rintro e _ ⟨rfl, rfl⟩
        go_wp2_with (at_builtin; refine wpList_app so_u8 (World.ownsRow_nil w w.heap.size _ _) (show Rd w S 1 (A) (c + n - c) (U8 ((l.drop c).take n)) by rw [Nat.add_sub_cancel_left]; exact HP.out) (U8_one _) (by omega) (Nat.le_refl _) rfl rfl rfl rfl ?_; intro v3 w3 hown3 hg3 hat3)
        go_ret3
        rw [H.out, H2.out]
        refine ⟨_, rfl, by rw [hl]; simpa using hown3, (Fr.refl No w).grown hg3 (by simp [Value.ownBlock])⟩
      · rw [if_neg hck] at HP
        go_enter Try.func70, Try.ntmps70
        go_wp2_with fail
        refine hrd.mono ?_
        rintro e _ ⟨rfl, rfl⟩
        go_wp2_with (at_builtin; refine wpList_app so_u8 (World.ownsRow_nil w w.heap.size _ _) (show Rd w S 1 (A.map (·.add k)) (k + n - k) (U8 ((l.drop k).take n)) by rw [Nat.add_sub_cancel_left]; exact HP.out) (U8_one _) (by omega) (Nat.le_refl _) rfl rfl rfl rfl ?_; intro v3 w3 hown3 hg3 hat3)
        go_ret3
        rw [H.out, H2.out]
        refine ⟨_, rfl, by rw [hl]; simpa using hown3, (Fr.refl No w).grown hg3 (by simp [Value.ownBlock])⟩
  · have H := Lib.hid (readT_bad l h1)
    have e1 : ((readU l).2.2 != 0) = true := by simpa using h1
    go_enter Try.func70, Try.ntmps70
    go_wp2_with fail
    refine (refreaduint_calls S A c l _ h).mono ?_
    rintro e _ ⟨rfl, rfl⟩
    go_wp2
    go_ret3
    rw [H.out]
    exact ⟨_, rfl, World.ownsRow_nil _ _ _ _, Fr.refl _ _⟩
end Go.Proofs.Ytfgkioigbnlkkaa
