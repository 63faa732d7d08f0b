/- slices.Clone, wire.part, wire.ReadText, wire.Text, and the reference's. No condition. -/
import Derived.Test.YtfgkioigbnlkkaaWRead
import Derived.Test.YtfgkioigbnlkkaaPPart
import Derived.Lib.SliceRun
namespace Go.Proofs.Ytfgkioigbnlkkaa
set_option linter.unusedVariables false
set_option linter.unusedSimpArgs false
open Go.RowKit

theorem clone_calls (S : Nat → Prop) (A : Option Addr) (c : Nat) (l : List UInt8) (w : World) (h : RdB w S A l) :
    Calls Try.prog 43 #[.slice A l.length c] w fun e w' => ∃ v, e = .returned v ∧ w'.ownsRow w.heap.size 5 1 v l.length (U8 l) ∧ Fr No w w' := by
  have hle := h.le
  have E := fun (w : World) (a : Option Addr) (n c n' c' : Nat) => Lib.run_eql_slice_nil (P := Try.prog) w 23 5 a n c n' c' Try.underlying23
  cases A with
  | none =>
    obtain rfl : l = [] := by
      cases l with
      | nil => rfl
      | cons x l => obtain ⟨ad, hA, _⟩ := h.at_ (k := 0) (by simp); cases hA
    go_enter Try.func43, Try.ntmps43
    go_wp2
    go_ret
    exact ⟨_, rfl, World.ownsRow_nil _ _ _ _, Fr.refl _ _⟩
  | some ad =>
    go_enter Try.func43, Try.ntmps43
    go_wp2_with (refine wpList_app so_u8 (World.ownsRow_made w #[] 0 (Nat.le_refl _) (Nat.zero_le _) rfl) (Rd.alloc h _) (U8_one _) (by omega) (by simp) rfl rfl rfl rfl ?_; intro v2 w2 hown2 hg2 hat2)
    go_ret
    refine ⟨v2, rfl, by simpa using hown2, ((Fr.refl No w).alloc _).grown hg2 (by simp [Value.ownBlock])⟩
theorem clone_at {S : Nat → Prop} {A : Option Addr} {c n : Nat} {l : List UInt8} {w : World} (h : RdB w S A l) (hn : l.length = n) :
    Calls Try.prog 43 #[.slice A n c] w fun e w' => ∃ v, e = .returned v ∧ w'.ownsRow w.heap.size 5 1 v n (U8 l) ∧ Fr No w w' := by
  subst hn; exact clone_calls S A c l w h

/-- What a call hands back as bytes of its own, how far they go, and an error's number. -/
def RetC (w w' : World) (e : Ending) (r : List UInt8 × Nat × Int) : Prop :=
  ∃ v, e = .returned (.tuple #[v, .int .i64 r.2.1, .int .i64 r.2.2]) ∧ w'.ownsRow w.heap.size 5 1 v r.1.length (U8 r.1) ∧ Fr No w w'
theorem RdB.part {w : World} {S : Nat → Prop} {A : Option Addr} {l : List UInt8} {c : Nat} (h : RdB w S A l) (hc : l.length ≤ c) {k n : Nat} (hk : k + n ≤ l.length) :
    RdB w S (if c = k then A else A.map (·.add k)) ((l.drop k).take n) := by
  have h1 := (Rd.cut h (k := k) (cap := c) (by omega) hc).take (k := n) (by omega)
  have hl : ((l.drop k).take n).length = n := by rw [List.length_take, List.length_drop]; omega
  unfold RdB
  rw [hl, U8_take, U8_drop]
  simpa using h1
theorem RdB.partN {w : World} {S : Nat → Prop} {A : Option Addr} {l : List UInt8} {c : Nat} (h : RdB w S A l) (hc : l.length ≤ c) {k n : Nat} (hk : k + n ≤ l.length) :
    Rd w S 1 (if c = k then A else A.map (·.add k)) n (U8 ((l.drop k).take n)) := by
  have h1 := RdB.part h hc hk
  have hl : ((l.drop k).take n).length = n := by rw [List.length_take, List.length_drop]; omega
  unfold RdB at h1
  rwa [hl] at h1
theorem part_calls (S : Nat → Prop) (A : Option Addr) (c : Nat) (l : List UInt8) (k n : Nat) (w : World) (h : RdB w S A l) (hc : l.length ≤ c) (hcm : c ≤ maxLen) (hk : k ≤ l.length) (hn : n < 18446744073709551616) :
    Calls Try.prog 69 #[.slice A l.length c, .int .i64 k, .int .u64 n] w fun e w' => RetC w w' e (partM l k n) := by
  have hle := h.le
  by_cases h1 : 60000 < n
  · have H := Lib.hid (partM_big l k n h1)
    have e1 : decide ((60000 : Int) < n) = true := by simpa using (by omega : (60000 : Int) < n)
    go_enter Try.func69, Try.ntmps69
    go_wp2
    go_ret3
    rw [H.out]
    exact ⟨_, rfl, World.ownsRow_nil _ _ _ _, Fr.refl _ _⟩
  have e1 : decide ((60000 : Int) < n) = false := by simpa using (by omega : ¬ (60000 : Int) < n)
  obtain ⟨d, hd⟩ : ∃ d, l.length = k + d := ⟨l.length - k, by omega⟩
  by_cases h2 : d < n
  · have H := Lib.hid (partM_short l k n h1 (by omega))
    have e2 : decide ((d : Int) < n) = true := by simpa using (by omega : (d : Int) < n)
    have e3 : ((l.length : Int) - k) = d := by omega
    clear hd
    go_enter Try.func69, Try.ntmps69
    go_wp2
    go_ret3
    rw [H.out]
    exact ⟨_, rfl, World.ownsRow_nil _ _ _ _, Fr.refl _ _⟩
  · have H := Lib.hid (partM_ok l k n h1 (by omega))
    have e2 : decide ((d : Int) < n) = false := by simpa using (by omega : ¬ (d : Int) < n)
    have e3 : ((l.length : Int) - k) = d := by omega
    have HP := Lib.hid (RdB.part h hc (k := k) (n := n) (by omega))
    clear hd
    go_enter Try.func69, Try.ntmps69
    have hl : ((l.drop k).take n).length = n := by rw [List.length_take, List.length_drop]; omega
    by_cases hck : c = k
    · rw [if_pos hck] at HP
      subst hck
      go_wp2_with fail
      refine (clone_at HP.out hl).mono ?_
      rintro e w1 ⟨v, rfl, hown, hf⟩
      go_wp2
      go_ret3
      rw [H.out]
      exact ⟨_, rfl, by rw [hl]; exact hown, hf⟩
    · rw [if_neg hck] at HP
      go_wp2_with fail
      refine (clone_at HP.out hl).mono ?_
      rintro e w1 ⟨v, rfl, hown, hf⟩
      go_wp2
      go_ret3
      rw [H.out]
      exact ⟨_, rfl, by rw [hl]; exact hown, hf⟩
end Go.Proofs.Ytfgkioigbnlkkaa
