/- Lists of int64 in memory; what walks over them: slices.Clone, slices.Min, the reference's among, Oops. No condition. -/
import Derived.Test.YtmcmjnflahfbkaaProg
import Derived.Test.YtmcmjnflahfbkaaLap
import Derived.Test.YtmcmjnflahfbkaaReg
import Derived.Lib.SliceRun
import Derived.Deep.LoopGhost
namespace Go.Proofs.Ytmcmjnflahfbkaa
set_option linter.unusedVariables false
set_option linter.unusedSimpArgs false
open Go.RowKit

def I64 (l : List Int) : List Value := l.map (Value.int .i64)
theorem I64_length (l : List Int) : (I64 l).length = l.length := by simp [I64]
theorem I64_append (a b : List Int) : I64 (a ++ b) = I64 a ++ I64 b := by simp [I64]
theorem I64_one (l : List Int) : ∀ u ∈ I64 l, u.oneCell' = true := by
  intro u hu
  obtain ⟨x, _, rfl⟩ := List.mem_map.1 hu
  rfl
/-- A []int64 that reads as l. -/
def RdI (w : World) (S : Nat → Prop) (A : Option Addr) (l : List Int) : Prop := Rd w S 1 A l.length (I64 l)
theorem RdI.at_ {w : World} {S : Nat → Prop} {A : Option Addr} {l : List Int} {k : Nat} (h : RdI w S A l) (hk : k < l.length) : ∃ ad, A = some ad ∧ S ad.block ∧ w.cell? (ad.add k) = some (.int .i64 l[k]) := by
  obtain ⟨ad, u, e, hb, hx, hc⟩ := Rd.at_ h hk
  have : (I64 l)[k]? = some (.int .i64 l[k]) := by simp [I64, hk]
  rw [this] at hx
  obtain rfl := Option.some.inj hx
  exact ⟨ad, e, hb, hc⟩
theorem RdI.le {w : World} {S : Nat → Prop} {A : Option Addr} {l : List Int} (h : RdI w S A l) : l.length ≤ 211106232532992 := h.2.1
theorem own_rdI {w : World} {base n c : Nat} {e : TypeId} {A : Option Addr} {l : List Int} (h : w.ownsRow base e 1 (.slice A n c) n (I64 l)) (hl : l.length = n) (hn : n ≤ 211106232532992) : RdI w (fun b => A.map (·.block) = some b) A l := by
  subst hl; exact own_rd h hn
theorem so_i64 : SliceOf Try.prog 23 2 (.int .i64 0) 1 8 := ⟨Try.underlying23, by kernel_rfl, rfl, by decide, by decide, by decide⟩

theorem among_calls (S : Nat → Prop) (A : Option Addr) (c : Nat) (l : List Int) (n : Int) (w : World) (h : RdI w S A l) :
    Calls Try.prog 36 #[.int .i64 n, .slice A l.length c] w fun e w' => e = .returned (.bool (decide (n ∈ l))) ∧ w = w' := by
  have hle := h.le
  go_enter Try.func36, Try.ntmps36
  go_wp2
  go_loop [5] (fun i => ∃ k : Nat, k ≤ l.length ∧ i = .int .i64 k ∧ n ∉ l.take k) (fun i => l.length - (intOf i).toNat)
  case atStart => exact ⟨0, by omega, rfl, by simp⟩
  case round =>
    obtain ⟨k, hk, rfl, hn⟩ := hrel
    by_cases hlt : k < l.length
    · obtain ⟨ad, hA, _, hcell⟩ := h.at_ hlt
      have htk : l.take (k + 1) = l.take k ++ [l[k]] := by rw [List.take_add_one, List.getElem?_eq_getElem hlt]; rfl
      have hmem : l[k] ∈ l := List.getElem_mem hlt
      subst hA
      generalize l[k] = x at *
      have HT := Lib.hid htk
      clear htk
      by_cases hx : x = n
      · subst hx
        have H := Lib.hid (show decide (x ∈ l) = true by simpa using hmem)
        clear hmem hn
        go_wp2
        go_ret
        exact ⟨by rw [H.out]; rfl, rfl⟩
      · have e1 : (x == n) = false := by simpa using hx
        go_wp2
        go_round
        case rel => exact ⟨k + 1, by omega, by go_num, by rw [HT.out]; simp only [List.mem_append, List.mem_singleton, not_or]; exact ⟨hn, fun e => hx e.symm⟩⟩
        case measure => simp [intOf]; omega
    · obtain rfl : k = l.length := by omega
      rw [List.take_length] at hn
      have H := Lib.hid (show decide (n ∈ l) = false by simpa using hn)
      clear hn
      go_wp2
      go_ret
      exact ⟨by rw [H.out]; rfl, rfl⟩

theorem clone_calls (S : Nat → Prop) (A : Option Addr) (c : Nat) (l : List Int) (w : World) (h : RdI w S A l) (hb : l.length * 8 ≤ 211106232532992) :
    Calls Try.prog 29 #[.slice A l.length c] w fun e w' => ∃ v, e = .returned v ∧ w'.ownsRow w.heap.size 2 1 v l.length (I64 l) ∧ Fr No w w' := by
  have hle := h.le
  have E := fun (w : World) (a : Option Addr) (n c n' c' : Nat) => Lib.run_eql_slice_nil (P := Try.prog) w 23 2 a n c n' c' Try.underlying23
  cases A with
  | none =>
    obtain rfl : l = [] := by
      cases l with
      | nil => rfl
      | cons x l => obtain ⟨ad, hA, _⟩ := h.at_ (k := 0) (by simp); cases hA
    go_enter Try.func29, Try.ntmps29
    go_wp2
    go_ret
    exact ⟨_, rfl, World.ownsRow_nil _ _ _ _, Fr.refl _ _⟩
  | some ad =>
    go_enter Try.func29, Try.ntmps29
    go_wp2_with (refine wpList_app so_i64 (World.ownsRow_made w #[] 0 (Nat.le_refl _) (Nat.zero_le _) rfl) (Rd.alloc h _) (I64_one _) (by omega) (by simp) rfl rfl rfl rfl ?_; intro v2 w2 hown2 hg2 hat2)
    go_ret
    refine ⟨v2, rfl, by simpa using hown2, ((Fr.refl No w).alloc _).grown hg2 (by simp [Value.ownBlock])⟩

/-- The least of some numbers. -/
def minL : List Int → Option Int
  | [] => none
  | x :: l => match minL l with | none => some x | some y => some (min x y)
def omin : Option Int → Option Int → Option Int
  | none, y => y
  | some x, none => some x
  | some x, some y => some (min x y)
theorem minL_cons (x : Int) (l : List Int) : minL (x :: l) = omin (some x) (minL l) := by
  rw [minL]; cases minL l <;> rfl
theorem omin_assoc (a b c : Option Int) : omin (omin a b) c = omin a (omin b c) := by
  cases a <;> cases b <;> cases c <;> simp [omin, Int.min_assoc]
theorem omin_none (a : Option Int) : omin a none = a := by cases a <;> rfl
theorem minL_append (a b : List Int) : minL (a ++ b) = omin (minL a) (minL b) := by
  induction a with
  | nil => rfl
  | cons x a ih => rw [List.cons_append, minL_cons, minL_cons, ih, omin_assoc]
theorem minL_snoc (a : List Int) (x : Int) : minL (a ++ [x]) = omin (minL a) (some x) := by rw [minL_append]; rfl
theorem minL_none {l : List Int} : minL l = none ↔ l = [] := by
  cases l with
  | nil => simp [minL]
  | cons x l => rw [minL_cons]; cases minL l <;> simp [omin]
theorem min_calls (S : Nat → Prop) (A : Option Addr) (c : Nat) (l : List Int) (m : Int) (w : World) (h : RdI w S A l) (hm : minL l = some m) :
    Calls Try.prog 33 #[.slice A l.length c] w fun e w' => e = .returned (.int .i64 m) ∧ w = w' := by
  have hle := h.le
  have h0 : 0 < l.length := by
    cases l with
    | nil => simp [minL] at hm
    | cons x l => simp
  have e1 : decide ((l.length : Int) < 1) = false := by simpa using (by omega : ¬ (l.length : Int) < 1)
  obtain ⟨ad, hA, _, hc0⟩ := h.at_ h0
  have ha0 : ad.add 0 = ad := by unfold Addr.add; split <;> simp_all
  rw [ha0] at hc0
  have H0 := Lib.hid (show minL (l.take 1) = some l[0] by rw [List.take_one]; cases l with | nil => simp at h0 | cons x l => rfl)
  subst hA
  go_enter Try.func33, Try.ntmps33
  go_wp2
  go_loop [3, 4] (fun b i => ∃ (k : Nat) (y : Int), k ≤ l.length ∧ i = .int .i64 k ∧ b = .int .i64 y ∧ minL (l.take k) = some y) (fun _ i => l.length - (intOf i).toNat)
  case atStart => exact ⟨1, _, by omega, rfl, rfl, H0.out⟩
  case round =>
    obtain ⟨k, y, hk, rfl, rfl, hy⟩ := hrel
    have HY := Lib.hid hy
    have HM := Lib.hid hm
    clear hy
    by_cases hlt : k < l.length
    · obtain ⟨ad', hA, _, hcell⟩ := h.at_ hlt
      obtain rfl := Option.some.inj hA
      have htk : l.take (k + 1) = l.take k ++ [l[k]] := by rw [List.take_add_one, List.getElem?_eq_getElem hlt]; rfl
      have HT := Lib.hid htk
      clear htk
      generalize l[k] = x at *
      go_wp2_with (refine wpList_min (t := 2) y x (min y x) rfl rfl rfl rfl rfl ?_)
      go_round
      case rel => exact ⟨k + 1, min y x, by omega, by go_num, rfl, by rw [HT.out, minL_snoc, HY.out]; rfl⟩
      case measure => simp [intOf]; omega
    · obtain rfl : k = l.length := by omega
      have hy := HY.out
      rw [List.take_length, HM.out] at hy
      obtain rfl := Option.some.inj hy
      go_wp2
      go_ret
      exact ⟨rfl, rfl⟩
end Go.Proofs.Ytmcmjnflahfbkaa
