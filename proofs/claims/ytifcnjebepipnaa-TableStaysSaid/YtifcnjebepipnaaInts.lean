/- Lists of int64 in memory; a span of numbers; rising lists are one where they have the same. No condition. -/
import Derived.Test.YtifcnjebepipnaaProg
import Derived.Test.YtifcnjebepipnaaLap
namespace Go.Proofs.Ytifcnjebepipnaa
set_option linter.unusedVariables false
set_option linter.unusedSimpArgs false
open Go.RowKit

def I64 (l : List Int) : List Value := l.map (Value.int .i64)
theorem I64_length (l : List Int) : (I64 l).length = l.length := by simp [I64]
theorem I64_append (a b : List Int) : I64 (a ++ b) = I64 a ++ I64 b := by simp [I64]
theorem I64_one (l : List Int) : ∀ u ∈ I64 l, u.oneCell' = true := by
  intro u hu
  obtain ⟨x, _, rfl⟩ := List.mem_map.1 hu
  rfl
/-- A []int64 that reads as l. -/
def RdI (w : World) (S : Nat → Prop) (A : Option Addr) (l : List Int) : Prop := Rd w S 1 A l.length (I64 l)
theorem RdI.at_ {w : World} {S : Nat → Prop} {A : Option Addr} {l : List Int} {k : Nat} (h : RdI w S A l) (hk : k < l.length) : ∃ ad, A = some ad ∧ S ad.block ∧ w.cell? (ad.add k) = some (.int .i64 l[k]) := by
  obtain ⟨ad, u, e, hb, hx, hc⟩ := Rd.at_ h hk
  have : (I64 l)[k]? = some (.int .i64 l[k]) := by simp [I64, hk]
  rw [this] at hx
  obtain rfl := Option.some.inj hx
  exact ⟨ad, e, hb, hc⟩
theorem RdI.le {w : World} {S : Nat → Prop} {A : Option Addr} {l : List Int} (h : RdI w S A l) : l.length ≤ 211106232532992 := h.2.1
theorem RdI.fr0 {w w' : World} {S : Nat → Prop} {A : Option Addr} {l : List Int} (h : RdI w S A l) (hf : Fr No w w') : RdI w' S A l := Rd.fr0 h hf
theorem own_rdI {w : World} {base c : Nat} {e : TypeId} {A : Option Addr} {l : List Int} (h : w.ownsRow base e 1 (.slice A l.length c) l.length (I64 l)) (hn : l.length ≤ 211106232532992) : RdI w (fun b => A.map (·.block) = some b) A l := own_rd h hn
theorem so_i64 : SliceOf Try.prog 41 2 (.int .i64 0) 1 8 := ⟨Try.underlying41, by kernel_rfl, rfl, by decide, by decide, by decide⟩
theorem rd_new1 {w : World} {g : Nat} {v : Value} {e : TypeId} (h : g = w.heap.size) : Rd (w.alloc (.cells #[v] e)) (fun b => b = g) 1 (some ⟨g, 0, none⟩) 1 [v] := by
  subst h
  exact (Blk.new w e #[v]).rd (size := 1) (n := 1) (by rfl) (by decide)
/-- A row of int64 of the call's own. -/
def IRow (w : World) (base : Nat) (v : Value) (l : List Int) : Prop := w.ownsRow base 2 1 v l.length (I64 l)
theorem IRow.fr0 {w w' : World} {base : Nat} {v : Value} {l : List Int} (h : IRow w base v l) (hf : Fr No w w') : IRow w' base v l := own_fr0 h hf
theorem IRow.fr {S : Nat → Prop} {w w' : World} {base : Nat} {v : Value} {l : List Int} (h : IRow w base v l) (hf : Fr S w w') (hs : ∀ b, base ≤ b → ¬ S b) : IRow w' base v l := own_fr h hf (fun b hb => hs b (h.lt _ hb).1)
theorem IRow.rd {w : World} {base : Nat} {v : Value} {l : List Int} (h : IRow w base v l) (hl : l.length ≤ 211106232532992) : ∃ A c, v = .slice A l.length c ∧ RdI w (fun b => base ≤ b) A l := by
  obtain ⟨A, c, rfl, _, _, _⟩ := own_form h
  refine ⟨A, c, rfl, Rd.mono (own_rdI h hl) (fun b _ hb => ?_) (by decide)⟩
  cases A with
  | none => cases hb
  | some ad =>
    simp only [Option.map_some] at hb
    exact (World.ownsRow.lt h b hb).1

/-- Those of n numbers from a on of which p holds, rising. -/
def upI (p : Int → Bool) (a : Int) (n : Nat) : List Int := ((List.range n).map (fun i : Nat => a + (i : Int))).filter p
theorem upI_sorted (p : Int → Bool) (a : Int) (n : Nat) : (upI p a n).Pairwise (· < ·) := by
  unfold upI
  refine List.Pairwise.filter _ ?_
  refine List.pairwise_map.2 ?_
  exact (List.pairwise_lt_range (n := n)).imp (fun {x y} h => by omega)
theorem upI_mem (p : Int → Bool) (a : Int) (n : Nat) (x : Int) : x ∈ upI p a n ↔ (a ≤ x ∧ x < a + n) ∧ p x = true := by
  unfold upI
  rw [List.mem_filter, List.mem_map]
  constructor
  · rintro ⟨⟨i, hi, rfl⟩, hp⟩
    have := List.mem_range.1 hi
    exact ⟨⟨by omega, by omega⟩, hp⟩
  · rintro ⟨⟨h1, h2⟩, hp⟩
    exact ⟨⟨(x - a).toNat, List.mem_range.2 (by omega), by omega⟩, hp⟩
theorem upI_len (p : Int → Bool) (a : Int) (n : Nat) : (upI p a n).length ≤ n := by
  unfold upI
  refine Nat.le_trans (List.length_filter_le _ _) ?_
  simp
theorem upI_congr {p q : Int → Bool} {a : Int} {n : Nat} (h : ∀ x, a ≤ x → x < a + n → p x = q x) : upI p a n = upI q a n := by
  unfold upI
  refine List.filter_congr fun x hx => ?_
  obtain ⟨i, hi, rfl⟩ := List.mem_map.1 hx
  have := List.mem_range.1 hi
  exact h _ (by omega) (by omega)
theorem upI_none {p : Int → Bool} {a : Int} {n : Nat} (h : ∀ x, a ≤ x → x < a + n → p x = false) : upI p a n = [] := by
  unfold upI
  refine List.filter_eq_nil_iff.2 fun x hx => ?_
  obtain ⟨i, hi, rfl⟩ := List.mem_map.1 hx
  have := List.mem_range.1 hi
  rw [h _ (by omega) (by omega)]
  exact Bool.false_ne_true
theorem rising_ext : ∀ {l m : List Int}, l.Pairwise (· < ·) → m.Pairwise (· < ·) → (∀ x, x ∈ l ↔ x ∈ m) → l = m := by
  intro l m h1 h2 h
  refine List.Perm.eq_of_pairwise (le := (· < ·)) (fun a b _ _ x y => by omega) h1 h2 ?_
  exact (List.perm_ext_iff_of_nodup (h1.imp (fun {a b} hab => by omega)) (h2.imp (fun {a b} hab => by omega))).2 h
end Go.Proofs.Ytifcnjebepipnaa
