/- Layings of the library's own functions at this seat's numbers. No condition. Layings of the library's own functions at this seat's numbers. No condition. Lists of int64 in memory; a span of numbers; rising lists are one where they have the same. No condition. view.from over slices.Sorted of an iterator that gives each key of a map once: the keys of a span, rising. No condition but size. Reads, Writes, News of a view: the keys of its maps in a span, rising. No condition but size. lapidarylaw12.spoil writes over an object's own rows. No condition but size. The reference's table: asked, find, At. No condition but size. A table and the reference's that have had the same records: an object behind a commit is the same. Plain. No condition. lapidarylaw12.ViewAlone: whatever one view does, another one of the same table, and the table, see nothing of it. -/
import Derived.Shelf.SlIterI.Nil
import Derived.Shelf.SlMaps.Clone
import Derived.Test.YtoajigghkjnffaaProg
import Derived.Shelf.SortM.Plain
import Derived.Test.YtoajigghkjnffaaJRViewCopiesp0
import Derived.Shelf.SortM.SortNone
import Derived.Test.YtoajigghkjnffaaJRViewCopiesp2
import Derived.Lib.SliceRun
import Derived.Deep.LoopGhost
import Derived.Test.YtoajigghkjnffaaJRViewCopiesp5
import Derived.Test.YtoajigghkjnffaaJRViewCopiesp1
import Derived.Deep.CutBlock
import Derived.Deep.DeepCutAuto
import Derived.Test.YtoajigghkjnffaaJRViewCopiesp3
import Derived.Test.YtoajigghkjnffaaJRViewCopiesp4
namespace Go.Proofs.Ytoajigghkjnffaa
set_option linter.unusedVariables false
set_option linter.unusedSimpArgs false
set_option linter.unusedVariables false
open Go.Shelf
def keysR_ren : Go.Shelf.Ren := ⟨fun | 7 => 51 | 10 => 65 | n => n, fun | 0 => 0 | 3 => 4 | 4 => 4 | 23 => 80 | 26 => 2 | 27 => 98 | 28 => 99 | 33 => 87 | n => n, fun n => n⟩
theorem keysR : SlLaysZI.n7 Try.prog keysR_ren := {
  mixed := by kernel_rfl
  f7 := ⟨Try.f51.name, by decide, Try.func51.trans (congrArg some (by kernel_rfl))⟩
  f10 := ⟨Try.f65.name, by decide, Try.func65.trans (congrArg some (by kernel_rfl))⟩
  t0 := Try.underlying0
  a0 := Try.isAgg0
  z0 := Try.sizeOf0
  v0 := Try.zeroValue0
  t4 := Try.underlying4
  a4 := Try.isAgg4
  z4 := Try.sizeOf4
  v4 := Try.zeroValue4
  t23 := Try.underlying80
  a23 := Try.isAgg80
  z23 := Try.sizeOf80
  v23 := Try.zeroValue80
  t26 := Try.underlying2
  a26 := Try.isAgg2
  z26 := Try.sizeOf2
  v26 := Try.zeroValue2
  t27 := Try.underlying98
  a27 := Try.isAgg98
  z27 := Try.sizeOf98
  v27 := Try.zeroValue98
  t28 := Try.underlying99
  a28 := Try.isAgg99
  z28 := Try.sizeOf99
  v28 := Try.zeroValue99
  t33 := Try.underlying87
  a33 := Try.isAgg87
  z33 := Try.sizeOf87
  v33 := Try.zeroValue87 }
def keysO_ren : Go.Shelf.Ren := ⟨fun | 7 => 52 | 10 => 66 | n => n, fun | 0 => 0 | 3 => 27 | 4 => 4 | 23 => 79 | 26 => 2 | 27 => 98 | 28 => 99 | 33 => 87 | n => n, fun n => n⟩
theorem keysO : SlLaysZI.n7 Try.prog keysO_ren := {
  mixed := by kernel_rfl
  f7 := ⟨Try.f52.name, by decide, Try.func52.trans (congrArg some (by kernel_rfl))⟩
  f10 := ⟨Try.f66.name, by decide, Try.func66.trans (congrArg some (by kernel_rfl))⟩
  t0 := Try.underlying0
  a0 := Try.isAgg0
  z0 := Try.sizeOf0
  v0 := Try.zeroValue0
  t4 := Try.underlying4
  a4 := Try.isAgg4
  z4 := Try.sizeOf4
  v4 := Try.zeroValue4
  t23 := Try.underlying79
  a23 := Try.isAgg79
  z23 := Try.sizeOf79
  v23 := Try.zeroValue79
  t26 := Try.underlying2
  a26 := Try.isAgg2
  z26 := Try.sizeOf2
  v26 := Try.zeroValue2
  t27 := Try.underlying98
  a27 := Try.isAgg98
  z27 := Try.sizeOf98
  v27 := Try.zeroValue98
  t28 := Try.underlying99
  a28 := Try.isAgg99
  z28 := Try.sizeOf99
  v28 := Try.zeroValue99
  t33 := Try.underlying87
  a33 := Try.isAgg87
  z33 := Try.sizeOf87
  v33 := Try.zeroValue87 }
def cloneR_ren : Go.Shelf.Ren := ⟨fun | 5 => 54 | 7 => 67 | n => n, fun | 3 => 4 | 4 => 4 | 20 => 20 | 23 => 80 | 25 => 2 | n => n, fun n => n⟩
theorem cloneR : SlLaysW.n5 Try.prog cloneR_ren := {
  mixed := by kernel_rfl
  f5 := ⟨Try.f54.name, by decide, Try.func54.trans (congrArg some (by kernel_rfl))⟩
  f7 := Try.func67.trans (congrArg some (by kernel_rfl))
  t4 := Try.underlying4
  a4 := Try.isAgg4
  z4 := Try.sizeOf4
  v4 := Try.zeroValue4
  t20 := Try.underlying20
  a20 := Try.isAgg20
  z20 := Try.sizeOf20
  v20 := Try.zeroValue20
  t23 := Try.underlying80
  a23 := Try.isAgg80
  z23 := Try.sizeOf80
  v23 := Try.zeroValue80 }
def cloneO_ren : Go.Shelf.Ren := ⟨fun | 5 => 53 | 7 => 67 | n => n, fun | 3 => 27 | 4 => 4 | 20 => 20 | 23 => 79 | 25 => 2 | n => n, fun n => n⟩
theorem cloneO : SlLaysW.n5 Try.prog cloneO_ren := {
  mixed := by kernel_rfl
  f5 := ⟨Try.f53.name, by decide, Try.func53.trans (congrArg some (by kernel_rfl))⟩
  f7 := Try.func67.trans (congrArg some (by kernel_rfl))
  t4 := Try.underlying4
  a4 := Try.isAgg4
  z4 := Try.sizeOf4
  v4 := Try.zeroValue4
  t20 := Try.underlying20
  a20 := Try.isAgg20
  z20 := Try.sizeOf20
  v20 := Try.zeroValue20
  t23 := Try.underlying79
  a23 := Try.isAgg79
  z23 := Try.sizeOf79
  v23 := Try.zeroValue79 }
end Go.Proofs.Ytoajigghkjnffaa
namespace Go.Proofs.Ytoajigghkjnffaa
set_option linter.unusedVariables false
set_option linter.unusedSimpArgs false
set_option linter.unusedVariables false
open Go.Shelf
def sortL_ren : Go.Shelf.Ren := ⟨fun | 5 => 70 | 7 => 74 | 8 => 75 | 10 => 79 | 11 => 80 | 12 => 81 | 13 => 82 | 14 => 83 | 15 => 84 | 16 => 85 | 17 => 86 | 18 => 87 | 19 => 88 | 20 => 89 | 30 => 90 | 31 => 91 | 32 => 92 | 33 => 93 | 34 => 94 | 35 => 95 | 40 => 96 | n => n, fun | 0 => 0 | 3 => 3 | 4 => 4 | 5 => 5 | 9 => 9 | 22 => 59 | 23 => 59 | 25 => 2 | 32 => 117 | 35 => 125 | 36 => 126 | 41 => 112 | 44 => 133 | 46 => 135 | 53 => 136 | 57 => 140 | 63 => 142 | 64 => 143 | n => n, fun n => n⟩
theorem sortL : SlLaysM.n5 Try.prog sortL_ren := {
  mixed := by kernel_rfl
  f5 := ⟨Try.f70.name, by decide, Try.func70.trans (congrArg some (by kernel_rfl))⟩
  f7 := ⟨Try.f74.name, by decide, Try.func74.trans (congrArg some (by kernel_rfl))⟩
  f8 := Try.func75.trans (congrArg some (by kernel_rfl))
  f10 := ⟨Try.f79.name, by decide, Try.func79.trans (congrArg some (by kernel_rfl))⟩
  f11 := ⟨Try.f80.name, by decide, Try.func80.trans (congrArg some (by kernel_rfl))⟩
  f12 := ⟨Try.f81.name, by decide, Try.func81.trans (congrArg some (by kernel_rfl))⟩
  f13 := ⟨Try.f82.name, by decide, Try.func82.trans (congrArg some (by kernel_rfl))⟩
  f14 := ⟨Try.f83.name, by decide, Try.func83.trans (congrArg some (by kernel_rfl))⟩
  f15 := ⟨Try.f84.name, by decide, Try.func84.trans (congrArg some (by kernel_rfl))⟩
  f16 := ⟨Try.f85.name, by decide, Try.func85.trans (congrArg some (by kernel_rfl))⟩
  f17 := ⟨Try.f86.name, by decide, Try.func86.trans (congrArg some (by kernel_rfl))⟩
  f18 := ⟨Try.f87.name, by decide, Try.func87.trans (congrArg some (by kernel_rfl))⟩
  f19 := Try.func88.trans (congrArg some (by kernel_rfl))
  f20 := Try.func89.trans (congrArg some (by kernel_rfl))
  f30 := ⟨Try.f90.name, by decide, Try.func90.trans (congrArg some (by kernel_rfl))⟩
  f31 := Try.func91.trans (congrArg some (by kernel_rfl))
  f32 := Try.func92.trans (congrArg some (by kernel_rfl))
  f33 := ⟨Try.f93.name, by decide, Try.func93.trans (congrArg some (by kernel_rfl))⟩
  f34 := ⟨Try.f94.name, by decide, Try.func94.trans (congrArg some (by kernel_rfl))⟩
  f35 := ⟨Try.f95.name, by decide, Try.func95.trans (congrArg some (by kernel_rfl))⟩
  f40 := ⟨Try.f96.name, by decide, Try.func96.trans (congrArg some (by kernel_rfl))⟩
  t0 := Try.underlying0
  a0 := Try.isAgg0
  z0 := Try.sizeOf0
  v0 := Try.zeroValue0
  t3 := Try.underlying3
  a3 := Try.isAgg3
  z3 := Try.sizeOf3
  v3 := Try.zeroValue3
  t4 := Try.underlying4
  a4 := Try.isAgg4
  z4 := Try.sizeOf4
  v4 := Try.zeroValue4
  t5 := Try.underlying5
  a5 := Try.isAgg5
  z5 := Try.sizeOf5
  v5 := Try.zeroValue5
  t9 := Try.underlying9
  a9 := Try.isAgg9
  z9 := Try.sizeOf9
  v9 := Try.zeroValue9
  t22 := Try.underlying59
  a22 := Try.isAgg59
  z22 := Try.sizeOf59
  v22 := Try.zeroValue59
  t23 := Try.underlying59
  a23 := Try.isAgg59
  z23 := Try.sizeOf59
  v23 := Try.zeroValue59
  t25 := Try.underlying2
  a25 := Try.isAgg2
  z25 := Try.sizeOf2
  v25 := Try.zeroValue2
  t32 := Try.underlying117
  a32 := Try.isAgg117
  z32 := Try.sizeOf117
  v32 := Try.zeroValue117
  t35 := Try.underlying125
  a35 := Try.isAgg125
  z35 := Try.sizeOf125
  v35 := Try.zeroValue125
  t36 := Try.underlying126
  a36 := Try.isAgg126
  z36 := Try.sizeOf126
  v36 := Try.zeroValue126
  t41 := Try.underlying112
  a41 := Try.isAgg112
  z41 := Try.sizeOf112
  v41 := Try.zeroValue112
  t44 := Try.underlying133
  a44 := Try.isAgg133
  z44 := Try.sizeOf133
  v44 := Try.zeroValue133
  t46 := Try.underlying135
  a46 := Try.isAgg135
  z46 := Try.sizeOf135
  v46 := Try.zeroValue135
  t53 := Try.underlying136
  a53 := Try.isAgg136
  z53 := Try.sizeOf136
  v53 := Try.zeroValue136
  t57 := Try.underlying140
  a57 := Try.isAgg140
  z57 := Try.sizeOf140
  v57 := Try.zeroValue140
  t63 := Try.underlying142
  a63 := Try.isAgg142
  z63 := Try.sizeOf142
  v63 := Try.zeroValue142
  t64 := Try.underlying143
  a64 := Try.isAgg143
  z64 := Try.sizeOf143
  v64 := Try.zeroValue143 }
def sortedL_ren : Go.Shelf.Ren := ⟨fun | 6 => 64 | 8 => 69 | 9 => 70 | 11 => 73 | 12 => 74 | 13 => 75 | 14 => 79 | 15 => 80 | 16 => 81 | 17 => 82 | 18 => 83 | 19 => 84 | 20 => 85 | 21 => 86 | 22 => 87 | 23 => 88 | 24 => 89 | 25 => 90 | 26 => 91 | 27 => 92 | 28 => 93 | 29 => 94 | 30 => 95 | 31 => 96 | n => n, fun | 0 => 0 | 3 => 3 | 4 => 4 | 5 => 5 | 9 => 9 | 24 => 59 | 26 => 2 | 28 => 99 | 33 => 87 | 37 => 117 | 39 => 125 | 40 => 126 | 45 => 112 | 48 => 133 | 50 => 135 | 51 => 136 | 55 => 140 | 57 => 142 | 58 => 143 | n => n, fun n => n⟩
theorem sortedL : SlLaysZI.n6 Try.prog sortedL_ren := {
  mixed := by kernel_rfl
  f6 := ⟨Try.f64.name, by decide, Try.func64.trans (congrArg some (by kernel_rfl))⟩
  f8 := ⟨Try.f69.name, by decide, Try.func69.trans (congrArg some (by kernel_rfl))⟩
  f11 := ⟨Try.f73.name, by decide, Try.func73.trans (congrArg some (by kernel_rfl))⟩
  t0 := Try.underlying0
  a0 := Try.isAgg0
  z0 := Try.sizeOf0
  v0 := Try.zeroValue0
  t24 := Try.underlying59
  a24 := Try.isAgg59
  z24 := Try.sizeOf59
  v24 := Try.zeroValue59
  t26 := Try.underlying2
  a26 := Try.isAgg2
  z26 := Try.sizeOf2
  v26 := Try.zeroValue2
  t28 := Try.underlying99
  a28 := Try.isAgg99
  z28 := Try.sizeOf99
  v28 := Try.zeroValue99
  i26 := by kernel_rfl }
end Go.Proofs.Ytoajigghkjnffaa
namespace Go.Proofs.Ytoajigghkjnffaa
set_option linter.unusedVariables false
set_option linter.unusedSimpArgs false
open Go.RowKit

def I64 (l : List Int) : List Value := l.map (Value.int .i64)
theorem I64_length (l : List Int) : (I64 l).length = l.length := by simp [I64]
theorem I64_append (a b : List Int) : I64 (a ++ b) = I64 a ++ I64 b := by simp [I64]
theorem I64_one (l : List Int) : ∀ u ∈ I64 l, u.oneCell' = true := by
  intro u hu
  obtain ⟨x, _, rfl⟩ := List.mem_map.1 hu
  rfl
/-- A []int64 that reads as l. -/
def RdI (w : World) (S : Nat → Prop) (A : Option Addr) (l : List Int) : Prop := Rd w S 1 A l.length (I64 l)
theorem RdI.at_ {w : World} {S : Nat → Prop} {A : Option Addr} {l : List Int} {k : Nat} (h : RdI w S A l) (hk : k < l.length) : ∃ ad, A = some ad ∧ S ad.block ∧ w.cell? (ad.add k) = some (.int .i64 l[k]) := by
  obtain ⟨ad, u, e, hb, hx, hc⟩ := Rd.at_ h hk
  have : (I64 l)[k]? = some (.int .i64 l[k]) := by simp [I64, hk]
  rw [this] at hx
  obtain rfl := Option.some.inj hx
  exact ⟨ad, e, hb, hc⟩
theorem RdI.le {w : World} {S : Nat → Prop} {A : Option Addr} {l : List Int} (h : RdI w S A l) : l.length ≤ 211106232532992 := h.2.1
theorem RdI.fr0 {w w' : World} {S : Nat → Prop} {A : Option Addr} {l : List Int} (h : RdI w S A l) (hf : Fr No w w') : RdI w' S A l := Rd.fr0 h hf
theorem own_rdI {w : World} {base c : Nat} {e : TypeId} {A : Option Addr} {l : List Int} (h : w.ownsRow base e 1 (.slice A l.length c) l.length (I64 l)) (hn : l.length ≤ 211106232532992) : RdI w (fun b => A.map (·.block) = some b) A l := own_rd h hn
theorem so_i64 : SliceOf Try.prog 59 2 (.int .i64 0) 1 8 := ⟨Try.underlying59, by kernel_rfl, rfl, by decide, by decide, by decide⟩
theorem rd_new1 {w : World} {g : Nat} {v : Value} {e : TypeId} (h : g = w.heap.size) : Rd (w.alloc (.cells #[v] e)) (fun b => b = g) 1 (some ⟨g, 0, none⟩) 1 [v] := by
  subst h
  exact (Blk.new w e #[v]).rd (size := 1) (n := 1) (by rfl) (by decide)
/-- A row of int64 of the call's own. -/
def IRow (w : World) (base : Nat) (v : Value) (l : List Int) : Prop := w.ownsRow base 2 1 v l.length (I64 l)
theorem IRow.fr0 {w w' : World} {base : Nat} {v : Value} {l : List Int} (h : IRow w base v l) (hf : Fr No w w') : IRow w' base v l := own_fr0 h hf
theorem IRow.fr {S : Nat → Prop} {w w' : World} {base : Nat} {v : Value} {l : List Int} (h : IRow w base v l) (hf : Fr S w w') (hs : ∀ b, base ≤ b → ¬ S b) : IRow w' base v l := own_fr h hf (fun b hb => hs b (h.lt _ hb).1)
theorem IRow.rd {w : World} {base : Nat} {v : Value} {l : List Int} (h : IRow w base v l) (hl : l.length ≤ 211106232532992) : ∃ A c, v = .slice A l.length c ∧ RdI w (fun b => base ≤ b) A l := by
  obtain ⟨A, c, rfl, _, _, _⟩ := own_form h
  refine ⟨A, c, rfl, Rd.mono (own_rdI h hl) (fun b _ hb => ?_) (by decide)⟩
  cases A with
  | none => cases hb
  | some ad =>
    simp only [Option.map_some] at hb
    exact (World.ownsRow.lt h b hb).1

/-- Those of n numbers from a on of which p holds, rising. -/
def upI (p : Int → Bool) (a : Int) (n : Nat) : List Int := ((List.range n).map (fun i : Nat => a + (i : Int))).filter p
theorem upI_sorted (p : Int → Bool) (a : Int) (n : Nat) : (upI p a n).Pairwise (· < ·) := by
  unfold upI
  refine List.Pairwise.filter _ ?_
  refine List.pairwise_map.2 ?_
  exact (List.pairwise_lt_range (n := n)).imp (fun {x y} h => by omega)
theorem upI_mem (p : Int → Bool) (a : Int) (n : Nat) (x : Int) : x ∈ upI p a n ↔ (a ≤ x ∧ x < a + n) ∧ p x = true := by
  unfold upI
  rw [List.mem_filter, List.mem_map]
  constructor
  · rintro ⟨⟨i, hi, rfl⟩, hp⟩
    have := List.mem_range.1 hi
    exact ⟨⟨by omega, by omega⟩, hp⟩
  · rintro ⟨⟨h1, h2⟩, hp⟩
    exact ⟨⟨(x - a).toNat, List.mem_range.2 (by omega), by omega⟩, hp⟩
theorem upI_len (p : Int → Bool) (a : Int) (n : Nat) : (upI p a n).length ≤ n := by
  unfold upI
  refine Nat.le_trans (List.length_filter_le _ _) ?_
  simp
theorem upI_congr {p q : Int → Bool} {a : Int} {n : Nat} (h : ∀ x, a ≤ x → x < a + n → p x = q x) : upI p a n = upI q a n := by
  unfold upI
  refine List.filter_congr fun x hx => ?_
  obtain ⟨i, hi, rfl⟩ := List.mem_map.1 hx
  have := List.mem_range.1 hi
  exact h _ (by omega) (by omega)
theorem upI_none {p : Int → Bool} {a : Int} {n : Nat} (h : ∀ x, a ≤ x → x < a + n → p x = false) : upI p a n = [] := by
  unfold upI
  refine List.filter_eq_nil_iff.2 fun x hx => ?_
  obtain ⟨i, hi, rfl⟩ := List.mem_map.1 hx
  have := List.mem_range.1 hi
  rw [h _ (by omega) (by omega)]
  exact Bool.false_ne_true
theorem rising_ext : ∀ {l m : List Int}, l.Pairwise (· < ·) → m.Pairwise (· < ·) → (∀ x, x ∈ l ↔ x ∈ m) → l = m := by
  intro l m h1 h2 h
  refine List.Perm.eq_of_pairwise (le := (· < ·)) (fun a b _ _ x y => by omega) h1 h2 ?_
  exact (List.perm_ext_iff_of_nodup (h1.imp (fun {a b} hab => by omega)) (h2.imp (fun {a b} hab => by omega))).2 h
end Go.Proofs.Ytoajigghkjnffaa
namespace Go.Proofs.Ytoajigghkjnffaa
set_option linter.unusedVariables false
set_option linter.unusedSimpArgs false
open Go.RowKit Go.Maps Go.Sort Go.Shelf

theorem sortsL (m : Nat) : AnyZI.SortsIn Try.prog sortedL_ren Fence.wide m :=
  ⟨fun blk off cap ss W hH hblk hsz => callsIn_wide.2 (AnyM.slices_Sort_int sortL blk off cap ss W hH hblk hsz),
   fun p cap W => callsIn_wide.2 (AnyM.slices_Sort_int_none sortL p cap W)⟩
theorem sorted_rising {l : List Int} (h : l.Nodup) : (l.mergeSort (fun x y => decide (x ≤ y))).Pairwise (· < ·) := by
  have h1 : (l.mergeSort (fun x y => decide (x ≤ y))).Pairwise (fun a b => decide (a ≤ b) = true) := List.pairwise_mergeSort (le := fun x y : Int => decide (x ≤ y)) (fun a b c h1 h2 => by simp only [decide_eq_true_eq] at *; omega) (fun a b => by simp only [Bool.or_eq_true, decide_eq_true_eq]; omega) l
  have h2 : (l.mergeSort (fun x y => decide (x ≤ y))).Nodup := (List.mergeSort_perm l _).nodup_iff.2 h
  exact (h1.and h2).imp (fun {a b} ⟨x, y⟩ => by simp only [decide_eq_true_eq] at x; omega)
/-- What a map's keys are, sorted. -/
theorem keys_sorted {w : World} {b n : Nat} {f : Int → Option Value} {D : DataW Value} (ho : w.ownsMap Try.prog 2 hR b n D) (hf : ∀ x, W64 x → has D (.int .i64 x) = (f x).isSome ∧ ∀ v, f x = some v → ∀ z, D.atKey (.int .i64 x) z = .held v)
    {ss : List Int} (hp : ss.Perm (intKeys D)) : (ss.mergeSort (fun x y => decide (x ≤ y))).Pairwise (· < ·) ∧ ∀ x, W64 x → (x ∈ ss.mergeSort (fun x y => decide (x ≤ y)) ↔ (f x).isSome = true) := by
  obtain ⟨es, hD, hpw, _⟩ := ho.entries keyed64
  obtain ⟨es', hD', hko⟩ := ho.keysOf
  obtain rfl : es = es' := by rw [hD] at hD'; simpa using hD'
  have hk : ∀ p ∈ es, ∃ x, p.1 = .int .i64 x := fun p hp => by
    obtain ⟨v, hv⟩ := hko p hp
    obtain ⟨x, _, hx, _⟩ := Maps.keyOf_i64 Try.underlying2 hv
    exact ⟨x, hx⟩
  subst hD
  have hnd : (intKeys (.map es)).Nodup := by
    show (es.map fun p => Go.intOf p.1).Nodup
    refine List.pairwise_map.2 (hpw.imp_of_mem fun {p q} hp' hq' hne e => hne ?_)
    obtain ⟨a, ha⟩ := hk p hp'
    obtain ⟨b, hb⟩ := hk q hq'
    rw [ha, hb] at e ⊢
    exact congrArg _ e
  refine ⟨sorted_rising (hp.nodup_iff.2 hnd), fun x hx => ?_⟩
  rw [List.mem_mergeSort, hp.mem_iff, ← (hf x hx).1, has_eq, List.any_eq_true]
  show x ∈ es.map (fun p => Go.intOf p.1) ↔ _
  rw [List.mem_map]
  constructor
  · rintro ⟨p, hp', rfl⟩
    obtain ⟨a, ha⟩ := hk p hp'
    exact ⟨p, hp', by rw [ha]; simp [Lit.sameKey, Go.intOf]⟩
  · rintro ⟨p, hp', hs⟩
    obtain ⟨a, ha⟩ := hk p hp'
    rw [ha] at hs
    exact ⟨p, hp', by rw [ha]; simpa [Lit.sameKey, Go.intOf] using hs⟩
theorem keys_span {f : Int → Option Value} {l : List Int} (h1 : l.Pairwise (· < ·)) (h2 : ∀ x, W64 x → (x ∈ l ↔ (f x).isSome = true)) (a : Int) (n : Nat) (ha : -9223372036854775808 ≤ a) (hn : a + n ≤ 9223372036854775807) :
    l.filter (fun x => decide (a ≤ x) && decide (x < a + n)) = upI (fun x => (f x).isSome) a n := by
  refine rising_ext (h1.filter _) (upI_sorted _ _ _) (fun x => ?_)
  rw [List.mem_filter, upI_mem, Bool.and_eq_true, decide_eq_true_eq, decide_eq_true_eq]
  constructor
  · rintro ⟨hx, h3, h4⟩
    exact ⟨⟨h3, h4⟩, (h2 x (wf_of (by omega) (by omega))).1 hx⟩
  · rintro ⟨⟨h3, h4⟩, hx⟩
    exact ⟨(h2 x (wf_of (by omega) (by omega))).2 hx, h3, h4⟩

set_option maxHeartbeats 1000000 in
set_option maxRecDepth 100000 in
theorem from_calls (g : Nat) (lb : Array Value) (eg : ∀ args w, (callFunc g args).run Try.prog w = .ok (.enter g args) w) (S : List Int → Prop) (N : Nat) (hN : N ≤ 1000000) (a b : Int) (w : World) (hseq : SeqGives Fence.wide 2 Try.prog g lb encZ S N w) (hSN : ∀ ss, S ss → ss.length ≤ N) :
    Calls Try.prog 50 #[.func (.func g) #[] lb, .int .i64 a, .int .i64 b] w fun e w' => ∃ v ss, e = .returned v ∧ S ss ∧ IRow w' w.heap.size v ((ss.mergeSort (fun x y => decide (x ≤ y))).filter (fun x => decide (a ≤ x) && decide (x < b))) ∧ Fr No w w' := by
  have cS := AnyZI.sorted_in sortedL Fence.wide 5 trivial trivial trivial trivial rfl (by omega) (sortsL _) (enters_of Try.func70 (by kernel_rfl) rfl) g lb trivial eg S N (by simp only [maxLen]; omega) (by omega) w hseq
  change CallsIn _ _ Try.prog 64 _ _ _ at cS
  have cS := callsIn_wide.1 cS
  go_enter Try.func50, Try.ntmps50
  go_wp2_with fail
  refine cS.mono ?_
  rintro e w1 ⟨v, ss, rfl, hS, hrow, hnil, hbel⟩
  have hf1 : Fr No w w1 := Fr.of_below hbel
  have hl0 : ss.length = (ss.mergeSort (fun x y => decide (x ≤ y))).length := by simp
  have hlN := hSN _ hS
  have hrow : IRow w1 w.heap.size v (ss.mergeSort (fun x y => decide (x ≤ y))) := by unfold IRow; rw [← hl0]; exact hrow
  generalize hL : ss.mergeSort (fun x y => decide (x ≤ y)) = L at *
  rw [hl0] at hlN
  have HL := Lib.hid hL
  clear hl0 hL hnil
  obtain ⟨A, c, rfl, hrd⟩ := IRow.rd hrow (by omega)
  have hs1 := hf1.size
  have HN := Lib.hid hlN
  have hle := hrd.le
  go_wp2_with fail
  go_loopw [7, 13] (fun v i wr => ∃ (k : Nat) (M : List Int), k ≤ L.length ∧ i = .int .i64 (k : Int) ∧ M.length ≤ k ∧ Hid (M = (L.take k).filter (fun x => decide (a ≤ x) && decide (x < b))) ∧ wr.ownsRow w1.heap.size 2 1 v M.length (I64 M) ∧ Fr No w1 wr) (fun _ i _ => L.length - (intOf i).toNat)
  case atStart => exact ⟨0, [], by omega, rfl, by simp, Lib.hid (by simp), World.ownsRow_nil _ _ _ _, Fr.refl _ _⟩
  case round =>
    obtain ⟨k, M, hk, rfl, hMk, HM, hown, hf⟩ := hrel
    by_cases hlt : k < L.length
    · have ek : decide ((k : Int) < L.length) = true := by simpa using (by omega : (k : Int) < L.length)
      obtain ⟨ad, rfl, _, hc⟩ := (RdI.fr0 hrd hf).at_ hlt
      have HT := Lib.hid (show (L.take (k + 1)).filter (fun x => decide (a ≤ x) && decide (x < b)) = (L.take k).filter (fun x => decide (a ≤ x) && decide (x < b)) ++ [L[k]].filter (fun x => decide (a ≤ x) && decide (x < b)) by
        rw [← List.filter_append, ← List.take_append_getElem hlt])
      generalize L[k] = x at *
      by_cases h1 : a ≤ x
      · have e1 : decide (a ≤ x) = true := by simpa using h1
        have e1' : decide (x ≥ a) = true := by simpa using h1
        by_cases h2 : x < b
        · have e2 : decide (x < b) = true := by simpa using h2
          have HT' := Lib.hid (show (L.take (k + 1)).filter (fun x => decide (a ≤ x) && decide (x < b)) = (L.take k).filter (fun x => decide (a ≤ x) && decide (x < b)) ++ [x] by rw [HT.out]; simp [h1, h2])
          have hownA := hown.alloc (.cells #[.int .i64 x] 2)
          clear h1 h2
          go_wp2_with (first
            | (refine wpList_app_hid so_i64 rfl hownA (rd_new1 (by simp)) (by intro u hu; simp at hu; subst hu; rfl) (by omega) (by have := hf.size; simp; omega) rfl rfl rfl ?_; intro v5 w5 hown5 hg5 hat5)
            | fail)
          go_roundw
          case rel =>
            refine ⟨k + 1, M ++ [x], by omega, by go_num, by simp; omega, Lib.hid (by rw [HT'.out, HM.out]), ?_, (hf.alloc _).grown hg5 (fun q hq => .inl (hown.lt q hq).1)⟩
            rw [List.length_append, I64_append]; exact hown5
          case measure => simp [intOf]; omega
        · have e2 : decide (x < b) = false := by simpa using h2
          have HT' := Lib.hid (show (L.take (k + 1)).filter (fun x => decide (a ≤ x) && decide (x < b)) = (L.take k).filter (fun x => decide (a ≤ x) && decide (x < b)) by rw [HT.out]; simp [h2])
          clear h1 h2
          go_wp2
          go_roundw
          case rel => exact ⟨k + 1, M, by omega, by go_num, by omega, Lib.hid (by rw [HT'.out, HM.out]), hown, hf⟩
          case measure => simp [intOf]; omega
      · have e1 : decide (a ≤ x) = false := by simpa using h1
        have HT' := Lib.hid (show (L.take (k + 1)).filter (fun x => decide (a ≤ x) && decide (x < b)) = (L.take k).filter (fun x => decide (a ≤ x) && decide (x < b)) by rw [HT.out]; simp [h1])
        clear h1
        go_wp2
        go_roundw
        case rel => exact ⟨k + 1, M, by omega, by go_num, by omega, Lib.hid (by rw [HT'.out, HM.out]), hown, hf⟩
        case measure => simp [intOf]; omega
    · obtain rfl : k = L.length := by omega
      have ek : decide ((L.length : Int) < L.length) = false := by simp
      rw [List.take_length] at HM
      go_wp2
      go_ret
      refine ⟨_, ss, rfl, hS, ?_, hf1.tr hf⟩
      rw [HL.out, ← HM.out]
      exact own_down hown hs1
end Go.Proofs.Ytoajigghkjnffaa
namespace Go.Proofs.Ytoajigghkjnffaa
set_option linter.unusedVariables false
set_option linter.unusedSimpArgs false
open Go.RowKit Go.Maps Go.Sort Go.Shelf

/-- What a list of a map's keys in a span is. -/
theorem MapV.span {w : World} {b n : Nat} {f : Int → Option Value} {D : DataW Value} (ho : w.ownsMap Try.prog 2 hR b n D) (hf : ∀ x, W64 x → has D (.int .i64 x) = (f x).isSome ∧ ∀ v, f x = some v → ∀ z, D.atKey (.int .i64 x) z = .held v)
    {ss : List Int} (hp : ss.Perm (intKeys D)) {a e : Int} {m : Nat} (he : e = a + m) (ha : -9223372036854775808 ≤ a) (hm : a + m ≤ 9223372036854775807) {p : Int → Bool} (hq : ∀ x, W64 x → (f x).isSome = p x) :
    (ss.mergeSort (fun x y => decide (x ≤ y))).filter (fun x => decide (a ≤ x) && decide (x < e)) = upI p a m := by
  obtain ⟨h1, h2⟩ := keys_sorted ho hf hp
  subst he
  rw [keys_span h1 h2 a m ha hm]
  exact upI_congr (fun x h3 h4 => hq x (wf_of (by omega) (by omega)))
theorem intKeys_len {w : World} {b n : Nat} {D : DataW Value} (ho : w.ownsMap Try.prog 2 hR b n D) {ss : List Int} (hp : ss.Perm (intKeys D)) : ss.length ≤ n := by
  obtain ⟨es, hD, _⟩ := ho.entries keyed64
  have := ho.size_le
  subst hD
  rw [hp.length_eq]
  simpa [intKeys, Maps.size] using this

set_option maxHeartbeats 1000000 in
set_option maxRecDepth 100000 in
theorem reads_calls (w : World) (V O : Nat → Prop) (q p : Nat) (v : ViewM) (h : ViewAt w V O q p v) (hn : v.n ≤ 1000000) :
    Calls Try.prog 26 #[.pointer (some ⟨q, 0, none⟩)] w fun e w' => ∃ x, e = .returned x ∧ IRow w' w.heap.size x (upI v.read 1 4096) ∧ Fr No w w' := by
  obtain ⟨ob, rb, f, g, hP⟩ := h
  obtain ⟨D, ho, hf⟩ := hP.rd
  have hmax : Maps.size D ≤ maxLen := Nat.le_trans ho.size_le (by simp only [maxLen]; omega)
  have hseq : SeqGives Fence.wide 2 Try.prog 65 #[.pointer (some ⟨w.heap.size, 0, none⟩)] encZ (fun ss => ss.Perm (intKeys D)) (Maps.size D) (w.alloc (.cells #[.map (some rb)] 80)) :=
    AnyZI.keys_gives (ρ := keysR_ren) { keysR with } Fence.wide _ trivial rfl (by omega) w.heap.size rb v.n D _ (by simp) (by simp) (ho.alloc _)
  have cK : Calls Try.prog 51 #[.map (some rb)] w fun e w' => e = .returned (.func (.func 65) #[] #[.pointer (some ⟨w.heap.size, 0, none⟩)]) ∧ w' = w.alloc (.cells #[.map (some rb)] 80) := callsIn_wide.1 (AnyZI.keys_in keysR Fence.wide 5 trivial rfl (some rb) w)
  have hsz := ho.size_le
  have cF := from_calls 65 #[.pointer (some ⟨w.heap.size, 0, none⟩)] (enters_of Try.func65 (by kernel_rfl) rfl) _ (Maps.size D) (by omega) 1 4097 _ hseq (fun ss hp => by
    rw [hp.length_eq]
    obtain ⟨es, hD, _⟩ := ho.entries keyed64
    subst hD; simp [intKeys, Maps.size])
  have hb := hP.blk
  (have p0 := hb.cell 0; have p1 := hb.cell 1; have p2 := hb.cell 2; have p3 := hb.cell 3; have p4 := hb.cell 4; have pf0 := hb.frozen 0; have pf1 := hb.frozen 1; have pf2 := hb.frozen 2; have pf3 := hb.frozen 3; have pf4 := hb.frozen 4; simp only [List.getElem?_toArray, List.getElem?_cons_zero, List.getElem?_cons_succ] at p0 p1 p2 p3 p4)
  have hread := hP.reads
  have HS := Lib.hid (show ∀ ss : List Int, ss.Perm (intKeys D) → (ss.mergeSort (fun x y => decide (x ≤ y))).filter (fun x => decide ((1 : Int) ≤ x) && decide (x < 4097)) = upI v.read 1 4096 from fun ss hp =>
    MapV.span (m := 4096) ho hf hp (by decide) (by decide) (by decide) (fun x hx => by rw [hread x hx]; split <;> simp_all))
  clear hread hf hseq hsz hmax
  go_enter Try.func26, Try.ntmps26
  go_wp2_with fail
  refine cK.mono ?_
  rintro e w1 ⟨rfl, hw1⟩
  have hw1 := hw1.symm
  subst hw1
  go_wp2_with fail
  refine cF.mono ?_
  rintro e w2 ⟨x, ss, rfl, hp, hrow, hf2⟩
  rw [HS.out ss hp] at hrow
  go_wp2
  go_ret
  exact ⟨_, rfl, own_down hrow (by simp), (Fr.refl No w).alloc _ |>.tr hf2⟩
set_option maxHeartbeats 1000000 in
set_option maxRecDepth 100000 in
theorem writes_calls (w : World) (V O : Nat → Prop) (q p : Nat) (v : ViewM) (h : ViewAt w V O q p v) (hn : v.n ≤ 1000000) :
    Calls Try.prog 27 #[.pointer (some ⟨q, 0, none⟩)] w fun e w' => ∃ x, e = .returned x ∧ IRow w' w.heap.size x (upI (fun x => (v.own x).isSome) 1 4096) ∧ Fr No w w' := by
  obtain ⟨ob, rb, f, g, hP⟩ := h
  obtain ⟨D, ho, hf⟩ := hP.own
  have hmax : Maps.size D ≤ maxLen := Nat.le_trans ho.size_le (by simp only [maxLen]; omega)
  have hseq : SeqGives Fence.wide 2 Try.prog 66 #[.pointer (some ⟨w.heap.size, 0, none⟩)] encZ (fun ss => ss.Perm (intKeys D)) (Maps.size D) (w.alloc (.cells #[.map (some ob)] 79)) :=
    AnyZI.keys_gives (ρ := keysO_ren) { keysO with } Fence.wide _ trivial rfl (by omega) w.heap.size ob v.n D _ (by simp) (by simp) (ho.alloc _)
  have cK : Calls Try.prog 52 #[.map (some ob)] w fun e w' => e = .returned (.func (.func 66) #[] #[.pointer (some ⟨w.heap.size, 0, none⟩)]) ∧ w' = w.alloc (.cells #[.map (some ob)] 79) := callsIn_wide.1 (AnyZI.keys_in keysO Fence.wide 5 trivial rfl (some ob) w)
  have hsz := ho.size_le
  have cF := from_calls 66 #[.pointer (some ⟨w.heap.size, 0, none⟩)] (enters_of Try.func66 (by kernel_rfl) rfl) _ (Maps.size D) (by omega) 1 4097 _ hseq (fun ss hp => by
    rw [hp.length_eq]
    obtain ⟨es, hD, _⟩ := ho.entries keyed64
    subst hD; simp [intKeys, Maps.size])
  have hb := hP.blk
  (have p0 := hb.cell 0; have p1 := hb.cell 1; have p2 := hb.cell 2; have p3 := hb.cell 3; have p4 := hb.cell 4; have pf0 := hb.frozen 0; have pf1 := hb.frozen 1; have pf2 := hb.frozen 2; have pf3 := hb.frozen 3; have pf4 := hb.frozen 4; simp only [List.getElem?_toArray, List.getElem?_cons_zero, List.getElem?_cons_succ] at p0 p1 p2 p3 p4)
  have hread := hP.objs
  have HS := Lib.hid (show ∀ ss : List Int, ss.Perm (intKeys D) → (ss.mergeSort (fun x y => decide (x ≤ y))).filter (fun x => decide ((1 : Int) ≤ x) && decide (x < 4097)) = upI (fun x => (v.own x).isSome) 1 4096 from fun ss hp =>
    MapV.span (m := 4096) ho hf hp (by decide) (by decide) (by decide) (fun x hx => by rcases hread x hx with ⟨e1, e2⟩ | ⟨cs, o, e1, e2, _⟩ <;> rw [e1, e2] <;> rfl))
  clear hread hf hseq hsz hmax
  go_enter Try.func27, Try.ntmps27
  go_wp2_with fail
  refine cK.mono ?_
  rintro e w1 ⟨rfl, hw1⟩
  have hw1 := hw1.symm
  subst hw1
  go_wp2_with fail
  refine cF.mono ?_
  rintro e w2 ⟨x, ss, rfl, hp, hrow, hf2⟩
  rw [HS.out ss hp] at hrow
  go_wp2
  go_ret
  exact ⟨_, rfl, own_down hrow (by simp), (Fr.refl No w).alloc _ |>.tr hf2⟩
set_option maxHeartbeats 1000000 in
set_option maxRecDepth 100000 in
theorem news_calls (w : World) (V O : Nat → Prop) (q p : Nat) (v : ViewM) (h : ViewAt w V O q p v) (hn : v.n ≤ 1000000) :
    Calls Try.prog 28 #[.pointer (some ⟨q, 0, none⟩)] w fun e w' => ∃ x, e = .returned x ∧ IRow w' w.heap.size x (upI (fun x => (v.own x).isSome) 4097 4096) ∧ Fr No w w' := by
  obtain ⟨ob, rb, f, g, hP⟩ := h
  obtain ⟨D, ho, hf⟩ := hP.own
  have hmax : Maps.size D ≤ maxLen := Nat.le_trans ho.size_le (by simp only [maxLen]; omega)
  have hseq : SeqGives Fence.wide 2 Try.prog 66 #[.pointer (some ⟨w.heap.size, 0, none⟩)] encZ (fun ss => ss.Perm (intKeys D)) (Maps.size D) (w.alloc (.cells #[.map (some ob)] 79)) :=
    AnyZI.keys_gives (ρ := keysO_ren) { keysO with } Fence.wide _ trivial rfl (by omega) w.heap.size ob v.n D _ (by simp) (by simp) (ho.alloc _)
  have cK : Calls Try.prog 52 #[.map (some ob)] w fun e w' => e = .returned (.func (.func 66) #[] #[.pointer (some ⟨w.heap.size, 0, none⟩)]) ∧ w' = w.alloc (.cells #[.map (some ob)] 79) := callsIn_wide.1 (AnyZI.keys_in keysO Fence.wide 5 trivial rfl (some ob) w)
  have hsz := ho.size_le
  have cF := from_calls 66 #[.pointer (some ⟨w.heap.size, 0, none⟩)] (enters_of Try.func66 (by kernel_rfl) rfl) _ (Maps.size D) (by omega) 4097 8193 _ hseq (fun ss hp => by
    rw [hp.length_eq]
    obtain ⟨es, hD, _⟩ := ho.entries keyed64
    subst hD; simp [intKeys, Maps.size])
  have hb := hP.blk
  (have p0 := hb.cell 0; have p1 := hb.cell 1; have p2 := hb.cell 2; have p3 := hb.cell 3; have p4 := hb.cell 4; have pf0 := hb.frozen 0; have pf1 := hb.frozen 1; have pf2 := hb.frozen 2; have pf3 := hb.frozen 3; have pf4 := hb.frozen 4; simp only [List.getElem?_toArray, List.getElem?_cons_zero, List.getElem?_cons_succ] at p0 p1 p2 p3 p4)
  have hread := hP.objs
  have HS := Lib.hid (show ∀ ss : List Int, ss.Perm (intKeys D) → (ss.mergeSort (fun x y => decide (x ≤ y))).filter (fun x => decide ((4097 : Int) ≤ x) && decide (x < 8193)) = upI (fun x => (v.own x).isSome) 4097 4096 from fun ss hp =>
    MapV.span (m := 4096) ho hf hp (by decide) (by decide) (by decide) (fun x hx => by rcases hread x hx with ⟨e1, e2⟩ | ⟨cs, o, e1, e2, _⟩ <;> rw [e1, e2] <;> rfl))
  clear hread hf hseq hsz hmax
  go_enter Try.func28, Try.ntmps28
  go_wp2_with fail
  refine cK.mono ?_
  rintro e w1 ⟨rfl, hw1⟩
  have hw1 := hw1.symm
  subst hw1
  go_wp2_with fail
  refine cF.mono ?_
  rintro e w2 ⟨x, ss, rfl, hp, hrow, hf2⟩
  rw [HS.out ss hp] at hrow
  go_wp2
  go_ret
  exact ⟨_, rfl, own_down hrow (by simp), (Fr.refl No w).alloc _ |>.tr hf2⟩
end Go.Proofs.Ytoajigghkjnffaa
namespace Go.Proofs.Ytoajigghkjnffaa
set_option linter.unusedVariables false
set_option linter.unusedSimpArgs false
open Go.RowKit

/-- Spoil writes over the bytes of a row of its own; nothing else is touched. -/
theorem spoil_calls (A : Option Addr) (c n base : Nat) (xs : List Value) (w : World) (h : w.ownsRow base 5 1 (.slice A n c) n xs) (hn : n ≤ 211106232532992) :
    Calls Try.prog 44 #[.slice A n c] w fun e w' => e = .returned (.tuple #[]) ∧ Fr (fun b => A.map (·.block) = some b) w w' := by
  rcases h.2 with ⟨hv, rfl⟩ | ⟨g, cap, cur, hv, hb, hg, h1, h2, h3, h4⟩
  · injection hv with hA hc hc2
    subst hA hc2
    go_enter Try.func44, Try.ntmps44
    go_wp2
    go_loop [2] (fun i => i = .int .i64 0) (fun _ => 0)
    case atStart => rfl
    case round =>
      subst hrel
      go_wp2
      go_end0
      exact ⟨rfl, Fr.refl _ _⟩
  · injection hv with hA hc hc2
    subst hA hc2
    go_enter Try.func44, Try.ntmps44
    go_wp2
    go_loopw [2] (fun i wr => ∃ k : Nat, k ≤ n ∧ i = .int .i64 k ∧ (∃ cs : Array Value, cs.size = c ∧ Blk wr g 5 cs) ∧ Fr (fun b => g = b) w wr) (fun i _ => n - (intOf i).toNat)
    case atStart => exact ⟨0, by omega, rfl, ⟨cur, by omega, hg⟩, Fr.refl _ _⟩
    case round =>
      obtain ⟨k, hk, rfl, ⟨cs, hcs, hbl⟩, hf⟩ := hrel
      by_cases hlt : k < n
      · obtain ⟨v1, hv1⟩ : ∃ v, wr.cell? ⟨g, k, none⟩ = some v := ⟨_, (hbl.cell k).trans (Array.getElem?_eq_getElem (by omega))⟩
        have hf1 := hbl.frozen k
        have hg' := Lib.hid hg
        clear hg
        go_wp2
        go_roundw
        case rel => exact ⟨k + 1, by omega, by go_num, ⟨_, by simpa using hcs, hbl.put _ _⟩, hf.set (.inr rfl) _⟩
        case measure => simp [intOf] <;> omega
      · obtain rfl : k = n := by omega
        go_wp2
        go_end0
        exact ⟨rfl, hf.mono (fun b _ hb => by simpa using hb)⟩
/-- An object whose rows lie in X. -/
def ObjIn (w : World) (X : Nat → Prop) (cs : List Value) (o : ObjM) : Prop :=
  ∃ A c D d B M, cs = [.int .i64 o.cls, .slice A o.slots.length c, .slice D o.bytes.length d] ∧ w.ownsRow B 23 2 (.slice A o.slots.length c) o.slots.length (vals o.slots) ∧ (∀ b, (Value.slice A o.slots.length c).ownBlock = some b → X b ∧ b < M) ∧ w.ownsRow M 5 1 (.slice D o.bytes.length d) o.bytes.length (U8 o.bytes) ∧ (∀ b, (Value.slice D o.bytes.length d).ownBlock = some b → X b)
theorem ObjOwn.in_ {w : World} {B : Nat} {cs : List Value} {o : ObjM} (h : ObjOwn w B cs o) : ObjIn w (fun b => B ≤ b ∧ b < w.heap.size) cs o := by
  obtain ⟨A, c, D, d, M, e, h1, h2, h3, h4⟩ := h
  exact ⟨A, c, D, d, B, M, e, h1, fun b hb => ⟨h1.lt b hb, h2 b hb⟩, h3, fun b hb => ⟨by have := (h3.lt b hb).1; omega, (h3.lt b hb).2⟩⟩
theorem ObjIn.fr {S X : Nat → Prop} {w w' : World} {cs : List Value} {o : ObjM} (h : ObjIn w X cs o) (hf : Fr S w w') (hS : ∀ b, X b → ¬ S b) : ObjIn w' X cs o := by
  obtain ⟨A, c, D, d, B, M, e, h1, h2, h3, h4⟩ := h
  exact ⟨A, c, D, d, B, M, e, own_fr h1 hf (fun b hb => hS b (h2 b hb).1), h2, own_fr h3 hf (fun b hb => hS b (h4 b hb)), h4⟩
theorem ObjIn.fr0 {X : Nat → Prop} {w w' : World} {cs : List Value} {o : ObjM} (h : ObjIn w X cs o) (hf : Fr No w w') : ObjIn w' X cs o := h.fr hf (fun _ _ hn => hn)
set_option maxHeartbeats 2000000 in
set_option maxRecDepth 100000 in
theorem spoilo_calls (X : Nat → Prop) (cs : List Value) (o : ObjM) (w : World) (h : ObjIn w X cs o) (hn1 : o.slots.length ≤ 211106232532992) (hn2 : o.bytes.length ≤ 211106232532992) :
    Calls Try.prog 22 #[.agg cs.toArray] w fun e w' => e = .returned (.tuple #[]) ∧ Fr X w w' := by
  obtain ⟨A, c, D, d, B, M, rfl, hs, hXs, hb, hXb⟩ := h
  have g2 := plain_lval
  have g3 := plain_lu8
  have hf0 : Fr No w (w.alloc (.cells #[.int .i64 o.cls, .slice A o.slots.length c, .slice D o.bytes.length d] 27)) := (Fr.refl No w).alloc _
  have hbx := Blk.new w 27 #[.int .i64 o.cls, .slice A o.slots.length c, .slice D o.bytes.length d]
  have hXw : ∀ b, (Value.slice A o.slots.length c).ownBlock = some b → b < w.heap.size := fun b hb => (hs.lt b hb).2
  obtain ⟨D', d', e9, _, _, hD⟩ := own_form hb
  injection e9 with e91 e92 e93
  subst e91 e93
  clear e92
  go_enter Try.func22, Try.ntmps22
  go_upto_region 1 with fail
  generalize hw0 : w.alloc (.cells #[.int .i64 o.cls, .slice A o.slots.length c, .slice D o.bytes.length d] 27) = w0 at *
  clear hw0
  have hs0 := own_fr0 hs hf0
  have hb0 := own_fr0 hb hf0
  rcases hs0.2 with ⟨hv, _⟩ | ⟨g, cap, cur, hv, _, hg, h1, h2, h3, _⟩
  · injection hv with hA hc hc2
    subst hA hc2
    go_wp2_with fail
    go_loop [2] (fun i => i = .int .i64 0) (fun _ => 0)
    case atStart => rfl
    case round =>
      subst hrel
      (have q0 := hbx.cell 0; have q1 := hbx.cell 1; have q2 := hbx.cell 2; have qf0 := hbx.frozen 0; have qf1 := hbx.frozen 1; have qf2 := hbx.frozen 2; simp only [List.getElem?_toArray, List.getElem?_cons_zero, List.getElem?_cons_succ] at q0 q1 q2)
      have el : decide ((0 : Int) < (o.slots.length : Int)) = false := by rw [hc]; rfl
      have el2 : decide (0 < o.slots.length) = false := by rw [hc]; rfl
      go_wp2_with fail
      refine (spoil_calls D d _ _ _ w0 hb0 hn2).mono ?_
      rintro e w2 ⟨rfl, hf2⟩
      go_wp2
      go_end0
      exact ⟨rfl, (hf0.mono (fun _ _ hn => hn.elim)).trans hf2 (fun b hbw hT => hXb b ((hD b).2 hT))⟩
  · injection hv with hA hc hc2
    subst hA hc2
    have hgw : g < w.heap.size := hXw g rfl
    have hXg : X g := (hXs g rfl).1
    have hgM : g < M := (hXs g rfl).2
    have hgb : Blk w0 g 23 cur := hg
    have HG := Lib.hid hg
    clear hg hs hs0 hXs hXw
    go_wp2_with fail
    go_loopw [2] (fun i wr => ∃ k : Nat, k ≤ o.slots.length ∧ i = .int .i64 k ∧ (∃ cs : Array Value, cs.size = c * 2 ∧ Blk wr g 23 cs) ∧ Fr (fun b => g = b) w0 wr) (fun i _ => o.slots.length - (intOf i).toNat)
    case atStart => exact ⟨0, by omega, rfl, ⟨cur, h3, hgb⟩, Fr.refl _ _⟩
    case round =>
      obtain ⟨k, hk, rfl, ⟨cs, hcs, hbl⟩, hf⟩ := hrel
      have hbx2 := hbx.fr hf (by omega)
      (have q0 := hbx2.cell 0; have q1 := hbx2.cell 1; have q2 := hbx2.cell 2; have qf0 := hbx2.frozen 0; have qf1 := hbx2.frozen 1; have qf2 := hbx2.frozen 2; simp only [List.getElem?_toArray, List.getElem?_cons_zero, List.getElem?_cons_succ] at q0 q1 q2)
      by_cases hlt : k < o.slots.length
      · have ek : decide ((k : Int) < o.slots.length) = true := by simpa using (by omega : (k : Int) < o.slots.length)
        obtain ⟨v1, hv1⟩ : ∃ v, wr.cell? ⟨g, k * 2, none⟩ = some v := ⟨_, (hbl.cell (k * 2)).trans (Array.getElem?_eq_getElem (by omega))⟩
        obtain ⟨v2, hv2⟩ : ∃ v, wr.cell? ⟨g, k * 2 + 1, none⟩ = some v := ⟨_, (hbl.cell (k * 2 + 1)).trans (Array.getElem?_eq_getElem (by omega))⟩
        have hf1 := hbl.frozen (k * 2)
        have hf2 := hbl.frozen (k * 2 + 1)
        go_wp2
        go_roundw
        case rel => exact ⟨k + 1, by omega, by go_num, ⟨_, by simpa using hcs, (hbl.put _ _).put _ _⟩, (hf.set (.inr rfl) _).set (.inr rfl) _⟩
        case measure => simp [intOf] <;> omega
      · obtain rfl : k = o.slots.length := by omega
        have ek : decide ((o.slots.length : Int) < o.slots.length) = false := by simp
        have hb2 := own_fr hb0 hf (fun b hbb hT => by have := (hb0.lt b hbb).1; omega)
        go_wp2_with fail
        refine (spoil_calls D d _ _ _ wr hb2 hn2).mono ?_
        rintro e w2 ⟨rfl, hf2⟩
        go_wp2
        go_end0
        exact ⟨rfl, ((hf0.mono (fun _ _ hn => hn.elim)).trans hf (fun b hbw hT => hT ▸ hXg)).trans hf2 (fun b hbw hT => hXb b ((hD b).2 hT))⟩
end Go.Proofs.Ytoajigghkjnffaa
namespace Go.Proofs.Ytoajigghkjnffaa
set_option linter.unusedVariables false
set_option linter.unusedSimpArgs false
open Go.RowKit

def findM (l : List ChM) (x : Int) : Option ChM := l.find? (fun d => d.oop == x)
/-- The change that an oop had last, up to a commit. -/
def rlastM (l : List RecM) (c x : Int) : Option ChM := l.foldl (fun o r => if r.commit ≤ c then (findM r.chs x).or o else o) none
theorem rlastM_snoc (l : List RecM) (r : RecM) (c x : Int) : rlastM (l ++ [r]) c x = if r.commit ≤ c then (findM r.chs x).or (rlastM l c x) else rlastM l c x := by
  unfold rlastM; rw [List.foldl_append]; rfl
def ansM (o : Option ChM) : ObjM × Int := match o with | some d => if d.gone = true then (noObj, 25) else (d.obj, 0) | none => (noObj, 25)
def ratM (t : RTabM) (c x : Int) : ObjM × Int :=
  if (decide (t.fr ≤ c) && decide (c ≤ t.en)) = true then ansM ((rlastM t.l c x).or (findM t.base x)) else (noObj, 13)
/-- All objects of it are small. -/
def RSmall (t : RTabM) : Prop := (∀ r ∈ t.l, ∀ d ∈ r.chs, d.obj.slots.length ≤ 256 ∧ d.obj.bytes.length ≤ 1024) ∧ ∀ d ∈ t.base, d.obj.slots.length ≤ 256 ∧ d.obj.bytes.length ≤ 1024

theorem rasked_calls (w : World) (q : Nat) (fr en c : Int) (m1 m2 m3 : Value) (h : Blk w q 58 #[.int .i64 fr, .int .i64 en, m1, m2, m3]) :
    Calls Try.prog 47 #[.pointer (some ⟨q, 0, none⟩), .int .i64 c] w fun e w' => e = .returned (.bool (decide (fr ≤ c) && decide (c ≤ en))) ∧ w = w' := by
  (have p0 := h.cell 0; have p1 := h.cell 1; have p2 := h.cell 2; have p3 := h.cell 3; have p4 := h.cell 4; have pf0 := h.frozen 0; have pf1 := h.frozen 1; have pf2 := h.frozen 2; have pf3 := h.frozen 3; have pf4 := h.frozen 4; simp only [List.getElem?_toArray, List.getElem?_cons_zero, List.getElem?_cons_succ] at p0 p1 p2 p3 p4)
  by_cases h1 : fr ≤ c
  · have e1 : decide (fr ≤ c) = true := by simpa using h1
    have H : Hid ((decide (fr ≤ c) && decide (c ≤ en)) = decide (c ≤ en)) := Lib.hid (by rw [e1, Bool.true_and])
    clear h1
    go_enter Try.func47, Try.ntmps47
    go_wp2
    go_ret
    exact ⟨ret_bool H.out.symm, rfl⟩
  · have e1 : decide (fr ≤ c) = false := by simpa using h1
    have H : Hid ((decide (fr ≤ c) && decide (c ≤ en)) = false) := Lib.hid (by rw [e1, Bool.false_and])
    clear h1
    go_enter Try.func47, Try.ntmps47
    go_wp2
    go_ret
    exact ⟨ret_bool H.out.symm, rfl⟩

def fidxM (l : List ChM) (x : Int) : Int := match l.findIdx? (fun d => d.oop == x) with | some i => (i : Int) | none => -1
theorem fidxM_at {l : List ChM} {x : Int} {k : Nat} (hk : k < l.length) (h : ∀ i, ∀ hi : i < l.length, i < k → (l[i].oop == x) = false) (hx : (l[k].oop == x) = true) : fidxM l x = k := by
  have e : l.findIdx? (fun d => d.oop == x) = some k := by
    rw [List.findIdx?_eq_some_iff_getElem]
    exact ⟨hk, hx, fun j hj => by have := h j (by omega) hj; simp [this]⟩
  unfold fidxM; rw [e]
theorem fidxM_none {l : List ChM} {x : Int} (h : ∀ i, ∀ hi : i < l.length, (l[i].oop == x) = false) : fidxM l x = -1 ∧ findM l x = none := by
  have e : ∀ d ∈ l, (d.oop == x) = false := fun d hd => by
    obtain ⟨i, hi, rfl⟩ := List.getElem_of_mem hd
    exact h i hi
  refine ⟨?_, ?_⟩
  · unfold fidxM
    rw [List.findIdx?_eq_none_iff.2 e]
  · unfold findM
    rw [List.find?_eq_none]
    intro d hd; rw [e d hd]; decide
/-- What find answers. -/
theorem fidxM_cases (l : List ChM) (x : Int) : (fidxM l x = -1 ∧ findM l x = none) ∨ ∃ k, ∃ hk : k < l.length, fidxM l x = k ∧ findM l x = some l[k] := by
  cases h : l.findIdx? (fun d => d.oop == x) with
  | none =>
    refine .inl (fidxM_none fun i hi => ?_)
    exact List.findIdx?_eq_none_iff.1 h _ (List.getElem_mem hi)
  | some k =>
    obtain ⟨hk, h1, h2⟩ := List.findIdx?_eq_some_iff_getElem.1 h
    refine .inr ⟨k, hk, by unfold fidxM; rw [h], ?_⟩
    unfold findM
    rw [List.find?_eq_some_iff_getElem]
    exact ⟨h1, k, hk, rfl, fun j hj => by have := h2 j hj; simpa using this⟩
set_option maxHeartbeats 1000000 in
theorem rfind_calls (S : Nat → Prop) (A : Option Addr) (cap : Nat) (l : List ChM) (x : Int) (w : World) (h : RdCh w S A l) :
    Calls Try.prog 48 #[.slice A l.length cap, .int .i64 x] w fun e w' => e = .returned (.int .i64 (fidxM l x)) ∧ w = w' := by
  have hle := h.le
  go_enter Try.func48, Try.ntmps48
  go_wp2
  go_loop [5] (fun i => ∃ k : Nat, k ≤ l.length ∧ i = .int .i64 k ∧ Hid (∀ i, ∀ hi : i < l.length, i < k → (l[i].oop == x) = false)) (fun i => l.length - (intOf i).toNat)
  case atStart => exact ⟨0, by omega, rfl, Lib.hid (fun i hi h => by omega)⟩
  case round =>
    obtain ⟨k, hk, rfl, HK⟩ := hrel
    by_cases hlt : k < l.length
    · have ek : decide ((k : Int) < l.length) = true := by simpa using (by omega : (k : Int) < l.length)
      obtain ⟨ga, of, Av, nn, D, mm, rfl, _, hcell, _, _⟩ := h.at_ hlt
      have hc0 := hcell 0 _ rfl
      simp only [Nat.add_zero] at hc0
      cases hx : (l[k].oop == x) with
      | true =>
        have H := Lib.hid (fidxM_at hlt HK.out hx)
        generalize l[k] = v at *
        go_wp2
        go_ret
        exact ⟨by rw [H.out]; rfl, rfl⟩
      | false =>
        have HK2 : Hid (∀ i, ∀ hi : i < l.length, i < k + 1 → (l[i].oop == x) = false) := Lib.hid (fun i hi h => by
          rcases Nat.lt_or_ge i k with h1 | h1
          · exact HK.out i hi h1
          · obtain rfl : i = k := by omega
            exact hx)
        generalize l[k] = v at *
        go_wp2
        go_round
        case rel => exact ⟨k + 1, by omega, by go_num, HK2⟩
        case measure => simp [intOf]; omega
    · obtain rfl : k = l.length := by omega
      have ek : decide ((l.length : Int) < l.length) = false := by simp
      have H := Lib.hid (fidxM_none (x := x) (fun i hi => HK.out i hi hi)).1
      go_wp2
      go_ret
      exact ⟨by rw [H.out]; rfl, rfl⟩
theorem RTabP.recs {w : World} {T O : Nat → Prop} {q : Nat} {Bv Lv Wv : Value} {t : RTabM} (h : RTabP w T O q Bv Lv Wv t) (hn : t.l.length ≤ 1000000) : ∃ A c, Lv = .slice A t.l.length c ∧ RdRec w (fun _ => True) A t.l := by
  obtain ⟨xs, hown, hr⟩ := h.lrow
  obtain ⟨A, c, rfl, _, _, _⟩ := own_form hown
  exact ⟨A, c, rfl, xs, (own_rd hown (by omega)).mono (fun _ _ _ => trivial) (by decide), hr.mono (fun _ _ _ => trivial)⟩
theorem chObj {ga n : Nat} {w : World} {v : ChM} {Av D : Option Addr} {nn mm : Nat} (hcell : ∀ j u, [Value.int .i64 v.oop, .bool v.gone, .int .i64 v.obj.cls, .slice Av v.obj.slots.length nn, .slice D v.obj.bytes.length mm][j]? = some u → w.cell? ⟨ga, n + j, none⟩ = some u) :
    ∀ j u, [Value.int .i64 v.obj.cls, .slice Av v.obj.slots.length nn, .slice D v.obj.bytes.length mm][j]? = some u → w.cell? ((⟨ga, n + 2, none⟩ : Addr).add j) = some u := addr5 _ _ _ (fun j u hu => by
  have := hcell (j + 2) u (by simpa using hu)
  rwa [show n + (j + 2) = n + 2 + j by omega] at this)

set_option maxHeartbeats 4000000 in
set_option maxRecDepth 100000 in
theorem rtat_calls (w : World) (T O : Nat → Prop) (q : Nat) (t : RTabM) (c x : Int) (h : RTabAt w T O q t) (hn : t.l.length ≤ 1000000) (hs : RSmall t) :
    Calls Try.prog 25 #[.pointer (some ⟨q, 0, none⟩), .int .i64 c, .int .i64 x] w fun e w' => RetO w w' e (ratM t c x) := by
  obtain ⟨Bv, Lv, Wv, hP⟩ := h
  obtain ⟨fr, en, base, l, wl⟩ := t
  have hf1 : Fr No w (w.alloc (.cells #[.int .i64 0, .slice none 0 0, .slice none 0 0] 27)) := (Fr.refl No w).alloc _
  have hb0 : Blk (w.alloc (.cells #[.int .i64 0, .slice none 0 0, .slice none 0 0] 27)) w.heap.size 27 #[.int .i64 0, .slice none 0 0, .slice none 0 0] := Blk.new w _ _
  have hP1 := hP.fr hf1 (fun _ _ hn => hn) (fun _ _ hn => hn)
  obtain ⟨Al, cl, rfl, hrec⟩ := hP1.recs hn
  obtain ⟨Ab, cb, rfl, hbase⟩ := hP1.base
  have hbk := hP1.blk
  have hqw : q < w.heap.size := hP.blk.lt
  simp only at hbk hn hrec hbase
  obtain ⟨hs1, hs2⟩ := hs
  simp only at hs1 hs2
  (have p0 := hbk.cell 0; have p1 := hbk.cell 1; have p2 := hbk.cell 2; have p3 := hbk.cell 3; have p4 := hbk.cell 4; have pf0 := hbk.frozen 0; have pf1 := hbk.frozen 1; have pf2 := hbk.frozen 2; have pf3 := hbk.frozen 3; have pf4 := hbk.frozen 4; simp only [List.getElem?_toArray, List.getElem?_cons_zero, List.getElem?_cons_succ] at p0 p1 p2 p3 p4)
  have hask := rasked_calls _ q fr en c _ _ _ hbk
  cases ha : (decide (fr ≤ c) && decide (c ≤ en)) with
  | false =>
    have HM : Hid (ratM ⟨fr, en, base, l, wl⟩ c x = (noObj, 13)) := Lib.hid (by unfold ratM; simp only; rw [if_neg (by rw [ha]; decide)])
    rw [ha] at hask
    clear ha hP hP1
    go_enter Try.func25, Try.ntmps25
    go_wp2_with fail
    refine hask.mono ?_
    rintro e _ ⟨rfl, rfl⟩
    go_wp2_with (first
      | (refine wpList_stA ag_obj.info rfl _ _ rfl w.heap.size 0 _ _ [.int .i64 0, .slice none 0 0, .slice none 0 0] _ rfl rfl rfl rfl (by intro u hu; simp at hu; rcases hu with rfl | rfl | rfl <;> rfl) hb0 (by decide) ?_; intro w5 hb5 hg5 hz5)
      | fail)
    rw [splice_all _ _ (by rfl)] at hb5
    refine bodyPost_ret (results_blk2 ag_obj rfl _ _ _ _ _ _ rfl rfl hb5 rfl) rfl ?_
    rw [HM.out]
    have hf5 := hf1.grown hg5 (fun q hq => by injection hq with hq; exact .inl (by omega))
    exact ⟨_, rfl, ObjOwn.none_ _ _ hf5.size, hf5⟩
  | true =>
    have HM : Hid (∀ o, (rlastM l c x).or (findM base x) = o → ratM ⟨fr, en, base, l, wl⟩ c x = ansM o) := Lib.hid (fun o ho => by unfold ratM; simp only; rw [if_pos ha, ho])
    rw [ha] at hask
    have HO1 := Lib.hid hs1
    have HO2 := Lib.hid hs2
    clear ha hP hP1 hs1 hs2
    generalize hw1 : w.alloc (.cells #[.int .i64 0, .slice none 0 0, .slice none 0 0] 27) = w1 at *
    go_enter Try.func25, Try.ntmps25
    go_wp2_with fail
    clear hw1
    refine hask.mono ?_
    rintro e _ ⟨rfl, rfl⟩
    go_wp2_with fail
    go_loopw [8] (fun i wr => ∃ k : Nat, k ≤ l.length ∧ i = .int .i64 ((k : Int) - 1) ∧ Hid (rlastM l c x = rlastM (l.take k) c x) ∧ wr = w1) (fun i _ => ((intOf i) + 1).toNat)
    case atStart => exact ⟨l.length, by omega, rfl, Lib.hid (by rw [List.take_length]), rfl⟩
    case round =>
      obtain ⟨k, hk, rfl, HK, rfl⟩ := hrel
      cases k with
      | zero =>
        have HK' : Hid (rlastM l c x = none) := Lib.hid HK.out
        clear HK
        simp only [Int.natCast_zero, Int.zero_sub]
        go_wp2_with fail
        refine (rfind_calls O Ab cb base x _ hbase).mono ?_
        rintro e _ ⟨rfl, rfl⟩
        rcases fidxM_cases base x with ⟨e1, e2⟩ | ⟨kv, hkv, e1, e2⟩
        · have HA := Lib.hid (HM.out none (by rw [HK'.out, e2]; rfl))
          rw [e1]
          clear e1 e2
          go_wp2_with (first
            | (refine wpList_stA ag_obj.info rfl _ _ rfl w.heap.size 0 _ _ [.int .i64 0, .slice none 0 0, .slice none 0 0] _ rfl rfl rfl rfl (by intro u hu; simp at hu; rcases hu with rfl | rfl | rfl <;> rfl) hb0 (by decide) ?_; intro w5 hb5 hg5 hz5)
            | fail)
          rw [splice_all _ _ (by rfl)] at hb5
          refine bodyPost_ret (results_blk2 ag_obj rfl _ _ _ _ _ _ rfl rfl hb5 rfl) rfl ?_
          rw [HA.out]
          have hf5 := hf1.grown hg5 (fun q hq => by injection hq with hq; exact .inl (by omega))
          exact ⟨_, rfl, ObjOwn.none_ _ _ hf5.size, hf5⟩
        · have HA := Lib.hid (HM.out _ (show (rlastM l c x).or (findM base x) = some base[kv] by rw [HK'.out, e2]; rfl))
          rw [e1]
          clear e1 e2
          have hov := HO2.out _ (List.getElem_mem hkv)
          obtain ⟨gv, ov, Av, nn, D, mm, rfl, _, hcv, hsl, hby⟩ := hbase.at_ hkv
          generalize base[kv] = v at *
          have hc1 := hcv 1 _ rfl
          have ekv : decide ((kv : Int) < base.length) = true := by simpa using (by omega : (kv : Int) < base.length)
          have ekn : decide ((kv : Int) < 0) = false := by simp
          cases hg : v.gone with
          | true =>
            rw [hg] at hc1
            have HA : Hid (ratM ⟨fr, en, base, l, wl⟩ c x = (noObj, 25)) := Lib.hid (HA.out.trans (by unfold ansM; simp only; rw [if_pos hg]))
            clear hcv hg
            go_wp2_with (first
              | (refine wpList_stA ag_obj.info rfl _ _ rfl w.heap.size 0 _ _ [.int .i64 0, .slice none 0 0, .slice none 0 0] _ rfl rfl rfl rfl (by intro u hu; simp at hu; rcases hu with rfl | rfl | rfl <;> rfl) hb0 (by decide) ?_; intro w5 hb5 hg5 hz5)
              | fail)
            rw [splice_all _ _ (by rfl)] at hb5
            refine bodyPost_ret (results_blk2 ag_obj rfl _ _ _ _ _ _ rfl rfl hb5 rfl) rfl ?_
            rw [HA.out]
            have hf5 := hf1.grown hg5 (fun q hq => by injection hq with hq; exact .inl (by omega))
            exact ⟨_, rfl, ObjOwn.none_ _ _ hf5.size, hf5⟩
          | false =>
            rw [hg] at hc1
            have HA : Hid (ratM ⟨fr, en, base, l, wl⟩ c x = (v.obj, 0)) := Lib.hid (HA.out.trans (by unfold ansM; simp only; rw [if_neg (by rw [hg]; decide)]))
            clear hg
            have hobc := chObj hcv
            clear hcv
            go_wp2_with (first
              | (refine wpList_ldA ag_obj rfl _ rfl ⟨gv, ov + kv * 5 + 2, none⟩ _ rfl rfl hobc ?_)
              | fail)
            refine (refcopy_calls (fun _ => True) _ v.obj _ ⟨Av, nn, D, mm, rfl, hsl.mono (fun _ _ _ => trivial) (by decide), hby.mono (fun _ _ _ => trivial) (by decide)⟩ (by have := hov.1; omega)).mono ?_
            rintro e w3 ⟨cs', rfl, hown, hf3⟩
            obtain ⟨A3, c3, D3, d3, M3, rfl, r1, r2, r3, r4⟩ := hown
            have hb3 := hb0.fr0 hf3
            have hzB := hf1.size
            go_wp2_with (first
              | (refine wpList_stA ag_obj.info rfl _ _ rfl w.heap.size 0 _ _ [.int .i64 v.obj.cls, .slice A3 v.obj.slots.length c3, .slice D3 v.obj.bytes.length d3] _ rfl rfl rfl rfl (by intro u hu; simp at hu; rcases hu with rfl | rfl | rfl <;> rfl) hb3 (by decide) ?_; intro w5 hb5 hg5 hz5)
              | fail)
            rw [splice_all _ _ (by rfl)] at hb5
            refine bodyPost_ret (results_blk2 ag_obj rfl _ _ _ _ _ _ rfl rfl hb5 rfl) rfl ?_
            rw [HA.out]
            have hf5 := (hf1.tr hf3).grown hg5 (fun q hq => by injection hq with hq; exact .inl (by omega))
            have hb0l := hb0.lt
            have hf35 : Fr (fun b => b = w.heap.size) w3 w5 := (Fr.refl _ w3).grown hg5 (fun q hq => by injection hq with hq; exact .inr hq.symm)
            exact ⟨_, rfl, ⟨A3, c3, D3, d3, M3, rfl, own_down (own_fr r1 hf35 (fun b hb hT => by have := (r1.lt b hb).1; omega)) hzB, r2, own_fr r3 hf35 (fun b hb hT => by have := (r3.lt b hb).1; omega), by omega⟩, hf5⟩
      | succ m =>
        have hm : m < l.length := by omega
        have em : ((m + 1 : Nat) : Int) - 1 = (m : Int) := by omega
        rw [em]
        have e0 : decide ((0 : Int) ≤ (m : Int)) = true := by simp
        have eml : decide ((m : Int) < l.length) = true := by simpa using (by omega : (m : Int) < l.length)
        obtain ⟨g, o, cs, rfl, hcs, hcell, _⟩ := hrec.at_ hm
        have HT := Lib.hid (show rlastM (l.take (m + 1)) c x = if l[m].commit ≤ c then (findM l[m].chs x).or (rlastM (l.take m) c x) else rlastM (l.take m) c x by rw [take_snocR l m hm, rlastM_snoc])
        have hov' := HO1.out _ (List.getElem_mem hm)
        generalize l[m] = r at *
        obtain ⟨Ar, cr, rfl, hrd⟩ := hcs
        have hr0 : wr.cell? ⟨g, o + m * 2, none⟩ = some (.int .i64 r.commit) := by simpa [Addr.add] using hcell 0 _ rfl
        have hr1 : wr.cell? ⟨g, o + m * 2 + 1, none⟩ = some (.slice Ar r.chs.length cr) := by simpa [Addr.add] using hcell 1 _ rfl
        clear hcell em
        go_wp2_with fail
        refine (rfind_calls _ Ar cr r.chs x _ hrd).mono ?_
        rintro e _ ⟨rfl, rfl⟩
        rcases fidxM_cases r.chs x with ⟨e1, e2⟩ | ⟨kv, hkv, e1, e2⟩
        · rw [e1]
          have HK2 : Hid (rlastM l c x = rlastM (l.take m) c x) := Lib.hid (HK.out.trans (HT.out.trans (by rw [e2]; simp)))
          clear e1 e2
          by_cases hc : r.commit ≤ c
          · have ec : decide (r.commit ≤ c) = true := by simpa using hc
            clear hc
            go_wp2_with fail
            go_roundw
            case rel => exact ⟨m, by omega, by go_num, HK2, trivial⟩
            case measure => simp [intOf]
          · have ec : decide (r.commit ≤ c) = false := by simpa using hc
            clear hc
            go_wp2_with fail
            go_roundw
            case rel => exact ⟨m, by omega, by go_num, HK2, trivial⟩
            case measure => simp [intOf]
        · rw [e1]
          have hle := hrd.le
          by_cases hc : r.commit ≤ c
          · have HA := Lib.hid (HM.out _ (show (rlastM l c x).or (findM base x) = some r.chs[kv] by rw [HK.out, HT.out, if_pos hc, e2]; rfl))
            have ec : decide (r.commit ≤ c) = true := by simpa using hc
            clear hc e1 e2
            have hov := hov' _ (List.getElem_mem hkv)
            obtain ⟨gv, ov, Av, nn, D, mm, rfl, _, hcv, hsl, hby⟩ := hrd.at_ hkv
            generalize r.chs[kv] = v at *
            have hc1 := hcv 1 _ rfl
            have ekv : decide ((kv : Int) < r.chs.length) = true := by simpa using (by omega : (kv : Int) < r.chs.length)
            have ekn : decide ((0 : Int) ≤ (kv : Int)) = true := by simp
            cases hg : v.gone with
            | true =>
              rw [hg] at hc1
              have HA : Hid (ratM ⟨fr, en, base, l, wl⟩ c x = (noObj, 25)) := Lib.hid (HA.out.trans (by unfold ansM; simp only; rw [if_pos hg]))
              clear hcv hg
              go_wp2_with (first
                | (refine wpList_stA ag_obj.info rfl _ _ rfl w.heap.size 0 _ _ [.int .i64 0, .slice none 0 0, .slice none 0 0] _ rfl rfl rfl rfl (by intro u hu; simp at hu; rcases hu with rfl | rfl | rfl <;> rfl) hb0 (by decide) ?_; intro w5 hb5 hg5 hz5)
                | fail)
              rw [splice_all _ _ (by rfl)] at hb5
              refine bodyPost_ret (results_blk2 ag_obj rfl _ _ _ _ _ _ rfl rfl hb5 rfl) rfl ?_
              rw [HA.out]
              have hf5 := hf1.grown hg5 (fun q hq => by injection hq with hq; exact .inl (by omega))
              exact ⟨_, rfl, ObjOwn.none_ _ _ hf5.size, hf5⟩
            | false =>
              rw [hg] at hc1
              have HA : Hid (ratM ⟨fr, en, base, l, wl⟩ c x = (v.obj, 0)) := Lib.hid (HA.out.trans (by unfold ansM; simp only; rw [if_neg (by rw [hg]; decide)]))
              clear hg
              have hobc := chObj hcv
              clear hcv
              go_wp2_with (first
                | (refine wpList_ldA ag_obj rfl _ rfl ⟨gv, ov + kv * 5 + 2, none⟩ _ rfl rfl hobc ?_)
                | fail)
              refine (refcopy_calls (fun _ => True) _ v.obj _ ⟨Av, nn, D, mm, rfl, hsl.mono (fun _ _ _ => trivial) (by decide), hby.mono (fun _ _ _ => trivial) (by decide)⟩ (by have := hov.1; omega)).mono ?_
              rintro e w3 ⟨cs', rfl, hown, hf3⟩
              obtain ⟨A3, c3, D3, d3, M3, rfl, r1, r2, r3, r4⟩ := hown
              have hb3 := hb0.fr0 hf3
              have hzB := hf1.size
              go_wp2_with (first
                | (refine wpList_stA ag_obj.info rfl _ _ rfl w.heap.size 0 _ _ [.int .i64 v.obj.cls, .slice A3 v.obj.slots.length c3, .slice D3 v.obj.bytes.length d3] _ rfl rfl rfl rfl (by intro u hu; simp at hu; rcases hu with rfl | rfl | rfl <;> rfl) hb3 (by decide) ?_; intro w5 hb5 hg5 hz5)
                | fail)
              rw [splice_all _ _ (by rfl)] at hb5
              refine bodyPost_ret (results_blk2 ag_obj rfl _ _ _ _ _ _ rfl rfl hb5 rfl) rfl ?_
              rw [HA.out]
              have hf5 := (hf1.tr hf3).grown hg5 (fun q hq => by injection hq with hq; exact .inl (by omega))
              have hb0l := hb0.lt
              have hf35 : Fr (fun b => b = w.heap.size) w3 w5 := (Fr.refl _ w3).grown hg5 (fun q hq => by injection hq with hq; exact .inr hq.symm)
              exact ⟨_, rfl, ⟨A3, c3, D3, d3, M3, rfl, own_down (own_fr r1 hf35 (fun b hb hT => by have := (r1.lt b hb).1; omega)) hzB, r2, own_fr r3 hf35 (fun b hb hT => by have := (r3.lt b hb).1; omega), by omega⟩, hf5⟩
          · have ec : decide (r.commit ≤ c) = false := by simpa using hc
            have HK2 : Hid (rlastM l c x = rlastM (l.take m) c x) := Lib.hid (HK.out.trans (HT.out.trans (by rw [if_neg hc])))
            clear hc e1 e2
            go_wp2_with fail
            go_roundw
            case rel => exact ⟨m, by omega, by go_num, HK2, trivial⟩
            case measure => simp [intOf]
end Go.Proofs.Ytoajigghkjnffaa
namespace Go.Proofs.Ytoajigghkjnffaa
set_option linter.unusedVariables false
set_option linter.unusedSimpArgs false
open Go.RowKit

theorem snocInd {α : Type} {P : List α → Prop} (h0 : P []) (h1 : ∀ l x, P l → P (l ++ [x])) (l : List α) : P l := by
  have h : ∀ m : List α, P m.reverse := by
    intro m
    induction m with
    | nil => exact h0
    | cons x m ih => rw [List.reverse_cons]; exact h1 _ _ ih
  simpa using h l.reverse
def verOf (x : Int) (r : RecM) : Option ChM := (findM r.chs x).map (fun d => ⟨r.commit, d.gone, d.obj⟩)
theorem fold_vs (com x : Int) : ∀ (l : List ChM) (t : TabM), (l.foldl (stepT com) t).vs x = t.vs x ++ (l.filter (fun d => d.oop == x)).map (fun d => ⟨com, d.gone, d.obj⟩)
  | [], t => by simp
  | c :: l, t => by
    rw [List.foldl_cons, fold_vs com x l]
    by_cases h : c.oop = x
    · subst h
      have e : (stepT com t c).vs c.oop = t.vs c.oop ++ [⟨com, c.gone, c.obj⟩] := if_pos rfl
      rw [e, List.filter_cons_of_pos (by simp)]
      simp
    · have e : (stepT com t c).vs x = t.vs x := if_neg (fun e => h e.symm)
      rw [e, List.filter_cons_of_neg (by simpa using h)]
theorem chsRight_lt : ∀ {l : List ChM} {o : Int}, chsRight o l = true → ∀ c ∈ l, o < c.oop
  | [], _, _, c, hc => by cases hc
  | d :: l, o, h, c, hc => by
    rw [chsRight] at h
    simp only [Bool.and_eq_true, decide_eq_true_eq] at h
    rcases List.mem_cons.1 hc with rfl | hc
    · exact h.1
    · have := chsRight_lt h.2.2.2 c hc
      have := h.1
      omega
theorem filter_find : ∀ {l : List ChM} {o : Int}, chsRight o l = true → ∀ x, l.filter (fun d => d.oop == x) = (findM l x).toList
  | [], _, _, x => rfl
  | d :: l, o, h, x => by
    rw [chsRight] at h
    simp only [Bool.and_eq_true, decide_eq_true_eq] at h
    by_cases hd : d.oop = x
    · subst hd
      have e : l.filter (fun e => e.oop == d.oop) = [] := by
        rw [List.filter_eq_nil_iff]
        intro e he
        have := chsRight_lt h.2.2.2 e he
        simp; omega
      unfold findM
      rw [List.filter_cons_of_pos (by simp), e, List.find?_cons_of_pos (by simp)]
      rfl
    · unfold findM
      rw [List.filter_cons_of_neg (by simpa using hd), List.find?_cons_of_neg (by simpa using hd)]
      exact filter_find h.2.2.2 x
/-- The same records have come to both, and none is forgotten. -/
structure RelT (t : TabM) (r : RTabM) : Prop where
  first : t.first = r.fr
  last : t.last = r.en
  base : r.base = []
  vs : ∀ x, t.vs x = r.l.filterMap (verOf x)
  up : ∀ e ∈ r.l, e.commit ≤ r.en
  rise : r.l.Pairwise (fun a b => a.commit < b.commit)
  right : ∀ e ∈ r.l, rightR e = true
theorem RelT.start : RelT tab0 rtab0 := ⟨rfl, rfl, rfl, fun _ => rfl, (fun e h => by cases h), List.Pairwise.nil, (fun e h => by cases h)⟩
theorem RelT.apply {t : TabM} {r : RTabM} (h : RelT t r) (x : RecM) : RelT (applyM t x).1 (rapplyM r x).1 ∧ (applyM t x).2 = (rapplyM r x).2 := by
  cases hr : rightR x with
  | false => rw [applyM_bad hr, rapplyM_bad hr]; exact ⟨h, rfl⟩
  | true =>
    by_cases h2 : x.commit ≤ t.last
    · rw [applyM_old hr h2, rapplyM_old hr (by rw [← h.last]; exact h2)]; exact ⟨h, rfl⟩
    · rw [applyM_yes hr h2, rapplyM_yes hr (by rw [← h.last]; exact h2)]
      have hl := h.last
      obtain ⟨_, _, _, h4⟩ := rightR_four hr
      refine ⟨⟨?_, rfl, h.base, fun y => ?_, ?_, ?_, ?_⟩, rfl⟩
      · exact (fold_first x.commit x.chs t).1.trans h.first
      · show (x.chs.foldl (stepT x.commit) t).vs y = (r.l ++ [x]).filterMap (verOf y)
        rw [fold_vs, h.vs, List.filterMap_append, filter_find h4]
        congr 1
        unfold verOf
        cases hf : findM x.chs y <;> simp [hf]
      · intro e he
        rcases List.mem_append.1 he with he | he
        · have := h.up e he
          show e.commit ≤ x.commit
          omega
        · rw [List.mem_singleton] at he; subst he; exact Int.le_refl _
      · show (r.l ++ [x]).Pairwise _
        rw [List.pairwise_append]
        refine ⟨h.rise, by simp, fun a ha b hb => ?_⟩
        rw [List.mem_singleton] at hb; subst hb
        have := h.up a ha
        omega
      · intro e he
        rcases List.mem_append.1 he with he | he
        · exact h.right e he
        · rw [List.mem_singleton] at he; subst he; exact hr
theorem RelT.folds : ∀ (l : List RecM) (t : TabM) (r : RTabM), RelT t r → RelT (l.foldl (fun t r => (applyM t r).1) t) (l.foldl (fun t r => (rapplyM t r).1) r)
  | [], _, _, h => h
  | x :: l, t, r, h => RelT.folds l _ _ (h.apply x).1
theorem RelT.of (l : List RecM) : RelT (tabOf l) (rtabOf l) := RelT.folds l _ _ RelT.start
theorem RelT.small {t : TabM} {r : RTabM} (h : RelT t r) : RSmall r := by
  refine ⟨fun e he d hd => ?_, fun d hd => by rw [h.base] at hd; cases hd⟩
  obtain ⟨_, _, _, h4⟩ := rightR_four (h.right e he)
  exact rightC_small (chsRight_all h4 d hd).2
theorem verM_snoc_old (l : List ChM) (v : ChM) (c : Int) (h : ¬ v.oop ≤ c) : behM (l ++ [v]) c = behM l c := by
  unfold behM
  rw [List.countP_append]
  simp [h]
/-- The version with the greatest commit up to c. -/
theorem ver_last (x c : Int) (l : List RecM) : l.Pairwise (fun a b => a.commit < b.commit) →
    (if behM (l.filterMap (verOf x)) c = 0 then none else (l.filterMap (verOf x))[behM (l.filterMap (verOf x)) c - 1]?).map (fun v => (v.gone, v.obj)) = (rlastM l c x).map (fun d => (d.gone, d.obj)) := by
  refine snocInd (P := fun l => l.Pairwise (fun a b => a.commit < b.commit) → (if behM (l.filterMap (verOf x)) c = 0 then none else (l.filterMap (verOf x))[behM (l.filterMap (verOf x)) c - 1]?).map (fun v => (v.gone, v.obj)) = (rlastM l c x).map (fun d => (d.gone, d.obj))) ?_ ?_ l
  · intro _; rfl
  · intro l r ih hp
    rw [List.pairwise_append] at hp
    obtain ⟨h1, _, h3⟩ := hp
    have h3 := fun a ha => h3 a ha r (List.mem_singleton.2 rfl)
    rw [rlastM_snoc, List.filterMap_append]
    by_cases hc : r.commit ≤ c
    · rw [if_pos hc]
      have hall : ∀ v ∈ l.filterMap (verOf x), v.oop ≤ c := by
        intro v hv
        obtain ⟨e, he, hev⟩ := List.mem_filterMap.1 hv
        unfold verOf at hev
        cases hf : findM e.chs x with
        | none => rw [hf] at hev; cases hev
        | some d =>
          rw [hf] at hev
          simp only [Option.map_some, Option.some.injEq] at hev
          subst hev
          have := h3 e he
          show e.commit ≤ c
          omega
      cases hf : findM r.chs x with
      | none =>
        have e1 : [r].filterMap (verOf x) = [] := by simp [verOf, hf]
        rw [e1, List.append_nil, Option.none_or]
        exact ih h1
      | some d =>
        have e1 : [r].filterMap (verOf x) = [⟨r.commit, d.gone, d.obj⟩] := by simp [verOf, hf]
        rw [e1]
        have hb : behM (l.filterMap (verOf x) ++ [⟨r.commit, d.gone, d.obj⟩]) c = (l.filterMap (verOf x)).length + 1 := by
          unfold behM
          rw [List.countP_append, List.countP_eq_length.2 (fun v hv => by simpa using hall v hv)]
          simp [hc]
        rw [hb, if_neg (by omega), show (l.filterMap (verOf x)).length + 1 - 1 = (l.filterMap (verOf x)).length by omega]
        simp
    · rw [if_neg hc]
      rw [← ih h1]
      cases hf : findM r.chs x with
      | none =>
        have e1 : [r].filterMap (verOf x) = [] := by simp [verOf, hf]
        rw [e1, List.append_nil]
      | some d =>
        have e1 : [r].filterMap (verOf x) = [⟨r.commit, d.gone, d.obj⟩] := by simp [verOf, hf]
        rw [e1, verM_snoc_old _ _ _ hc]
        have hle := behM_le (l.filterMap (verOf x)) c
        split
        · rfl
        · rw [List.getElem?_append_left (by omega)]
theorem ansM_congr {a b : Option ChM} (h : a.map (fun v => (v.gone, v.obj)) = b.map (fun v => (v.gone, v.obj))) : ansM a = ansM b := by
  cases a with
  | none => cases b with | none => rfl | some y => cases h
  | some x =>
    cases b with
    | none => cases h
    | some y =>
      simp only [Option.map_some, Option.some.injEq, Prod.mk.injEq] at h
      unfold ansM; simp only [h.1, h.2]
theorem at_same {t : TabM} {r : RTabM} (h : RelT t r) (c x : Int) : atM t c x = ratM r c x := by
  unfold atM ratM
  rw [h.first, h.last]
  split
  · have e : findM r.base x = none := by rw [h.base]; rfl
    rw [e, Option.or_none]
    have h1 := ver_last x c r.l h.rise
    rw [← h.vs] at h1
    exact ansM_congr (a := verM t c x) h1
  · rfl
end Go.Proofs.Ytoajigghkjnffaa
namespace Go.Proofs.Ytoajigghkjnffaa
set_option linter.unusedVariables false
set_option linter.unusedSimpArgs false
open Go.RowKit

theorem tabOf_n0 : ∀ (l : List RecM) (t : TabM), (l.foldl (fun t r => (applyM t r).1) t).n ≤ t.n + l.length * 4096
  | [], t => by simp
  | r :: l, t => by
    have h1 := tabOf_n0 l (applyM t r).1
    have h2 := applyM_n2 t r
    rw [List.foldl_cons, List.length_cons]
    omega
theorem rtabOf_len : ∀ (l : List RecM) (t : RTabM), (l.foldl (fun t r => (rapplyM t r).1) t).l.length ≤ t.l.length + l.length
  | [], t => by simp
  | r :: l, t => by
    have h1 := rtabOf_len l (rapplyM t r).1
    have h2 := (rapplyM_n t r).2
    rw [List.foldl_cons, List.length_cons]
    omega
theorem vput_n {t : TabM} {v : ViewM} {x : Int} {o : ObjM} : (putV t v x o).1.n ≤ v.n + 1 := by
  unfold putV vput; split
  · split
    · exact Nat.le_refl _
    · exact Nat.le_succ _
  · exact Nat.le_succ _
theorem makeM_n {v : ViewM} {o : ObjM} : (makeM v o).1.n ≤ v.n + 1 := by
  unfold makeM vput; split
  · split
    · exact Nat.le_succ _
    · exact Nat.le_refl _
  · exact Nat.le_succ _
theorem readM_n {v : ViewM} {x : Int} : (readM v x).n ≤ v.n + 1 := by
  unfold readM; split
  · exact Nat.le_refl _
  · exact Nat.le_succ _
theorem peekM_small0 {t : TabM} {v : ViewM} (h : TabOk t) (hv : ViewOk v) (x : Int) : (peekM t v x).1.slots.length ≤ 256 ∧ (peekM t v x).1.bytes.length ≤ 1024 := by
  have hn : noObj.slots.length ≤ 256 ∧ noObj.bytes.length ≤ 1024 := ⟨by decide, by decide⟩
  have ha : ∀ c, (atM t c x).1.slots.length ≤ 256 ∧ (atM t c x).1.bytes.length ≤ 1024 := fun c => by
    unfold atM
    split
    · split
      · rename_i u hu
        unfold verM at hu
        split at hu
        · cases hu
        · split
          · exact hn
          · exact (h x).2.2.2 u (List.mem_of_getElem? hu)
      · exact hn
    · exact hn
  unfold peekM
  split
  · rename_i o ho; exact hv.2.2 x o ho
  · split
    · exact ha _
    · exact hn
theorem IRow.none_ {w : World} {base : Nat} {v : Value} (h : IRow w base v []) : ∃ A c, v = .slice A 0 c := by
  obtain ⟨A, c, e, _⟩ := h.rd (by decide)
  exact ⟨A, c, e⟩
set_option maxHeartbeats 4000000 in
set_option maxRecDepth 100000 in
theorem law_ViewAlone (W : World) (a0 : Option Addr) (cap0 : Nat) (l : List RecM) (hl : RdRec W (fun b => b < W.heap.size) a0 l) (ok : ∀ r ∈ l, RecOk r) (a1 : Option Addr) (cap1 : Nat) (ac : List ActM) (has : RdAct W (fun b => b < W.heap.size) a1 ac) (oka : ∀ a ∈ ac, ActOk a) (xa : Int) (wa : (Lit.int .i64 xa).wf = true) :
    Calls Try.prog 5 #[.slice a0 l.length cap0, .slice a1 ac.length cap1, .int .i64 xa] W fun e w' => e = .returned (.bool true) ∧ Fr No W w' := by
  have hasl := has.le
  go_enter Try.func5, Try.ntmps5
  go_wp2_with fail
  refine (both_calls (fun b => b < W.heap.size) a0 cap0 l _ hl (fun b hb => by omega) ok).mono ?_
  rintro e w1 ⟨p, u, T, O, T2, O2, rfl, hT1, hR1, hall, hd1, hd2, hf1⟩
  have htn : (tabOf (l.take 12)).n ≤ 1000000 := by
    have h1 := tabOf_n0 (l.take 12) tab0
    have h2 : (l.take 12).length ≤ 12 := by rw [List.length_take]; omega
    have h3 : tab0.n = 0 := rfl
    show ((l.take 12).foldl _ tab0).n ≤ _
    omega
  have hrn : (rtabOf (l.take 12)).l.length ≤ 1000000 := by
    have h1 := rtabOf_len (l.take 12) rtab0
    have h2 : (l.take 12).length ≤ 12 := by rw [List.length_take]; omega
    have h3 : rtab0.l.length = 0 := rfl
    show ((l.take 12).foldl _ rtab0).l.length ≤ _
    omega
  have htok : TabOk (tabOf (l.take 12)) := tabOf_ok _ _ tab0_ok
  have hrel0 := RelT.of (l.take 12)
  have hrs := hrel0.small
  have HAT := Lib.hid (at_same hrel0)
  have hlast := hrel0.last
  generalize tabOf (l.take 12) = t at *
  generalize rtabOf (l.take 12) = rt at *
  have HLAST := Lib.hid hlast
  have HRS := Lib.hid hrs
  clear hrel0 hlast hrs
  have hTl := hT1.lt
  have hRl := hR1.lt
  have hlow : ∀ b, T b ∨ O b ∨ T2 b ∨ O2 b → b < w1.heap.size := fun b hb => by
    rcases hb with hb | hb | hb | hb
    · exact hTl.1 b hb
    · exact hTl.2.1 b hb
    · exact hRl.1 b hb
    · exact hRl.2.1 b hb
  obtain ⟨mb, wb', hbk⟩ := hT1.blk
  obtain ⟨mb1, mb2, mb3, hrbk⟩ : ∃ m1 m2 m3, Blk w1 u 58 #[.int .i64 rt.fr, .int .i64 rt.en, m1, m2, m3] := by
    obtain ⟨_, _, _, hP⟩ := hR1; exact ⟨_, _, _, hP.blk⟩
  have hz1 := hf1.size
  go_wp2_with fail
  refine (vnew_calls w1 p t.first t.last _ _ hbk).mono ?_
  rintro e w2 ⟨q1, rfl, hV2, hf2⟩
  have hz2 := hf2.size
  generalize hVV : (fun b => w1.heap.size ≤ b ∧ b < w2.heap.size) = V1 at *
  have hVd : ∀ b, V1 b → w1.heap.size ≤ b ∧ b < w2.heap.size := fun b hb => by rw [← hVV] at hb; exact hb
  clear hVV
  have hbk2 := hbk.fr0 hf2
  go_wp2_with fail
  refine (vnew_calls w2 p t.first t.last _ _ hbk2).mono ?_
  rintro e w3 ⟨q2, rfl, hU3, hf3⟩
  have hz3 := hf3.size
  generalize hVV : (fun b => w2.heap.size ≤ b ∧ b < w3.heap.size) = V2 at *
  have hUd : ∀ b, V2 b → w2.heap.size ≤ b ∧ b < w3.heap.size := fun b hb => by rw [← hVV] at hb; exact hb
  clear hVV
  have hV3 := hV2.fr0 hf3
  have hF3 := (hf1.tr hf2).tr hf3
  have hT3 := hT1.fr0 (hf2.tr hf3)
  go_wp2_with fail
  refine (peek_calls w3 V2 No T O q2 p (view0 t.last) t xa hU3 hT3 htok (view0_ok _) htn wa).mono ?_
  rintro e w4 ⟨cs4, rfl, hown4, hf4⟩
  have hsm := peekM_small0 htok (view0_ok t.last) xa
  obtain ⟨A4, c4, D4, d4, rfl⟩ := hown4.lit3
  obtain ⟨R4, hR4⟩ : ∃ R4, R4 = peekM t (view0 t.last) xa := ⟨_, rfl⟩
  rw [← hR4] at hown4 hsm ⊢
  have HR4 := Lib.hid hR4
  clear hR4
  have hf45 : Fr No w4 (w4.alloc (.cells #[.int .i64 R4.1.cls, .slice A4 R4.1.slots.length c4, .slice D4 R4.1.bytes.length d4] tObj)) := (Fr.refl No w4).alloc _
  have hb5 := Blk.new w4 tObj #[.int .i64 R4.1.cls, .slice A4 R4.1.slots.length c4, .slice D4 R4.1.bytes.length d4]
  have hz4 := hf4.size
  have hown5 := hown4.fr hf45 (fun _ _ hn => hn)
  go_upto_block 0 with fail
  generalize hw5 : w4.alloc (.cells #[.int .i64 R4.1.cls, .slice A4 R4.1.slots.length c4, .slice D4 R4.1.bytes.length d4] tObj) = w5 at *
  clear hw5
  have hg35 := hf4.tr hf45
  have hz5 := hf45.size
  have hV5 := hV3.fr0 hg35
  have hU5 := hU3.fr0 hg35
  have hT5 := hT3.fr0 hg35
  have hR5 := hR1.fr0 ((hf2.tr hf3).tr hg35)
  have hbk5 := hbk2.fr0 (hf3.tr hg35)
  have hrbk5 := hrbk.fr0 ((hf2.tr hf3).tr hg35)
  have hF5 := hF3.tr hg35
  have has5 := has.fr0 hF5
  have hpl : p < w1.heap.size := hbk.lt
  have hul : u < w1.heap.size := hrbk.lt
  have HOKA := Lib.hid oka
  clear oka
  go_cut [13] (fun s13 wx => Fr (fun b => w1.heap.size ≤ b ∧ b < w2.heap.size) w5 wx)
  case first =>
    go_wp2_with fail
    go_loopw [13] (fun i wr => ∃ (k : Nat) (v : ViewM) (Q : Nat → Prop), k ≤ ac.length ∧ k ≤ 40 ∧ i = .int .i64 (k : Int) ∧ ViewAt wr V1 Q q1 p v ∧ ViewOk v ∧ v.n ≤ k ∧ (∀ b, Q b → w3.heap.size ≤ b) ∧ Fr (fun b => w1.heap.size ≤ b ∧ b < w2.heap.size) w5 wr) (fun i _ => ac.length - (intOf i).toNat)
    case atStart => exact ⟨0, view0 t.last, No, by omega, by omega, rfl, hV5, view0_ok _, Nat.le_refl _, fun b hb => hb.elim, Fr.refl _ _⟩
    case round =>
      obtain ⟨k, v, Q, hk, hk40, rfl, hV, hvok, hvn, hQ, hf⟩ := hrel
      by_cases hlt : k < ac.length
      · have ek : decide ((k : Int) < ac.length) = true := by simpa using (by omega : (k : Int) < ac.length)
        by_cases h40 : k < 40
        · have ek2 : decide ((k : Int) < 40) = true := by simpa using (by omega : (k : Int) < 40)
          have hokk := HOKA.out _ (List.getElem_mem hlt)
          obtain ⟨g, o, cs, rfl, _, hcs, hcell⟩ := (has5.fr hf (fun b hb hT => by omega)).at_ hlt
          generalize ac[k] = x at *
          obtain ⟨hw1, ⟨hos, hob⟩, _, _, _⟩ := hokk
          have hcl := hcs.len
          obtain ⟨Ax, cx, Dx, dx, Ex, ex, rfl, rs, rb, _⟩ := hcs
          obtain ⟨kd, xo, ob, rc⟩ := x
          simp only at hw1 hos hob rs rb hcell hcl ⊢
          have hzr := hf.size
          have hT := hT5.fr hf (fun b hb hT => by have := hTl.1 b hb; omega) (fun b hb hT => by have := hTl.2.1 b hb; omega)
          have hfa : Fr No wr (wr.alloc (.cells #[.int .i64 kd, .int .i64 xo, .int .i64 ob.cls, .slice Ax ob.slots.length cx, .slice Dx ob.bytes.length dx, .int .i64 rc.commit, .slice Ex rc.chs.length ex] tAct)) := (Fr.refl No wr).alloc _
          have hba := Blk.new wr tAct #[.int .i64 kd, .int .i64 xo, .int .i64 ob.cls, .slice Ax ob.slots.length cx, .slice Dx ob.bytes.length dx, .int .i64 rc.commit, .slice Ex rc.chs.length ex]
          have hco : ObjC wr (fun b => b < W.heap.size) [.int .i64 ob.cls, .slice Ax ob.slots.length cx, .slice Dx ob.bytes.length dx] ob := ⟨Ax, cx, Dx, dx, rfl, rs, rb⟩
          have hob3 : ∀ j u, [Value.int .i64 ob.cls, .slice Ax ob.slots.length cx, .slice Dx ob.bytes.length dx][j]? = some u → (wr.alloc (.cells #[.int .i64 kd, .int .i64 xo, .int .i64 ob.cls, .slice Ax ob.slots.length cx, .slice Dx ob.bytes.length dx, .int .i64 rc.commit, .slice Ex rc.chs.length ex] tAct)).cell? ((⟨wr.heap.size, 2, none⟩ : Addr).add j) = some u := addr5 _ _ _ (fun j u hu => by
            rw [hba.cell (2 + j)]
            match j, hu with
            | 0, hu => exact hu
            | 1, hu => exact hu
            | 2, hu => exact hu
            | j + 3, hu => simp at hu)
          go_upto_region 11 with (first
            | (refine wpList_ldA ag_act rfl _ rfl ⟨g, o + k * 7, none⟩ _ rfl hcl hcell ?_)
            | fail)
          have hVa := hV.fr0 hfa
          have hTa := hT.fr0 hfa
          have hcoa := hco.fr0 hfa
          have hza : wr.heap.size < (wr.alloc (.cells #[.int .i64 kd, .int .i64 xo, .int .i64 ob.cls, .slice Ax ob.slots.length cx, .slice Dx ob.bytes.length dx, .int .i64 rc.commit, .slice Ex rc.chs.length ex] tAct)).heap.size := hba.lt
          have hfa5 := hf.trans hfa (fun _ _ hn => hn.elim)
          obtain ⟨ga, hga⟩ : ∃ ga, ga = wr.heap.size := ⟨_, rfl⟩
          have hga' : wr.heap.size ≤ ga := by omega
          rw [← hga] at hba hob3 hza ⊢
          clear hga
          generalize wr.alloc (.cells #[.int .i64 kd, .int .i64 xo, .int .i64 ob.cls, .slice Ax ob.slots.length cx, .slice Dx ob.bytes.length dx, .int .i64 rc.commit, .slice Ex rc.chs.length ex] tAct) = wa at *
          clear hcell hcl rs rb hT hV hco hfa
          (have y0 := hba.cell 0; have y1 := hba.cell 1; have y2 := hba.cell 2; have y3 := hba.cell 3; have y4 := hba.cell 4; have y5 := hba.cell 5; have y6 := hba.cell 6; have yf0 := hba.frozen 0; have yf1 := hba.frozen 1; have yf2 := hba.frozen 2; have yf3 := hba.frozen 3; have yf4 := hba.frozen 4; have yf5 := hba.frozen 5; have yf6 := hba.frozen 6; simp only [List.getElem?_toArray, List.getElem?_cons_zero, List.getElem?_cons_succ] at y0 y1 y2 y3 y4 y5 y6)
          by_cases h4 : kd = 4
          · subst h4
            go_wp2_with (first
              | (refine wpList_ldA ag_obj rfl _ rfl ⟨ga, 2, none⟩ _ rfl rfl hob3 ?_)
              | fail)
            refine (vput_calls wa V1 Q T O _ q1 p v t xo _ ob hVa hTa hcoa htok hvok htn (by omega) hw1 (by omega)).mono ?_
            rintro e wp ⟨rfl, Q', hVp, hQp, hfp⟩
            go_wp2_with fail
            go_roundw
            case rel =>
              refine ⟨k + 1, _, Q', by omega, by omega, by go_num, hVp, putV_ok hvok, ?_, fun b hb => ?_, hfa5.trans hfp (fun b hb hT => hVd b hT)⟩
              · have := vput_n (t := t) (v := v) (x := xo) (o := ob); omega
              · rcases hQp b hb with h | h
                · exact hQ b h
                · omega
            case measure => simp [intOf]; omega
          by_cases h5 : kd = 5
          · subst h5
            go_wp2_with (first
              | (refine wpList_ldA ag_obj rfl _ rfl ⟨ga, 2, none⟩ _ rfl rfl hob3 ?_)
              | fail)
            refine (vput_calls wa V1 Q T O _ q1 p v t xo _ ob hVa hTa hcoa htok hvok htn (by omega) hw1 (by omega)).mono ?_
            rintro e wp ⟨rfl, Q', hVp, hQp, hfp⟩
            go_wp2_with fail
            go_roundw
            case rel =>
              refine ⟨k + 1, _, Q', by omega, by omega, by go_num, hVp, putV_ok hvok, ?_, fun b hb => ?_, hfa5.trans hfp (fun b hb hT => hVd b hT)⟩
              · have := vput_n (t := t) (v := v) (x := xo) (o := ob); omega
              · rcases hQp b hb with h | h
                · exact hQ b h
                · omega
            case measure => simp [intOf]; omega
          by_cases h6 : kd = 6
          · subst h6
            go_wp2_with (first
              | (refine wpList_ldA ag_obj rfl _ rfl ⟨ga, 2, none⟩ _ rfl rfl hob3 ?_)
              | fail)
            refine (vput_calls wa V1 Q T O _ q1 p v t xo _ ob hVa hTa hcoa htok hvok htn (by omega) hw1 (by omega)).mono ?_
            rintro e wp ⟨rfl, Q', hVp, hQp, hfp⟩
            go_wp2_with fail
            go_roundw
            case rel =>
              refine ⟨k + 1, _, Q', by omega, by omega, by go_num, hVp, putV_ok hvok, ?_, fun b hb => ?_, hfa5.trans hfp (fun b hb hT => hVd b hT)⟩
              · have := vput_n (t := t) (v := v) (x := xo) (o := ob); omega
              · rcases hQp b hb with h | h
                · exact hQ b h
                · omega
            case measure => simp [intOf]; omega
          by_cases h7 : kd = 7
          · subst h7
            go_wp2_with (first
              | (refine wpList_ldA ag_obj rfl _ rfl ⟨ga, 2, none⟩ _ rfl rfl hob3 ?_)
              | fail)
            refine (vmake_calls wa V1 Q _ q1 p v _ ob hVa hcoa (fun b hb hT => by have := hVd b hT; omega) hvok (by omega) (by omega)).mono ?_
            rintro e wp ⟨rfl, Q', hVp, hQp, hfp⟩
            go_wp2_with fail
            go_roundw
            case rel =>
              refine ⟨k + 1, _, Q', by omega, by omega, by go_num, hVp, makeM_ok hvok, ?_, fun b hb => ?_, hfa5.trans hfp (fun b hb hT => hVd b hT)⟩
              · have := makeM_n (v := v) (o := ob); omega
              · rcases hQp b hb with h | h
                · exact hQ b h
                · omega
            case measure => simp [intOf]; omega
          by_cases h8 : kd = 8
          · subst h8
            go_wp2_with (first
              | (refine wpList_ldA ag_obj rfl _ rfl ⟨ga, 2, none⟩ _ rfl rfl hob3 ?_)
              | fail)
            refine (vmake_calls wa V1 Q _ q1 p v _ ob hVa hcoa (fun b hb hT => by have := hVd b hT; omega) hvok (by omega) (by omega)).mono ?_
            rintro e wp ⟨rfl, Q', hVp, hQp, hfp⟩
            go_wp2_with fail
            go_roundw
            case rel =>
              refine ⟨k + 1, _, Q', by omega, by omega, by go_num, hVp, makeM_ok hvok, ?_, fun b hb => ?_, hfa5.trans hfp (fun b hb hT => hVd b hT)⟩
              · have := makeM_n (v := v) (o := ob); omega
              · rcases hQp b hb with h | h
                · exact hQ b h
                · omega
            case measure => simp [intOf]; omega
          have e4 : (kd == 4) = false := by simpa using h4
          have e5 : (kd == 5) = false := by simpa using h5
          have e6 : (kd == 6) = false := by simpa using h6
          have e7 : (kd == 7) = false := by simpa using h7
          have e8 : (kd == 8) = false := by simpa using h8
          clear h4 h5 h6 h7 h8
          go_wp2_with fail
          refine (get_calls wa V1 Q T O q1 p v t xo hVa hTa (fun b hb => ⟨fun h => by have := hVd b hb; have := hTl.1 b h; omega, fun h => by have := hVd b hb; have := hTl.2.1 b h; omega⟩) htok hvok htn (by omega) hw1).mono ?_
          rintro e wg ⟨csg, rfl, howng, hVg, hfg⟩
          have hVal := hVa.lt
          have hsg := peekM_small0 htok hvok xo
          obtain ⟨Ag, cg, Dg, dg, rfl⟩ := howng.lit3
          generalize peekM t v xo = Rg at *
          have hing := howng.in_
          have hzg := hfg.size
          have hfgh : Fr No wg (wg.alloc (.cells #[.int .i64 Rg.1.cls, .slice Ag Rg.1.slots.length cg, .slice Dg Rg.1.bytes.length dg] tObj)) := (Fr.refl No wg).alloc _
          have hbg := Blk.new wg tObj #[.int .i64 Rg.1.cls, .slice Ag Rg.1.slots.length cg, .slice Dg Rg.1.bytes.length dg]
          have hbgl := hbg.all
          go_wp2_with (first
            | (refine wpList_ldA ag_obj rfl _ rfl ⟨wg.heap.size, 0, none⟩ [.int .i64 Rg.1.cls, .slice Ag Rg.1.slots.length cg, .slice Dg Rg.1.bytes.length dg] rfl rfl hbgl ?_)
            | fail)
          refine (spoilo_calls _ _ Rg.1 _ (hing.fr0 hfgh) (by omega) (by omega)).mono ?_
          rintro e wh ⟨rfl, hfh⟩
          have hfF := ((hfa5.trans hfg (fun b hb hT => hVd b hT)).trans hfgh (fun _ _ hn => hn.elim)).trans hfh (fun b hb hT => by omega)
          have hVh := (hVg.fr0 hfgh).fr hfh (fun b hb hT => by have := hVd b hb; omega) (fun b hb hT => by have := hVal.2.1 b hb; omega)
          go_wp2_with fail
          go_roundw
          case rel =>
            refine ⟨k + 1, _, Q, by omega, by omega, by go_num, hVh, readM_ok hvok, ?_, hQ, hfF⟩
            have := readM_n (v := v) (x := xo); omega
          case measure => simp [intOf]; omega
        · have ek2 : decide ((k : Int) < 40) = false := by simp; omega
          go_wp2_with fail
          go_meet
          case rel => exact hf
      · obtain rfl : k = ac.length := by omega
        have ek : decide ((ac.length : Int) < ac.length) = false := by simp
        go_wp2_with fail
        go_meet
        case rel => exact hf
  case rest =>
    have hTc := hT5.fr hcut (fun b hb hT => by have := hTl.1 b hb; omega) (fun b hb hT => by have := hTl.2.1 b hb; omega)
    have hRc := hR5.fr hcut (fun b hb hT => by have := hRl.1 b hb; omega) (fun b hb hT => by have := hRl.2.1 b hb; omega)
    have hUc := hU5.fr hcut (fun b hb hT => by have := hUd b hb; omega) (fun b hb hT => hb.elim)
    have hbc := hb5.fr hcut (by omega)
    have hownc := hown5.fr hcut (fun b hb hT => by omega)
    have hbkc := hbk5.fr hcut (by omega)
    have hrbkc := hrbk5.fr hcut (by omega)
    have hFc : Fr No W wc := hF5.trans hcut (fun b hb hT => by omega)
    have hzc := hcut.size
    clear hT5 hR5 hU5 hb5 hown5 hbk5 hrbk5 hcut hV5 has5
    go_wp2_with fail
    refine (peek_calls wc V2 No T O q2 p (view0 t.last) t xa hUc hTc htok (view0_ok _) htn wa).mono ?_
    rw [← HR4.out]
    rintro e w6 ⟨cs6, rfl, hown6, hf6⟩
    obtain ⟨A6, c6, D6, d6, rfl⟩ := hown6.lit3
    have hf67 : Fr No w6 (w6.alloc (.cells #[.int .i64 R4.1.cls, .slice A6 R4.1.slots.length c6, .slice D6 R4.1.bytes.length d6] tObj)) := (Fr.refl No w6).alloc _
    have hb7 := Blk.new w6 tObj #[.int .i64 R4.1.cls, .slice A6 R4.1.slots.length c6, .slice D6 R4.1.bytes.length d6]
    have hown7 := hown6.fr hf67 (fun _ _ hn => hn)
    have hg6 := hf6.tr hf67
    have hbk7 := hbkc.fr0 hg6
    have hT7 := hTc.fr0 hg6
    go_wp2_with fail
    refine (tlast_calls _ p t.first t.last _ _ hbk7).mono ?_
    rintro e w7 ⟨rfl, hw7⟩
    have hw7 := hw7.symm
    subst hw7
    go_wp2_with fail
    refine (tat_calls _ T O p t t.last xa hT7 htok htn wa).mono ?_
    rintro e w8 ⟨cs8, rfl, hown8, hf8⟩
    have hsm8 : (atM t t.last xa).1.slots.length ≤ 256 ∧ (atM t t.last xa).1.bytes.length ≤ 1024 := by
      have h1 := peekM_small0 htok (view0_ok t.last) xa
      have h2 : noObj.slots.length ≤ 256 ∧ noObj.bytes.length ≤ 1024 := ⟨by decide, by decide⟩
      unfold atM
      split
      · split
        · rename_i v hv
          unfold verM at hv
          split at hv
          · cases hv
          · split
            · exact h2
            · exact (htok xa).2.2.2 v (List.mem_of_getElem? hv)
        · exact h2
      · exact h2
    obtain ⟨A8, c8, D8, d8, rfl⟩ := hown8.lit3
    obtain ⟨R8, hR8⟩ : ∃ R8, R8 = atM t t.last xa := ⟨_, rfl⟩
    rw [← hR8] at hown8 hsm8 ⊢
    have HR8 := Lib.hid (show ratM rt rt.en xa = R8 by rw [hR8, HAT.out, HLAST.out])
    clear hR8
    have hf89 : Fr No w8 (w8.alloc (.cells #[.int .i64 R8.1.cls, .slice A8 R8.1.slots.length c8, .slice D8 R8.1.bytes.length d8] tObj)) := (Fr.refl No w8).alloc _
    have hb9 := Blk.new w8 tObj #[.int .i64 R8.1.cls, .slice A8 R8.1.slots.length c8, .slice D8 R8.1.bytes.length d8]
    have hown9 := hown8.fr hf89 (fun _ _ hn => hn)
    have hg8 := hf8.tr hf89
    have hg9 := hg6.tr hg8
    have hR9 := hRc.fr0 hg9
    have hrbk9 := hrbkc.fr0 hg9
    (have z0 := hrbk9.cell 0; have z1 := hrbk9.cell 1; have z2 := hrbk9.cell 2; have z3 := hrbk9.cell 3; have z4 := hrbk9.cell 4; have zf0 := hrbk9.frozen 0; have zf1 := hrbk9.frozen 1; have zf2 := hrbk9.frozen 2; have zf3 := hrbk9.frozen 3; have zf4 := hrbk9.frozen 4; simp only [List.getElem?_toArray, List.getElem?_cons_zero, List.getElem?_cons_succ] at z0 z1 z2 z3 z4)
    go_wp2_with fail
    refine (rtat_calls _ T2 O2 u rt rt.en xa hR9 hrn HRS.out).mono ?_
    rw [HR8.out]
    rintro e wA ⟨csA, rfl, hownA, hfA⟩
    obtain ⟨AA, cA, DA, dA, rfl⟩ := hownA.lit3
    have hfAB : Fr No wA (wA.alloc (.cells #[.int .i64 R8.1.cls, .slice AA R8.1.slots.length cA, .slice DA R8.1.bytes.length dA] tObj)) := (Fr.refl No wA).alloc _
    have hbB := Blk.new wA tObj #[.int .i64 R8.1.cls, .slice AA R8.1.slots.length cA, .slice DA R8.1.bytes.length dA]
    have hownB := hownA.fr hfAB (fun _ _ hn => hn)
    have hgA := hfA.tr hfAB
    have hgB := hg9.tr hgA
    have k1 := (hbc.fr0 hgB).all
    have k2 := (hb7.fr0 (hg8.tr hgA)).all
    have k3 := hb9.fr0 hgA
    have hc1 := (hownc.fr hgB (fun _ _ hn => hn)).rd (by omega) (by omega)
    have hc2 := (hown7.fr (hg8.tr hgA) (fun _ _ hn => hn)).rd (by omega) (by omega)
    have hc3 := (hown9.fr hgA (fun _ _ hn => hn)).rd (by omega) (by omega)
    have hc4 := hownB.rd (by omega) (by omega)
    have hUB := hUc.fr0 hgB
    have HSO := Lib.hid (sameO_self R4.1)
    have HSO8 := Lib.hid (sameO_self R8.1)
    have hFB := hFc.tr hgB
    go_wp2_with (first
      | (refine wpList_ldA ag_obj rfl _ rfl ⟨w4.heap.size, 0, none⟩ [.int .i64 R4.1.cls, .slice A4 R4.1.slots.length c4, .slice D4 R4.1.bytes.length d4] rfl rfl k1 ?_)
      | (refine wpList_ldA ag_obj rfl _ rfl ⟨w6.heap.size, 0, none⟩ [.int .i64 R4.1.cls, .slice A6 R4.1.slots.length c6, .slice D6 R4.1.bytes.length d6] rfl rfl k2 ?_)
      | fail)
    refine (refsame_calls _ _ _ _ R4.1 R4.1 _ hc1 hc2).mono ?_
    rw [HSO.out]
    rintro e wE ⟨rfl, hfE⟩
    have k3 := (k3.fr0 hfE).all
    have k4 := (hbB.fr0 hfE).all
    have ebe : (R4.2 == R4.2) = true := by simp
    have ebe8 : (R8.2 == R8.2) = true := by simp
    have hc3 := hc3.keep hfE (fun _ _ hn => hn)
    have hc4 := hc4.keep hfE (fun _ _ hn => hn)
    go_wp2_with (first
      | (refine wpList_ldA ag_obj rfl _ rfl ⟨w8.heap.size, 0, none⟩ [.int .i64 R8.1.cls, .slice A8 R8.1.slots.length c8, .slice D8 R8.1.bytes.length d8] rfl rfl k3 ?_)
      | (refine wpList_ldA ag_obj rfl _ rfl ⟨wA.heap.size, 0, none⟩ [.int .i64 R8.1.cls, .slice AA R8.1.slots.length cA, .slice DA R8.1.bytes.length dA] rfl rfl k4 ?_)
      | fail)
    refine (refsame_calls _ _ _ _ R8.1 R8.1 _ hc3 hc4).mono ?_
    rw [HSO8.out]
    rintro e wF ⟨rfl, hfF⟩
    have hUF := hUB.fr0 (hfE.tr hfF)
    go_wp2_with fail
    refine (reads_calls wF V2 No q2 p (view0 t.last) hUF (Nat.zero_le _)).mono ?_
    rintro e wG ⟨x1, rfl, hr1, hfG⟩
    rw [show upI (view0 t.last).read 1 4096 = [] from upI_none (fun x _ _ => rfl)] at hr1
    obtain ⟨B1, e1, rfl⟩ := hr1.none_
    have hUG := hUF.fr0 hfG
    go_wp2_with fail
    refine (writes_calls wG V2 No q2 p (view0 t.last) hUG (Nat.zero_le _)).mono ?_
    rintro e wH ⟨x2, rfl, hr2, hfH⟩
    rw [show upI (fun x => ((view0 t.last).own x).isSome) 1 4096 = [] from upI_none (fun x _ _ => rfl)] at hr2
    obtain ⟨B2, e2, rfl⟩ := hr2.none_
    have hUH := hUG.fr0 hfH
    go_wp2_with fail
    refine (news_calls wH V2 No q2 p (view0 t.last) hUH (Nat.zero_le _)).mono ?_
    rintro e wI ⟨x3, rfl, hr3, hfI⟩
    rw [show upI (fun x => ((view0 t.last).own x).isSome) 4097 4096 = [] from upI_none (fun x _ _ => rfl)] at hr3
    obtain ⟨B3, e3, rfl⟩ := hr3.none_
    go_wp2_with fail
    refine (known_calls _).mono ?_
    rintro e wz ⟨rfl, hfz⟩
    go_wp2
    go_ret
    exact ⟨rfl, ((((hFB.tr (hfE.tr hfF)).tr hfG).tr hfH).tr hfI).tr hfz⟩
end Go.Proofs.Ytoajigghkjnffaa
