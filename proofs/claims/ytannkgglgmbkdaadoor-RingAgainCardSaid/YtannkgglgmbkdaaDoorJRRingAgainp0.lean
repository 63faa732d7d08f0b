/- Words for memory: slices that read as lists, frames, rows of the call's own. No condition. How a row's arguments are opened: what all rows share. No condition. How arguments are opened, piece by piece: whatever a type's reader finds. No condition. A region that leaves its order open, whose calls stand in one order, and whose other operations yield the same in whatever comes behind: walked once. No condition. More words for memory: append as one step, a slice of one struct, copy between rows. No condition. -/
import Derived.Deep.DeepAppendWide
import Derived.WalkKit
import Derived.WalkLawsBesides
import Derived.WalkSpells
import Derived.Lib.Hide
import Derived.Maps.AppendAt
import Derived.Deep.AppendLies
import Derived.Deep.Draws
import Derived.Laws.OwnMore
import Derived.Lib.ConvBytes
import Derived.Laws.BitsAllLaws
import Derived.Test.YtannkgglgmbkdaaDoorRows
import Derived.ProofKit
import Derived.OpenShut
import Derived.ChangeOld
import Derived.Below
import Derived.SizedLaws
import Derived.OrdersHeld
import Derived.Deep.RegionHeld
import Derived.Deep.QuietTactic
import Derived.BigQuiet
import Derived.Great.BuildSlice
import Derived.Laws.CopyRow
namespace Go.Proofs.YtannkgglgmbkdaaDoor
set_option linter.unusedVariables false
set_option linter.unusedSimpArgs false
open Go.RowKit

theorem block_of_add (a : Addr) (n : Nat) : (a.add n).block = a.block := by unfold Addr.add; split <;> rfl
theorem add_of_add (a : Addr) (i j : Nat) : (a.add i).add j = a.add (i + j) := by
  unfold Addr.add
  by_cases hi : i = 0 <;> by_cases hj : j = 0 <;> simp [hi, hj, Nat.add_assoc]
theorem add_plain (g j : Nat) : (⟨g, 0, none⟩ : Addr).add j = ⟨g, j, none⟩ := by unfold Addr.add; split <;> simp_all

/-- Only the blocks in S, and what is new, may differ. -/
structure Fr (S : Nat → Prop) (w w' : World) : Prop where
  os : w'.os = w.os
  tape : w'.tape = w.tape
  output : w'.output = w.output
  size : w.heap.size ≤ w'.heap.size
  block : ∀ k, k < w.heap.size → ¬ S k → w'.heap[k]? = w.heap[k]?

def No : Nat → Prop := fun _ => False

section
variable {S T : Nat → Prop} {w w1 w2 : World}
theorem Fr.refl (S : Nat → Prop) (w : World) : Fr S w w := ⟨rfl, rfl, rfl, Nat.le_refl _, fun _ _ _ => rfl⟩
theorem Fr.trans (h : Fr S w w1) (k : Fr T w1 w2) (hT : ∀ b, b < w.heap.size → T b → S b) : Fr S w w2 :=
  ⟨k.os.trans h.os, k.tape.trans h.tape, k.output.trans h.output, Nat.le_trans h.size k.size,
    fun i hi hn => (k.block i (Nat.lt_of_lt_of_le hi h.size) (fun ht => hn (hT i hi ht))).trans (h.block i hi hn)⟩
theorem Fr.mono (h : Fr S w w1) (hS : ∀ b, b < w.heap.size → S b → T b) : Fr T w w1 :=
  ⟨h.os, h.tape, h.output, h.size, fun i hi hn => h.block i hi (fun hs => hn (hS i hi hs))⟩
theorem Fr.drew (h : Fr S w w1) : Fr S w w1.drew := ⟨h.os, h.tape, h.output, h.size, h.block⟩
theorem Fr.drewN (h : Fr S w w1) (n : Nat) : Fr S w (w1.drewN n) := ⟨h.os, h.tape, h.output, h.size, h.block⟩
theorem Fr.alloc (h : Fr S w w1) (o : Obj) : Fr S w (w1.alloc o) :=
  ⟨h.os, h.tape, h.output, Nat.le_trans h.size (by simp), fun i hi hne => (Below.heap_alloc w1 o i (Nat.lt_of_lt_of_le hi h.size)).trans (h.block i hi hne)⟩
theorem Fr.set (h : Fr S w w1) {p : Addr} (hp : w.heap.size ≤ p.block ∨ S p.block) (u : Value) : Fr S w (w1.setCell p u) :=
  ⟨h.os, h.tape, h.output, by simpa [World.setCell] using h.size, fun i hi hne => (Below.heap_setCell w1 p u i (by
    rintro rfl
    rcases hp with hp | hp
    · omega
    · exact hne hp)).trans (h.block i hi hne)⟩
theorem Fr.grown (h : Fr S w w1) {row : Option Nat} (hg : w1.grownBy w2 row) (hr : ∀ k, row = some k → w.heap.size ≤ k ∨ S k) : Fr S w w2 :=
  ⟨hg.os.trans h.os, hg.tape.trans h.tape, hg.output.trans h.output, Nat.le_trans h.size hg.size, fun i hi hne => (hg.block i (Nat.lt_of_lt_of_le hi h.size) (fun e => by
    rcases hr i e.symm with hk | hk
    · omega
    · exact hne hk)).trans (h.block i hi hne)⟩
theorem Fr.below (h : Fr No w w1) : Below w.heap.size w w1 := ⟨h.os, h.tape, h.output, h.size, fun i hi => h.block i hi (fun hn => hn)⟩
theorem Fr.of_below (h : Below w.heap.size w w1) : Fr S w w1 := ⟨h.os, h.tape, h.output, h.size, fun i hi _ => h.block i hi⟩
theorem Fr.cell (h : Fr S w w1) {p : Addr} (hp : p.block < w.heap.size) (hn : ¬ S p.block) : w1.cell? p = w.cell? p := World.cell?_of_block (h.block p.block hp hn)
theorem Fr.frozen (h : Fr S w w1) {p : Addr} (hp : p.block < w.heap.size) (hn : ¬ S p.block) : w1.frozen? p = w.frozen? p := World.frozen?_of_block (h.block p.block hp hn)
theorem Fr.cell_some (h : Fr S w w1) {p : Addr} {v : Value} (hc : w.cell? p = some v) (hn : ¬ S p.block) : w1.cell? p = some v := (h.cell (World.block_lt_of_cell? w p hc) hn).trans hc
end

theorem Fr.tr {w w1 w2 : World} (h : Fr No w w1) (k : Fr No w1 w2) : Fr No w w2 := h.trans k (fun _ _ hn => hn)
/-- A slice's value that reads as the cells xs; what it reads lies in blocks of S. -/
def Rd (w : World) (S : Nat → Prop) (size : Nat) (A : Option Addr) (n : Nat) (xs : List Value) : Prop :=
  xs.length = n * size ∧ n ≤ 211106232532992 ∧ (0 < n → ∃ ad, A = some ad ∧ S ad.block ∧ ∀ j u, xs[j]? = some u → w.cell? (ad.add j) = some u)

section
variable {w w' : World} {S T : Nat → Prop} {size n : Nat} {A : Option Addr} {xs : List Value}
theorem Rd.nil_ : Rd w S size A 0 [] := ⟨by simp, by omega, fun h => absurd h (by omega)⟩
theorem Rd.len (h : Rd w S 1 A n xs) : xs.length = n := by have := h.1; omega
theorem Rd.le (h : Rd w S size A n xs) : n ≤ 211106232532992 := h.2.1
theorem Rd.mono (h : Rd w S size A n xs) (hS : ∀ b, b < w.heap.size → S b → T b) (hs : 0 < size) : Rd w T size A n xs :=
  ⟨h.1, h.2.1, fun hn => by
    obtain ⟨ad, e, hb, hc⟩ := h.2.2 hn
    have hl : 0 < xs.length := by rw [h.1]; exact Nat.mul_pos hn hs
    have hlt := World.block_lt_of_cell? w _ (hc 0 _ (List.getElem?_eq_getElem hl))
    rw [block_of_add] at hlt
    exact ⟨ad, e, hS _ hlt hb, hc⟩⟩
theorem Rd.lt (h : Rd w S size A n xs) (hs : 0 < size) : Rd w (fun b => S b ∧ b < w.heap.size) size A n xs :=
  ⟨h.1, h.2.1, fun hn => by
    obtain ⟨ad, e, hb, hc⟩ := h.2.2 hn
    have hl : 0 < xs.length := by rw [h.1]; exact Nat.mul_pos hn hs
    have hlt := World.block_lt_of_cell? w _ (hc 0 _ (List.getElem?_eq_getElem hl))
    rw [block_of_add] at hlt
    exact ⟨ad, e, ⟨hb, hlt⟩, hc⟩⟩
theorem Rd.at_ {k : Nat} (h : Rd w S 1 A n xs) (hk : k < n) : ∃ ad u, A = some ad ∧ S ad.block ∧ xs[k]? = some u ∧ w.cell? (ad.add k) = some u := by
  obtain ⟨ad, e, hb, hc⟩ := h.2.2 (by omega)
  have hl : k < xs.length := by have := h.1; omega
  exact ⟨ad, xs[k], e, hb, List.getElem?_eq_getElem hl, hc k _ (List.getElem?_eq_getElem hl)⟩
theorem Rd.keep (h : Rd w S size A n xs) (hk : ∀ p : Addr, S p.block → ∀ u, w.cell? p = some u → w'.cell? p = some u) : Rd w' S size A n xs :=
  ⟨h.1, h.2.1, fun hn => by
    obtain ⟨ad, e, hb, hc⟩ := h.2.2 hn
    exact ⟨ad, e, hb, fun j u hu => hk _ (by rw [block_of_add]; exact hb) _ (hc j u hu)⟩⟩
theorem Rd.fr (h : Rd w S size A n xs) (hf : Fr T w w') (hd : ∀ b, S b → ¬ T b) : Rd w' S size A n xs :=
  h.keep fun _ hp _ hc => hf.cell_some hc (hd _ hp)
theorem Rd.fr0 (h : Rd w S size A n xs) (hf : Fr No w w') : Rd w' S size A n xs := h.fr hf (fun _ _ hn => hn)
theorem Rd.drew (h : Rd w S size A n xs) : Rd w.drew S size A n xs := h
theorem Rd.drewN (h : Rd w S size A n xs) (k : Nat) : Rd (w.drewN k) S size A n xs := h
theorem Rd.alloc (h : Rd w S size A n xs) (o : Obj) : Rd (w.alloc o) S size A n xs := h.fr0 ((Fr.refl No w).alloc o)
theorem Rd.set (h : Rd w S size A n xs) {p : Addr} (hp : ¬ S p.block) (u : Value) : Rd (w.setCell p u) S size A n xs :=
  h.keep fun q hq v hc => by
    rw [World.cell?_setCell_other w p q u (fun e => by subst e; exact hp hq)]; exact hc
theorem Rd.grown (h : Rd w S size A n xs) {row : Option Nat} (hg : w.grownBy w' row) (hr : ∀ g, row = some g → ¬ S g) : Rd w' S size A n xs :=
  h.keep fun _ hp _ hc => hg.cell hc (fun e => hr _ e.symm hp)
theorem Rd.cut (h : Rd w S size A n xs) {k cap : Nat} (hk : k ≤ n) (hc : n ≤ cap) :
    Rd w S size (if cap = k then A else A.map (·.add (k * size))) (n - k) (xs.drop (k * size)) := by
  refine ⟨by rw [List.length_drop, h.1, Nat.sub_mul], by have := h.2.1; omega, fun hn => ?_⟩
  obtain ⟨ad, rfl, hb, hcell⟩ := h.2.2 (by omega)
  rw [if_neg (by omega)]
  refine ⟨ad.add (k * size), rfl, by rw [block_of_add]; exact hb, fun j u hu => ?_⟩
  rw [add_of_add]
  exact hcell _ u (by rw [← hu, List.getElem?_drop])
theorem Rd.take (h : Rd w S size A n xs) {k : Nat} (hk : k ≤ n) : Rd w S size A k (xs.take (k * size)) := by
  refine ⟨by rw [List.length_take, h.1, Nat.min_eq_left (Nat.mul_le_mul_right _ hk)], by have := h.2.1; omega, fun hn => ?_⟩
  obtain ⟨ad, rfl, hb, hcell⟩ := h.2.2 (by omega)
  refine ⟨ad, rfl, hb, fun j u hu => hcell j u ?_⟩
  rw [List.getElem?_take] at hu
  split at hu
  · exact hu
  · cases hu
theorem Rd.of_own {base : Nat} {e : TypeId} {c : Nat} (h : w.ownsRow base e size (.slice A n c) n xs) (hn : n ≤ 211106232532992) : Rd w (fun b => A.map (·.block) = some b) size A n xs := by
  refine ⟨h.1, hn, fun hn => ?_⟩
  obtain ⟨g, cap, hv, _, hlt⟩ := h.form hn
  have hA : A = some ⟨g, 0, none⟩ := by injection hv
  subst hA
  exact ⟨_, rfl, rfl, h.cells (g := g) rfl⟩
end

/-- Bytes as cells. -/
def U8 (l : List UInt8) : List Value := l.map fun b => .int .u8 (b.toNat : Int)
theorem U8_length (l : List UInt8) : (U8 l).length = l.length := by simp [U8]
theorem U8_append (a b : List UInt8) : U8 (a ++ b) = U8 a ++ U8 b := by simp [U8]
theorem U8_get (l : List UInt8) (k : Nat) (hk : k < l.length) : (U8 l)[k]? = some (.int .u8 (l[k].toNat : Int)) := by simp [U8, hk]
theorem U8_take (l : List UInt8) (k : Nat) : U8 (l.take k) = (U8 l).take k := by simp [U8]
theorem U8_drop (l : List UInt8) (k : Nat) : U8 (l.drop k) = (U8 l).drop k := by simp [U8]
theorem U8_one (l : List UInt8) : ∀ u ∈ U8 l, u.oneCell' = true := by
  intro u hu
  simp only [U8, List.mem_map] at hu
  obtain ⟨b, _, rfl⟩ := hu
  rfl

/-- A []byte that reads as l. -/
def RdB (w : World) (S : Nat → Prop) (A : Option Addr) (l : List UInt8) : Prop := Rd w S 1 A l.length (U8 l)
section
variable {w w' : World} {S T : Nat → Prop} {A : Option Addr} {l : List UInt8}
theorem RdB.le (h : RdB w S A l) : l.length ≤ 211106232532992 := h.2.1
theorem RdB.at_ {k : Nat} (h : RdB w S A l) (hk : k < l.length) : ∃ ad, A = some ad ∧ S ad.block ∧ w.cell? (ad.add k) = some (.int .u8 (l[k].toNat : Int)) := by
  obtain ⟨ad, u, e, hb, hx, hc⟩ := Rd.at_ h hk
  rw [U8_get l k hk] at hx
  injection hx with hx
  exact ⟨ad, e, hb, hx ▸ hc⟩
end
/-- The slice type t, its elements' type e, of so many cells and bytes. -/
structure SliceOf (P : Program) (t e : TypeId) (z : Value) (size bytes : Nat) : Prop where
  ut : P.underlying t = some (.slice e)
  info : (P.info? e).map (fun i => (i.zero, i.size, i.bytes)) = some (some z, size, bytes)
  zs : z.cells.size = size
  pos : 0 < size
  posb : 0 < bytes
  small : bytes ≤ 1048576

section
variable {P : Program} {t e : TypeId} {z : Value} {size bytes : Nat}

theorem run_app_nil (w : World) (he : SliceOf P t e z size bytes) (ty : TypeId) (base : Nat) (v : Value) (n : Nat) (xs : List Value) (hown : w.ownsRow base e size v n xs) (c : Nat) :
    (Builtin.append_ #[t, t] ty #[v, .slice none 0 c]).run P w = .ok v w := by
  obtain ⟨i, hi, _, _, _⟩ := info_parts he.info
  rcases hown.2 with ⟨rfl, rfl⟩ | ⟨g, cap, cur, rfl, _, _, hnc, _⟩
  · simp [Builtin.append_, run_underlying he.ut, sizeOf, typeInfo, hi, Builtin.lenOf, Builtin.firstCells]
  · simp [Builtin.append_, run_underlying he.ut, sizeOf, typeInfo, hi, Builtin.lenOf, Builtin.firstCells, hnc, storeCells]

/-- 'append' onto a row of the call's own, of whatever reads. -/
theorem run_app (w : World) (he : SliceOf P t e z size bytes) (ty : TypeId) (base : Nat) (v : Value) (n : Nat) (xs : List Value) (hown : w.ownsRow base e size v n xs)
    (S : Nat → Prop) (A : Option Addr) (m c : Nat) (news : List Value) (hr : Rd w S size A m news) (h1 : ∀ u ∈ news, u.oneCell' = true)
    (hbytes : (n + m) * bytes ≤ 211106232532992) (hbase : base ≤ w.heap.size) :
    ∃ v' w', (Builtin.append_ #[t, t] ty #[v, .slice A m c]).run P w = .ok v' w' ∧ w'.ownsRow base e size v' (n + m) (xs ++ news) ∧ w.grownBy w' v.ownBlock ∧ True := by
  have h63 : n + m ≤ maxLen := by
    have : n + m ≤ (n + m) * bytes := Nat.le_mul_of_pos_right _ he.posb
    simp only [maxLen]; omega
  obtain ⟨i, hi, hz, hsz, hby⟩ := info_parts he.info
  rcases A with _ | ad
  · have hm : m = 0 := by
      rcases Nat.eq_zero_or_pos m with h0 | h0
      · exact h0
      · obtain ⟨ad, h, _⟩ := hr.2.2 h0
        cases h
    subst hm
    have hn : news = [] := List.eq_nil_of_length_eq_zero (by simpa using hr.1)
    subst hn
    exact ⟨v, w, run_app_nil w he ty base v n xs hown c, by simpa using hown, World.grownBy.refl w _, trivial⟩
  · have hcells : ∀ j u, news[j]? = some u → w.cell? (ad.add j) = some u := by
      intro j u hu
      rcases Nat.eq_zero_or_pos m with h0 | h0
      · subst h0
        have hn : news = [] := List.eq_nil_of_length_eq_zero (by simpa using hr.1)
        subst hn
        simp at hu
      · obtain ⟨ad', h, _, hc⟩ := hr.2.2 h0
        injection h with h
        subst h
        exact hc j u hu
    have hwide : ((n + m) + (n + m) / 4 + 192) * bytes ≤ 281474976710656 := by
      have hs := he.small
      have e : ((n + m) + (n + m) / 4 + 192) * bytes = (n + m) * bytes + (n + m) / 4 * bytes + 192 * bytes := by rw [Nat.add_mul, Nat.add_mul]
      have hq : (n + m) / 4 * bytes ≤ ((n + m) * bytes) / 4 := by
        rw [Nat.le_div_iff_mul_le (by decide), Nat.mul_right_comm]
        exact Nat.mul_le_mul_right _ (Nat.div_mul_le_self _ _)
      omega
    obtain ⟨v', w', hrun, h2, h3, _⟩ := run_append_own_wide (P := P) w base t ty e i z size bytes he.ut hi hz hsz hby he.zs he.pos v n xs hown ad m c news hr.1 hcells h1 h63 hwide hbase
    exact ⟨v', w', hrun, h2, h3, trivial⟩

theorem wpList_app {w : World} {ops : Array Oper} {rest : List Oper} {o : Oper} {a : Act} {Q : Exit → Act → World → Prop} (he : SliceOf P t e z size bytes)
    {base : Nat} {v : Value} {n : Nat} {xs : List Value} (hown : w.ownsRow base e size v n xs)
    {S : Nat → Prop} {A : Option Addr} {m c : Nat} {news : List Value} (hr : Rd w S size A m news) (h1 : ∀ u ∈ news, u.oneCell' = true)
    (hbytes : (n + m) * bytes ≤ 211106232532992) (hbase : base ≤ w.heap.size)
    (hw : Region.wanted o (yielded ops a.tmps) = true) {s x : Operand} (ho : o.op = .call { callee := .builtin .append, args := #[s, x], argTypes := #[t, t] })
    (hs : a.eval s = v) (hx : a.eval x = .slice A m c)
    (h : ∀ v' w', w'.ownsRow base e size v' (n + m) (xs ++ news) → w.grownBy w' v.ownBlock → True → wpList P ops Q rest (a.put o.dst v') w') : wpList P ops Q (o :: rest) a w := by
  obtain ⟨v', w', hrun, h2, h3, h4⟩ := run_app (P := P) w he o.type base v n xs hown S A m c news hr h1 hbytes hbase
  refine BigFrame.wpList_want hw fun K hK => ?_
  unfold Oper.wp execOp
  simp only [ho, resolve, invoke, builtin, Sem.run_bind, Sem.run_pure, Result.andThen_ok, List.map_toArray, List.map_cons, List.map_nil, hs, hx, hrun]
  exact hK _ _ (h v' w' h2 h3 h4)

/-- The same up to 2^47 bytes; and where the new slice lies. -/
theorem run_app_at (w : World) (he : SliceOf P t e z size bytes) (ty : TypeId) (base : Nat) (v : Value) (n : Nat) (xs : List Value) (hown : w.ownsRow base e size v n xs)
    (S : Nat → Prop) (A : Option Addr) (m c : Nat) (news : List Value) (hr : Rd w S size A m news) (h1 : ∀ u ∈ news, u.oneCell' = true)
    (hbytes : (n + m) * bytes ≤ 140737488355328) (hbase : base ≤ w.heap.size) :
    ∃ v' w', (Builtin.append_ #[t, t] ty #[v, .slice A m c]).run P w = .ok v' w' ∧ w'.ownsRow base e size v' (n + m) (xs ++ news) ∧ w.grownBy w' v.ownBlock ∧
      (v'.ownBlock = v.ownBlock ∨ v'.ownBlock = some w.heap.size) := by
  have h63 : n + m ≤ maxLen := by
    have : n + m ≤ (n + m) * bytes := Nat.le_mul_of_pos_right _ he.posb
    simp only [maxLen]; omega
  obtain ⟨i, hi, hz, hsz, hby⟩ := info_parts he.info
  rcases A with _ | ad
  · have hm : m = 0 := by
      rcases Nat.eq_zero_or_pos m with h0 | h0
      · exact h0
      · obtain ⟨ad, h, _⟩ := hr.2.2 h0
        cases h
    subst hm
    have hn : news = [] := List.eq_nil_of_length_eq_zero (by simpa using hr.1)
    subst hn
    exact ⟨v, w, run_app_nil w he ty base v n xs hown c, by simpa using hown, World.grownBy.refl w _, .inl rfl⟩
  · have hcells : ∀ j u, news[j]? = some u → w.cell? (ad.add j) = some u := by
      intro j u hu
      rcases Nat.eq_zero_or_pos m with h0 | h0
      · subst h0
        have hn : news = [] := List.eq_nil_of_length_eq_zero (by simpa using hr.1)
        subst hn
        simp at hu
      · obtain ⟨ad', h, _, hc⟩ := hr.2.2 h0
        injection h with h
        subst h
        exact hc j u hu
    obtain ⟨v', w', hrun, h2, h3, _, h5⟩ := run_append_own_at (P := P) w base t ty e i z size bytes he.ut hi hz hsz hby he.zs he.pos v n xs hown ad m c news hr.1 hcells h1 h63 hbytes hbase
    exact ⟨v', w', hrun, h2, h3, h5⟩

theorem wpList_app_at {w : World} {ops : Array Oper} {rest : List Oper} {o : Oper} {a : Act} {Q : Exit → Act → World → Prop} (he : SliceOf P t e z size bytes)
    {base : Nat} {v : Value} {n : Nat} {xs : List Value} (hown : w.ownsRow base e size v n xs)
    {S : Nat → Prop} {A : Option Addr} {m c : Nat} {news : List Value} (hr : Rd w S size A m news) (h1 : ∀ u ∈ news, u.oneCell' = true)
    (hbytes : (n + m) * bytes ≤ 140737488355328) (hbase : base ≤ w.heap.size)
    (hw : Region.wanted o (yielded ops a.tmps) = true) {s x : Operand} (ho : o.op = .call { callee := .builtin .append, args := #[s, x], argTypes := #[t, t] })
    (hs : a.eval s = v) (hx : a.eval x = .slice A m c)
    (h : ∀ v' w', w'.ownsRow base e size v' (n + m) (xs ++ news) → w.grownBy w' v.ownBlock → (v'.ownBlock = v.ownBlock ∨ v'.ownBlock = some w.heap.size) → wpList P ops Q rest (a.put o.dst v') w') : wpList P ops Q (o :: rest) a w := by
  obtain ⟨v', w', hrun, h2, h3, h4⟩ := run_app_at (P := P) w he o.type base v n xs hown S A m c news hr h1 hbytes hbase
  refine BigFrame.wpList_want hw fun K hK => ?_
  unfold Oper.wp execOp
  simp only [ho, resolve, invoke, builtin, Sem.run_bind, Sem.run_pure, Result.andThen_ok, List.map_toArray, List.map_cons, List.map_nil, hs, hx, hrun]
  exact hK _ _ (h v' w' h2 h3 h4)

/-- 'append(nil, make([]T, m)...)', m above 0. -/
theorem run_app_zeros (w : World) (he : SliceOf P t e z size bytes) (ti ty : TypeId) {k kx : IntKind} (hti : P.underlying ti = some (.int k)) (m : Nat) (hm : 0 < m) (hbytes : m * bytes ≤ 211106232532992) :
    (Builtin.append_ #[t, ti] ty #[.slice none 0 0, .int kx m]).run P w =
      .ok (.slice (some ⟨w.heap.size, 0, none⟩) m (grownCap w m 0 e)) (w.drew.alloc (.cells (Builtin.zeroCells z.cells m ++ Builtin.zeroCells z.cells (grownCap w m 0 e - m)) e)) := by
  obtain ⟨i, hi, hz, hsz, hby⟩ := info_parts he.info
  subst hsz hby
  have hle : m ≤ 211106232532992 := Nat.le_trans (Nat.le_mul_of_pos_right _ he.posb) hbytes
  have hw : IntKind.i64.wrap (m : Int) = m := by rw [IntKind.wrap_i64]; omega
  have hneg : ¬ ((m : Int) < 0) := by omega
  have hbig : ¬ (281474976710656 < (m : Int) * (i.bytes : Int)) := by
    rw [← Int.natCast_mul]
    omega
  have hsn : i.size ≠ 0 := by have := he.pos; omega
  have hm0 : m ≠ 0 := by omega
  have h63 : ¬ (9223372036854775807 < (m : Int)) := by omega
  have hnx : Builtin.nextslicecap m 0 = m := by simp [Builtin.nextslicecap, hm]
  have h48 : ¬ (281474976710656 < m * i.bytes) := by omega
  simp [Builtin.append_, run_underlying he.ut, run_underlying hti, sizeOf, typeInfo, zeroValue, hi, hz, asInt, asIntOf, hw, hneg, hbig, hsn, hm0, h63, hnx, h48, Question.forced, Builtin.firstCells, newRow, grownCap, askRoom]
  intro h0
  rcases Nat.mul_eq_zero.1 h0 with h | h <;> omega
theorem wpList_app_zeros {w : World} {ops : Array Oper} {rest : List Oper} {o : Oper} {a : Act} {Q : Exit → Act → World → Prop} (he : SliceOf P t e z size bytes) (hw : Region.wanted o (yielded ops a.tmps) = true) (s x : Operand) (ti : TypeId)
    (ho : o.op = .call { callee := .builtin .append, args := #[s, x], argTypes := #[t, ti] }) {k kx : IntKind} (hti : P.underlying ti = some (.int k)) (m : Nat) (hm : 0 < m)
    (hs : a.eval s = .slice none 0 0) (hx : a.eval x = .int kx m) (hbytes : m * bytes ≤ 211106232532992)
    (h : ∀ c cs, m ≤ c → c ≤ maxLen → cs.size = c * size → wpList P ops Q rest (a.put o.dst (.slice (some ⟨w.heap.size, 0, none⟩) m c)) (w.alloc (.cells cs e)).drew) : wpList P ops Q (o :: rest) a w := by
  have hrun := run_app_zeros (P := P) w he ti o.type (kx := kx) hti m hm hbytes
  refine BigFrame.wpList_want hw fun K hK => ?_
  unfold Oper.wp execOp
  simp only [ho, resolve, invoke, builtin, Sem.run_bind, Sem.run_pure, Result.andThen_ok, List.map_toArray, List.map_cons, List.map_nil, hs, hx, hrun]
  have hge := grownCap_ge w m 0 e
  have hle : m ≤ 211106232532992 := Nat.le_trans (Nat.le_mul_of_pos_right _ he.posb) hbytes
  exact hK _ _ (h _ _ hge (grownCap_le_maxLen w m 0 e (by simp only [maxLen]; omega)) (by
    simp only [Array.size_append, size_zeroCells, he.zs, ← Nat.add_mul]
    congr 1; omega))

/-- Fresh capacity of 'make' and of a grown nil: nothing in use yet. -/
theorem own_zero (w : World) (base g c : Nat) (cs : Array Value) (hb : base ≤ g) (hg : w.heap[g]? = some (.cells cs e (0, 0))) (hc : c ≤ maxLen) (hs : cs.size = c * size) :
    w.ownsRow base e size (.slice (some ⟨g, 0, none⟩) 0 c) 0 [] := ⟨by simp, .inr ⟨g, c, cs, rfl, hb, hg, Nat.zero_le _, hc, hs, by simp⟩⟩
end
/-- A block known whole. -/
def Blk (w : World) (g : Nat) (t : TypeId) (cs : Array Value) : Prop := w.heap[g]? = some (.cells cs t (0, 0))
section
variable {w w' : World} {g : Nat} {t : TypeId} {cs : Array Value}
theorem Blk.lt (h : Blk w g t cs) : g < w.heap.size := (Array.getElem?_eq_some_iff.1 h).1
theorem Blk.cell (h : Blk w g t cs) (i : Nat) : w.cell? ⟨g, i, none⟩ = cs[i]? := cell_of_row w g i cs t (0, 0) h
theorem Blk.frozen (h : Blk w g t cs) (i : Nat) : w.frozen? ⟨g, i, none⟩ = false := by
  unfold Blk at h
  simp [World.frozen?, h]
theorem Blk.new (w : World) (t : TypeId) (cs : Array Value) : Blk (w.alloc (.cells cs t)) w.heap.size t cs := heap_alloc_new w _
theorem Blk.drew (h : Blk w g t cs) : Blk w.drew g t cs := h
theorem Blk.drewN (h : Blk w g t cs) (n : Nat) : Blk (w.drewN n) g t cs := h
theorem Blk.alloc (h : Blk w g t cs) (o : Obj) : Blk (w.alloc o) g t cs := (Below.heap_alloc w o g h.lt).trans h
theorem Blk.put (h : Blk w g t cs) (i : Nat) (u : Value) : Blk (w.setCell ⟨g, i, none⟩ u) g t (cs.setIfInBounds i u) := by
  unfold Blk at h ⊢
  simp [World.setCell, Array.getElem?_modify, h]
theorem Blk.far (h : Blk w g t cs) {p : Addr} (hp : g ≠ p.block) (u : Value) : Blk (w.setCell p u) g t cs := (Below.heap_setCell w p u g hp).trans h
theorem Blk.fr {S : Nat → Prop} (h : Blk w g t cs) (hf : Fr S w w') (hs : ¬ S g) : Blk w' g t cs := (hf.block g h.lt hs).trans h
theorem Blk.fr0 (h : Blk w g t cs) (hf : Fr No w w') : Blk w' g t cs := h.fr hf (fun hn => hn)
theorem Blk.grown {row : Option Nat} (h : Blk w g t cs) (hb : w.grownBy w' row) (hg : some g ≠ row) : Blk w' g t cs := (hb.block g h.lt hg).trans h
theorem Blk.rd (h : Blk w g t cs) {size n : Nat} (hs : cs.size = n * size) (hn : n ≤ 211106232532992) : Rd w (fun b => b = g) size (some ⟨g, 0, none⟩) n cs.toList :=
  ⟨by simpa using hs, hn, fun _ => ⟨_, rfl, rfl, fun j u hu => by rw [add_plain, h.cell]; simpa using hu⟩⟩
end
/-- An aggregate type (a struct, an array) of so many cells. -/
structure AggOf (P : Program) (T : TypeId) (size : Nat) : Prop where
  agg : ∃ d, P.underlying T = some d ∧ (match d with | .struct _ | .array _ _ => true | _ => false) = true
  info : (P.info? T).map (·.size) = some size

section
variable {P : Program} {T : TypeId} {size : Nat}
theorem AggOf.run (he : AggOf P T size) (w : World) : (isAgg T).run P w = .ok true w ∧ (sizeOf T).run P w = .ok size w := by
  obtain ⟨d, hu, hd⟩ := he.agg
  have hi := he.info
  constructor
  · unfold isAgg
    rw [Sem.run_bind, run_underlying hu w]
    cases d <;> simp_all
  · cases hq : P.info? T with
    | none => simp [hq] at hi
    | some i =>
      have hs : i.size = size := by simpa [hq] using hi
      simp [sizeOf, typeInfo, hq, hs]
theorem run_ldA (he : AggOf P T size) (w : World) (ad : Addr) (cs : List Value) (hl : cs.length = size) (hc : ∀ j u, cs[j]? = some u → w.cell? (ad.add j) = some u) :
    (loadVar T ad).run P w = .ok (.agg cs.toArray) w := by
  have hr := run_loadCells_list (P := P) w ad cs hc
  rw [hl] at hr
  simp [loadVar, Sem.run_bind, (he.run w).1, (he.run w).2, hr]
theorem wp_ldA (he : AggOf P T size) {o : Oper} {a : Act} {w : World} {K : Act → World → Prop} {Q : Exit → Act → World → Prop} (x : Operand) (ho : o.op = .load T x)
    (ad : Addr) (cs : List Value) (hx : a.eval x = .pointer (some ad)) (hl : cs.length = size) (hc : ∀ j u, cs[j]? = some u → w.cell? (ad.add j) = some u)
    (h : K (a.put o.dst (.agg cs.toArray)) w) : o.wp P a w K Q := by
  unfold Oper.wp execOp
  simp only [ho, hx, Instr.loadAt, Instr.sureAddr, Sem.run_bind, Sem.run_pure, Result.andThen_ok, run_ldA he w ad cs hl hc]
  exact h
theorem wpList_ldA (he : AggOf P T size) {ops : Array Oper} {rest : List Oper} {o : Oper} {a : Act} {w : World} {Q : Exit → Act → World → Prop} (hw : Region.wanted o (yielded ops a.tmps) = true) (x : Operand) (ho : o.op = .load T x)
    (ad : Addr) (cs : List Value) (hx : a.eval x = .pointer (some ad)) (hl : cs.length = size) (hc : ∀ j u, cs[j]? = some u → w.cell? (ad.add j) = some u)
    (h : wpList P ops Q rest (a.put o.dst (.agg cs.toArray)) w) : wpList P ops Q (o :: rest) a w :=
  BigFrame.wpList_want hw fun _ hK => wp_ldA he x ho ad cs hx hl hc (hK _ _ h)
theorem Blk.cells {w : World} {g : Nat} {t : TypeId} {cs : Array Value} (h : Blk w g t cs) (off : Nat) (ys : List Value) (hy : ∀ j u, ys[j]? = some u → cs[off + j]? = some u) :
    ∀ j u, ys[j]? = some u → w.cell? ((⟨g, off, none⟩ : Addr).add j) = some u := by
  intro j u hu
  have e : (⟨g, off, none⟩ : Addr).add j = ⟨g, off + j, none⟩ := by unfold Addr.add; split <;> simp_all
  rw [e, h.cell]
  exact hy j u hu
theorem Blk.all {w : World} {g : Nat} {t : TypeId} {cs : Array Value} (h : Blk w g t cs) : ∀ j u, cs.toList[j]? = some u → w.cell? ((⟨g, 0, none⟩ : Addr).add j) = some u :=
  h.cells 0 cs.toList (fun j u hu => by simpa using hu)

/-- A row with other cells from a place on. -/
def splice (cur : Array Value) (o : Nat) (cs : List Value) : Array Value := (cur.toList.take o ++ cs ++ cur.toList.drop (o + cs.length)).toArray
theorem splice_size (cur : Array Value) (o : Nat) (cs : List Value) (h : o + cs.length ≤ cur.size) : (splice cur o cs).size = cur.size := by
  simp [splice]; omega
theorem splice_all (cur : Array Value) (cs : List Value) (h : cs.length = cur.size) : splice cur 0 cs = cs.toArray := by
  simp [splice, h]
theorem wp_stA (he : (P.info? T).map (·.size) = some size) {o : Oper} {a : Act} {w : World} {K : Act → World → Prop} {Q : Exit → Act → World → Prop} (x y : Operand) (ho : o.op = .store T x y)
    (g off : Nat) (t : TypeId) (cur : Array Value) (cs : List Value) (v : Value) (hx : a.eval x = .pointer (some ⟨g, off, none⟩)) (hy : a.eval y = v) (hv : v.cells = cs.toArray) (hl : cs.length = size) (h1 : ∀ u ∈ cs, u.oneCell' = true)
    (hb : Blk w g t cur) (hfit : off + size ≤ cur.size)
    (h : ∀ w', Blk w' g t (splice cur off cs) → w.grownBy w' (some g) → Hid (w'.heap.size = w.heap.size) → K (a.put o.dst undef) w') : o.wp P a w K Q := by
  have hst := run_storeCells_at P g off t cs 0 cur w hb (by omega) h1
  simp only [Nat.add_zero] at hst
  have hso : (sizeOf T).run P w = .ok size w := by
    cases hq : P.info? T with
    | none => simp [hq] at he
    | some i =>
      have hs : i.size = size := by simpa [hq] using he
      simp [sizeOf, typeInfo, hq, hs]
  unfold Oper.wp execOp
  have hsz : v.cells.size = size := by rw [hv]; simpa using hl
  have hr : (Instr.storeAt T (.pointer (some ⟨g, off, none⟩)) v).run P w = .ok () (w.setRow g (splice cur off cs)) := by
    simp [Instr.storeAt, Instr.sureAddr, storeVar, Sem.run_bind, hso, hl, hv, hst, splice]
  simp only [ho, hx, hy, Sem.run_bind, hr, Sem.run_pure, Result.andThen_ok]
  refine h _ (setRow_heap w g cur _ t _ hb) ⟨rfl, rfl, rfl, by simp, fun k _ hk => setRow_other w g k _ (fun e => hk (by rw [e]))⟩ (Lib.hid (by simp))
theorem wpList_stA (he : (P.info? T).map (·.size) = some size) {ops : Array Oper} {rest : List Oper} {o : Oper} {a : Act} {w : World} {Q : Exit → Act → World → Prop} (hw : Region.wanted o (yielded ops a.tmps) = true) (x y : Operand) (ho : o.op = .store T x y)
    (g off : Nat) (t : TypeId) (cur : Array Value) (cs : List Value) (v : Value) (hx : a.eval x = .pointer (some ⟨g, off, none⟩)) (hy : a.eval y = v) (hv : v.cells = cs.toArray) (hl : cs.length = size) (h1 : ∀ u ∈ cs, u.oneCell' = true)
    (hb : Blk w g t cur) (hfit : off + size ≤ cur.size)
    (h : ∀ w', Blk w' g t (splice cur off cs) → w.grownBy w' (some g) → Hid (w'.heap.size = w.heap.size) → wpList P ops Q rest (a.put o.dst undef) w') : wpList P ops Q (o :: rest) a w :=
  BigFrame.wpList_want hw fun _ hK => wp_stA he x y ho g off t cur cs v hx hy hv hl h1 hb hfit (fun w' b1 b2 b3 => hK _ _ (h w' b1 b2 b3))
theorem results_blk (he : AggOf P T size) {fn : Func} {p : Tmp} (h : fn.results = #[.cell p T]) (tmps : Array Value) (w : World) (g : Nat) (t : TypeId) (cs : Array Value)
    (hp : tmps.getD p undef = .pointer (some ⟨g, 0, none⟩)) (hb : Blk w g t cs) (hs : cs.size = size) : (results fn tmps).run P w = .ok (.agg cs) w := by
  obtain ⟨d, hu, hd⟩ := he.agg
  exact results_cell_row h tmps w g t cs (0, 0) d hp hb hu (by cases d <;> simp_all) (by rw [he.info, hs])
end

section
variable {P : Program} {src dst e : TypeId}
theorem run_str (w : World) (hs : P.underlying src = some (.slice e)) (he : P.underlying e = some (.int .u8)) (hd : P.underlying dst = some .string) {S : Nat → Prop} {A : Option Addr} {l : List UInt8} (c : Nat) (h : RdB w S A l) :
    (convert src dst (.slice A l.length c)).run P w = .ok (.string ⟨l.toArray⟩) w := by
  rcases Nat.eq_zero_or_pos l.length with h0 | h0
  · obtain rfl : l = [] := List.eq_nil_of_length_eq_zero h0
    rcases A with _ | ad
    · exact run_convert_bytes_nil w src e hs he 0 c dst hd
    · rw [run_convert_bytes_string w src dst e _ _ _ hs he hd]
      exact run_bytesToString w ad 0 c [] (by simp [loadCells, loadCellsFrom])
  · obtain ⟨ad, rfl, _, hc⟩ := h.2.2 h0
    rw [run_convert_bytes_string w src dst e _ _ _ hs he hd]
    have hl := run_loadCells_list (P := P) w ad (U8 l) hc
    rw [U8_length] at hl
    have hm : U8 l = (l.map fun b => (b.toNat : Int)).map (Value.int .u8) := by simp [U8]
    rw [hm] at hl
    rw [run_bytesToString w ad _ c _ hl, foldl_push_bytes]
    have hm2 : (l.map fun b => (b.toNat : Int)).map (fun n => UInt8.ofNat n.toNat) = l := by
      rw [List.map_map]
      exact (List.map_congr_left (fun b _ => by simp)).trans (List.map_id l)
    rw [hm2]
    simp
theorem wpList_str {w : World} {ops : Array Oper} {rest : List Oper} {o : Oper} {a : Act} {Q : Exit → Act → World → Prop} (hs : P.underlying src = some (.slice e)) (he : P.underlying e = some (.int .u8)) (hd : P.underlying dst = some .string)
    (hw : Region.wanted o (yielded ops a.tmps) = true) (x : Operand) (ho : o.op = .convert src dst x) {S : Nat → Prop} {A : Option Addr} {l : List UInt8} {c n : Nat} (hn : n = l.length) (hx : a.eval x = .slice A n c) (h : RdB w S A l)
    (hk : wpList P ops Q rest (a.put o.dst (.string ⟨l.toArray⟩)) w) : wpList P ops Q (o :: rest) a w := by
  subst hn
  refine BigFrame.wpList_want hw fun K hK => ?_
  unfold Oper.wp execOp
  simp only [ho, hx, Sem.run_bind, Sem.run_pure, Result.andThen_ok, run_str w hs he hd c h]
  exact hK _ _ hk
end
theorem own_form {w : World} {base size n : Nat} {e : TypeId} {v : Value} {xs : List Value} (h : w.ownsRow base e size v n xs) : ∃ A c, v = .slice A n c ∧ n ≤ c ∧ c ≤ maxLen ∧ (∀ b, v.ownBlock = some b ↔ A.map (·.block) = some b) := by
  rcases h.2 with ⟨rfl, rfl⟩ | ⟨g, cap, cur, rfl, _, _, h1, h2, _⟩
  · exact ⟨none, 0, rfl, Nat.le_refl _, by decide, fun b => by simp [Value.ownBlock]⟩
  · exact ⟨_, cap, rfl, h1, h2, fun b => by simp [Value.ownBlock]⟩
theorem own_down {w : World} {base base' size n : Nat} {e : TypeId} {v : Value} {xs : List Value} (h : w.ownsRow base e size v n xs) (hb : base' ≤ base) : w.ownsRow base' e size v n xs := by
  refine ⟨h.1, ?_⟩
  rcases h.2 with hn | ⟨g, cap, cur, h1, h2, h3⟩
  · exact .inl hn
  · exact .inr ⟨g, cap, cur, h1, Nat.le_trans hb h2, h3⟩
theorem own_fr {S : Nat → Prop} {w w' : World} {base size n : Nat} {e : TypeId} {v : Value} {xs : List Value} (h : w.ownsRow base e size v n xs) (hf : Fr S w w') (hs : ∀ b, v.ownBlock = some b → ¬ S b) : w'.ownsRow base e size v n xs := by
  refine ⟨h.1, ?_⟩
  rcases h.2 with hn | ⟨g, cap, cur, rfl, h2, h3, rest⟩
  · exact .inl hn
  · exact .inr ⟨g, cap, cur, rfl, h2, (hf.block g (Array.getElem?_eq_some_iff.1 h3).1 (hs g rfl)).trans h3, rest⟩
theorem own_fr0 {w w' : World} {base size n : Nat} {e : TypeId} {v : Value} {xs : List Value} (h : w.ownsRow base e size v n xs) (hf : Fr No w w') : w'.ownsRow base e size v n xs := own_fr h hf (fun _ _ hn => hn)
/-- An owned row of bytes reads as they are. -/
theorem own_rd {w : World} {base size n c : Nat} {e : TypeId} {A : Option Addr} {xs : List Value} (h : w.ownsRow base e size (.slice A n c) n xs) (hn : n ≤ 211106232532992) : Rd w (fun b => A.map (·.block) = some b) size A n xs := Rd.of_own h hn

section
variable {P : Program} {t e : TypeId} {z : Value} {size bytes : Nat}
theorem wpList_make {w : World} {ops : Array Oper} {rest : List Oper} {o : Oper} {a : Act} {Q : Exit → Act → World → Prop} (he : SliceOf P t e z size bytes)
    {n c : Nat} (hnc : n ≤ c) (hbytes : bytes * c ≤ 281474976710656)
    (hw : Region.wanted o (yielded ops a.tmps) = true) {x y : Operand} (ho : o.op = .makeSlice t x y) {kl kc : IntKind} (hx : a.eval x = .int kl n) (hy : a.eval y = .int kc c)
    (h : wpList P ops Q rest (a.put o.dst (.slice (some ⟨w.heap.size, 0, none⟩) n c)) (w.alloc (.cells (madeCells z.cells (c * size)) e))) : wpList P ops Q (o :: rest) a w := by
  obtain ⟨i, hi, hz, hsz, hby⟩ := info_parts he.info
  subst hsz hby
  have hpos := he.posb
  have hb : (i.bytes : Int) * (c : Int) ≤ 281474976710656 := by
    have h : ((i.bytes * c : Nat) : Int) ≤ 281474976710656 := by omega
    rwa [Int.natCast_mul] at h
  have hc : c ≤ i.bytes * c := Nat.le_mul_of_pos_left _ hpos
  have hr := run_make (P := P) w t e i z he.ut hi hz kl kc n c (by omega) (by omega) hb (by omega)
  simp only [Int.toNat_natCast] at hr
  refine BigFrame.wpList_want hw fun K hK => ?_
  unfold Oper.wp execOp
  simp only [ho, hx, hy, Sem.run_bind, Sem.run_pure, Result.andThen_ok, hr]
  exact hK _ _ h

/-- 'append' where there is room: in place. -/
theorem wpList_app_room {w : World} {ops : Array Oper} {rest : List Oper} {o : Oper} {a : Act} {Q : Exit → Act → World → Prop} (he : SliceOf P t e z size bytes)
    {g n cap : Nat} {cur : Array Value} (hb : Blk w g e cur)
    {S : Nat → Prop} {A : Option Addr} {m c : Nat} {news : List Value} (hr : Rd w S size A m news) (h1 : ∀ u ∈ news, u.oneCell' = true)
    (hroom : n + m ≤ cap) (hfit : cap * size ≤ cur.size)
    (hw : Region.wanted o (yielded ops a.tmps) = true) {s x : Operand} (ho : o.op = .call { callee := .builtin .append, args := #[s, x], argTypes := #[t, t] })
    (hs : a.eval s = .slice (some ⟨g, 0, none⟩) n cap) (hx : a.eval x = .slice A m c)
    (h : ∀ w', Blk w' g e (splice cur (n * size) news) → w.grownBy w' (some g) → Hid (w'.heap.size = w.heap.size) → wpList P ops Q rest (a.put o.dst (.slice (some ⟨g, 0, none⟩) (n + m) cap)) w') : wpList P ops Q (o :: rest) a w := by
  obtain ⟨i, hi, hz, hsz, hby⟩ := info_parts he.info
  subst hsz hby
  refine BigFrame.wpList_want hw fun K hK => ?_
  unfold Oper.wp execOp
  rcases A with _ | ad
  · have hm : m = 0 := by
      rcases Nat.eq_zero_or_pos m with h0 | h0
      · exact h0
      · obtain ⟨ad, h, _⟩ := hr.2.2 h0
        cases h
    subst hm
    have hn : news = [] := List.eq_nil_of_length_eq_zero (by simpa using hr.1)
    subst hn
    have hrun : (Builtin.append_ #[t, t] o.type #[.slice (some ⟨g, 0, none⟩) n cap, .slice none 0 c]).run P w = .ok (.slice (some ⟨g, 0, none⟩) n cap) w := by
      have hroom' : n ≤ cap := by omega
      simp [Builtin.append_, run_underlying he.ut, sizeOf, typeInfo, hi, Builtin.lenOf, Builtin.firstCells, hroom', storeCells]
    simp only [ho, resolve, invoke, builtin, Sem.run_bind, Sem.run_pure, Result.andThen_ok, List.map_toArray, List.map_cons, List.map_nil, hs, hx, hrun]
    exact hK _ _ (h w (by simpa [splice] using hb) (World.grownBy.refl w _) rfl)
  · have hcells : ∀ j u, news[j]? = some u → w.cell? (ad.add j) = some u := by
      intro j u hu
      rcases Nat.eq_zero_or_pos m with h0 | h0
      · subst h0
        have hn : news = [] := List.eq_nil_of_length_eq_zero (by simpa using hr.1)
        subst hn
        simp at hu
      · obtain ⟨ad', h, _, hc⟩ := hr.2.2 h0
        injection h with h
        subst h
        exact hc j u hu
    have hfit' : n * i.size + news.length ≤ cur.size := by
      rw [hr.1, ← Nat.add_mul]
      exact Nat.le_trans (Nat.mul_le_mul_right _ hroom) hfit
    have hrun := run_append_room (P := P) w t o.type e i he.ut hi g n cap cur hb ad m c news hr.1 hcells h1 hroom hfit'
    simp only [ho, resolve, invoke, builtin, Sem.run_bind, Sem.run_pure, Result.andThen_ok, List.map_toArray, List.map_cons, List.map_nil, hs, hx, hrun]
    exact hK _ _ (h _ (setRow_heap w g cur _ e _ hb) ⟨rfl, rfl, rfl, by simp, fun k _ hk => setRow_other w g k _ (fun e => hk (by rw [e]))⟩ (Lib.hid (by simp)))
end
theorem splice_toList (cur : Array Value) (o : Nat) (cs : List Value) : (splice cur o cs).toList = cur.toList.take o ++ cs ++ cur.toList.drop (o + cs.length) := by simp [splice]
theorem splice_made (z : Array Value) (xs ys : List Value) (n : Nat) (hn : n = xs.length + ys.length) : splice (splice (madeCells z n) 0 xs) xs.length ys = (xs ++ ys).toArray := by
  subst hn
  have h : (madeCells z (xs.length + ys.length)).toList.length = xs.length + ys.length := by simp [size_madeCells]
  simp [splice, size_madeCells]

theorem wpList_min {P : Program} {w : World} {ops : Array Oper} {rest : List Oper} {o : Oper} {a : Act} {Q : Exit → Act → World → Prop} {t : TypeId} {kd : IntKind} (u v m : Int) (hm : m = min u v)
    (hw : Region.wanted o (yielded ops a.tmps) = true) {x y : Operand} (ho : o.op = .call { callee := .builtin .min, args := #[x, y], argTypes := #[t, t] }) (hx : a.eval x = .int kd u) (hy : a.eval y = .int kd v)
    (h : wpList P ops Q rest (a.put o.dst (.int kd m)) w) : wpList P ops Q (o :: rest) a w := by
  have hrun : ∀ ty, (Builtin.min_ #[t, t] ty #[.int kd u, .int kd v]).run P w = .ok (.int kd m) w := by
    intro ty
    subst hm
    have e : (if v < u then v else u) = min u v := by rw [Int.min_def]; split <;> split <;> omega
    simp [Builtin.min_, Builtin.min2, e]
  refine BigFrame.wpList_want hw fun K hK => ?_
  unfold Oper.wp execOp
  simp only [ho, resolve, invoke, builtin, Sem.run_bind, Sem.run_pure, Result.andThen_ok, List.map_toArray, List.map_cons, List.map_nil, hx, hy, hrun]
  exact hK _ _ h
end Go.Proofs.YtannkgglgmbkdaaDoor
namespace Go.Proofs.YtannkgglgmbkdaaDoor
set_option linter.unusedVariables false
set_option linter.unusedSimpArgs false
open Go.ChangeShapes Go.WideShapes Go.ChangeAt Go.RowKit

theorem ownKnobOff : ownKnob Tryd.prog.godebug = none := by kernel_rfl
theorem laidOut : laidOutB Tryd.prog = true := by kernel_rfl

theorem bulk_pos {H : Type} (d : DataW H) : 0 < Rows.uptoBulk d := by
  cases d with
  | lit l => cases l <;> simp [Rows.uptoBulk]
  | _ => simp [Rows.uptoBulk]
theorem bulk_length {H : Type} : ∀ l : List (DataW H), l.length ≤ Rows.uptoBulkAll l
  | [] => by simp [Rows.uptoBulkAll]
  | d :: r => by have := bulk_length r; have := bulk_pos d; simp only [Rows.uptoBulkAll, List.length_cons]; omega
theorem bulk_slice {H : Type} (xs ys : List (DataW H)) : xs.length < Rows.uptoBulk (.slice xs ys) := by
  have := bulk_length xs; simp only [Rows.uptoBulk]; omega
end Go.Proofs.YtannkgglgmbkdaaDoor
namespace Go.Proofs.YtannkgglgmbkdaaDoor
set_option linter.unusedVariables false
set_option linter.unusedSimpArgs false
open Go.ChangeShapes Go.WideShapes Go.ChangeAt Go.RowKit

def All2 {α β : Type} (R : α → β → Prop) : List α → List β → Prop
  | [], [] => True
  | x :: xs, y :: ys => R x y ∧ All2 R xs ys
  | _, _ => False
theorem All2.nil {α β : Type} {R : α → β → Prop} : All2 R [] [] := True.intro
theorem All2.length {α β : Type} {R : α → β → Prop} : ∀ {xs : List α} {ys : List β}, All2 R xs ys → xs.length = ys.length
  | [], [], _ => rfl
  | _ :: xs, _ :: ys, h => by simp [All2.length h.2]
theorem All2.snoc {α β : Type} {R : α → β → Prop} {x : α} {y : β} (hy : R x y) : ∀ {xs : List α} {ys : List β}, All2 R xs ys → All2 R (xs ++ [x]) (ys ++ [y])
  | [], [], _ => ⟨hy, True.intro⟩
  | _ :: xs, _ :: ys, h => ⟨h.1, All2.snoc hy h.2⟩
/-- Whatever is read at type t is an R, of so much bulk at the least. -/
def Opens (P : Program) (t : TypeId) {α : Type} (R : World → List Value → α → Prop) (wt : α → Nat) : Prop :=
  ∀ (H : Type) (enc : TypeId × Value → H) (w : World) (sp : Nat → Bool) (held : Bool) (fuel : Nat) (cs : List Value) (x : DataW H × List MemPlace),
    DataW.trod enc P w 0 sp held fuel t cs = some x → (∀ n ∈ DataW.weights P t x.1, n ≤ reachBytes) → ∃ y, R w cs y ∧ wt y ≤ Rows.uptoBulk x.1
theorem cells_list {w : World} {a : Addr} {n : Nat} {cs : List Value} (h : w.cells? 0 a n = some cs) : cs.length = n ∧ ∀ j u, cs[j]? = some u → w.cell? (a.add j) = some u := by
  unfold World.cells? at h
  split at h
  · have hl := mapM_some_length h
    refine ⟨by simpa using hl, fun j u hu => ?_⟩
    have hj : j < n := by have := (List.getElem?_eq_some_iff.1 hu).1; simp at hl; omega
    have := mapM_some_get h j j (by simp [hj])
    rw [this, hu]
  · cases h
/-- A list of what opens. -/
def ListR {α : Type} (R : World → List Value → α → Prop) (size : Nat) (w : World) (cs : List Value) (ys : List α) : Prop :=
  ∃ A c css, cs = [.slice A ys.length c] ∧ Rd w (fun b => b < w.heap.size) size A ys.length css.flatten ∧ All2 (R w) css ys ∧ ys.length ≤ c ∧ c ≤ maxLen
theorem weightsAll_mem {H : Type} {P : Program} {e : TypeId} : ∀ {l : List (DataW H)} {d : DataW H} {n : Nat}, d ∈ l → n ∈ DataW.weights P e d → n ∈ DataW.weightsAll P e l
  | d :: r, d', n, hd, hn => by
    simp only [DataW.weightsAll, List.mem_append]
    rcases List.mem_cons.1 hd with rfl | hd
    · exact .inl hn
    · exact .inr (weightsAll_mem hd hn)
theorem bulkAll_append {H : Type} (l r : List (DataW H)) : Rows.uptoBulkAll (l ++ r) = Rows.uptoBulkAll l + Rows.uptoBulkAll r := by
  induction l with
  | nil => simp [Rows.uptoBulkAll]
  | cons x l ih => simp only [List.cons_append, Rows.uptoBulkAll, ih]; omega
theorem opens_list {P : Program} {t e : TypeId} {α : Type} {R : World → List Value → α → Prop} {wt : α → Nat} {size bytes : Nat} (ht : P.underlying t = some (.slice e)) (hc : P.cellsOf e = size) (hb : P.bytesOf e = bytes) (hbp : 0 < bytes) (hsp : 0 < size)
    (ho : Opens P e R wt) (hlen : ∀ w cs y, R w cs y → cs.length = size) : Opens P t (fun w cs (ys : List α) => ListR R size w cs ys ∧ ys.length * bytes ≤ reachBytes) (fun ys => (ys.map wt).sum + 1) := by
  intro H enc w sp held fuel cs x h hw
  rcases DataW.trod_slice ht h with ⟨rfl, rfl⟩ | ⟨a, len, cap, elems, rest, n, _, rfl, rfl, hba, hl, hm, hlen', hel, _, _⟩
  · refine ⟨[], ⟨⟨none, 0, [], rfl, Rd.nil_, All2.nil, Nat.le_refl _, by decide⟩, by simp⟩, ?_⟩
    have := bulk_pos (DataW.nil (H := H)); simp; omega
  · have hw' : ∀ y ∈ elems, ∀ m ∈ DataW.weights P e y.1, m ≤ reachBytes := fun y hy m hm => hw m (by
      simp only [DataW.weights, ht]
      exact List.mem_cons_of_mem _ (List.mem_append_left _ (weightsAll_mem (List.mem_map.2 ⟨y, hy, rfl⟩) hm)))
    have hn8 : len * bytes ≤ reachBytes := by
      have := hw _ (by simp only [DataW.weights, ht]; exact List.mem_cons_self ..)
      rw [hb] at this
      simp only [List.length_map] at this
      have h2 : elems.length * bytes ≤ (elems.length + rest.length) * bytes := Nat.mul_le_mul_right _ (by omega)
      rw [← hlen']; omega
    have key : ∀ k, k ≤ len → ∃ (css : List (List Value)) (ys : List α), ys.length = k ∧ css.flatten.length = k * size ∧ (∀ j u, css.flatten[j]? = some u → w.cell? (a.add j) = some u) ∧ All2 (R w) css ys ∧ (ys.map wt).sum ≤ Rows.uptoBulkAll ((elems.take k).map (·.1)) := by
      intro k
      induction k with
      | zero => intro _; exact ⟨[], [], rfl, by simp, by simp, All2.nil, by simp [Rows.uptoBulkAll]⟩
      | succ k ih =>
        intro hk
        obtain ⟨css, ys, h1, h2, h3, h4, h5⟩ := ih (by omega)
        have he := hel k (by omega)
        have hek : elems[k]? = some elems[k] := List.getElem?_eq_getElem (by omega)
        rw [hek, Option.bind_eq_some_iff] at he
        obtain ⟨cs', hcs, htr⟩ := he
        obtain ⟨hcl, hcc⟩ := cells_list hcs
        obtain ⟨y, hy, hwt⟩ := ho H enc w sp held n cs' _ htr (hw' _ (List.getElem_mem _))
        refine ⟨css ++ [cs'], ys ++ [y], by simp [h1], by simp only [List.flatten_append, List.flatten_cons, List.flatten_nil, List.append_nil, List.length_append, h2, hcl, hc, Nat.succ_mul], ?_, All2.snoc hy h4, ?_⟩
        · intro j u hu
          simp only [List.flatten_append, List.flatten_cons, List.flatten_nil, List.append_nil] at hu
          by_cases hj : j < css.flatten.length
          · rw [List.getElem?_append_left hj] at hu; exact h3 j u hu
          · rw [List.getElem?_append_right (by omega)] at hu
            have := hcc _ u hu
            rw [add_of_add, hc, ← h2, Nat.add_sub_cancel' (by omega)] at this
            exact this
        · rw [List.take_add_one, hek, List.map_append (f := wt), List.map_append, bulkAll_append, List.sum_append]
          simp only [Option.toList_some, List.map_cons, List.map_nil, Rows.uptoBulkAll, List.sum_cons, List.sum_nil]
          omega
    obtain ⟨css, ys, h1, h2, h3, h4, h5⟩ := key len (Nat.le_refl _)
    rw [List.take_of_length_le (by omega)] at h5
    have hlm : len ≤ reachBytes := Nat.le_trans (Nat.le_mul_of_pos_right _ hbp) hn8
    refine ⟨ys, ⟨⟨some a, cap, css, by rw [h1], ⟨by rw [h1]; exact h2, by rw [h1]; simp only [reachBytes] at hlm; omega, fun hn => ⟨a, rfl, ?_, h3⟩⟩, h4, by omega, hm⟩, by rw [h1]; exact hn8⟩, ?_⟩
    · rw [h1] at hn
      have hl0 : 0 < css.flatten.length := by rw [h2]; exact Nat.mul_pos hn hsp
      have := World.block_lt_of_cell? w _ (h3 0 _ (List.getElem?_eq_getElem hl0))
      rwa [block_of_add] at this
    · simp only [Rows.uptoBulk]; omega
end Go.Proofs.YtannkgglgmbkdaaDoor
namespace Go.Proofs.YtannkgglgmbkdaaDoor
set_option linter.unusedVariables false
set_option linter.unusedSimpArgs false
open Go.RowKit

/-- Does each of ms that has not come up wait for number i? -/
def waitsFor (ops : Array Oper) (listed : Array Bool) (i : Nat) : List Nat → Bool
  | [] => true
  | m :: ms => (listed.getD m true || match ops[m]? with | some o => o.after.any (fun e => Region.binds .any e && e.on == i) | none => true) && waitsFor ops listed i ms
theorem waitsFor_spec {ops : Array Oper} {listed : Array Bool} {i : Nat} : ∀ (ms : List Nat), waitsFor ops listed i ms = true → ∀ m ∈ ms, m ∈ Region.ready .any ops listed → i ∈ Region.ready .any ops listed → m ≠ i → False
  | [], _, m, hm, _, _, _ => by cases hm
  | m0 :: ms, h, m, hm, hr, hi, hne => by
    simp only [waitsFor, Bool.and_eq_true] at h
    rcases List.mem_cons.1 hm with rfl | hm
    · obtain ⟨hun, o, ho, hall⟩ := mem_ready.1 hr
      have h1 := h.1
      rw [hun, ho] at h1
      simp only [Bool.false_or] at h1
      obtain ⟨e, he, hb⟩ := Array.any_eq_true'.1 h1
      simp only [Bool.and_eq_true, beq_iff_eq] at hb
      have h2 := hall e he hb.1
      rw [hb.2] at h2
      have h0 := (mem_ready.1 hi).1
      rcases Nat.lt_or_ge i listed.size with h' | h'
      · simp [h'] at h0 h2; rw [h0] at h2; cases h2
      · simp [Array.getElem?_eq_none h'] at h2
    · exact waitsFor_spec ms h.2 m hm hr hi hne
theorem waitsFor_set {ops : Array Oper} {listed : Array Bool} {i j : Nat} : ∀ (ms : List Nat), ms.contains j = false → waitsFor ops (listed.setIfInBounds j true) i ms = waitsFor ops listed i ms
  | [], _ => rfl
  | m :: ms, h => by
    simp only [List.contains_cons, Bool.or_eq_false_iff] at h
    simp only [waitsFor]
    rw [getD_set_ne true (by intro e; subst e; simp at h), waitsFor_set ms h.2]
/-- Whatever order is picked from here on, and S holds behind every operation up to the first of ms. -/
def wpAnyM (P : Program) (ops : Array Oper) (Q : Exit → Act → World → Prop) (S : World → Prop) (ms : List Nat) : Nat → Array Bool → Act → World → Prop
  | 0, listed, a, w => Region.ready .any ops listed = [] ∧ Q .normal a w
  | fuel + 1, listed, a, w =>
    (Region.ready .any ops listed = [] → Q .normal a w) ∧
    ∀ i ∈ Region.ready .any ops listed, wpOp P ops Q i (fun a' w' => if ms.contains i = true then wpAny P .any ops Q fuel (listed.setIfInBounds i true) a' w' else S w' ∧ wpAnyM P ops Q S ms fuel (listed.setIfInBounds i true) a' w') a w
section
variable {P : Program} {ops : Array Oper} {Q : Exit → Act → World → Prop} {S : World → Prop} {ms : List Nat}
theorem wpAny_of_M : ∀ (fuel : Nat) (listed : Array Bool) (a : Act) (w : World), wpAnyM P ops Q S ms fuel listed a w → wpAny P .any ops Q fuel listed a w
  | 0, _, _, _, h => h
  | fuel + 1, _, _, _, h => ⟨h.1, fun i hi => wpOp_mono (fun a' w' h' => by
      split at h'
      · exact h'
      · exact wpAny_of_M fuel _ a' w' h'.2) (h.2 i hi)⟩
theorem wpAnyM_weak {S1 S2 : World → Prop} (hS : ∀ w, S1 w → S2 w) : ∀ (fuel : Nat) (listed : Array Bool) (a : Act) (w : World), wpAnyM P ops Q S1 ms fuel listed a w → wpAnyM P ops Q S2 ms fuel listed a w
  | 0, _, _, _, h => h
  | fuel + 1, _, _, _, h => ⟨h.1, fun i hi => wpOp_mono (fun a' w' h' => by
      split at h'
      · rename_i hc; rw [if_pos hc]; exact h'
      · rename_i hc; rw [if_neg hc]; exact ⟨hS _ h'.1, wpAnyM_weak hS fuel _ a' w' h'.2⟩) (h.2 i hi)⟩
theorem wpAnyM_first {i : Nat} {oi : Oper} {v : Value} (hi : ops[i]? = some oi) (hsel : ∀ (j : Nat) (o : Oper) cs b, ops[j]? = some o → o.op ≠ .select cs b)
    (hQ : ∀ c a w, Q (.panic c) (a.put oi.dst v) w → Q (.panic c) a w) :
    ∀ (fuel : Nat) (listed : Array Bool) (a : Act) (w : World),
      (∀ j oj, ops[j]? = some oj → j ≠ i → listed.getD j true = false → (∀ e ∈ oj.after, Region.binds .any e = true → e.on ≠ i) → oi.apart ops oj = true) →
      i ∈ Region.ready .any ops listed → YieldsIf P ops (fun w => waitsFor ops listed i ms = true → S w) oi v a → S w →
      wpAnyM P ops Q S ms fuel (listed.setIfInBounds i true) (a.put oi.dst v) w → wpAnyM P ops Q S ms (fuel + 1) listed a w := by
  intro fuel
  induction fuel with
  | zero =>
    intro listed a w _ hr hy hS H
    refine ⟨fun h => (by rw [h] at hr; cases hr), fun j hj => ?_⟩
    by_cases hji : j = i
    · subst hji
      refine hy.wpOp hi (fun _ => hS) ?_
      split
      · exact wpAny_of_M 0 _ _ _ H
      · exact ⟨hS, H⟩
    · have := ready_mono hj hji
      rw [H.1] at this
      cases this
  | succ fuel ih =>
    intro listed a w hfree hr hy hS H
    refine ⟨fun h => (by rw [h] at hr; cases hr), fun j hj => ?_⟩
    by_cases hji : j = i
    · subst hji
      refine hy.wpOp hi (fun _ => hS) ?_
      split
      · exact wpAny_of_M (fuel + 1) _ _ _ H
      · exact ⟨hS, H⟩
    · have h1 := H.2 j (ready_mono hj hji)
      obtain ⟨hjun, oj, hoj, hall⟩ := mem_ready.1 hj
      have hnot : ∀ e ∈ oj.after, Region.binds .any e = true → e.on ≠ i := fun e he hb heq => by
        have h1 := hall e he hb
        have h0 := (mem_ready.1 hr).1
        rw [heq] at h1
        rcases Nat.lt_or_ge i listed.size with h' | h'
        · simp [h'] at h0 h1; rw [h0] at h1; cases h1
        · simp [Array.getElem?_eq_none h'] at h1
      have h2 := wpOp_putIf hoj (hfree j oj hoj hji hjun hnot) (fun cs b => hsel i oi cs b hi) (fun cs b => hsel j oj cs b hoj) hQ hy h1
      have hfree' : ∀ k ok, ops[k]? = some ok → k ≠ i → (listed.setIfInBounds j true).getD k true = false →
          (∀ e ∈ ok.after, Region.binds .any e = true → e.on ≠ i) → oi.apart ops ok = true := fun k ok hk hki hun hno => by
        refine hfree k ok hk hki ?_ hno
        by_cases hjk : j = k
        · subst hjk; exact hjun
        · rw [getD_set_ne true hjk] at hun; exact hun
      refine wpOp_mono (fun a' w' h3 => ?_) h2
      obtain ⟨h4, h5⟩ := h3
      by_cases hc : ms.contains j = true
      · rw [if_pos hc] at h5
        rw [if_pos hc]
        refine wpAny_first hi hsel hQ fuel (listed.setIfInBounds j true) a' w' hfree' (ready_mono hr (Ne.symm hji)) ?_ ?_
        · refine h4.imp (fun ⟨hw, hv⟩ => ⟨hw, fun w1 => hv w1 (fun hwt => ?_)⟩) id
          exact (waitsFor_spec ms hwt j (by simpa using hc) hj hr hji).elim
        · rw [Array.setIfInBounds_comm _ _ hji]; exact h5
      · rw [if_neg hc] at h5
        rw [if_neg hc]
        have hc' : ms.contains j = false := by simpa using hc
        refine ⟨h5.1, ih (listed.setIfInBounds j true) a' w' hfree' (ready_mono hr (Ne.symm hji)) ?_ h5.1 ?_⟩
        · refine h4.imp (fun ⟨hw, hv⟩ => ⟨hw, fun w1 hw1 => hv w1 (fun hwt => hw1 ?_)⟩) id
          rw [waitsFor_set ms hc']; exact hwt
        · rw [Array.setIfInBounds_comm _ _ hji]; exact h5.2
end

/-- Whatever order is picked from here on; up to the first of ms the worlds that come are the one at hand but for blocks of S, and new ones. -/
abbrev wpE (P : Program) (S : Nat → Prop) (ops : Array Oper) (Q : Exit → Act → World → Prop) (ms : List Nat) (fuel : Nat) (listed : Array Bool) (a : Act) (w : World) : Prop :=
  wpAnyM P ops Q (fun w' => Fr S w w') ms fuel listed a w
section
variable {P : Program} {S : Nat → Prop} {ops : Array Oper} {Q : Exit → Act → World → Prop} {ms : List Nat} {fuel : Nat} {listed : Array Bool} {a : Act} {w : World}

theorem E_begin {id : Nat} (S : Nat → Prop) (ms : List Nat) (hm : P.follows .mixedOrders = true) (h : wpE P S ops Q ms ops.size (Array.replicate ops.size false) a w.drew) : (Code.region id ops true).wp P Q a w :=
  wp_region_any hm (wpAny_of_M _ _ _ _ h)

theorem E_take {i : Nat} {oi : Oper} {v : Value} (hi : ops[i]? = some oi) (hs : Region.noSelect ops = true) (hf : Region.free .any ops listed i = true) (hr : (Region.ready .any ops listed).contains i = true)
    (hQ : ∀ c a w, Q (.panic c) (a.put oi.dst v) w → Q (.panic c) a w)
    (hy : (Region.wanted oi (yielded ops a.tmps) = true ∧ ∀ w', (waitsFor ops listed i ms = true → Fr S w w') → (execOp a.eval oi).run P w' = .ok (.value v) w') ∨ (Region.wanted oi (yielded ops a.tmps) = false ∧ v = undef))
    (h : wpE P S ops Q ms fuel (listed.setIfInBounds i true) (a.put oi.dst v) w) : wpE P S ops Q ms (fuel + 1) listed a w :=
  wpAnyM_first hi (Region.noSelect_spec hs) hQ fuel listed a w (Region.free_spec hi hf) (by simpa using hr) hy (Fr.refl S w) h

theorem E_op {i : Nat} {o : Oper} (hr : Region.ready .any ops listed = [i]) (ho : ops[i]? = some o) (hms : ms.contains i = false)
    (h : ∀ K' : Act → World → Prop, Shut (∀ a' w', Fr S w w' → wpE P S ops Q ms fuel (listed.setIfInBounds i true) a' w' → K' a' w') → if Region.wanted o (yielded ops a.tmps) = true then Oper.wp P o a w K' Q else K' (a.put o.dst undef) w) :
    wpE P S ops Q ms (fuel + 1) listed a w :=
  ⟨fun h0 => absurd (hr ▸ h0) (by simp), fun j hj => by
    obtain rfl : j = i := by rw [hr] at hj; simpa using hj
    refine wpOp_step ho fun K' hK => h K' fun a' w' hE hW => hK a' w' ?_
    rw [if_neg (by rw [hms]; exact Bool.false_ne_true)]
    exact ⟨hE, wpAnyM_weak (fun w'' h'' => hE.trans h'' (fun _ _ hs => hs)) _ _ _ _ hW⟩⟩
/-- One of ms: behind it another S may stand, and other ms. -/
theorem E_turn {i : Nat} {o : Oper} (S' : Nat → Prop) (ms' : List Nat) (hr : Region.ready .any ops listed = [i]) (ho : ops[i]? = some o) (hms : ms.contains i = true)
    (h : ∀ K' : Act → World → Prop, Shut (∀ a' w', wpE P S' ops Q ms' fuel (listed.setIfInBounds i true) a' w' → K' a' w') → if Region.wanted o (yielded ops a.tmps) = true then Oper.wp P o a w K' Q else K' (a.put o.dst undef) w) :
    wpE P S ops Q ms (fuel + 1) listed a w :=
  ⟨fun h0 => absurd (hr ▸ h0) (by simp), fun j hj => by
    obtain rfl : j = i := by rw [hr] at hj; simpa using hj
    refine wpOp_step ho fun K' hK => h K' fun a' w' hW => hK a' w' ?_
    rw [if_pos hms]
    exact wpAny_of_M _ _ _ _ hW⟩

theorem E_done (hr : Region.ready .any ops listed = []) (h : Q .normal a w) : wpE P S ops Q ms fuel listed a w :=
  match fuel with
  | 0 => ⟨hr, h⟩
  | _ + 1 => ⟨fun _ => h, by rw [hr]; simp⟩
end

/-! ### The same in an order that is given -/
def listedBy (n : Nat) (d : List Nat) : Array Bool := (Array.range n).map (fun j => d.contains j)
/-- In the order that is given: a call stands alone; what is none waits for nobody that may still come. -/
def regionOk (ops : Array Oper) (ord calls : List Nat) : Bool :=
  Region.noSelect ops && ord.length == ops.size && (Region.ready .any ops (listedBy ops.size ord)).isEmpty && (List.range ord.length).all fun k =>
    let listed := listedBy ops.size (ord.take k)
    let i := ord.getD k 0
    decide (i < ops.size) && (calls.contains (i + 1000) || if calls.contains i then Region.ready .any ops listed == [i] else Region.free .any ops listed i && (Region.ready .any ops listed).contains i)
theorem listedBy_nil (n : Nat) : listedBy n [] = Array.replicate n false := by
  apply Array.ext
  · simp [listedBy]
  · intro i h1 h2; simp [listedBy]
theorem listedBy_succ (n : Nat) (d : List Nat) (i : Nat) : (listedBy n d).setIfInBounds i true = listedBy n (d ++ [i]) := by
  apply Array.ext
  · simp [listedBy]
  · intro j h1 h2
    have hj : j < (listedBy n d).size := by simpa [listedBy] using h2
    rw [Array.getElem_setIfInBounds (by simpa using hj)]
    by_cases h : i = j
    · subst h; simp [listedBy]
    · rw [if_neg h]
      have : ¬ j = i := fun e => h e.symm
      simp [listedBy, this]
def pickOps (L : List Oper) (is : List Nat) : List Oper := is.filterMap (L[·]?)
/-- The rest of a region, in the order that is given, from its k-th on; the calls stand at 'calls'. -/
def wpT (P : Program) (S : Nat → Prop) (ops : Array Oper) (Q : Exit → Act → World → Prop) (ms : List Nat) (ord calls : List Nat) (k : Nat) (l : List Oper) (a : Act) (w : World) : Prop :=
  regionOk ops ord calls = true → pickOps ops.toList (ord.drop k) = l → wpE P S ops Q ms (ops.size - k) (listedBy ops.size (ord.take k)) a w
section
variable {P : Program} {S : Nat → Prop} {ops : Array Oper} {Q : Exit → Act → World → Prop} {ms : List Nat} {ord calls : List Nat} {k : Nat} {l : List Oper} {o : Oper} {a : Act} {w : World}
theorem regionOk_parts (h : regionOk ops ord calls = true) : Region.noSelect ops = true ∧ ord.length = ops.size ∧ Region.ready .any ops (listedBy ops.size ord) = [] ∧
    ∀ k, k < ord.length → ord.getD k 0 < ops.size ∧ (calls.contains (ord.getD k 0 + 1000) || if calls.contains (ord.getD k 0) then Region.ready .any ops (listedBy ops.size (ord.take k)) == [ord.getD k 0] else Region.free .any ops (listedBy ops.size (ord.take k)) (ord.getD k 0) && (Region.ready .any ops (listedBy ops.size (ord.take k))).contains (ord.getD k 0)) = true := by
  simp only [regionOk, Bool.and_eq_true, List.all_eq_true, List.mem_range, beq_iff_eq, List.isEmpty_iff, decide_eq_true_eq] at h
  obtain ⟨⟨⟨h1, h2⟩, h3⟩, h4⟩ := h
  exact ⟨h1, h2, h3, h4⟩
theorem step_parts (hok : regionOk ops ord calls = true) (h : pickOps ops.toList (ord.drop k) = o :: l) :
    k < ord.length ∧ ops[ord.getD k 0]? = some o ∧ pickOps ops.toList (ord.drop (k + 1)) = l ∧ ord.take (k + 1) = ord.take k ++ [ord.getD k 0] := by
  obtain ⟨_, _, _, h4⟩ := regionOk_parts hok
  have hk : k < ord.length := by
    rcases Nat.lt_or_ge k ord.length with h1 | h1
    · exact h1
    · rw [List.drop_eq_nil_of_le h1] at h; cases h
  have hg : ord.getD k 0 = ord[k] := by rw [List.getD_eq_getElem?_getD, List.getElem?_eq_getElem hk]; rfl
  have hlt := (h4 k hk).1
  rw [List.drop_eq_getElem_cons hk] at h
  have hlt' : ord[k] < ops.toList.length := by rw [← hg]; simpa using hlt
  have ho := List.getElem?_eq_getElem hlt'
  unfold pickOps at h
  rw [List.filterMap_cons, ho] at h
  injection h with h1 h2
  refine ⟨hk, ?_, h2, ?_⟩
  · rw [hg, ← h1, ← Array.getElem?_toList, ho]
  · rw [List.take_add_one, hg, List.getElem?_eq_getElem hk]; rfl
theorem T_begin {id : Nat} {l : List Oper} (S : Nat → Prop) (ord calls : List Nat) (hm : P.follows .mixedOrders = true) (hok : regionOk l.toArray ord calls = true) (h : wpT P S l.toArray Q [] ord calls 0 (pickOps l ord) a w.drew) : (Code.region id l.toArray true).wp P Q a w := by
  refine E_begin S [] hm ?_
  have h1 := h hok rfl
  rw [List.take_zero, listedBy_nil, Nat.sub_zero] at h1
  exact h1
theorem T_take {v : Value} (hc : calls.contains (ord.getD k 0) = false) (hw : Region.wanted o (yielded ops a.tmps) = true) (hQ : ∀ c a w, Q (.panic c) (a.put o.dst v) w → Q (.panic c) a w)
    (hy : ∀ w', (waitsFor ops (listedBy ops.size (ord.take k)) (ord.getD k 0) ms = true → Fr S w w') → (execOp a.eval o).run P w' = .ok (.value v) w') (h : wpT P S ops Q ms ord calls (k + 1) l (a.put o.dst v) w) (hxm : calls.contains (ord.getD k 0 + 1000) = false := by rfl) : wpT P S ops Q ms ord calls k (o :: l) a w := by
  intro hok hl
  obtain ⟨hi, ho, hl', ht⟩ := step_parts hok hl
  obtain ⟨h1, hlen, _, h4⟩ := regionOk_parts hok
  have h2 := (h4 k hi).2
  rw [hxm, hc] at h2
  simp only [Bool.false_or, Bool.false_eq_true, if_false, Bool.and_eq_true] at h2
  obtain ⟨n, hn⟩ : ∃ n, ops.size - k = n + 1 := ⟨ops.size - k - 1, by omega⟩
  rw [hn]
  refine E_take ho h1 h2.1 h2.2 hQ (.inl ⟨hw, hy⟩) ?_
  have h3 := h hok hl'
  rw [listedBy_succ, ← ht, show n = ops.size - (k + 1) by omega]
  exact h3
/-- An operation that hands a value on, or ends the run. -/
def plainOp (o : Oper) : Bool :=
  match o.op with
  | .move _ | .assign _ | .pick .. | .binOp .. | .unOp .. | .convert .. | .makeInterface .. | .fieldAddr .. | .field .. | .indexAddr .. | .index .. | .slice .. | .extract .. | .load .. | .lookup .. | .typeAssert .. | .build .. => true
  | .call { callee := .builtin b, .. } => (match b with | .len | .cap | .min | .max => true | _ => false)
  | _ => false
theorem plain_value {P : Program} (ρ : Operand → Value) (o : Oper) (h : plainOp o = true) (w w' : World) (x : Next) (hr : (execOp ρ o).run P w = .ok x w') : ∃ u, x = .value u := by
  have key : ∀ (s : Sem Value), ((do pure (Next.value (← s)) : Sem Next)).run P w = .ok x w' → ∃ u, x = .value u := by
    intro s hs
    rw [Sem.run_bind] at hs
    cases hs2 : s.run P w with
    | ok u w1 => rw [hs2] at hs; simp only [Result.andThen_ok, Sem.run_pure, Result.ok.injEq] at hs; exact ⟨u, hs.1.symm⟩
    | halt y w1 => rw [hs2] at hs; simp [Result.andThen] at hs
  have key0 : ∀ u : Value, ((pure (Next.value u) : Sem Next)).run P w = .ok x w' → ∃ u, x = .value u := by
    intro u hs
    simp only [Sem.run_pure, Result.ok.injEq] at hs
    exact ⟨u, hs.1.symm⟩
  cases o with
  | mk dst op type pos after guard =>
    have keyp : ∀ (c u v : Value), (do pure (Next.value (if ← asBool c then u else v)) : Sem Next).run P w = .ok x w' → ∃ u, x = .value u := by
      intro c u v hs
      rw [Sem.run_bind] at hs
      cases hs2 : (asBool c).run P w with
      | ok b w1 => rw [hs2] at hs; simp only [Result.andThen_ok, Sem.run_pure, Result.ok.injEq] at hs; exact ⟨_, hs.1.symm⟩
      | halt y w1 => rw [hs2] at hs; simp [Result.andThen] at hs
    cases op <;> simp only [plainOp, Bool.false_eq_true] at h <;> first
      | exact key0 _ hr
      | exact key _ hr
      | exact keyp _ _ _ hr
      | skip
    rename_i c
    obtain ⟨callee, args, ats⟩ := c
    cases callee with
    | value f => simp at h
    | invoke r n => simp at h
    | builtin b =>
      cases b <;> simp only [Bool.false_eq_true] at h <;> exact key _ hr
theorem T_quiet (hc : calls.contains (ord.getD k 0) = false) (hp : plainOp o = true) (hw : Region.wanted o (yielded ops a.tmps) = true) (hQ : ∀ v c a w, Q (.panic c) (a.put o.dst v) w → Q (.panic c) a w)
    (h : ∀ K : Act → Prop, (∀ a, wpT P S ops Q ms ord calls (k + 1) l a w → K a) → o.quiet P a (fun w' => waitsFor ops (listedBy ops.size (ord.take k)) (ord.getD k 0) ms = true → Fr S w w') K) (hxm : calls.contains (ord.getD k 0 + 1000) = false := by rfl) : wpT P S ops Q ms ord calls k (o :: l) a w := by
  obtain ⟨v, hv, hK⟩ := h (fun a => wpT P S ops Q ms ord calls (k + 1) l a w) (fun _ h => h)
  refine T_take hc hw (hQ v) (fun w' hf => ?_) hK hxm
  have h1 := hv w' hf
  unfold Oper.quietAt at h1
  cases hr : (execOp a.eval o).run P w' with
  | halt x w'' => rw [hr] at h1; exact h1.elim
  | ok x w'' =>
    obtain ⟨u, rfl⟩ := plain_value a.eval o hp _ _ _ hr
    rw [hr] at h1
    simp only [Oper.quietUpon] at h1
    obtain ⟨rfl, rfl⟩ := h1
    rfl
/-- A compare, or a pick: so that no other operation takes this road. -/
def twoOp (o : Oper) : Bool := match o.op with | .convert .. | .load .. | .index .. => false | _ => true
theorem T_two (_ : twoOp o = true) (hc : calls.contains (ord.getD k 0) = false) (hp : plainOp o = true) (hw : Region.wanted o (yielded ops a.tmps) = true) (hQ : ∀ v c a w, Q (.panic c) (a.put o.dst v) w → Q (.panic c) a w)
    (h : ∀ K : Act → Prop, (∀ a, wpT P S ops Q ms ord calls (k + 1) l a w → K a) → o.quiet P a (fun w' => waitsFor ops (listedBy ops.size (ord.take k)) (ord.getD k 0) ms = true → Fr S w w') K) (hxm : calls.contains (ord.getD k 0 + 1000) = false := by rfl) : wpT P S ops Q ms ord calls k (o :: l) a w := T_quiet hc hp hw hQ h hxm
/-- No load: a load of a struct would be taken apart cell by cell. -/
def noLoad (o : Oper) : Bool := match o.op with | .load .. => false | _ => true
theorem T_quietN (_ : noLoad o = true) (hc : calls.contains (ord.getD k 0) = false) (hp : plainOp o = true) (hw : Region.wanted o (yielded ops a.tmps) = true) (hQ : ∀ v c a w, Q (.panic c) (a.put o.dst v) w → Q (.panic c) a w)
    (h : ∀ K : Act → Prop, (∀ a, wpT P S ops Q ms ord calls (k + 1) l a w → K a) → o.quiet P a (fun w' => waitsFor ops (listedBy ops.size (ord.take k)) (ord.getD k 0) ms = true → Fr S w w') K) (hxm : calls.contains (ord.getD k 0 + 1000) = false := by rfl) : wpT P S ops Q ms ord calls k (o :: l) a w := T_quiet hc hp hw hQ h hxm
theorem T_str {src dst e : TypeId} (hs : P.underlying src = some (.slice e)) (he : P.underlying e = some (.int .u8)) (hd : P.underlying dst = some .string)
    {T : Nat → Prop} {A : Option Addr} {l' : List UInt8} (h : RdB w T A l') (hT : ∀ b, T b → ¬ S b) (hc : calls.contains (ord.getD k 0) = false) (hw : Region.wanted o (yielded ops a.tmps) = true) (hQ : ∀ v c a w, Q (.panic c) (a.put o.dst v) w → Q (.panic c) a w)
    {x : Operand} (ho : o.op = .convert src dst x) {c n : Nat} (hn : n = l'.length) (hx : a.eval x = .slice A n c)
    (hk : wpT P S ops Q ms ord calls (k + 1) l (a.put o.dst (.string ⟨l'.toArray⟩)) w) (hwt : waitsFor ops (listedBy ops.size (ord.take k)) (ord.getD k 0) ms = true := by first | rfl | kernel_rfl) (hxm : calls.contains (ord.getD k 0 + 1000) = false := by rfl) : wpT P S ops Q ms ord calls k (o :: l) a w := by
  subst hn
  refine T_take hc hw (hQ _) (fun w' hf => ?_) hk hxm
  have hf := hf hwt
  unfold execOp
  simp only [ho, hx, Sem.run_bind, Sem.run_pure, Result.andThen_ok, run_str w' hs he hd c (Rd.fr h hf hT)]
/-- A pointer that is not nil. -/
theorem T_nil {x : Operand} {p : Addr} (hc : calls.contains (ord.getD k 0) = false) (hw : Region.wanted o (yielded ops a.tmps) = true) (hQ : ∀ v c a w, Q (.panic c) (a.put o.dst v) w → Q (.panic c) a w)
    (ho : o.op = .nilCheck x) (hx : a.eval x = .pointer (some p))
    (h : wpT P S ops Q ms ord calls (k + 1) l (a.put o.dst (.pointer (some p))) w) (hxm : calls.contains (ord.getD k 0 + 1000) = false := by rfl) : wpT P S ops Q ms ord calls k (o :: l) a w := by
  refine T_take hc hw (hQ _) (fun w' hf => ?_) h hxm
  unfold execOp
  simp only [ho, hx, Sem.run_pure]
/-- A load of one cell, which stands. -/
theorem T_load {ty : TypeId} {x : Operand} {p : Addr} {v : Value} (hag : ∀ w, (isAgg ty).run P w = .ok false w) (hc : calls.contains (ord.getD k 0) = false) (hw : Region.wanted o (yielded ops a.tmps) = true) (hQ : ∀ v c a w, Q (.panic c) (a.put o.dst v) w → Q (.panic c) a w)
    (ho : o.op = .load ty x) (hx : a.eval x = .pointer (some p)) (hcell : w.cell? p = some v) (hS : ¬ S p.block)
    (h : wpT P S ops Q ms ord calls (k + 1) l (a.put o.dst v) w) (hwt : waitsFor ops (listedBy ops.size (ord.take k)) (ord.getD k 0) ms = true := by first | rfl | kernel_rfl) (hxm : calls.contains (ord.getD k 0 + 1000) = false := by rfl) : wpT P S ops Q ms ord calls k (o :: l) a w := by
  refine T_take hc hw (hQ _) (fun w' hf => ?_) h hxm
  have hf := hf hwt
  have hcell' := hf.cell_some hcell hS
  unfold execOp
  simp only [ho, hx, Instr.loadAt, Instr.sureAddr, loadVar, Sem.run_bind, Sem.run_pure, Result.andThen_ok, hag, Bool.false_eq_true, if_false, run_load, hcell']
/-- A load of a struct or an array, whose cells stand. -/
theorem T_loadA {ty : TypeId} {size : Nat} {x : Operand} {p : Addr} {cs : List Value} (he : AggOf P ty size) (hc : calls.contains (ord.getD k 0) = false) (hw : Region.wanted o (yielded ops a.tmps) = true) (hQ : ∀ v c a w, Q (.panic c) (a.put o.dst v) w → Q (.panic c) a w)
    (ho : o.op = .load ty x) (hx : a.eval x = .pointer (some p)) (hl : cs.length = size) (hcell : ∀ j u, cs[j]? = some u → w.cell? (p.add j) = some u) (hS : ¬ S p.block)
    (h : wpT P S ops Q ms ord calls (k + 1) l (a.put o.dst (.agg cs.toArray)) w) (hwt : waitsFor ops (listedBy ops.size (ord.take k)) (ord.getD k 0) ms = true := by first | rfl | kernel_rfl) (hxm : calls.contains (ord.getD k 0 + 1000) = false := by rfl) : wpT P S ops Q ms ord calls k (o :: l) a w := by
  refine T_take hc hw (hQ _) (fun w' hf => ?_) h hxm
  have hf := hf hwt
  have hcell' : ∀ j u, cs[j]? = some u → w'.cell? (p.add j) = some u := fun j u hu => hf.cell_some (hcell j u hu) (by rw [block_of_add]; exact hS)
  unfold execOp
  simp only [ho, hx, Instr.loadAt, Instr.sureAddr, Sem.run_bind, Sem.run_pure, Result.andThen_ok, run_ldA he w' p cs hl hcell']
theorem T_skip (hc : calls.contains (ord.getD k 0) = false) (hw : Region.wanted o (yielded ops a.tmps) = false) (hQ : ∀ c a w, Q (.panic c) (a.put o.dst undef) w → Q (.panic c) a w)
    (h : wpT P S ops Q ms ord calls (k + 1) l (a.put o.dst undef) w) (hxm : calls.contains (ord.getD k 0 + 1000) = false := by rfl) : wpT P S ops Q ms ord calls k (o :: l) a w := by
  intro hok hl
  obtain ⟨hi, ho, hl', ht⟩ := step_parts hok hl
  obtain ⟨h1, hlen, _, h4⟩ := regionOk_parts hok
  have h2 := (h4 k hi).2
  rw [hxm, hc] at h2
  simp only [Bool.false_or, Bool.false_eq_true, if_false, Bool.and_eq_true] at h2
  obtain ⟨n, hn⟩ : ∃ n, ops.size - k = n + 1 := ⟨ops.size - k - 1, by omega⟩
  rw [hn]
  refine E_take ho h1 h2.1 h2.2 hQ (.inr ⟨hw, rfl⟩) ?_
  have h3 := h hok hl'
  rw [listedBy_succ, ← ht, show n = ops.size - (k + 1) by omega]
  exact h3
theorem T_call (hc : calls.contains (ord.getD k 0) = true) (hw : Region.wanted o (yielded ops a.tmps) = true)
    (h : ∀ K' : Act → World → Prop, Shut (∀ a' w', Fr S w w' → wpT P S ops Q ms ord calls (k + 1) l a' w' → K' a' w') → Oper.wp P o a w K' Q) (hms : ms.contains (ord.getD k 0) = false := by rfl) (hxm : calls.contains (ord.getD k 0 + 1000) = false := by rfl) : wpT P S ops Q ms ord calls k (o :: l) a w := by
  intro hok hl
  obtain ⟨hi, ho, hl', ht⟩ := step_parts hok hl
  obtain ⟨h1, hlen, _, h4⟩ := regionOk_parts hok
  have h2 := (h4 k hi).2
  rw [hxm, hc] at h2
  simp only [Bool.false_or, if_true, beq_iff_eq] at h2
  obtain ⟨n, hn⟩ : ∃ n, ops.size - k = n + 1 := ⟨ops.size - k - 1, by omega⟩
  rw [hn]
  refine E_op h2 ho hms fun K' hK => ?_
  rw [if_pos hw]
  refine h K' fun a' w' hf hT => hK a' w' hf ?_
  have h3 := hT hok hl'
  rw [listedBy_succ, ← ht, show n = ops.size - (k + 1) by omega]
  exact h3
theorem T_pass (hc : calls.contains (ord.getD k 0) = true) (hw : Region.wanted o (yielded ops a.tmps) = false) (h : wpT P S ops Q ms ord calls (k + 1) l (a.put o.dst undef) w) (hms : ms.contains (ord.getD k 0) = false := by rfl) (hxm : calls.contains (ord.getD k 0 + 1000) = false := by rfl) : wpT P S ops Q ms ord calls k (o :: l) a w := by
  intro hok hl
  obtain ⟨hi, ho, hl', ht⟩ := step_parts hok hl
  obtain ⟨h1, hlen, _, h4⟩ := regionOk_parts hok
  have h2 := (h4 k hi).2
  rw [hxm, hc] at h2
  simp only [Bool.false_or, if_true, beq_iff_eq] at h2
  obtain ⟨n, hn⟩ : ∃ n, ops.size - k = n + 1 := ⟨ops.size - k - 1, by omega⟩
  rw [hn]
  refine E_op h2 ho hms fun K' hK => ?_
  rw [if_neg (by rw [hw]; exact Bool.false_ne_true)]
  refine hK.out _ _ (Fr.refl S w) ?_
  have h3 := h hok hl'
  rw [listedBy_succ, ← ht, show n = ops.size - (k + 1) by omega]
  exact h3
theorem T_begin2 {id : Nat} {l : List Oper} (S : Nat → Prop) (ms : List Nat) (ord calls : List Nat) (hm : P.follows .mixedOrders = true) (hok : regionOk l.toArray ord calls = true) (h : wpT P S l.toArray Q ms ord calls 0 (pickOps l ord) a w.drew) : (Code.region id l.toArray true).wp P Q a w := by
  refine E_begin S ms hm ?_
  have h1 := h hok rfl
  rw [List.take_zero, listedBy_nil, Nat.sub_zero] at h1
  exact h1
/-- One of ms: behind it another S may stand. -/
theorem T_turn (S' : Nat → Prop) (ms' : List Nat) (hc : calls.contains (ord.getD k 0) = true) (hms : ms.contains (ord.getD k 0) = true) (hw : Region.wanted o (yielded ops a.tmps) = true)
    (h : ∀ K' : Act → World → Prop, Shut (∀ a' w', wpT P S' ops Q ms' ord calls (k + 1) l a' w' → K' a' w') → Oper.wp P o a w K' Q) (hxm : calls.contains (ord.getD k 0 + 1000) = false := by rfl) : wpT P S ops Q ms ord calls k (o :: l) a w := by
  intro hok hl
  obtain ⟨hi, ho, hl', ht⟩ := step_parts hok hl
  obtain ⟨h1, hlen, _, h4⟩ := regionOk_parts hok
  have h2 := (h4 k hi).2
  rw [hxm, hc] at h2
  simp only [Bool.false_or, if_true, beq_iff_eq] at h2
  obtain ⟨n, hn⟩ : ∃ n, ops.size - k = n + 1 := ⟨ops.size - k - 1, by omega⟩
  rw [hn]
  refine E_turn S' ms' h2 ho hms fun K' hK => ?_
  rw [if_pos hw]
  refine h K' fun a' w' hT => hK a' w' ?_
  have h3 := hT hok hl'
  rw [listedBy_succ, ← ht, show n = ops.size - (k + 1) by omega]
  exact h3
/-- Two calls that may come in either order: each is a way of its own, in an order of its own. -/
theorem T_fork {ord2 calls2 : List Nat} {l2 : List Oper} {o2 : Oper} {i j : Nat} (hrd : Region.ready .any ops (listedBy ops.size (ord.take k)) = [i, j]) (hi : ord.getD k 0 = i) (hj : ord2.getD k 0 = j) (ht2 : ord2.take k = ord.take k)
    (hok2 : regionOk ops ord2 calls2 = true) (hl2 : pickOps ops.toList (ord2.drop k) = o2 :: l2) (hmi : ms.contains i = false) (hmj : ms.contains j = false) (hw1 : Region.wanted o (yielded ops a.tmps) = true) (hw2 : Region.wanted o2 (yielded ops a.tmps) = true)
    (h1 : ∀ K' : Act → World → Prop, Shut (∀ a' w', Fr S w w' → wpT P S ops Q ms ord calls (k + 1) l a' w' → K' a' w') → Oper.wp P o a w K' Q)
    (h2 : ∀ K' : Act → World → Prop, Shut (∀ a' w', Fr S w w' → wpT P S ops Q ms ord2 calls2 (k + 1) l2 a' w' → K' a' w') → Oper.wp P o2 a w K' Q) : wpT P S ops Q ms ord calls k (o :: l) a w := by
  intro hok hl
  obtain ⟨hk1, ho, hl', ht⟩ := step_parts hok hl
  obtain ⟨hk2, ho2, hl2', ht2'⟩ := step_parts hok2 hl2
  obtain ⟨_, hlen, _, _⟩ := regionOk_parts hok
  rw [hi] at ho ht
  rw [hj] at ho2 ht2'
  obtain ⟨n, hn⟩ : ∃ n, ops.size - k = n + 1 := ⟨ops.size - k - 1, by omega⟩
  rw [hn]
  refine ⟨fun h0 => absurd (hrd ▸ h0) (by simp), fun q hq => ?_⟩
  rw [hrd] at hq
  rcases List.mem_cons.1 hq with rfl | hq
  · refine wpOp_step ho fun K' hK => ?_
    rw [if_pos hw1]
    refine h1 K' fun a' w' hE hT => hK a' w' ?_
    rw [if_neg (by rw [hmi]; exact Bool.false_ne_true)]
    have h3 := hT hok hl'
    rw [listedBy_succ, ← ht, show n = ops.size - (k + 1) by omega]
    exact ⟨hE, wpAnyM_weak (fun w'' h'' => hE.trans h'' (fun _ _ hs => hs)) _ _ _ _ h3⟩
  · obtain rfl := List.mem_singleton.1 hq
    refine wpOp_step ho2 fun K' hK => ?_
    rw [if_pos hw2]
    refine h2 K' fun a' w' hE hT => hK a' w' ?_
    rw [if_neg (by rw [hmj]; exact Bool.false_ne_true)]
    have h3 := hT hok2 hl2'
    rw [listedBy_succ, ← ht2, ← ht2', show n = ops.size - (k + 1) by omega]
    exact ⟨hE, wpAnyM_weak (fun w'' h'' => hE.trans h'' (fun _ _ hs => hs)) _ _ _ _ h3⟩
theorem T_done (h : Q .normal a w) : wpT P S ops Q ms ord calls k [] a w := by
  intro hok hl
  obtain ⟨_, hlen, h3, h4⟩ := regionOk_parts hok
  have hk : ord.length ≤ k := by
    rcases Nat.lt_or_ge k ord.length with h1 | h1
    · exfalso
      have hg : ord.getD k 0 = ord[k] := by rw [List.getD_eq_getElem?_getD, List.getElem?_eq_getElem h1]; rfl
      have hlt := (h4 k h1).1
      rw [List.drop_eq_getElem_cons h1] at hl
      have hlt' : ord[k] < ops.toList.length := by rw [← hg]; simpa using hlt
      have ho := List.getElem?_eq_getElem hlt'
      unfold pickOps at hl
      rw [List.filterMap_cons, ho] at hl
      cases hl
    · exact h1
  rw [List.take_of_length_le hk]
  exact E_done h3 h
end
end Go.Proofs.YtannkgglgmbkdaaDoor
namespace Go.Proofs.YtannkgglgmbkdaaDoor
set_option linter.unusedVariables false
set_option linter.unusedSimpArgs false
open Go.RowKit

theorem Blk.newAt {w : World} {g : Nat} {t : TypeId} {cs : Array Value} (h : g = w.heap.size) : Blk (w.alloc (.cells cs t)) g t cs := by subst h; exact Blk.new _ _ _
theorem Fr.drewL {S : Nat → Prop} {w w' : World} (h : Fr S w w') : Fr S w.drew w' := ⟨h.os, h.tape, h.output, h.size, h.block⟩
theorem wpList_max {P : Program} {w : World} {ops : Array Oper} {rest : List Oper} {o : Oper} {a : Act} {Q : Exit → Act → World → Prop} {t : TypeId} {kd : IntKind} (u v m : Int) (hm : m = max u v)
    (hw : Region.wanted o (yielded ops a.tmps) = true) {x y : Operand} (ho : o.op = .call { callee := .builtin .max, args := #[x, y], argTypes := #[t, t] }) (hx : a.eval x = .int kd u) (hy : a.eval y = .int kd v)
    (h : wpList P ops Q rest (a.put o.dst (.int kd m)) w) : wpList P ops Q (o :: rest) a w := by
  have hrun : ∀ ty, (Builtin.max_ #[t, t] ty #[.int kd u, .int kd v]).run P w = .ok (.int kd m) w := by
    intro ty
    subst hm
    have e : (if u < v then v else u) = max u v := by rw [Int.max_def]; split <;> split <;> omega
    simp [Builtin.max_, Builtin.max2, e]
  refine BigFrame.wpList_want hw fun K hK => ?_
  unfold Oper.wp execOp
  simp only [ho, resolve, invoke, builtin, Sem.run_bind, Sem.run_pure, Result.andThen_ok, List.map_toArray, List.map_cons, List.map_nil, hx, hy, hrun]
  exact hK _ _ h
section
variable {P : Program} {t e : TypeId} {z : Value} {size bytes : Nat}
theorem wp_app_at {w : World} {o : Oper} {a : Act} {K : Act → World → Prop} {Q : Exit → Act → World → Prop} (he : SliceOf P t e z size bytes)
    {base : Nat} {v : Value} {n : Nat} {xs : List Value} (hown : w.ownsRow base e size v n xs)
    {S : Nat → Prop} {A : Option Addr} {m c : Nat} {news : List Value} (hr : Rd w S size A m news) (h1 : ∀ u ∈ news, u.oneCell' = true)
    (hbytes : (n + m) * bytes ≤ 140737488355328) (hbase : base ≤ w.heap.size)
    {s x : Operand} (ho : o.op = .call { callee := .builtin .append, args := #[s, x], argTypes := #[t, t] })
    (hs : a.eval s = v) (hx : a.eval x = .slice A m c)
    (h : ∀ v' w', w'.ownsRow base e size v' (n + m) (xs ++ news) → w.grownBy w' v.ownBlock → (v'.ownBlock = v.ownBlock ∨ v'.ownBlock = some w.heap.size) → K (a.put o.dst v') w') : o.wp P a w K Q := by
  obtain ⟨v', w', hrun, h2, h3, h4⟩ := run_app_at (P := P) w he o.type base v n xs hown S A m c news hr h1 hbytes hbase
  unfold Oper.wp execOp
  simp only [ho, resolve, invoke, builtin, Sem.run_bind, Sem.run_pure, Result.andThen_ok, List.map_toArray, List.map_cons, List.map_nil, hs, hx, hrun]
  exact h v' w' h2 h3 h4
theorem wp_make {w : World} {o : Oper} {a : Act} {K : Act → World → Prop} {Q : Exit → Act → World → Prop} (he : SliceOf P t e z size bytes)
    {n c : Nat} (hnc : n ≤ c) (hbytes : bytes * c ≤ 281474976710656)
    {x y : Operand} (ho : o.op = .makeSlice t x y) {kl kc : IntKind} (hx : a.eval x = .int kl n) (hy : a.eval y = .int kc c)
    (h : K (a.put o.dst (.slice (some ⟨w.heap.size, 0, none⟩) n c)) (w.alloc (.cells (madeCells z.cells (c * size)) e))) : o.wp P a w K Q := by
  obtain ⟨i, hi, hz, hsz, hby⟩ := info_parts he.info
  subst hsz hby
  have hpos := he.posb
  have hb : (i.bytes : Int) * (c : Int) ≤ 281474976710656 := by
    have h : ((i.bytes * c : Nat) : Int) ≤ 281474976710656 := by omega
    rwa [Int.natCast_mul] at h
  have hc : c ≤ i.bytes * c := Nat.le_mul_of_pos_left _ hpos
  have hr := run_make (P := P) w t e i z he.ut hi hz kl kc n c (by omega) (by omega) hb (by omega)
  simp only [Int.toNat_natCast] at hr
  unfold Oper.wp execOp
  simp only [ho, hx, hy, Sem.run_bind, Sem.run_pure, Result.andThen_ok, hr]
  exact h
theorem run_buildOne (he : SliceOf P t e z size bytes) (hsm : size ≤ 16777216) (cs : List Value) (hl : cs.length = size) (w : World) :
    (Instr.buildSlice t 1 #[(0, .agg cs.toArray)]).run P w = .ok (.slice (some ⟨w.heap.size, 0, none⟩) 1 1) (w.alloc (.cells cs.toArray e)) := by
  obtain ⟨i, hi, hz, hsz, hby⟩ := info_parts he.info
  subst hsz
  have hpos := he.pos
  obtain ⟨r, hr, hrs, hk⟩ := Great.fill_dense hpos [.agg cs.toArray] 0 ((Array.range (1 * i.size)).map (z.cells[· % z.cells.size]!)) (fun v hv => by
    obtain rfl := List.mem_singleton.1 hv; simpa [Value.cells] using hl) (by simp)
  have he2 : r = cs.toArray := by
    apply Array.ext_getElem?
    intro k
    rw [hk k]
    by_cases h : k < i.size
    · rw [if_pos (by simp; omega), Nat.div_eq_of_lt h, Nat.mod_eq_of_lt h]; simp [Value.cells]
    · rw [if_neg (by simp; omega)]
      simp [Array.getElem?_eq_none, hl, h]
  subst he2
  exact run_buildSlice w t e 1 _ _ i z he.ut hi hz (by simp; omega) (by omega) hr
theorem wp_buildOne {w : World} {o : Oper} {a : Act} {K : Act → World → Prop} {Q : Exit → Act → World → Prop} (he : SliceOf P t e z size bytes) (hsm : size ≤ 16777216) (cs : List Value) (hl : cs.length = size) {x : Operand}
    (ho : o.op = .buildSlice t 1 #[(0, x)]) (hx : a.eval x = .agg cs.toArray) (h : K (a.put o.dst (.slice (some ⟨w.heap.size, 0, none⟩) 1 1)) (w.alloc (.cells cs.toArray e))) : o.wp P a w K Q := by
  unfold Oper.wp execOp
  simp only [ho, Sem.run_bind, List.map_toArray, List.map_cons, List.map_nil, hx, run_buildOne he hsm cs hl w, Result.andThen_ok, Sem.run_pure]
  exact h
/-- 'copy' from whatever reads into a block that is known. -/
theorem run_copyA (he : SliceOf P t e z size bytes) (w : World) (t2 ty : TypeId) (g o dLen dCap m c : Nat) (cur : Array Value) (tt : TypeId) (hb : Blk w g tt cur) {S : Nat → Prop} {A : Option Addr} {xs : List Value} (hr : Rd w S size A m xs) (h1 : ∀ u ∈ xs, u.oneCell' = true)
    (hfit : o + min m dLen * size ≤ cur.size) :
    ∃ w', (Builtin.copy_ #[t, t2] ty #[.slice (some ⟨g, o, none⟩) dLen dCap, .slice A m c]).run P w = .ok (goInt (min m dLen)) w' ∧ Blk w' g tt (splice cur o (xs.take (min m dLen * size))) ∧ w.grownBy w' (some g) ∧ w'.heap.size = w.heap.size := by
  obtain ⟨i, hi, hz, hsz, hby⟩ := info_parts he.info
  subst hsz
  have hr2 := Rd.take hr (Nat.min_le_left m dLen)
  have hl2 := hr2.1
  generalize hcs : xs.take (min m dLen * i.size) = cs at hr2 hl2
  have hone : ∀ u ∈ cs, u.oneCell' = true := fun u hu => h1 u (List.mem_of_mem_take (hcs ▸ hu))
  have hst := run_storeCells_at P g o tt cs 0 cur w hb (by rw [hl2]; simpa using hfit) hone
  simp only [Nat.add_zero] at hst
  refine ⟨w.setRow g (splice cur o cs), ?_, setRow_heap w g cur _ tt _ hb, ⟨rfl, rfl, rfl, by simp, fun k _ hk => setRow_other w g k _ (fun e => hk (by rw [e]))⟩, by simp⟩
  rcases A with _ | ad
  · have h0 : min m dLen = 0 := by
      rcases Nat.eq_zero_or_pos (min m dLen) with h0 | h0
      · exact h0
      · obtain ⟨ad, h, _⟩ := hr2.2.2 h0; cases h
    rw [h0, Nat.zero_mul] at hl2
    obtain rfl : cs = [] := List.eq_nil_of_length_eq_zero hl2
    simp only [List.append_nil, List.length_nil, Nat.add_zero, List.take_append_drop] at hst
    have h0' : Nat.min m dLen = 0 := h0
    simp [Builtin.copy_, run_underlying he.ut, Builtin.lenOf, Builtin.firstCells, sizeOf, typeInfo, hi, h0', h0, storeCells, splice]
    rw [setRow_self w g cur tt (0, 0) hb]
    exact ⟨congrArg goInt (by omega), rfl⟩
  · have hcells : ∀ j u, cs[j]? = some u → w.cell? (ad.add j) = some u := by
      intro j u hu
      rcases Nat.eq_zero_or_pos (min m dLen) with h0 | h0
      · rw [h0, Nat.zero_mul] at hl2
        obtain rfl : cs = [] := List.eq_nil_of_length_eq_zero hl2
        simp at hu
      · obtain ⟨ad', h, _, hc⟩ := hr2.2.2 h0
        injection h with h
        subst h
        exact hc j u hu
    have hl := run_loadCells_list (P := P) w ad cs hcells
    have hmin : Nat.min m dLen = min m dLen := rfl
    rw [hl2] at hl
    simp [Builtin.copy_, run_underlying he.ut, Builtin.lenOf, Builtin.firstCells, sizeOf, typeInfo, hi, hmin, hl, hst, splice]
    exact congrArg goInt (by omega)
theorem wp_copyA {w : World} {o : Oper} {a : Act} {K : Act → World → Prop} {Q : Exit → Act → World → Prop} (he : SliceOf P t e z size bytes) {t2 : TypeId} {d s : Operand}
    (ho : o.op = .call { callee := .builtin .copy, args := #[d, s], argTypes := #[t, t2] }) {g off dLen dCap m c : Nat} {cur : Array Value} {tt : TypeId} (hb : Blk w g tt cur) {S : Nat → Prop} {A : Option Addr} {xs : List Value} (hr : Rd w S size A m xs) (h1 : ∀ u ∈ xs, u.oneCell' = true)
    (hd : a.eval d = .slice (some ⟨g, off, none⟩) dLen dCap) (hs : a.eval s = .slice A m c) (hfit : off + min m dLen * size ≤ cur.size)
    (h : ∀ w', Blk w' g tt (splice cur off (xs.take (min m dLen * size))) → w.grownBy w' (some g) → Hid (w'.heap.size = w.heap.size) → K (a.put o.dst (goInt (min m dLen))) w') : o.wp P a w K Q := by
  obtain ⟨w', hrun, h2, h3, h4⟩ := run_copyA (P := P) he w t2 o.type g off dLen dCap m c cur tt hb hr h1 hfit
  unfold Oper.wp execOp
  simp only [ho, resolve, invoke, builtin, Sem.run_bind, Sem.run_pure, Result.andThen_ok, List.map_toArray, List.map_cons, List.map_nil, hs, hd, hrun]
  exact h w' h2 h3 (Lib.hid h4)
theorem wpList_copyA {w : World} {ops : Array Oper} {rest : List Oper} {o : Oper} {a : Act} {Q : Exit → Act → World → Prop} (he : SliceOf P t e z size bytes) (hw : Region.wanted o (yielded ops a.tmps) = true) {t2 : TypeId} {d s : Operand}
    (ho : o.op = .call { callee := .builtin .copy, args := #[d, s], argTypes := #[t, t2] }) {g off dLen dCap m c : Nat} {cur : Array Value} {tt : TypeId} (hb : Blk w g tt cur) {S : Nat → Prop} {A : Option Addr} {xs : List Value} (hr : Rd w S size A m xs) (h1 : ∀ u ∈ xs, u.oneCell' = true)
    (hd : a.eval d = .slice (some ⟨g, off, none⟩) dLen dCap) (hs : a.eval s = .slice A m c) (hfit : off + min m dLen * size ≤ cur.size)
    (h : ∀ w', Blk w' g tt (splice cur off (xs.take (min m dLen * size))) → w.grownBy w' (some g) → Hid (w'.heap.size = w.heap.size) → wpList P ops Q rest (a.put o.dst (goInt (min m dLen))) w') : wpList P ops Q (o :: rest) a w :=
  BigFrame.wpList_want hw fun _ hK => wp_copyA he ho hb hr h1 hd hs hfit (fun w' b1 b2 b3 => hK _ _ (h w' b1 b2 b3))
/-- A new variable, its noughts not taken apart. -/
theorem wpList_allocA {w : World} {ops : Array Oper} {rest : List Oper} {o : Oper} {a : Act} {Q : Exit → Act → World → Prop} {T : TypeId} {cs : Array Value} (hz : (P.info? T).bind (·.zero) = some (.agg cs)) (hw : Region.wanted o (yielded ops a.tmps) = true) (ho : o.op = .alloc T)
    (h : wpList P ops Q rest (a.put o.dst (.pointer (some ⟨w.heap.size, 0, none⟩))) (w.alloc (.cells cs T))) : wpList P ops Q (o :: rest) a w := by
  refine BigFrame.wpList_want hw fun K hK => ?_
  obtain ⟨i, hi, hz2⟩ := Option.bind_eq_some_iff.1 hz
  unfold Oper.wp execOp
  simp only [ho, Instr.alloc, zeroValue, typeInfo, hi, hz2, newVar, newRow, Sem.run_bind]
  simp [hi, hz2, newRow, newVar, Value.cells]
  exact hK _ _ h
theorem wpList_app_hid {w : World} {ops : Array Oper} {rest : List Oper} {o : Oper} {a : Act} {Q : Exit → Act → World → Prop} (he : SliceOf P t e z size bytes) (hw : Region.wanted o (yielded ops a.tmps) = true)
    {base : Nat} {v : Value} {n : Nat} {xs : List Value} (hown : w.ownsRow base e size v n xs)
    {S : Nat → Prop} {A : Option Addr} {m c : Nat} {news : List Value} (hr : Rd w S size A m news) (h1 : ∀ u ∈ news, u.oneCell' = true)
    (hbytes : (n + m) * bytes ≤ 140737488355328) (hbase : base ≤ w.heap.size)
    {s x : Operand} (ho : o.op = .call { callee := .builtin .append, args := #[s, x], argTypes := #[t, t] })
    (hs : a.eval s = v) (hx : a.eval x = .slice A m c)
    (h : ∀ v' w', w'.ownsRow base e size v' (n + m) (xs ++ news) → w.grownBy w' v.ownBlock → Hid (v'.ownBlock = v.ownBlock ∨ v'.ownBlock = some w.heap.size) → wpList P ops Q rest (a.put o.dst v') w') : wpList P ops Q (o :: rest) a w :=
  BigFrame.wpList_want hw fun _ hK => wp_app_at he hown hr h1 hbytes hbase ho hs hx (fun v' w' b1 b2 b3 => hK _ _ (h v' w' b1 b2 (Lib.hid b3)))
/-- 'copy' of which only what it moves is known. -/
theorem wp_copyB {w : World} {o : Oper} {a : Act} {K : Act → World → Prop} {Q : Exit → Act → World → Prop} (he : SliceOf P t e z size bytes) {t2 : TypeId} {d s : Operand}
    (ho : o.op = .call { callee := .builtin .copy, args := #[d, s], argTypes := #[t, t2] }) {g off dLen dCap m c : Nat} {cur : Array Value} {tt : TypeId} (hb : Blk w g tt cur) {ad : Addr} {cs : List Value} (hl2 : cs.length = min m dLen * size)
    (hcells : ∀ j u, cs[j]? = some u → w.cell? (ad.add j) = some u) (hone : ∀ u ∈ cs, u.oneCell' = true)
    (hd : a.eval d = .slice (some ⟨g, off, none⟩) dLen dCap) (hs : a.eval s = .slice (some ad) m c) (hfit : off + min m dLen * size ≤ cur.size)
    (h : ∀ w', Blk w' g tt (splice cur off cs) → w.grownBy w' (some g) → Hid (w'.heap.size = w.heap.size) → K (a.put o.dst (goInt (min m dLen))) w') : o.wp P a w K Q := by
  obtain ⟨i, hi, hz, hsz, hby⟩ := info_parts he.info
  subst hsz
  have hst := run_storeCells_at P g off tt cs 0 cur w hb (by rw [hl2]; simpa using hfit) hone
  simp only [Nat.add_zero] at hst
  have hl := run_loadCells_list (P := P) w ad cs hcells
  have hmin : Nat.min m dLen = min m dLen := rfl
  rw [hl2] at hl
  have hrun : (Builtin.copy_ #[t, t2] o.type #[.slice (some ⟨g, off, none⟩) dLen dCap, .slice (some ad) m c]).run P w = .ok (goInt (min m dLen)) (w.setRow g (splice cur off cs)) := by
    simp [Builtin.copy_, run_underlying he.ut, Builtin.lenOf, Builtin.firstCells, sizeOf, typeInfo, hi, hmin, hl, hst, splice]
    exact congrArg goInt (by omega)
  unfold Oper.wp execOp
  simp only [ho, resolve, invoke, builtin, Sem.run_bind, Sem.run_pure, Result.andThen_ok, List.map_toArray, List.map_cons, List.map_nil, hs, hd, hrun]
  exact h _ (setRow_heap w g cur _ tt _ hb) ⟨rfl, rfl, rfl, by simp, fun k _ hk => setRow_other w g k _ (fun e => hk (by rw [e]))⟩ (Lib.hid (by simp))
end
theorem results_blk2 {P : Program} {T : TypeId} {size : Nat} (he : AggOf P T size) {fn : Func} {p u : Tmp} (h : fn.results = #[.cell p T, .tmp u]) (tmps : Array Value) (w : World) (g : Nat) (t : TypeId) (cs : Array Value) (v : Value)
    (hp : tmps.getD p undef = .pointer (some ⟨g, 0, none⟩)) (hu : tmps.getD u undef = v) (hb : Blk w g t cs) (hs : cs.size = size) : (results fn tmps).run P w = .ok (.tuple #[.agg cs, v]) w := by
  obtain ⟨d, hd, hk⟩ := he.agg
  have hp' : tmps[p]?.getD undef = .pointer (some ⟨g, 0, none⟩) := by simpa using hp
  have hu' : tmps[u]?.getD undef = v := by simpa using hu
  have hl := run_loadVar_row w g t T cs (0, 0) d hb hd (by cases d <;> simp_all) (by rw [he.info, hs])
  simp [results, h, hp', hu', asAddr, hl]
end Go.Proofs.YtannkgglgmbkdaaDoor
