/- Words for memory: slices that read as lists, frames, rows of the call's own. No condition. -/
import Derived.Deep.DeepAppendWide
import Derived.WalkKit
import Derived.WalkLawsBesides
import Derived.WalkSpells
import Derived.Lib.Hide
import Derived.Maps.AppendAt
import Derived.Deep.AppendLies
import Derived.Deep.Draws
import Derived.Laws.OwnMore
import Derived.Lib.ConvBytes
import Derived.Laws.BitsAllLaws
namespace Go.Proofs.YtannkgglgmbkdaaDoor
set_option linter.unusedVariables false
set_option linter.unusedSimpArgs false
open Go.RowKit

theorem block_of_add (a : Addr) (n : Nat) : (a.add n).block = a.block := by unfold Addr.add; split <;> rfl
theorem add_of_add (a : Addr) (i j : Nat) : (a.add i).add j = a.add (i + j) := by
  unfold Addr.add
  by_cases hi : i = 0 <;> by_cases hj : j = 0 <;> simp [hi, hj, Nat.add_assoc]
theorem add_plain (g j : Nat) : (⟨g, 0, none⟩ : Addr).add j = ⟨g, j, none⟩ := by unfold Addr.add; split <;> simp_all

/-- Only the blocks in S, and what is new, may differ. -/
structure Fr (S : Nat → Prop) (w w' : World) : Prop where
  os : w'.os = w.os
  tape : w'.tape = w.tape
  output : w'.output = w.output
  size : w.heap.size ≤ w'.heap.size
  block : ∀ k, k < w.heap.size → ¬ S k → w'.heap[k]? = w.heap[k]?

def No : Nat → Prop := fun _ => False

section
variable {S T : Nat → Prop} {w w1 w2 : World}
theorem Fr.refl (S : Nat → Prop) (w : World) : Fr S w w := ⟨rfl, rfl, rfl, Nat.le_refl _, fun _ _ _ => rfl⟩
theorem Fr.trans (h : Fr S w w1) (k : Fr T w1 w2) (hT : ∀ b, b < w.heap.size → T b → S b) : Fr S w w2 :=
  ⟨k.os.trans h.os, k.tape.trans h.tape, k.output.trans h.output, Nat.le_trans h.size k.size,
    fun i hi hn => (k.block i (Nat.lt_of_lt_of_le hi h.size) (fun ht => hn (hT i hi ht))).trans (h.block i hi hn)⟩
theorem Fr.mono (h : Fr S w w1) (hS : ∀ b, b < w.heap.size → S b → T b) : Fr T w w1 :=
  ⟨h.os, h.tape, h.output, h.size, fun i hi hn => h.block i hi (fun hs => hn (hS i hi hs))⟩
theorem Fr.drew (h : Fr S w w1) : Fr S w w1.drew := ⟨h.os, h.tape, h.output, h.size, h.block⟩
theorem Fr.drewN (h : Fr S w w1) (n : Nat) : Fr S w (w1.drewN n) := ⟨h.os, h.tape, h.output, h.size, h.block⟩
theorem Fr.alloc (h : Fr S w w1) (o : Obj) : Fr S w (w1.alloc o) :=
  ⟨h.os, h.tape, h.output, Nat.le_trans h.size (by simp), fun i hi hne => (Below.heap_alloc w1 o i (Nat.lt_of_lt_of_le hi h.size)).trans (h.block i hi hne)⟩
theorem Fr.set (h : Fr S w w1) {p : Addr} (hp : w.heap.size ≤ p.block ∨ S p.block) (u : Value) : Fr S w (w1.setCell p u) :=
  ⟨h.os, h.tape, h.output, by simpa [World.setCell] using h.size, fun i hi hne => (Below.heap_setCell w1 p u i (by
    rintro rfl
    rcases hp with hp | hp
    · omega
    · exact hne hp)).trans (h.block i hi hne)⟩
theorem Fr.grown (h : Fr S w w1) {row : Option Nat} (hg : w1.grownBy w2 row) (hr : ∀ k, row = some k → w.heap.size ≤ k ∨ S k) : Fr S w w2 :=
  ⟨hg.os.trans h.os, hg.tape.trans h.tape, hg.output.trans h.output, Nat.le_trans h.size hg.size, fun i hi hne => (hg.block i (Nat.lt_of_lt_of_le hi h.size) (fun e => by
    rcases hr i e.symm with hk | hk
    · omega
    · exact hne hk)).trans (h.block i hi hne)⟩
theorem Fr.below (h : Fr No w w1) : Below w.heap.size w w1 := ⟨h.os, h.tape, h.output, h.size, fun i hi => h.block i hi (fun hn => hn)⟩
theorem Fr.of_below (h : Below w.heap.size w w1) : Fr S w w1 := ⟨h.os, h.tape, h.output, h.size, fun i hi _ => h.block i hi⟩
theorem Fr.cell (h : Fr S w w1) {p : Addr} (hp : p.block < w.heap.size) (hn : ¬ S p.block) : w1.cell? p = w.cell? p := World.cell?_of_block (h.block p.block hp hn)
theorem Fr.frozen (h : Fr S w w1) {p : Addr} (hp : p.block < w.heap.size) (hn : ¬ S p.block) : w1.frozen? p = w.frozen? p := World.frozen?_of_block (h.block p.block hp hn)
theorem Fr.cell_some (h : Fr S w w1) {p : Addr} {v : Value} (hc : w.cell? p = some v) (hn : ¬ S p.block) : w1.cell? p = some v := (h.cell (World.block_lt_of_cell? w p hc) hn).trans hc
end

theorem Fr.tr {w w1 w2 : World} (h : Fr No w w1) (k : Fr No w1 w2) : Fr No w w2 := h.trans k (fun _ _ hn => hn)
/-- A slice's value that reads as the cells xs; what it reads lies in blocks of S. -/
def Rd (w : World) (S : Nat → Prop) (size : Nat) (A : Option Addr) (n : Nat) (xs : List Value) : Prop :=
  xs.length = n * size ∧ n ≤ 211106232532992 ∧ (0 < n → ∃ ad, A = some ad ∧ S ad.block ∧ ∀ j u, xs[j]? = some u → w.cell? (ad.add j) = some u)

section
variable {w w' : World} {S T : Nat → Prop} {size n : Nat} {A : Option Addr} {xs : List Value}
theorem Rd.nil_ : Rd w S size A 0 [] := ⟨by simp, by omega, fun h => absurd h (by omega)⟩
theorem Rd.len (h : Rd w S 1 A n xs) : xs.length = n := by have := h.1; omega
theorem Rd.le (h : Rd w S size A n xs) : n ≤ 211106232532992 := h.2.1
theorem Rd.mono (h : Rd w S size A n xs) (hS : ∀ b, b < w.heap.size → S b → T b) (hs : 0 < size) : Rd w T size A n xs :=
  ⟨h.1, h.2.1, fun hn => by
    obtain ⟨ad, e, hb, hc⟩ := h.2.2 hn
    have hl : 0 < xs.length := by rw [h.1]; exact Nat.mul_pos hn hs
    have hlt := World.block_lt_of_cell? w _ (hc 0 _ (List.getElem?_eq_getElem hl))
    rw [block_of_add] at hlt
    exact ⟨ad, e, hS _ hlt hb, hc⟩⟩
theorem Rd.lt (h : Rd w S size A n xs) (hs : 0 < size) : Rd w (fun b => S b ∧ b < w.heap.size) size A n xs :=
  ⟨h.1, h.2.1, fun hn => by
    obtain ⟨ad, e, hb, hc⟩ := h.2.2 hn
    have hl : 0 < xs.length := by rw [h.1]; exact Nat.mul_pos hn hs
    have hlt := World.block_lt_of_cell? w _ (hc 0 _ (List.getElem?_eq_getElem hl))
    rw [block_of_add] at hlt
    exact ⟨ad, e, ⟨hb, hlt⟩, hc⟩⟩
theorem Rd.at_ {k : Nat} (h : Rd w S 1 A n xs) (hk : k < n) : ∃ ad u, A = some ad ∧ S ad.block ∧ xs[k]? = some u ∧ w.cell? (ad.add k) = some u := by
  obtain ⟨ad, e, hb, hc⟩ := h.2.2 (by omega)
  have hl : k < xs.length := by have := h.1; omega
  exact ⟨ad, xs[k], e, hb, List.getElem?_eq_getElem hl, hc k _ (List.getElem?_eq_getElem hl)⟩
theorem Rd.keep (h : Rd w S size A n xs) (hk : ∀ p : Addr, S p.block → ∀ u, w.cell? p = some u → w'.cell? p = some u) : Rd w' S size A n xs :=
  ⟨h.1, h.2.1, fun hn => by
    obtain ⟨ad, e, hb, hc⟩ := h.2.2 hn
    exact ⟨ad, e, hb, fun j u hu => hk _ (by rw [block_of_add]; exact hb) _ (hc j u hu)⟩⟩
theorem Rd.fr (h : Rd w S size A n xs) (hf : Fr T w w') (hd : ∀ b, S b → ¬ T b) : Rd w' S size A n xs :=
  h.keep fun _ hp _ hc => hf.cell_some hc (hd _ hp)
theorem Rd.fr0 (h : Rd w S size A n xs) (hf : Fr No w w') : Rd w' S size A n xs := h.fr hf (fun _ _ hn => hn)
theorem Rd.drew (h : Rd w S size A n xs) : Rd w.drew S size A n xs := h
theorem Rd.drewN (h : Rd w S size A n xs) (k : Nat) : Rd (w.drewN k) S size A n xs := h
theorem Rd.alloc (h : Rd w S size A n xs) (o : Obj) : Rd (w.alloc o) S size A n xs := h.fr0 ((Fr.refl No w).alloc o)
theorem Rd.set (h : Rd w S size A n xs) {p : Addr} (hp : ¬ S p.block) (u : Value) : Rd (w.setCell p u) S size A n xs :=
  h.keep fun q hq v hc => by
    rw [World.cell?_setCell_other w p q u (fun e => by subst e; exact hp hq)]; exact hc
theorem Rd.grown (h : Rd w S size A n xs) {row : Option Nat} (hg : w.grownBy w' row) (hr : ∀ g, row = some g → ¬ S g) : Rd w' S size A n xs :=
  h.keep fun _ hp _ hc => hg.cell hc (fun e => hr _ e.symm hp)
theorem Rd.cut (h : Rd w S size A n xs) {k cap : Nat} (hk : k ≤ n) (hc : n ≤ cap) :
    Rd w S size (if cap = k then A else A.map (·.add (k * size))) (n - k) (xs.drop (k * size)) := by
  refine ⟨by rw [List.length_drop, h.1, Nat.sub_mul], by have := h.2.1; omega, fun hn => ?_⟩
  obtain ⟨ad, rfl, hb, hcell⟩ := h.2.2 (by omega)
  rw [if_neg (by omega)]
  refine ⟨ad.add (k * size), rfl, by rw [block_of_add]; exact hb, fun j u hu => ?_⟩
  rw [add_of_add]
  exact hcell _ u (by rw [← hu, List.getElem?_drop])
theorem Rd.take (h : Rd w S size A n xs) {k : Nat} (hk : k ≤ n) : Rd w S size A k (xs.take (k * size)) := by
  refine ⟨by rw [List.length_take, h.1, Nat.min_eq_left (Nat.mul_le_mul_right _ hk)], by have := h.2.1; omega, fun hn => ?_⟩
  obtain ⟨ad, rfl, hb, hcell⟩ := h.2.2 (by omega)
  refine ⟨ad, rfl, hb, fun j u hu => hcell j u ?_⟩
  rw [List.getElem?_take] at hu
  split at hu
  · exact hu
  · cases hu
theorem Rd.of_own {base : Nat} {e : TypeId} {c : Nat} (h : w.ownsRow base e size (.slice A n c) n xs) (hn : n ≤ 211106232532992) : Rd w (fun b => A.map (·.block) = some b) size A n xs := by
  refine ⟨h.1, hn, fun hn => ?_⟩
  obtain ⟨g, cap, hv, _, hlt⟩ := h.form hn
  have hA : A = some ⟨g, 0, none⟩ := by injection hv
  subst hA
  exact ⟨_, rfl, rfl, h.cells (g := g) rfl⟩
end

/-- Bytes as cells. -/
def U8 (l : List UInt8) : List Value := l.map fun b => .int .u8 (b.toNat : Int)
theorem U8_length (l : List UInt8) : (U8 l).length = l.length := by simp [U8]
theorem U8_append (a b : List UInt8) : U8 (a ++ b) = U8 a ++ U8 b := by simp [U8]
theorem U8_get (l : List UInt8) (k : Nat) (hk : k < l.length) : (U8 l)[k]? = some (.int .u8 (l[k].toNat : Int)) := by simp [U8, hk]
theorem U8_take (l : List UInt8) (k : Nat) : U8 (l.take k) = (U8 l).take k := by simp [U8]
theorem U8_drop (l : List UInt8) (k : Nat) : U8 (l.drop k) = (U8 l).drop k := by simp [U8]
theorem U8_one (l : List UInt8) : ∀ u ∈ U8 l, u.oneCell' = true := by
  intro u hu
  simp only [U8, List.mem_map] at hu
  obtain ⟨b, _, rfl⟩ := hu
  rfl

/-- A []byte that reads as l. -/
def RdB (w : World) (S : Nat → Prop) (A : Option Addr) (l : List UInt8) : Prop := Rd w S 1 A l.length (U8 l)
section
variable {w w' : World} {S T : Nat → Prop} {A : Option Addr} {l : List UInt8}
theorem RdB.le (h : RdB w S A l) : l.length ≤ 211106232532992 := h.2.1
theorem RdB.at_ {k : Nat} (h : RdB w S A l) (hk : k < l.length) : ∃ ad, A = some ad ∧ S ad.block ∧ w.cell? (ad.add k) = some (.int .u8 (l[k].toNat : Int)) := by
  obtain ⟨ad, u, e, hb, hx, hc⟩ := Rd.at_ h hk
  rw [U8_get l k hk] at hx
  injection hx with hx
  exact ⟨ad, e, hb, hx ▸ hc⟩
end
/-- The slice type t, its elements' type e, of so many cells and bytes. -/
structure SliceOf (P : Program) (t e : TypeId) (z : Value) (size bytes : Nat) : Prop where
  ut : P.underlying t = some (.slice e)
  info : (P.info? e).map (fun i => (i.zero, i.size, i.bytes)) = some (some z, size, bytes)
  zs : z.cells.size = size
  pos : 0 < size
  posb : 0 < bytes
  small : bytes ≤ 1048576

section
variable {P : Program} {t e : TypeId} {z : Value} {size bytes : Nat}

theorem run_app_nil (w : World) (he : SliceOf P t e z size bytes) (ty : TypeId) (base : Nat) (v : Value) (n : Nat) (xs : List Value) (hown : w.ownsRow base e size v n xs) (c : Nat) :
    (Builtin.append_ #[t, t] ty #[v, .slice none 0 c]).run P w = .ok v w := by
  obtain ⟨i, hi, _, _, _⟩ := info_parts he.info
  rcases hown.2 with ⟨rfl, rfl⟩ | ⟨g, cap, cur, rfl, _, _, hnc, _⟩
  · simp [Builtin.append_, run_underlying he.ut, sizeOf, typeInfo, hi, Builtin.lenOf, Builtin.firstCells]
  · simp [Builtin.append_, run_underlying he.ut, sizeOf, typeInfo, hi, Builtin.lenOf, Builtin.firstCells, hnc, storeCells]

/-- 'append' onto a row of the call's own, of whatever reads. -/
theorem run_app (w : World) (he : SliceOf P t e z size bytes) (ty : TypeId) (base : Nat) (v : Value) (n : Nat) (xs : List Value) (hown : w.ownsRow base e size v n xs)
    (S : Nat → Prop) (A : Option Addr) (m c : Nat) (news : List Value) (hr : Rd w S size A m news) (h1 : ∀ u ∈ news, u.oneCell' = true)
    (hbytes : (n + m) * bytes ≤ 211106232532992) (hbase : base ≤ w.heap.size) :
    ∃ v' w', (Builtin.append_ #[t, t] ty #[v, .slice A m c]).run P w = .ok v' w' ∧ w'.ownsRow base e size v' (n + m) (xs ++ news) ∧ w.grownBy w' v.ownBlock ∧ True := by
  have h63 : n + m ≤ maxLen := by
    have : n + m ≤ (n + m) * bytes := Nat.le_mul_of_pos_right _ he.posb
    simp only [maxLen]; omega
  obtain ⟨i, hi, hz, hsz, hby⟩ := info_parts he.info
  rcases A with _ | ad
  · have hm : m = 0 := by
      rcases Nat.eq_zero_or_pos m with h0 | h0
      · exact h0
      · obtain ⟨ad, h, _⟩ := hr.2.2 h0
        cases h
    subst hm
    have hn : news = [] := List.eq_nil_of_length_eq_zero (by simpa using hr.1)
    subst hn
    exact ⟨v, w, run_app_nil w he ty base v n xs hown c, by simpa using hown, World.grownBy.refl w _, trivial⟩
  · have hcells : ∀ j u, news[j]? = some u → w.cell? (ad.add j) = some u := by
      intro j u hu
      rcases Nat.eq_zero_or_pos m with h0 | h0
      · subst h0
        have hn : news = [] := List.eq_nil_of_length_eq_zero (by simpa using hr.1)
        subst hn
        simp at hu
      · obtain ⟨ad', h, _, hc⟩ := hr.2.2 h0
        injection h with h
        subst h
        exact hc j u hu
    have hwide : ((n + m) + (n + m) / 4 + 192) * bytes ≤ 281474976710656 := by
      have hs := he.small
      have e : ((n + m) + (n + m) / 4 + 192) * bytes = (n + m) * bytes + (n + m) / 4 * bytes + 192 * bytes := by rw [Nat.add_mul, Nat.add_mul]
      have hq : (n + m) / 4 * bytes ≤ ((n + m) * bytes) / 4 := by
        rw [Nat.le_div_iff_mul_le (by decide), Nat.mul_right_comm]
        exact Nat.mul_le_mul_right _ (Nat.div_mul_le_self _ _)
      omega
    obtain ⟨v', w', hrun, h2, h3, _⟩ := run_append_own_wide (P := P) w base t ty e i z size bytes he.ut hi hz hsz hby he.zs he.pos v n xs hown ad m c news hr.1 hcells h1 h63 hwide hbase
    exact ⟨v', w', hrun, h2, h3, trivial⟩

theorem wpList_app {w : World} {ops : Array Oper} {rest : List Oper} {o : Oper} {a : Act} {Q : Exit → Act → World → Prop} (he : SliceOf P t e z size bytes)
    {base : Nat} {v : Value} {n : Nat} {xs : List Value} (hown : w.ownsRow base e size v n xs)
    {S : Nat → Prop} {A : Option Addr} {m c : Nat} {news : List Value} (hr : Rd w S size A m news) (h1 : ∀ u ∈ news, u.oneCell' = true)
    (hbytes : (n + m) * bytes ≤ 211106232532992) (hbase : base ≤ w.heap.size)
    (hw : Region.wanted o (yielded ops a.tmps) = true) {s x : Operand} (ho : o.op = .call { callee := .builtin .append, args := #[s, x], argTypes := #[t, t] })
    (hs : a.eval s = v) (hx : a.eval x = .slice A m c)
    (h : ∀ v' w', w'.ownsRow base e size v' (n + m) (xs ++ news) → w.grownBy w' v.ownBlock → True → wpList P ops Q rest (a.put o.dst v') w') : wpList P ops Q (o :: rest) a w := by
  obtain ⟨v', w', hrun, h2, h3, h4⟩ := run_app (P := P) w he o.type base v n xs hown S A m c news hr h1 hbytes hbase
  refine BigFrame.wpList_want hw fun K hK => ?_
  unfold Oper.wp execOp
  simp only [ho, resolve, invoke, builtin, Sem.run_bind, Sem.run_pure, Result.andThen_ok, List.map_toArray, List.map_cons, List.map_nil, hs, hx, hrun]
  exact hK _ _ (h v' w' h2 h3 h4)

/-- The same up to 2^47 bytes; and where the new slice lies. -/
theorem run_app_at (w : World) (he : SliceOf P t e z size bytes) (ty : TypeId) (base : Nat) (v : Value) (n : Nat) (xs : List Value) (hown : w.ownsRow base e size v n xs)
    (S : Nat → Prop) (A : Option Addr) (m c : Nat) (news : List Value) (hr : Rd w S size A m news) (h1 : ∀ u ∈ news, u.oneCell' = true)
    (hbytes : (n + m) * bytes ≤ 140737488355328) (hbase : base ≤ w.heap.size) :
    ∃ v' w', (Builtin.append_ #[t, t] ty #[v, .slice A m c]).run P w = .ok v' w' ∧ w'.ownsRow base e size v' (n + m) (xs ++ news) ∧ w.grownBy w' v.ownBlock ∧
      (v'.ownBlock = v.ownBlock ∨ v'.ownBlock = some w.heap.size) := by
  have h63 : n + m ≤ maxLen := by
    have : n + m ≤ (n + m) * bytes := Nat.le_mul_of_pos_right _ he.posb
    simp only [maxLen]; omega
  obtain ⟨i, hi, hz, hsz, hby⟩ := info_parts he.info
  rcases A with _ | ad
  · have hm : m = 0 := by
      rcases Nat.eq_zero_or_pos m with h0 | h0
      · exact h0
      · obtain ⟨ad, h, _⟩ := hr.2.2 h0
        cases h
    subst hm
    have hn : news = [] := List.eq_nil_of_length_eq_zero (by simpa using hr.1)
    subst hn
    exact ⟨v, w, run_app_nil w he ty base v n xs hown c, by simpa using hown, World.grownBy.refl w _, .inl rfl⟩
  · have hcells : ∀ j u, news[j]? = some u → w.cell? (ad.add j) = some u := by
      intro j u hu
      rcases Nat.eq_zero_or_pos m with h0 | h0
      · subst h0
        have hn : news = [] := List.eq_nil_of_length_eq_zero (by simpa using hr.1)
        subst hn
        simp at hu
      · obtain ⟨ad', h, _, hc⟩ := hr.2.2 h0
        injection h with h
        subst h
        exact hc j u hu
    obtain ⟨v', w', hrun, h2, h3, _, h5⟩ := run_append_own_at (P := P) w base t ty e i z size bytes he.ut hi hz hsz hby he.zs he.pos v n xs hown ad m c news hr.1 hcells h1 h63 hbytes hbase
    exact ⟨v', w', hrun, h2, h3, h5⟩

theorem wpList_app_at {w : World} {ops : Array Oper} {rest : List Oper} {o : Oper} {a : Act} {Q : Exit → Act → World → Prop} (he : SliceOf P t e z size bytes)
    {base : Nat} {v : Value} {n : Nat} {xs : List Value} (hown : w.ownsRow base e size v n xs)
    {S : Nat → Prop} {A : Option Addr} {m c : Nat} {news : List Value} (hr : Rd w S size A m news) (h1 : ∀ u ∈ news, u.oneCell' = true)
    (hbytes : (n + m) * bytes ≤ 140737488355328) (hbase : base ≤ w.heap.size)
    (hw : Region.wanted o (yielded ops a.tmps) = true) {s x : Operand} (ho : o.op = .call { callee := .builtin .append, args := #[s, x], argTypes := #[t, t] })
    (hs : a.eval s = v) (hx : a.eval x = .slice A m c)
    (h : ∀ v' w', w'.ownsRow base e size v' (n + m) (xs ++ news) → w.grownBy w' v.ownBlock → (v'.ownBlock = v.ownBlock ∨ v'.ownBlock = some w.heap.size) → wpList P ops Q rest (a.put o.dst v') w') : wpList P ops Q (o :: rest) a w := by
  obtain ⟨v', w', hrun, h2, h3, h4⟩ := run_app_at (P := P) w he o.type base v n xs hown S A m c news hr h1 hbytes hbase
  refine BigFrame.wpList_want hw fun K hK => ?_
  unfold Oper.wp execOp
  simp only [ho, resolve, invoke, builtin, Sem.run_bind, Sem.run_pure, Result.andThen_ok, List.map_toArray, List.map_cons, List.map_nil, hs, hx, hrun]
  exact hK _ _ (h v' w' h2 h3 h4)

/-- 'append(nil, make([]T, m)...)', m above 0. -/
theorem run_app_zeros (w : World) (he : SliceOf P t e z size bytes) (ti ty : TypeId) {k kx : IntKind} (hti : P.underlying ti = some (.int k)) (m : Nat) (hm : 0 < m) (hbytes : m * bytes ≤ 211106232532992) :
    (Builtin.append_ #[t, ti] ty #[.slice none 0 0, .int kx m]).run P w =
      .ok (.slice (some ⟨w.heap.size, 0, none⟩) m (grownCap w m 0 e)) (w.drew.alloc (.cells (Builtin.zeroCells z.cells m ++ Builtin.zeroCells z.cells (grownCap w m 0 e - m)) e)) := by
  obtain ⟨i, hi, hz, hsz, hby⟩ := info_parts he.info
  subst hsz hby
  have hle : m ≤ 211106232532992 := Nat.le_trans (Nat.le_mul_of_pos_right _ he.posb) hbytes
  have hw : IntKind.i64.wrap (m : Int) = m := by rw [IntKind.wrap_i64]; omega
  have hneg : ¬ ((m : Int) < 0) := by omega
  have hbig : ¬ (281474976710656 < (m : Int) * (i.bytes : Int)) := by
    rw [← Int.natCast_mul]
    omega
  have hsn : i.size ≠ 0 := by have := he.pos; omega
  have hm0 : m ≠ 0 := by omega
  have h63 : ¬ (9223372036854775807 < (m : Int)) := by omega
  have hnx : Builtin.nextslicecap m 0 = m := by simp [Builtin.nextslicecap, hm]
  have h48 : ¬ (281474976710656 < m * i.bytes) := by omega
  simp [Builtin.append_, run_underlying he.ut, run_underlying hti, sizeOf, typeInfo, zeroValue, hi, hz, asInt, asIntOf, hw, hneg, hbig, hsn, hm0, h63, hnx, h48, Question.forced, Builtin.firstCells, newRow, grownCap, askRoom]
  intro h0
  rcases Nat.mul_eq_zero.1 h0 with h | h <;> omega
theorem wpList_app_zeros {w : World} {ops : Array Oper} {rest : List Oper} {o : Oper} {a : Act} {Q : Exit → Act → World → Prop} (he : SliceOf P t e z size bytes) (hw : Region.wanted o (yielded ops a.tmps) = true) (s x : Operand) (ti : TypeId)
    (ho : o.op = .call { callee := .builtin .append, args := #[s, x], argTypes := #[t, ti] }) {k kx : IntKind} (hti : P.underlying ti = some (.int k)) (m : Nat) (hm : 0 < m)
    (hs : a.eval s = .slice none 0 0) (hx : a.eval x = .int kx m) (hbytes : m * bytes ≤ 211106232532992)
    (h : ∀ c cs, m ≤ c → c ≤ maxLen → cs.size = c * size → wpList P ops Q rest (a.put o.dst (.slice (some ⟨w.heap.size, 0, none⟩) m c)) (w.alloc (.cells cs e)).drew) : wpList P ops Q (o :: rest) a w := by
  have hrun := run_app_zeros (P := P) w he ti o.type (kx := kx) hti m hm hbytes
  refine BigFrame.wpList_want hw fun K hK => ?_
  unfold Oper.wp execOp
  simp only [ho, resolve, invoke, builtin, Sem.run_bind, Sem.run_pure, Result.andThen_ok, List.map_toArray, List.map_cons, List.map_nil, hs, hx, hrun]
  have hge := grownCap_ge w m 0 e
  have hle : m ≤ 211106232532992 := Nat.le_trans (Nat.le_mul_of_pos_right _ he.posb) hbytes
  exact hK _ _ (h _ _ hge (grownCap_le_maxLen w m 0 e (by simp only [maxLen]; omega)) (by
    simp only [Array.size_append, size_zeroCells, he.zs, ← Nat.add_mul]
    congr 1; omega))

/-- Fresh capacity of 'make' and of a grown nil: nothing in use yet. -/
theorem own_zero (w : World) (base g c : Nat) (cs : Array Value) (hb : base ≤ g) (hg : w.heap[g]? = some (.cells cs e (0, 0))) (hc : c ≤ maxLen) (hs : cs.size = c * size) :
    w.ownsRow base e size (.slice (some ⟨g, 0, none⟩) 0 c) 0 [] := ⟨by simp, .inr ⟨g, c, cs, rfl, hb, hg, Nat.zero_le _, hc, hs, by simp⟩⟩
end
/-- A block known whole. -/
def Blk (w : World) (g : Nat) (t : TypeId) (cs : Array Value) : Prop := w.heap[g]? = some (.cells cs t (0, 0))
section
variable {w w' : World} {g : Nat} {t : TypeId} {cs : Array Value}
theorem Blk.lt (h : Blk w g t cs) : g < w.heap.size := (Array.getElem?_eq_some_iff.1 h).1
theorem Blk.cell (h : Blk w g t cs) (i : Nat) : w.cell? ⟨g, i, none⟩ = cs[i]? := cell_of_row w g i cs t (0, 0) h
theorem Blk.frozen (h : Blk w g t cs) (i : Nat) : w.frozen? ⟨g, i, none⟩ = false := by
  unfold Blk at h
  simp [World.frozen?, h]
theorem Blk.new (w : World) (t : TypeId) (cs : Array Value) : Blk (w.alloc (.cells cs t)) w.heap.size t cs := heap_alloc_new w _
theorem Blk.drew (h : Blk w g t cs) : Blk w.drew g t cs := h
theorem Blk.drewN (h : Blk w g t cs) (n : Nat) : Blk (w.drewN n) g t cs := h
theorem Blk.alloc (h : Blk w g t cs) (o : Obj) : Blk (w.alloc o) g t cs := (Below.heap_alloc w o g h.lt).trans h
theorem Blk.put (h : Blk w g t cs) (i : Nat) (u : Value) : Blk (w.setCell ⟨g, i, none⟩ u) g t (cs.setIfInBounds i u) := by
  unfold Blk at h ⊢
  simp [World.setCell, Array.getElem?_modify, h]
theorem Blk.far (h : Blk w g t cs) {p : Addr} (hp : g ≠ p.block) (u : Value) : Blk (w.setCell p u) g t cs := (Below.heap_setCell w p u g hp).trans h
theorem Blk.fr {S : Nat → Prop} (h : Blk w g t cs) (hf : Fr S w w') (hs : ¬ S g) : Blk w' g t cs := (hf.block g h.lt hs).trans h
theorem Blk.fr0 (h : Blk w g t cs) (hf : Fr No w w') : Blk w' g t cs := h.fr hf (fun hn => hn)
theorem Blk.grown {row : Option Nat} (h : Blk w g t cs) (hb : w.grownBy w' row) (hg : some g ≠ row) : Blk w' g t cs := (hb.block g h.lt hg).trans h
theorem Blk.rd (h : Blk w g t cs) {size n : Nat} (hs : cs.size = n * size) (hn : n ≤ 211106232532992) : Rd w (fun b => b = g) size (some ⟨g, 0, none⟩) n cs.toList :=
  ⟨by simpa using hs, hn, fun _ => ⟨_, rfl, rfl, fun j u hu => by rw [add_plain, h.cell]; simpa using hu⟩⟩
end
/-- An aggregate type (a struct, an array) of so many cells. -/
structure AggOf (P : Program) (T : TypeId) (size : Nat) : Prop where
  agg : ∃ d, P.underlying T = some d ∧ (match d with | .struct _ | .array _ _ => true | _ => false) = true
  info : (P.info? T).map (·.size) = some size

section
variable {P : Program} {T : TypeId} {size : Nat}
theorem AggOf.run (he : AggOf P T size) (w : World) : (isAgg T).run P w = .ok true w ∧ (sizeOf T).run P w = .ok size w := by
  obtain ⟨d, hu, hd⟩ := he.agg
  have hi := he.info
  constructor
  · unfold isAgg
    rw [Sem.run_bind, run_underlying hu w]
    cases d <;> simp_all
  · cases hq : P.info? T with
    | none => simp [hq] at hi
    | some i =>
      have hs : i.size = size := by simpa [hq] using hi
      simp [sizeOf, typeInfo, hq, hs]
theorem run_ldA (he : AggOf P T size) (w : World) (ad : Addr) (cs : List Value) (hl : cs.length = size) (hc : ∀ j u, cs[j]? = some u → w.cell? (ad.add j) = some u) :
    (loadVar T ad).run P w = .ok (.agg cs.toArray) w := by
  have hr := run_loadCells_list (P := P) w ad cs hc
  rw [hl] at hr
  simp [loadVar, Sem.run_bind, (he.run w).1, (he.run w).2, hr]
theorem wp_ldA (he : AggOf P T size) {o : Oper} {a : Act} {w : World} {K : Act → World → Prop} {Q : Exit → Act → World → Prop} (x : Operand) (ho : o.op = .load T x)
    (ad : Addr) (cs : List Value) (hx : a.eval x = .pointer (some ad)) (hl : cs.length = size) (hc : ∀ j u, cs[j]? = some u → w.cell? (ad.add j) = some u)
    (h : K (a.put o.dst (.agg cs.toArray)) w) : o.wp P a w K Q := by
  unfold Oper.wp execOp
  simp only [ho, hx, Instr.loadAt, Instr.sureAddr, Sem.run_bind, Sem.run_pure, Result.andThen_ok, run_ldA he w ad cs hl hc]
  exact h
theorem wpList_ldA (he : AggOf P T size) {ops : Array Oper} {rest : List Oper} {o : Oper} {a : Act} {w : World} {Q : Exit → Act → World → Prop} (hw : Region.wanted o (yielded ops a.tmps) = true) (x : Operand) (ho : o.op = .load T x)
    (ad : Addr) (cs : List Value) (hx : a.eval x = .pointer (some ad)) (hl : cs.length = size) (hc : ∀ j u, cs[j]? = some u → w.cell? (ad.add j) = some u)
    (h : wpList P ops Q rest (a.put o.dst (.agg cs.toArray)) w) : wpList P ops Q (o :: rest) a w :=
  BigFrame.wpList_want hw fun _ hK => wp_ldA he x ho ad cs hx hl hc (hK _ _ h)
theorem Blk.cells {w : World} {g : Nat} {t : TypeId} {cs : Array Value} (h : Blk w g t cs) (off : Nat) (ys : List Value) (hy : ∀ j u, ys[j]? = some u → cs[off + j]? = some u) :
    ∀ j u, ys[j]? = some u → w.cell? ((⟨g, off, none⟩ : Addr).add j) = some u := by
  intro j u hu
  have e : (⟨g, off, none⟩ : Addr).add j = ⟨g, off + j, none⟩ := by unfold Addr.add; split <;> simp_all
  rw [e, h.cell]
  exact hy j u hu
theorem Blk.all {w : World} {g : Nat} {t : TypeId} {cs : Array Value} (h : Blk w g t cs) : ∀ j u, cs.toList[j]? = some u → w.cell? ((⟨g, 0, none⟩ : Addr).add j) = some u :=
  h.cells 0 cs.toList (fun j u hu => by simpa using hu)

/-- A row with other cells from a place on. -/
def splice (cur : Array Value) (o : Nat) (cs : List Value) : Array Value := (cur.toList.take o ++ cs ++ cur.toList.drop (o + cs.length)).toArray
theorem splice_size (cur : Array Value) (o : Nat) (cs : List Value) (h : o + cs.length ≤ cur.size) : (splice cur o cs).size = cur.size := by
  simp [splice]; omega
theorem splice_all (cur : Array Value) (cs : List Value) (h : cs.length = cur.size) : splice cur 0 cs = cs.toArray := by
  simp [splice, h]
theorem wp_stA (he : (P.info? T).map (·.size) = some size) {o : Oper} {a : Act} {w : World} {K : Act → World → Prop} {Q : Exit → Act → World → Prop} (x y : Operand) (ho : o.op = .store T x y)
    (g off : Nat) (t : TypeId) (cur : Array Value) (cs : List Value) (v : Value) (hx : a.eval x = .pointer (some ⟨g, off, none⟩)) (hy : a.eval y = v) (hv : v.cells = cs.toArray) (hl : cs.length = size) (h1 : ∀ u ∈ cs, u.oneCell' = true)
    (hb : Blk w g t cur) (hfit : off + size ≤ cur.size)
    (h : ∀ w', Blk w' g t (splice cur off cs) → w.grownBy w' (some g) → Hid (w'.heap.size = w.heap.size) → K (a.put o.dst undef) w') : o.wp P a w K Q := by
  have hst := run_storeCells_at P g off t cs 0 cur w hb (by omega) h1
  simp only [Nat.add_zero] at hst
  have hso : (sizeOf T).run P w = .ok size w := by
    cases hq : P.info? T with
    | none => simp [hq] at he
    | some i =>
      have hs : i.size = size := by simpa [hq] using he
      simp [sizeOf, typeInfo, hq, hs]
  unfold Oper.wp execOp
  have hsz : v.cells.size = size := by rw [hv]; simpa using hl
  have hr : (Instr.storeAt T (.pointer (some ⟨g, off, none⟩)) v).run P w = .ok () (w.setRow g (splice cur off cs)) := by
    simp [Instr.storeAt, Instr.sureAddr, storeVar, Sem.run_bind, hso, hl, hv, hst, splice]
  simp only [ho, hx, hy, Sem.run_bind, hr, Sem.run_pure, Result.andThen_ok]
  refine h _ (setRow_heap w g cur _ t _ hb) ⟨rfl, rfl, rfl, by simp, fun k _ hk => setRow_other w g k _ (fun e => hk (by rw [e]))⟩ (Lib.hid (by simp))
theorem wpList_stA (he : (P.info? T).map (·.size) = some size) {ops : Array Oper} {rest : List Oper} {o : Oper} {a : Act} {w : World} {Q : Exit → Act → World → Prop} (hw : Region.wanted o (yielded ops a.tmps) = true) (x y : Operand) (ho : o.op = .store T x y)
    (g off : Nat) (t : TypeId) (cur : Array Value) (cs : List Value) (v : Value) (hx : a.eval x = .pointer (some ⟨g, off, none⟩)) (hy : a.eval y = v) (hv : v.cells = cs.toArray) (hl : cs.length = size) (h1 : ∀ u ∈ cs, u.oneCell' = true)
    (hb : Blk w g t cur) (hfit : off + size ≤ cur.size)
    (h : ∀ w', Blk w' g t (splice cur off cs) → w.grownBy w' (some g) → Hid (w'.heap.size = w.heap.size) → wpList P ops Q rest (a.put o.dst undef) w') : wpList P ops Q (o :: rest) a w :=
  BigFrame.wpList_want hw fun _ hK => wp_stA he x y ho g off t cur cs v hx hy hv hl h1 hb hfit (fun w' b1 b2 b3 => hK _ _ (h w' b1 b2 b3))
theorem results_blk (he : AggOf P T size) {fn : Func} {p : Tmp} (h : fn.results = #[.cell p T]) (tmps : Array Value) (w : World) (g : Nat) (t : TypeId) (cs : Array Value)
    (hp : tmps.getD p undef = .pointer (some ⟨g, 0, none⟩)) (hb : Blk w g t cs) (hs : cs.size = size) : (results fn tmps).run P w = .ok (.agg cs) w := by
  obtain ⟨d, hu, hd⟩ := he.agg
  exact results_cell_row h tmps w g t cs (0, 0) d hp hb hu (by cases d <;> simp_all) (by rw [he.info, hs])
end

section
variable {P : Program} {src dst e : TypeId}
theorem run_str (w : World) (hs : P.underlying src = some (.slice e)) (he : P.underlying e = some (.int .u8)) (hd : P.underlying dst = some .string) {S : Nat → Prop} {A : Option Addr} {l : List UInt8} (c : Nat) (h : RdB w S A l) :
    (convert src dst (.slice A l.length c)).run P w = .ok (.string ⟨l.toArray⟩) w := by
  rcases Nat.eq_zero_or_pos l.length with h0 | h0
  · obtain rfl : l = [] := List.eq_nil_of_length_eq_zero h0
    rcases A with _ | ad
    · exact run_convert_bytes_nil w src e hs he 0 c dst hd
    · rw [run_convert_bytes_string w src dst e _ _ _ hs he hd]
      exact run_bytesToString w ad 0 c [] (by simp [loadCells, loadCellsFrom])
  · obtain ⟨ad, rfl, _, hc⟩ := h.2.2 h0
    rw [run_convert_bytes_string w src dst e _ _ _ hs he hd]
    have hl := run_loadCells_list (P := P) w ad (U8 l) hc
    rw [U8_length] at hl
    have hm : U8 l = (l.map fun b => (b.toNat : Int)).map (Value.int .u8) := by simp [U8]
    rw [hm] at hl
    rw [run_bytesToString w ad _ c _ hl, foldl_push_bytes]
    have hm2 : (l.map fun b => (b.toNat : Int)).map (fun n => UInt8.ofNat n.toNat) = l := by
      rw [List.map_map]
      exact (List.map_congr_left (fun b _ => by simp)).trans (List.map_id l)
    rw [hm2]
    simp
theorem wpList_str {w : World} {ops : Array Oper} {rest : List Oper} {o : Oper} {a : Act} {Q : Exit → Act → World → Prop} (hs : P.underlying src = some (.slice e)) (he : P.underlying e = some (.int .u8)) (hd : P.underlying dst = some .string)
    (hw : Region.wanted o (yielded ops a.tmps) = true) (x : Operand) (ho : o.op = .convert src dst x) {S : Nat → Prop} {A : Option Addr} {l : List UInt8} {c n : Nat} (hn : n = l.length) (hx : a.eval x = .slice A n c) (h : RdB w S A l)
    (hk : wpList P ops Q rest (a.put o.dst (.string ⟨l.toArray⟩)) w) : wpList P ops Q (o :: rest) a w := by
  subst hn
  refine BigFrame.wpList_want hw fun K hK => ?_
  unfold Oper.wp execOp
  simp only [ho, hx, Sem.run_bind, Sem.run_pure, Result.andThen_ok, run_str w hs he hd c h]
  exact hK _ _ hk
end
theorem own_form {w : World} {base size n : Nat} {e : TypeId} {v : Value} {xs : List Value} (h : w.ownsRow base e size v n xs) : ∃ A c, v = .slice A n c ∧ n ≤ c ∧ c ≤ maxLen ∧ (∀ b, v.ownBlock = some b ↔ A.map (·.block) = some b) := by
  rcases h.2 with ⟨rfl, rfl⟩ | ⟨g, cap, cur, rfl, _, _, h1, h2, _⟩
  · exact ⟨none, 0, rfl, Nat.le_refl _, by decide, fun b => by simp [Value.ownBlock]⟩
  · exact ⟨_, cap, rfl, h1, h2, fun b => by simp [Value.ownBlock]⟩
theorem own_down {w : World} {base base' size n : Nat} {e : TypeId} {v : Value} {xs : List Value} (h : w.ownsRow base e size v n xs) (hb : base' ≤ base) : w.ownsRow base' e size v n xs := by
  refine ⟨h.1, ?_⟩
  rcases h.2 with hn | ⟨g, cap, cur, h1, h2, h3⟩
  · exact .inl hn
  · exact .inr ⟨g, cap, cur, h1, Nat.le_trans hb h2, h3⟩
theorem own_fr {S : Nat → Prop} {w w' : World} {base size n : Nat} {e : TypeId} {v : Value} {xs : List Value} (h : w.ownsRow base e size v n xs) (hf : Fr S w w') (hs : ∀ b, v.ownBlock = some b → ¬ S b) : w'.ownsRow base e size v n xs := by
  refine ⟨h.1, ?_⟩
  rcases h.2 with hn | ⟨g, cap, cur, rfl, h2, h3, rest⟩
  · exact .inl hn
  · exact .inr ⟨g, cap, cur, rfl, h2, (hf.block g (Array.getElem?_eq_some_iff.1 h3).1 (hs g rfl)).trans h3, rest⟩
theorem own_fr0 {w w' : World} {base size n : Nat} {e : TypeId} {v : Value} {xs : List Value} (h : w.ownsRow base e size v n xs) (hf : Fr No w w') : w'.ownsRow base e size v n xs := own_fr h hf (fun _ _ hn => hn)
/-- An owned row of bytes reads as they are. -/
theorem own_rd {w : World} {base size n c : Nat} {e : TypeId} {A : Option Addr} {xs : List Value} (h : w.ownsRow base e size (.slice A n c) n xs) (hn : n ≤ 211106232532992) : Rd w (fun b => A.map (·.block) = some b) size A n xs := Rd.of_own h hn

section
variable {P : Program} {t e : TypeId} {z : Value} {size bytes : Nat}
theorem wpList_make {w : World} {ops : Array Oper} {rest : List Oper} {o : Oper} {a : Act} {Q : Exit → Act → World → Prop} (he : SliceOf P t e z size bytes)
    {n c : Nat} (hnc : n ≤ c) (hbytes : bytes * c ≤ 281474976710656)
    (hw : Region.wanted o (yielded ops a.tmps) = true) {x y : Operand} (ho : o.op = .makeSlice t x y) {kl kc : IntKind} (hx : a.eval x = .int kl n) (hy : a.eval y = .int kc c)
    (h : wpList P ops Q rest (a.put o.dst (.slice (some ⟨w.heap.size, 0, none⟩) n c)) (w.alloc (.cells (madeCells z.cells (c * size)) e))) : wpList P ops Q (o :: rest) a w := by
  obtain ⟨i, hi, hz, hsz, hby⟩ := info_parts he.info
  subst hsz hby
  have hpos := he.posb
  have hb : (i.bytes : Int) * (c : Int) ≤ 281474976710656 := by
    have h : ((i.bytes * c : Nat) : Int) ≤ 281474976710656 := by omega
    rwa [Int.natCast_mul] at h
  have hc : c ≤ i.bytes * c := Nat.le_mul_of_pos_left _ hpos
  have hr := run_make (P := P) w t e i z he.ut hi hz kl kc n c (by omega) (by omega) hb (by omega)
  simp only [Int.toNat_natCast] at hr
  refine BigFrame.wpList_want hw fun K hK => ?_
  unfold Oper.wp execOp
  simp only [ho, hx, hy, Sem.run_bind, Sem.run_pure, Result.andThen_ok, hr]
  exact hK _ _ h

/-- 'append' where there is room: in place. -/
theorem wpList_app_room {w : World} {ops : Array Oper} {rest : List Oper} {o : Oper} {a : Act} {Q : Exit → Act → World → Prop} (he : SliceOf P t e z size bytes)
    {g n cap : Nat} {cur : Array Value} (hb : Blk w g e cur)
    {S : Nat → Prop} {A : Option Addr} {m c : Nat} {news : List Value} (hr : Rd w S size A m news) (h1 : ∀ u ∈ news, u.oneCell' = true)
    (hroom : n + m ≤ cap) (hfit : cap * size ≤ cur.size)
    (hw : Region.wanted o (yielded ops a.tmps) = true) {s x : Operand} (ho : o.op = .call { callee := .builtin .append, args := #[s, x], argTypes := #[t, t] })
    (hs : a.eval s = .slice (some ⟨g, 0, none⟩) n cap) (hx : a.eval x = .slice A m c)
    (h : ∀ w', Blk w' g e (splice cur (n * size) news) → w.grownBy w' (some g) → Hid (w'.heap.size = w.heap.size) → wpList P ops Q rest (a.put o.dst (.slice (some ⟨g, 0, none⟩) (n + m) cap)) w') : wpList P ops Q (o :: rest) a w := by
  obtain ⟨i, hi, hz, hsz, hby⟩ := info_parts he.info
  subst hsz hby
  refine BigFrame.wpList_want hw fun K hK => ?_
  unfold Oper.wp execOp
  rcases A with _ | ad
  · have hm : m = 0 := by
      rcases Nat.eq_zero_or_pos m with h0 | h0
      · exact h0
      · obtain ⟨ad, h, _⟩ := hr.2.2 h0
        cases h
    subst hm
    have hn : news = [] := List.eq_nil_of_length_eq_zero (by simpa using hr.1)
    subst hn
    have hrun : (Builtin.append_ #[t, t] o.type #[.slice (some ⟨g, 0, none⟩) n cap, .slice none 0 c]).run P w = .ok (.slice (some ⟨g, 0, none⟩) n cap) w := by
      have hroom' : n ≤ cap := by omega
      simp [Builtin.append_, run_underlying he.ut, sizeOf, typeInfo, hi, Builtin.lenOf, Builtin.firstCells, hroom', storeCells]
    simp only [ho, resolve, invoke, builtin, Sem.run_bind, Sem.run_pure, Result.andThen_ok, List.map_toArray, List.map_cons, List.map_nil, hs, hx, hrun]
    exact hK _ _ (h w (by simpa [splice] using hb) (World.grownBy.refl w _) rfl)
  · have hcells : ∀ j u, news[j]? = some u → w.cell? (ad.add j) = some u := by
      intro j u hu
      rcases Nat.eq_zero_or_pos m with h0 | h0
      · subst h0
        have hn : news = [] := List.eq_nil_of_length_eq_zero (by simpa using hr.1)
        subst hn
        simp at hu
      · obtain ⟨ad', h, _, hc⟩ := hr.2.2 h0
        injection h with h
        subst h
        exact hc j u hu
    have hfit' : n * i.size + news.length ≤ cur.size := by
      rw [hr.1, ← Nat.add_mul]
      exact Nat.le_trans (Nat.mul_le_mul_right _ hroom) hfit
    have hrun := run_append_room (P := P) w t o.type e i he.ut hi g n cap cur hb ad m c news hr.1 hcells h1 hroom hfit'
    simp only [ho, resolve, invoke, builtin, Sem.run_bind, Sem.run_pure, Result.andThen_ok, List.map_toArray, List.map_cons, List.map_nil, hs, hx, hrun]
    exact hK _ _ (h _ (setRow_heap w g cur _ e _ hb) ⟨rfl, rfl, rfl, by simp, fun k _ hk => setRow_other w g k _ (fun e => hk (by rw [e]))⟩ (Lib.hid (by simp)))
end
theorem splice_toList (cur : Array Value) (o : Nat) (cs : List Value) : (splice cur o cs).toList = cur.toList.take o ++ cs ++ cur.toList.drop (o + cs.length) := by simp [splice]
theorem splice_made (z : Array Value) (xs ys : List Value) (n : Nat) (hn : n = xs.length + ys.length) : splice (splice (madeCells z n) 0 xs) xs.length ys = (xs ++ ys).toArray := by
  subst hn
  have h : (madeCells z (xs.length + ys.length)).toList.length = xs.length + ys.length := by simp [size_madeCells]
  simp [splice, size_madeCells]

theorem wpList_min {P : Program} {w : World} {ops : Array Oper} {rest : List Oper} {o : Oper} {a : Act} {Q : Exit → Act → World → Prop} {t : TypeId} {kd : IntKind} (u v m : Int) (hm : m = min u v)
    (hw : Region.wanted o (yielded ops a.tmps) = true) {x y : Operand} (ho : o.op = .call { callee := .builtin .min, args := #[x, y], argTypes := #[t, t] }) (hx : a.eval x = .int kd u) (hy : a.eval y = .int kd v)
    (h : wpList P ops Q rest (a.put o.dst (.int kd m)) w) : wpList P ops Q (o :: rest) a w := by
  have hrun : ∀ ty, (Builtin.min_ #[t, t] ty #[.int kd u, .int kd v]).run P w = .ok (.int kd m) w := by
    intro ty
    subst hm
    have e : (if v < u then v else u) = min u v := by rw [Int.min_def]; split <;> split <;> omega
    simp [Builtin.min_, Builtin.min2, e]
  refine BigFrame.wpList_want hw fun K hK => ?_
  unfold Oper.wp execOp
  simp only [ho, resolve, invoke, builtin, Sem.run_bind, Sem.run_pure, Result.andThen_ok, List.map_toArray, List.map_cons, List.map_nil, hx, hy, hrun]
  exact hK _ _ h
end Go.Proofs.YtannkgglgmbkdaaDoor
