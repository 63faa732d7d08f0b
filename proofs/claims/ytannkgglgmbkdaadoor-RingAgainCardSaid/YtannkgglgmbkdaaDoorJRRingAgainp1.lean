/- A device of sectors, as plain data, and how it lies in memory. No condition. disk.Disk.one. No condition but that the sector is there. The law's full; disk.New, Fail, Pending, Size. No condition but size. disk.New, Fail, Pending, Size. No condition but size. disk.Disk.Write. No condition but size. disk.Disk's Flush, Fail, Pending, Size. No condition but size. disk.Disk.Crash. No condition but size. lapidaryref01.Count, for seats that have no more of wire. No condition. Lists of acts (chapter 04) in memory. No condition. -/
import Derived.Test.YtannkgglgmbkdaaDoorProg
import Derived.Test.YtannkgglgmbkdaaDoorJRRingAgainp0
import Derived.Lib.SliceRun
import Derived.Stop.BytesEq
namespace Go.Proofs.YtannkgglgmbkdaaDoor
set_option linter.unusedVariables false
set_option linter.unusedSimpArgs false
open Go.RowKit

abbrev Sec := List UInt8
/-- A device. -/
structure DiskM where
  safe : List Sec
  now : List Sec
  way : List (Nat × Sec)
  dead : Bool
  left : Nat
/-- A sector of noughts. -/
def zsec : Sec := List.replicate 128 0
theorem zsec_len : zsec.length = 128 := by simp [zsec]
def secs (L : List Sec) : List Value := L.flatMap U8
def way1 (p : Nat × Sec) : List Value := .int .i64 (p.1 : Int) :: U8 p.2
def ways (l : List (Nat × Sec)) : List Value := l.flatMap way1
theorem secs_append (a b : List Sec) : secs (a ++ b) = secs a ++ secs b := by simp [secs]
theorem secs_flat (L : List Sec) : secs L = U8 L.flatten := by
  induction L with
  | nil => rfl
  | cons s L ih => rw [List.flatten_cons, U8_append, ← ih]; rfl
theorem ways_append (a b : List (Nat × Sec)) : ways (a ++ b) = ways a ++ ways b := by simp [ways]
def Len128 (L : List Sec) : Prop := ∀ s ∈ L, s.length = 128
theorem flat_len {L : List Sec} (h : Len128 L) : L.flatten.length = L.length * 128 := by
  induction L with
  | nil => rfl
  | cons s L ih =>
    rw [List.flatten_cons, List.length_append, h s (by simp), ih (fun x hx => h x (by simp [hx])), List.length_cons]; omega
theorem secs_len {L : List Sec} (h : Len128 L) : (secs L).length = L.length * 128 := by rw [secs_flat, U8_length, flat_len h]
theorem secs_one (L : List Sec) : ∀ u ∈ secs L, u.oneCell' = true := by rw [secs_flat]; exact U8_one _
theorem Len128.set {L : List Sec} (h : Len128 L) (k : Nat) {s : Sec} (hs : s.length = 128) : Len128 (L.set k s) := fun x hx => by
  rcases List.mem_or_eq_of_mem_set hx with hx | rfl
  · exact h x hx
  · exact hs
theorem Len128.take {L : List Sec} (h : Len128 L) (k : Nat) : Len128 (L.take k) := fun x hx => h x (List.mem_of_mem_take hx)
theorem Len128.drop {L : List Sec} (h : Len128 L) (k : Nat) : Len128 (L.drop k) := fun x hx => h x (List.mem_of_mem_drop hx)
theorem secs_split {L : List Sec} {k : Nat} (hk : k < L.length) : secs L = secs (L.take k) ++ (U8 L[k] ++ secs (L.drop (k + 1))) := by
  have e : L = L.take k ++ (L[k] :: L.drop (k + 1)) := by rw [← List.drop_eq_getElem_cons hk, List.take_append_drop]
  conv => lhs; rw [e]
  rw [secs_append]; rfl
theorem secs_set {L : List Sec} {k : Nat} (hk : k < L.length) (s : Sec) : secs (L.set k s) = secs (L.take k) ++ (U8 s ++ secs (L.drop (k + 1))) := by
  have h1 := secs_split (L := L.set k s) (k := k) (by simpa using hk)
  rw [h1, List.getElem_set_self, List.take_set_of_le (Nat.le_refl k), List.drop_set_of_lt (by omega)]
/-- The cells of the k-th sector. -/
theorem secs_at {L : List Sec} (h : Len128 L) {k : Nat} (hk : k < L.length) (j : Nat) (u : Value) (hu : (U8 L[k])[j]? = some u) : (secs L)[k * 128 + j]? = some u := by
  have hj := (List.getElem?_eq_some_iff.1 hu).1
  rw [secs_split hk, List.getElem?_append_right (by rw [secs_len (h.take k), List.length_take]; omega), secs_len (h.take k), List.length_take, show k * 128 + j - min k L.length * 128 = j by rw [Nat.min_eq_left (by omega)]; omega, List.getElem?_append_left hj]
  exact hu
/-- Sectors in a row of their own, with room behind. -/
def SecAt (w : World) (g cap : Nat) (L : List Sec) : Prop :=
  Len128 L ∧ L.length ≤ cap ∧ cap ≤ maxLen ∧ ∃ cur : Array Value, Blk w g 88 cur ∧ cur.size = cap * 128 ∧ ∀ (j : Nat) (u : Value), (secs L)[j]? = some u → cur[j]? = some u
section
variable {w w' : World} {S : Nat → Prop} {g cap : Nat} {L : List Sec}
theorem SecAt.fr (h : SecAt w g cap L) (hf : Fr S w w') (hs : ¬ S g) : SecAt w' g cap L := by
  obtain ⟨h1, h2, h3, cur, hb, h4, h5⟩ := h
  exact ⟨h1, h2, h3, cur, hb.fr hf hs, h4, h5⟩
theorem SecAt.lt (h : SecAt w g cap L) : g < w.heap.size := by obtain ⟨_, _, _, cur, hb, _⟩ := h; exact hb.lt
/-- A sector of it, as cells. -/
theorem SecAt.at_ (h : SecAt w g cap L) {k : Nat} (hk : k < L.length) (j : Nat) (u : Value) (hu : (U8 L[k])[j]? = some u) : w.cell? ((⟨g, k * 128, none⟩ : Addr).add j) = some u := by
  obtain ⟨h1, h2, h3, cur, hb, h4, h5⟩ := h
  have e : (⟨g, k * 128, none⟩ : Addr).add j = ⟨g, k * 128 + j, none⟩ := by unfold Addr.add; split <;> simp_all
  rw [e, hb.cell]
  exact h5 _ _ (secs_at h1 hk j u hu)
theorem splice_get (cur : Array Value) (o : Nat) (cs : List Value) (h : o + cs.length ≤ cur.size) (j : Nat) :
    (splice cur o cs)[j]? = if j < o then cur[j]? else if j < o + cs.length then cs[j - o]? else cur[j]? := by
  rw [← Array.getElem?_toList, splice_toList]
  by_cases h1 : j < o
  · rw [if_pos h1, List.append_assoc, List.getElem?_append_left (by simp; omega), List.getElem?_take, if_pos h1, Array.getElem?_toList]
  · rw [if_neg h1]
    have ht : (cur.toList.take o).length = o := by simp; omega
    by_cases h2 : j < o + cs.length
    · rw [if_pos h2, List.append_assoc, List.getElem?_append_right (by omega), List.getElem?_append_left (by omega), ht]
    · rw [if_neg h2, List.getElem?_append_right (by simp; omega), List.getElem?_drop, List.length_append, ht, show o + cs.length + (j - (o + cs.length)) = j by omega, Array.getElem?_toList]
/-- A sector of it stored. -/
theorem SecAt.put (h : SecAt w g cap L) {k : Nat} (hk : k < L.length) {s : Sec} (hs : s.length = 128) {cur : Array Value} (hb : Blk w g 88 cur) (hb' : Blk w' g 88 (splice cur (k * 128) (U8 s))) : SecAt w' g cap (L.set k s) := by
  obtain ⟨h1, h2, h3, cur0, hb0, h4, h5⟩ := h
  have e : cur0 = cur := by
    have := hb0.symm.trans hb
    simpa using this
  subst e
  have hfit : k * 128 + (U8 s).length ≤ cur0.size := by rw [U8_length, hs, h4]; omega
  refine ⟨h1.set k hs, by simpa using h2, h3, _, hb', by rw [splice_size _ _ _ hfit, h4], fun j u hu => ?_⟩
  rw [splice_get _ _ _ hfit]
  rw [secs_set hk] at hu
  have hl1 : (secs (L.take k)).length = k * 128 := by rw [secs_len (h1.take k), List.length_take]; congr 1; omega
  have hl2 : (U8 s).length = 128 := by rw [U8_length, hs]
  have hl3 : (U8 L[k]).length = 128 := by rw [U8_length, h1 _ (List.getElem_mem hk)]
  have hold := secs_split hk
  by_cases hj : j < k * 128
  · rw [if_pos hj]
    rw [List.getElem?_append_left (by omega)] at hu
    refine h5 j u ?_
    rw [hold, List.getElem?_append_left (by omega)]; exact hu
  · rw [if_neg hj]
    rw [List.getElem?_append_right (by omega), hl1] at hu
    by_cases hj2 : j < k * 128 + (U8 s).length
    · rw [if_pos hj2]
      rw [List.getElem?_append_left (by omega)] at hu
      exact hu
    · rw [if_neg hj2]
      rw [List.getElem?_append_right (by omega), hl2] at hu
      refine h5 j u ?_
      rw [hold, List.getElem?_append_right (by omega), hl1, List.getElem?_append_right (by omega), hl3]; exact hu
theorem SecAt.rd (h : SecAt w g cap L) (hn : L.length ≤ 211106232532992) : Rd w (fun b => b = g) 128 (some ⟨g, 0, none⟩) L.length (secs L) := by
  obtain ⟨h1, h2, h3, cur, hb, h4, h5⟩ := h
  exact ⟨secs_len h1, hn, fun _ => ⟨_, rfl, rfl, fun j u hu => by rw [add_plain, hb.cell]; exact h5 j u hu⟩⟩
end
/-- The device H, in blocks that meet X: its rows are gs, gn and A's. -/
def DiskP (w : World) (X : Nat → Prop) (H gs cs gn cn : Nat) (A : Option Addr) (c : Nat) (d : DiskM) : Prop :=
  Blk w H 87 #[.slice (some ⟨gs, 0, none⟩) d.safe.length cs, .slice (some ⟨gn, 0, none⟩) d.now.length cn, .slice A d.way.length c, .bool d.dead, .int .i64 (d.left : Int)] ∧
    SecAt w gs cs d.safe ∧ SecAt w gn cn d.now ∧ w.ownsRow 0 90 129 (.slice A d.way.length c) d.way.length (ways d.way) ∧
    (gs ≠ gn ∧ gs ≠ H ∧ gn ≠ H) ∧ (∀ b, (Value.slice A d.way.length c).ownBlock = some b → b ≠ H ∧ b ≠ gs ∧ b ≠ gn ∧ X b) ∧ (X H ∧ X gs ∧ X gn) ∧
    d.safe.length = d.now.length ∧ d.now.length ≤ 4096 ∧ ∀ p ∈ d.way, p.1 < d.now.length ∧ p.2.length = 128
def DiskAt (w : World) (X : Nat → Prop) (H : Nat) (d : DiskM) : Prop := ∃ gs cs gn cn A c, DiskP w X H gs cs gn cn A c d
section
variable {w w' : World} {X Y S : Nat → Prop} {H gs cs gn cn : Nat} {A : Option Addr} {c : Nat} {d : DiskM}
theorem DiskP.fr (h : DiskP w X H gs cs gn cn A c d) (hf : Fr S w w') (hX : ∀ b, X b → ¬ S b) : DiskP w' X H gs cs gn cn A c d := by
  obtain ⟨hb, h1, h2, h3, h4, h5, h6, h7⟩ := h
  exact ⟨hb.fr hf (hX _ h6.1), h1.fr hf (hX _ h6.2.1), h2.fr hf (hX _ h6.2.2), own_fr h3 hf (fun b hb => hX b (h5 b hb).2.2.2), h4, h5, h6, h7⟩
theorem DiskP.fr0 (h : DiskP w X H gs cs gn cn A c d) (hf : Fr No w w') : DiskP w' X H gs cs gn cn A c d := h.fr hf (fun _ _ hn => hn)
theorem DiskP.mono (h : DiskP w X H gs cs gn cn A c d) (hX : ∀ b, b < w.heap.size → X b → Y b) : DiskP w Y H gs cs gn cn A c d := by
  obtain ⟨hb, h1, h2, h3, h4, h5, h6, h7⟩ := h
  exact ⟨hb, h1, h2, h3, h4, fun b hb => ⟨(h5 b hb).1, (h5 b hb).2.1, (h5 b hb).2.2.1, hX b (h3.lt b hb).2 (h5 b hb).2.2.2⟩, ⟨hX _ hb.lt h6.1, hX _ h1.lt h6.2.1, hX _ h2.lt h6.2.2⟩, h7⟩
/-- Its own block has other words behind the rows. -/
theorem DiskP.head (h : DiskP w X H gs cs gn cn A c d) (hf : Fr (fun b => b = H) w w') {dead : Bool} {left : Nat}
    (hb : Blk w' H 87 #[.slice (some ⟨gs, 0, none⟩) d.safe.length cs, .slice (some ⟨gn, 0, none⟩) d.now.length cn, .slice A d.way.length c, .bool dead, .int .i64 (left : Int)]) :
    DiskP w' X H gs cs gn cn A c { d with dead := dead, left := left } := by
  obtain ⟨_, h1, h2, h3, h4, h5, h6, h7⟩ := h
  exact ⟨hb, h1.fr hf h4.2.1, h2.fr hf h4.2.2, own_fr h3 hf (fun b hb => (h5 b hb).1), h4, h5, h6, h7⟩
/-- What stands now has changed. -/
theorem DiskP.turn (h : DiskP w X H gs cs gn cn A c d) (hf : Fr (fun b => b = gn) w w') {L : List Sec} (hl : L.length = d.now.length) (hL : SecAt w' gn cn L) : DiskP w' X H gs cs gn cn A c { d with now := L } := by
  obtain ⟨hb, h1, h2, h3, h4, h5, h6, h7, h8, h9⟩ := h
  have hb' := hb.fr hf (fun e => h4.2.2 e.symm)
  rw [← hl] at hb'
  exact ⟨hb', h1.fr hf h4.1, hL, own_fr h3 hf (fun b hb => (h5 b hb).2.2.1), h4, h5, h6, h7.trans hl.symm, by show L.length ≤ 4096; omega, fun p hp => by have := h9 p hp; exact ⟨by show p.1 < L.length; omega, this.2⟩⟩
/-- What is safe has changed. -/
theorem DiskP.saved (h : DiskP w X H gs cs gn cn A c d) (hf : Fr (fun b => b = gs) w w') {L : List Sec} (hl : L.length = d.safe.length) (hL : SecAt w' gs cs L) : DiskP w' X H gs cs gn cn A c { d with safe := L } := by
  obtain ⟨hb, h1, h2, h3, h4, h5, h6, h7, h8, h9⟩ := h
  have hb' := hb.fr hf (fun e => h4.2.1 e.symm)
  rw [← hl] at hb'
  exact ⟨hb', hL, h2.fr hf (fun e => h4.1 e.symm), own_fr h3 hf (fun b hb => (h5 b hb).2.1), h4, h5, h6, hl.trans h7, h8, h9⟩
theorem DiskAt.fr (h : DiskAt w X H d) (hf : Fr S w w') (hX : ∀ b, X b → ¬ S b) : DiskAt w' X H d := by
  obtain ⟨gs, cs, gn, cn, A, c, h⟩ := h
  exact ⟨gs, cs, gn, cn, A, c, h.fr hf hX⟩
theorem DiskAt.fr0 (h : DiskAt w X H d) (hf : Fr No w w') : DiskAt w' X H d := h.fr hf (fun _ _ hn => hn)
theorem DiskAt.mono (h : DiskAt w X H d) (hX : ∀ b, b < w.heap.size → X b → Y b) : DiskAt w Y H d := by
  obtain ⟨gs, cs, gn, cn, A, c, h⟩ := h
  exact ⟨gs, cs, gn, cn, A, c, h.mono hX⟩
end
theorem ag_sec : AggOf Tryd.prog 88 128 := ⟨⟨_, Tryd.underlying88, rfl⟩, by kernel_rfl⟩
theorem ag_wrote : AggOf Tryd.prog 90 129 := ⟨⟨_, Tryd.underlying90, rfl⟩, by kernel_rfl⟩
theorem so_u8 : SliceOf Tryd.prog 40 5 (.int .u8 0) 1 1 := ⟨Tryd.underlying40, by kernel_rfl, rfl, by decide, by decide, by decide⟩
theorem so_sec : SliceOf Tryd.prog 84 88 (.agg (U8 zsec).toArray) 128 128 := ⟨Tryd.underlying84, by kernel_rfl, rfl, by decide, by decide, by decide⟩
theorem so_wrote : SliceOf Tryd.prog 85 90 (.agg (way1 (0, zsec)).toArray) 129 136 := ⟨Tryd.underlying85, by kernel_rfl, rfl, by decide, by decide, by decide⟩
end Go.Proofs.YtannkgglgmbkdaaDoor
namespace Go.Proofs.YtannkgglgmbkdaaDoor
set_option linter.unusedVariables false
set_option linter.unusedSimpArgs false
open Go.RowKit

theorem plain_of {T : TypeId} {d : TypeDesc} (h : Tryd.prog.underlying T = some d) (hd : (match d with | .struct _ | .array _ _ => true | _ => false) = false) : ∀ w, (isAgg T).run Tryd.prog w = .ok false w := by
  intro w
  unfold isAgg
  rw [Sem.run_bind, run_underlying h w]
  cases d <;> simp_all
theorem plain_int : ∀ w, (isAgg 3).run Tryd.prog w = .ok false w := plain_of Tryd.underlying3 rfl
theorem plain_bool : ∀ w, (isAgg 4).run Tryd.prog w = .ok false w := plain_of Tryd.underlying4 rfl
theorem plain_lsec : ∀ w, (isAgg 84).run Tryd.prog w = .ok false w := plain_of Tryd.underlying84 rfl
theorem plain_lwrote : ∀ w, (isAgg 85).run Tryd.prog w = .ok false w := plain_of Tryd.underlying85 rfl
set_option maxRecDepth 100000 in
theorem run_neq_sec (w : World) (xs ys : Sec) (hx : xs.length = 128) (hy : ys.length = 128) : (binOp .neq 88 (.agg (U8 xs).toArray) (.agg (U8 ys).toArray)).run Tryd.prog w = .ok (.bool (!(xs == ys))) w := by
  have h := run_equalIn_bytes (P := Tryd.prog) w 9998 88 5 128 Tryd.underlying88 Tryd.underlying5 (fun w => by unfold sizeOf typeInfo; rfl) xs ys hx hy
  rw [run_neq_struct]
  unfold U8
  have e : (fun b : UInt8 => Value.int .u8 (b.toNat : Int)) = Extern.Stop.cell := rfl
  rw [e, h]
  rfl
theorem eg_sec : Tryd.prog.eqGuardType Tryd.prog.depth 88 = false := by kernel_rfl
theorem T_neqSec {S : Nat → Prop} {ops : Array Oper} {Q : Exit → Act → World → Prop} {ms : List Nat} {ord calls : List Nat} {k : Nat} {l : List Oper} {o : Oper} {a : Act} {w : World} {xs ys : Sec} (hlx : xs.length = 128) (hly : ys.length = 128) {x y : Operand} {ty : TypeId}
    (hc : calls.contains (ord.getD k 0) = false) (hw : Region.wanted o (yielded ops a.tmps) = true) (hQ : ∀ v c a w, Q (.panic c) (a.put o.dst v) w → Q (.panic c) a w)
    (ho : o.op = .binOp .neq 88 x y ty) (hx : a.eval x = .agg (U8 xs).toArray) (hy : a.eval y = .agg (U8 ys).toArray)
    (h : wpT Tryd.prog S ops Q ms ord calls (k + 1) l (a.put o.dst (.bool (!(xs == ys)))) w) (hxm : calls.contains (ord.getD k 0 + 1000) = false := by rfl) : wpT Tryd.prog S ops Q ms ord calls k (o :: l) a w := by
  refine T_take hc hw (hQ _) (fun w' hf => ?_) h hxm
  unfold execOp
  simp only [ho, hx, hy, Sem.run_bind, run_eqGuard_agg w' .neq 88 x y (U8 xs).toArray (U8 ys).toArray eg_sec, Result.andThen_ok, run_neq_sec w' xs ys hlx hly, Sem.run_pure]
/-- What a sector's write comes to. -/
def oneM (d : DiskM) (k : Nat) (s : Sec) : DiskM × Bool :=
  if d.left = 1 then ({ d with dead := true }, false) else if d.dead then (d, false) else ({ d with left := d.left - 1, now := d.now.set k s, way := d.way ++ [(k, s)] }, true)
/-- What a call leaves of a device: it stands in Y, and nothing of others' has changed. -/
def Left (w : World) (X Y : Nat → Prop) (H : Nat) (d : DiskM) (w' : World) : Prop := DiskAt w' Y H d ∧ Fr X w w'
def OneR (w : World) (X Y : Nat → Prop) (H : Nat) (r : DiskM × Bool) (e : Ending) (w' : World) : Prop := e = .returned (.bool r.2) ∧ Left w X Y H r.1 w'

theorem way1_one (p : Nat × Sec) : ∀ u ∈ way1 p, u.oneCell' = true := by
  intro u hu
  rcases List.mem_cons.1 hu with rfl | hu
  · rfl
  · exact U8_one _ u hu
/-- A write more that is not safe. -/
theorem DiskP.more {w w' : World} {X Y : Nat → Prop} {H gs cs gn cn : Nat} {A A3 : Option Addr} {c c3 : Nat} {d : DiskM} {k : Nat} {s : Sec} (h : DiskP w X H gs cs gn cn A c d) (hown : w'.ownsRow 0 90 129 (.slice A3 (d.way.length + 1) c3) (d.way.length + 1) (ways d.way ++ way1 (k, s)))
    (hg : Fr (fun b => (Value.slice A d.way.length c).ownBlock = some b) w w') (hat : (Value.slice A3 (d.way.length + 1) c3).ownBlock = (Value.slice A d.way.length c).ownBlock ∨ (Value.slice A3 (d.way.length + 1) c3).ownBlock = some (w.heap.size + 1))
    (hXY : ∀ b, X b → Y b) (hY : ∀ b, w.heap.size ≤ b → Y b) (hk : k < d.now.length) (hs : s.length = 128) :
    DiskP (w'.setCell ⟨H, 2, none⟩ (.slice A3 (d.way.length + 1) c3)) Y H gs cs gn cn A3 c3 { d with way := d.way ++ [(k, s)] } ∧ Fr X w (w'.setCell ⟨H, 2, none⟩ (.slice A3 (d.way.length + 1) c3)) := by
  obtain ⟨hb, h1, h2, h3, h4, h5, h6, h7, h8, h9⟩ := h
  have hset : Fr (fun b => b = H) w' (w'.setCell ⟨H, 2, none⟩ (.slice A3 (d.way.length + 1) c3)) := (Fr.refl (fun b => b = H) w').set (.inr rfl) _
  have hv : ∀ b, (Value.slice A3 (d.way.length + 1) c3).ownBlock = some b → b ≠ H ∧ b ≠ gs ∧ b ≠ gn ∧ Y b := by
    intro b hb3
    rcases hat with e | e
    · rw [e] at hb3
      have := h5 b hb3
      exact ⟨this.1, this.2.1, this.2.2.1, hXY b this.2.2.2⟩
    · rw [e] at hb3
      injection hb3 with hb3
      have := hb.lt; have := h1.lt; have := h2.lt
      exact ⟨by omega, by omega, by omega, hY b (by omega)⟩
  have hbH := hb.fr hg (fun e => (h5 _ e).1 rfl)
  have hlen : (d.way ++ [(k, s)]).length = d.way.length + 1 := by simp
  have hw2 : ways (d.way ++ [(k, s)]) = ways d.way ++ way1 (k, s) := by rw [ways_append]; simp [ways]
  refine ⟨⟨?_, (h1.fr hg (fun e => (h5 _ e).2.1 rfl)).fr hset h4.2.1, (h2.fr hg (fun e => (h5 _ e).2.2.1 rfl)).fr hset h4.2.2, ?_, h4, ?_, ⟨hXY _ h6.1, hXY _ h6.2.1, hXY _ h6.2.2⟩, h7, h8, ?_⟩, ?_⟩
  · rw [hlen]; exact hbH.put 2 _
  · rw [hlen, hw2]; exact own_fr hown hset (fun b hb => (hv b hb).1)
  · rw [hlen]; exact hv
  · intro p hp
    rcases List.mem_append.1 hp with hp | hp
    · exact h9 p hp
    · obtain rfl := List.mem_singleton.1 hp
      exact ⟨hk, hs⟩
  · exact (hg.mono (fun b _ hb => (h5 b hb).2.2.2)).trans (hset.mono (fun b _ hb => by subst hb; exact h6.1)) (fun _ _ hb => hb)

set_option maxHeartbeats 4000000 in
set_option maxRecDepth 100000 in
theorem one_calls (w : World) (X Y : Nat → Prop) (H : Nat) (d : DiskM) (k : Nat) (s : Sec) (h : DiskAt w X H d) (hk : k < d.now.length) (hs : s.length = 128) (hway : d.way.length ≤ 100000) (hleft : d.left ≤ 1000000)
    (hXY : ∀ b, X b → Y b) (hY : ∀ b, w.heap.size ≤ b → Y b) :
    Calls Tryd.prog 52 #[.pointer (some ⟨H, 0, none⟩), .agg (way1 (k, s)).toArray] w (OneR w X Y H (oneM d k s)) := by
  obtain ⟨gs, cs, gn, cn, A, c, hP⟩ := h
  obtain ⟨hb, hsafe, hnow, hown, hne, hv, hX, hlen, hmax, hwf⟩ := id hP
  have g1 := plain_int
  have g2 := plain_bool
  have g3 := plain_lsec
  have g4 := plain_lwrote
  have hbT := Blk.new w 90 (way1 (k, s)).toArray
  have hf1 : Fr No w (w.alloc (.cells (way1 (k, s)).toArray 90)) := (Fr.refl No w).alloc _
  have hb1 := hb.fr0 hf1
  have q3 := hb1.cell 3
  have q4 := hb1.cell 4
  have r3 := hb.cell 3
  have r4 := hb.cell 4
  have y3 := hb.frozen 3
  have y4 := hb.frozen 4
  simp only [List.getElem?_toArray, List.getElem?_cons_zero, List.getElem?_cons_succ] at q3 q4 r3 r4
  have hHlt := hb.lt
  have hnT : ¬ (w.heap.size = H) := by omega
  have hnT2 : ¬ (H = w.heap.size) := by omega
  have HV := Lib.hid hv
  have HW := Lib.hid hwf
  clear hv hwf
  by_cases hl1 : d.left = 1
  · have e1 : ((d.left : Int) == 1) = true := by rw [hl1]; rfl
    have HR := Lib.hid (show oneM d k s = ({ d with dead := true }, false) by unfold oneM; rw [if_pos hl1])
    clear hl1
    go_enter Tryd.func52, Tryd.ntmps52
    go_wp2
    go_ret
    rw [HR.out]
    have hset : Fr (fun b => b = H) w ((w.setCell ⟨H, 3, none⟩ (.bool true)).alloc (.cells (way1 (k, s)).toArray 90)) := ((Fr.refl (fun b => b = H) w).set (.inr rfl) _).alloc _
    exact ⟨rfl, ⟨gs, cs, gn, cn, A, c, (hP.head hset ((hb.put 3 (.bool true)).alloc _)).mono (fun b hb hx => hXY b hx)⟩, hset.mono (fun b _ hb => by subst hb; exact hX.1)⟩
  have e1 : ((d.left : Int) == 1) = false := by rw [beq_eq_false_iff_ne]; omega
  cases hdead : d.dead with
  | true =>
    rw [hdead] at q3 r3
    have HR := Lib.hid (show oneM d k s = (d, false) by unfold oneM; rw [if_neg hl1, if_pos hdead])
    clear hl1 hdead
    go_enter Tryd.func52, Tryd.ntmps52
    go_wp2
    go_ret
    rw [HR.out]
    exact ⟨rfl, ⟨gs, cs, gn, cn, A, c, (hP.fr0 hf1).mono (fun b hb hx => hXY b hx)⟩, hf1.mono (fun b _ hb => hb.elim)⟩
  | false =>
    rw [hdead] at q3 r3
    have hdn : ¬ (d.dead = true) := by rw [hdead]; exact Bool.false_ne_true
    have HR := Lib.hid (show oneM d k s = ({ d with left := d.left - 1, now := d.now.set k s, way := d.way ++ [(k, s)] }, true) by unfold oneM; rw [if_neg hl1, if_neg hdn])
    have HD := Lib.hid hdead
    obtain ⟨m, hm⟩ : ∃ m : Nat, m = d.left - 1 := ⟨_, rfl⟩
    have HM := Lib.hid (show (m : Int) = max 0 ((d.left : Int) - 1) by omega)
    have HM2 := Lib.hid hm
    clear hl1 hdead hdn hm
    go_enter Tryd.func52, Tryd.ntmps52
    go_wp2_with (first
      | (refine wpList_max (t := 3) 0 ((d.left : Int) - 1) (m : Int) HM.out rfl rfl rfl rfl ?_)
      | fail)
    have hset : Fr (fun b => b = H) w ((w.setCell ⟨H, 4, none⟩ (.int .i64 (m : Int))).alloc (.cells (way1 (k, s)).toArray 90)) := ((Fr.refl (fun b => b = H) w).set (.inr rfl) _).alloc _
    have hP2 := hP.head hset (dead := d.dead) (left := m) ((hb.put 4 (.int .i64 (m : Int))).alloc _)
    have hbT2 : Blk ((w.setCell ⟨H, 4, none⟩ (.int .i64 (m : Int))).alloc (.cells (way1 (k, s)).toArray 90)) w.heap.size 90 (way1 (k, s)).toArray := Blk.newAt (by simp)
    clear hb1 hbT hf1 q3 q4 r3 r4 y3 y4
    generalize hw2 : (w.setCell ⟨H, 4, none⟩ (.int .i64 (m : Int))).alloc (.cells (way1 (k, s)).toArray 90) = w2 at *
    clear hw2
    obtain ⟨hb2, hsafe2, hnow2, hown2, hne2, hv2, hX2, _⟩ := id hP2
    clear hv2 hX2
    have hsz2 := hset.size
    have q1 := hb2.cell 1
    have q2 := hb2.cell 2
    have p0 : w2.cell? ⟨w.heap.size, 0, none⟩ = some (.int .i64 (k : Int)) := hbT2.cell 0
    simp only [List.getElem?_toArray, List.getElem?_cons_zero, List.getElem?_cons_succ] at q1 q2
    have hcs : ∀ j u, (U8 s)[j]? = some u → w2.cell? ((⟨w.heap.size, 1, none⟩ : Addr).add j) = some u := hbT2.cells 1 (U8 s) (fun j u hu => by
      rw [List.getElem?_toArray, Nat.add_comm]; exact hu)
    have hls : (U8 s).length = 128 := by rw [U8_length, hs]
    have hcx := hnow2.at_ hk
    have hlx : d.now[k].length = 128 := hnow2.1 _ (List.getElem_mem hk)
    generalize hx : d.now[k] = x at hcx hlx
    have HX := Lib.hid hx
    have hlx2 : (U8 x).length = 128 := by rw [U8_length, hlx]
    have hkc : d.now.length ≤ cn := hnow2.2.1
    clear hx
    have hne1 := hne2.1
    have hneS : ¬ (w.heap.size = gn) := by have := hnow.lt; omega
    (refine T_begin No [0, 1, 2, 3, 4, 5, 6, 7, 8, 9, 10] [] (by kernel_rfl) (by kernel_rfl) ?_; simp only [pickOps, List.filterMap_cons, List.filterMap_nil, List.getElem?_cons_zero, List.getElem?_cons_succ, Act.put])
    repeat (first | (refine T_skip (by rfl) (by rfl) (fun _ _ _ h => h) ?_; try simp only [Act.put, List.setIfInBounds_toArray, List.set_cons_zero, List.set_cons_succ]) | (refine T_pass (by rfl) (by rfl) ?_; try simp only [Act.put, List.setIfInBounds_toArray, List.set_cons_zero, List.set_cons_succ]) | (refine T_load (by assumption) (by rfl) (by rfl) (fun _ _ _ _ h => h) rfl rfl (by assumption) (by first | exact (fun hn => hn) | assumption) ?_; try simp only [Act.put, List.setIfInBounds_toArray, List.set_cons_zero, List.set_cons_succ]) | (refine T_nil (by rfl) (by rfl) (fun _ _ _ _ h => h) rfl rfl ?_; try simp only [Act.put, List.setIfInBounds_toArray, List.set_cons_zero, List.set_cons_succ]) | (refine T_quietN (by rfl) (by rfl) (by rfl) (by rfl) (fun _ _ _ _ h => h) (fun K hK => ?_); go_big_quiet_op; refine hK _ ?_; clear hK K) | (refine T_two (by rfl) (by rfl) (by rfl) (by rfl) (fun _ _ _ _ h => h) (fun K hK => ?_); go_big_quiet_op; refine ⟨_, fun _ _ => rfl, ?_⟩; refine hK _ ?_; clear hK K; try simp only [Act.put, List.setIfInBounds_toArray, List.set_cons_zero, List.set_cons_succ]) | fail)
    refine T_loadA (cs := U8 x) ag_sec (by rfl) (by rfl) (fun _ _ _ _ h => h) rfl rfl hlx2 hcx (fun hn => hn) ?_
    try simp only [Act.put, List.setIfInBounds_toArray, List.set_cons_zero, List.set_cons_succ]
    repeat (first | (refine T_skip (by rfl) (by rfl) (fun _ _ _ h => h) ?_; try simp only [Act.put, List.setIfInBounds_toArray, List.set_cons_zero, List.set_cons_succ]) | (refine T_pass (by rfl) (by rfl) ?_; try simp only [Act.put, List.setIfInBounds_toArray, List.set_cons_zero, List.set_cons_succ]) | (refine T_load (by assumption) (by rfl) (by rfl) (fun _ _ _ _ h => h) rfl rfl (by assumption) (by first | exact (fun hn => hn) | assumption) ?_; try simp only [Act.put, List.setIfInBounds_toArray, List.set_cons_zero, List.set_cons_succ]) | (refine T_nil (by rfl) (by rfl) (fun _ _ _ _ h => h) rfl rfl ?_; try simp only [Act.put, List.setIfInBounds_toArray, List.set_cons_zero, List.set_cons_succ]) | (refine T_quietN (by rfl) (by rfl) (by rfl) (by rfl) (fun _ _ _ _ h => h) (fun K hK => ?_); go_big_quiet_op; refine hK _ ?_; clear hK K) | (refine T_two (by rfl) (by rfl) (by rfl) (by rfl) (fun _ _ _ _ h => h) (fun K hK => ?_); go_big_quiet_op; refine ⟨_, fun _ _ => rfl, ?_⟩; refine hK _ ?_; clear hK K; try simp only [Act.put, List.setIfInBounds_toArray, List.set_cons_zero, List.set_cons_succ]) | fail)
    refine T_loadA (cs := U8 s) ag_sec (by rfl) (by rfl) (fun _ _ _ _ h => h) rfl rfl hls hcs (fun hn => hn) ?_
    try simp only [Act.put, List.setIfInBounds_toArray, List.set_cons_zero, List.set_cons_succ]
    refine T_neqSec hlx hs (by rfl) (by rfl) (fun _ _ _ _ h => h) rfl rfl rfl ?_
    try simp only [Act.put, List.setIfInBounds_toArray, List.set_cons_zero, List.set_cons_succ]
    refine T_done ?_
    have hsl : (d.now.set k s).length = d.now.length := by simp
    have hlw : (way1 (k, s)).length = 129 := by simp [way1, U8_length, hs]
    have hneH : ¬ (H = gn) := fun e => hne2.2.2 e.symm
    have HCS := Lib.hid hcs
    clear hcs hcx p0 q1
    have HLW := Lib.hid hlw
    have HLS := Lib.hid hls
    have HLX := Lib.hid hlx
    have HS := Lib.hid hs
    have HSL := Lib.hid hsl
    clear hlw hls hlx hlx2 hsl hs
    cases hxs : (x == s) with
    | true =>
      have hP3 : DiskP w2 X H gs cs gn cn A c { { d with dead := d.dead, left := m } with now := d.now.set k s } := by
        have e : x = s := by simpa using hxs
        have e2 : d.now.set k s = d.now := by rw [← e, ← HX.out, List.set_getElem_self]
        rw [e2]; exact hP2
      have hbT3 := hbT2
      have hf23 : Fr (fun b => b = gn) w2 w2 := Fr.refl _ _
      clear hxs
      go_wp2_with fail
      have hlw := HLW.out
      have hb3' := hP3.1
      have hown3 := hP3.2.2.2.1
      dsimp only at hb3' hown3
      have q2' := hb3'.cell 2
      simp only [List.getElem?_toArray, List.getElem?_cons_zero, List.getElem?_cons_succ] at q2'
      have hcw := hbT3.all
      have hST : ¬ ((Value.slice A d.way.length c).ownBlock = some w.heap.size) := fun hh => by have := (hown.lt _ hh).2; omega
      have hSH : ¬ ((Value.slice A d.way.length c).ownBlock = some H) := fun hh => (HV.out _ hh).1 rfl
      refine T_begin2 (fun b => (Value.slice A d.way.length c).ownBlock = some b) [10] [0, 1, 2, 3, 4, 5, 6, 7, 8, 9, 10] [6, 7, 10] (by kernel_rfl) (by kernel_rfl) ?_
      simp only [pickOps, List.filterMap_cons, List.filterMap_nil, List.getElem?_cons_zero, List.getElem?_cons_succ, Act.put]
      repeat (first | (refine T_skip (by rfl) (by rfl) (fun _ _ _ h => h) ?_; try simp only [Act.put, List.setIfInBounds_toArray, List.set_cons_zero, List.set_cons_succ]) | (refine T_pass (by rfl) (by rfl) ?_; try simp only [Act.put, List.setIfInBounds_toArray, List.set_cons_zero, List.set_cons_succ]) | (refine T_load (by assumption) (by rfl) (by rfl) (fun _ _ _ _ h => h) rfl rfl (by assumption) (by first | exact (fun hn => hn) | assumption) ?_; try simp only [Act.put, List.setIfInBounds_toArray, List.set_cons_zero, List.set_cons_succ]) | (refine T_nil (by rfl) (by rfl) (fun _ _ _ _ h => h) rfl rfl ?_; try simp only [Act.put, List.setIfInBounds_toArray, List.set_cons_zero, List.set_cons_succ]) | (refine T_quietN (by rfl) (by rfl) (by rfl) (by rfl) (fun _ _ _ _ h => h) (fun K hK => ?_); go_big_quiet_op; refine hK _ ?_; clear hK K) | (refine T_two (by rfl) (by rfl) (by rfl) (by rfl) (fun _ _ _ _ h => h) (fun K hK => ?_); go_big_quiet_op; refine ⟨_, fun _ _ => rfl, ?_⟩; refine hK _ ?_; clear hK K; try simp only [Act.put, List.setIfInBounds_toArray, List.set_cons_zero, List.set_cons_succ]) | fail)
      refine T_loadA (cs := way1 (k, s)) ag_wrote (by rfl) (by rfl) (fun _ _ _ _ h => h) rfl rfl hlw hcw hST ?_
      try simp only [Act.put, List.setIfInBounds_toArray, List.set_cons_zero, List.set_cons_succ]
      refine T_call (by rfl) (by rfl) (fun K hK => ?_)
      refine wp_buildOne so_wrote (by decide) (way1 (k, s)) hlw rfl rfl ?_
      (refine hK.out _ _ (((Fr.refl _ _).alloc _)) ?_; clear hK K; try simp only [Act.put, List.setIfInBounds_toArray, List.set_cons_zero, List.set_cons_succ])
      refine T_call (by rfl) (by rfl) (fun K hK => ?_)
      refine wp_app_at so_wrote (own_fr0 hown3 ((Fr.refl No _).drew.drew.alloc (.cells (way1 (k, s)).toArray 90))) ((Blk.new _ _ _).rd (size := 129) (n := 1) (by simpa using hlw) (by decide)) (way1_one _) (by omega) (Nat.zero_le _) rfl rfl rfl ?_
      intro v5 w5 hown5 hg5 hat5
      refine hK.out _ _ ((Fr.refl _ _).grown hg5 (fun q hq => .inr hq)) ?_
      clear hK K
      try simp only [Act.put, List.setIfInBounds_toArray, List.set_cons_zero, List.set_cons_succ]
      have hb5 := (hb3'.drew.drew.alloc (.cells (way1 (k, s)).toArray 90)).grown hg5 (fun hh => hSH hh.symm)
      obtain ⟨A3, c3, rfl, hc3, _, hA3⟩ := own_form hown5
      have q52 := hb5.cell 2
      have z52 := hb5.frozen 2
      simp only [List.getElem?_toArray, List.getElem?_cons_zero, List.getElem?_cons_succ] at q52
      repeat (first | (refine T_skip (by rfl) (by rfl) (fun _ _ _ h => h) ?_; try simp only [Act.put, List.setIfInBounds_toArray, List.set_cons_zero, List.set_cons_succ]) | (refine T_pass (by rfl) (by rfl) ?_; try simp only [Act.put, List.setIfInBounds_toArray, List.set_cons_zero, List.set_cons_succ]) | (refine T_load (by assumption) (by rfl) (by rfl) (fun _ _ _ _ h => h) rfl rfl (by assumption) (by first | exact (fun hn => hn) | assumption) ?_; try simp only [Act.put, List.setIfInBounds_toArray, List.set_cons_zero, List.set_cons_succ]) | (refine T_nil (by rfl) (by rfl) (fun _ _ _ _ h => h) rfl rfl ?_; try simp only [Act.put, List.setIfInBounds_toArray, List.set_cons_zero, List.set_cons_succ]) | (refine T_quietN (by rfl) (by rfl) (by rfl) (by rfl) (fun _ _ _ _ h => h) (fun K hK => ?_); go_big_quiet_op; refine hK _ ?_; clear hK K) | (refine T_two (by rfl) (by rfl) (by rfl) (by rfl) (fun _ _ _ _ h => h) (fun K hK => ?_); go_big_quiet_op; refine ⟨_, fun _ _ => rfl, ?_⟩; refine hK _ ?_; clear hK K; try simp only [Act.put, List.setIfInBounds_toArray, List.set_cons_zero, List.set_cons_succ]) | fail)
      refine T_turn No [] (by rfl) (by rfl) (by rfl) (fun K hK => ?_)
      go_wp2_with fail
      refine hK.out _ _ ?_
      clear hK K
      refine T_done ?_
      go_wp2
      go_ret
      have hg5b := ((Fr.refl (fun b => (Value.slice A d.way.length c).ownBlock = some b) _).drew.drew.alloc (.cells (way1 (k, s)).toArray 90)).grown hg5 (fun q hq => .inr hq)
      have hmr := hP3.more (Y := Y) hown5 hg5b (by simpa using hat5) hXY (fun b hb => hY b (by have := hset.size; have := hf23.size; omega)) (by simpa using hk) HS.out
      rw [HR.out]
      refine ⟨rfl, ⟨gs, cs, gn, cn, A3, c3, ?_⟩, ?_⟩
      · have h3 := hmr.1
        rw [HM2.out] at h3
        exact h3
      · exact (hset.mono (T := X) (fun b _ hb => by subst hb; exact hX.1)).trans ((hf23.mono (T := X) (fun b _ hb => by subst hb; exact hX.2.2)).trans hmr.2 (fun _ _ hb => hb)) (fun _ _ hb => hb)
    | false =>
      clear hxs
      go_wp2_with fail
      obtain ⟨n1, n2, n3, cur, hbn, n4, n5⟩ := id hnow2
      have p0 : w2.cell? ⟨w.heap.size, 0, none⟩ = some (.int .i64 (k : Int)) := hbT2.cell 0
      have q1 := hb2.cell 1
      simp only [List.getElem?_toArray, List.getElem?_cons_zero, List.getElem?_cons_succ] at q1
      (refine T_begin (fun b => b = gn) [0, 1, 2, 3, 4, 5, 6, 7, 8, 9] [9] (by kernel_rfl) (by kernel_rfl) ?_; simp only [pickOps, List.filterMap_cons, List.filterMap_nil, List.getElem?_cons_zero, List.getElem?_cons_succ, Act.put])
      repeat (first | (refine T_skip (by rfl) (by rfl) (fun _ _ _ h => h) ?_; try simp only [Act.put, List.setIfInBounds_toArray, List.set_cons_zero, List.set_cons_succ]) | (refine T_pass (by rfl) (by rfl) ?_; try simp only [Act.put, List.setIfInBounds_toArray, List.set_cons_zero, List.set_cons_succ]) | (refine T_load (by assumption) (by rfl) (by rfl) (fun _ _ _ _ h => h) rfl rfl (by assumption) (by first | exact (fun hn => hn) | assumption) ?_; try simp only [Act.put, List.setIfInBounds_toArray, List.set_cons_zero, List.set_cons_succ]) | (refine T_nil (by rfl) (by rfl) (fun _ _ _ _ h => h) rfl rfl ?_; try simp only [Act.put, List.setIfInBounds_toArray, List.set_cons_zero, List.set_cons_succ]) | (refine T_quietN (by rfl) (by rfl) (by rfl) (by rfl) (fun _ _ _ _ h => h) (fun K hK => ?_); go_big_quiet_op; refine hK _ ?_; clear hK K) | (refine T_two (by rfl) (by rfl) (by rfl) (by rfl) (fun _ _ _ _ h => h) (fun K hK => ?_); go_big_quiet_op; refine ⟨_, fun _ _ => rfl, ?_⟩; refine hK _ ?_; clear hK K; try simp only [Act.put, List.setIfInBounds_toArray, List.set_cons_zero, List.set_cons_succ]) | fail)
      refine T_loadA (cs := U8 s) ag_sec (by rfl) (by rfl) (fun _ _ _ _ h => h) rfl rfl HLS.out HCS.out hneS ?_
      try simp only [Act.put, List.setIfInBounds_toArray, List.set_cons_zero, List.set_cons_succ]
      repeat (first | (refine T_skip (by rfl) (by rfl) (fun _ _ _ h => h) ?_; try simp only [Act.put, List.setIfInBounds_toArray, List.set_cons_zero, List.set_cons_succ]) | (refine T_pass (by rfl) (by rfl) ?_; try simp only [Act.put, List.setIfInBounds_toArray, List.set_cons_zero, List.set_cons_succ]) | (refine T_load (by assumption) (by rfl) (by rfl) (fun _ _ _ _ h => h) rfl rfl (by assumption) (by first | exact (fun hn => hn) | assumption) ?_; try simp only [Act.put, List.setIfInBounds_toArray, List.set_cons_zero, List.set_cons_succ]) | (refine T_nil (by rfl) (by rfl) (fun _ _ _ _ h => h) rfl rfl ?_; try simp only [Act.put, List.setIfInBounds_toArray, List.set_cons_zero, List.set_cons_succ]) | (refine T_quietN (by rfl) (by rfl) (by rfl) (by rfl) (fun _ _ _ _ h => h) (fun K hK => ?_); go_big_quiet_op; refine hK _ ?_; clear hK K) | (refine T_two (by rfl) (by rfl) (by rfl) (by rfl) (fun _ _ _ _ h => h) (fun K hK => ?_); go_big_quiet_op; refine ⟨_, fun _ _ => rfl, ?_⟩; refine hK _ ?_; clear hK K; try simp only [Act.put, List.setIfInBounds_toArray, List.set_cons_zero, List.set_cons_succ]) | fail)
      refine T_call (by rfl) (by rfl) (fun K hK => ?_)
      refine wp_stA ag_sec.info _ _ rfl gn (k * 128) _ cur (U8 s) _ rfl rfl rfl HLS.out (U8_one s) hbn (by rw [n4]; have : d.now.length ≤ cn := n2; omega) ?_
      intro w3 hb3 hg3 hz3
      refine hK.out _ _ ((Fr.refl _ _).grown hg3 (fun q hq => by injection hq with hq; exact .inr hq.symm)) ?_
      clear hK K
      try simp only [Act.put, List.setIfInBounds_toArray, List.set_cons_zero, List.set_cons_succ]
      refine T_done ?_
      have hf23 : Fr (fun b => b = gn) w2 w3 := ((Fr.refl (fun b => b = gn) w2).drew.drew).grown hg3 (fun q hq => by injection hq with hq; exact .inr hq.symm)
      have hP3 := hP2.turn hf23 HSL.out (SecAt.put hnow2 hk HS.out hbn hb3)
      have hbT3 := hbT2.fr hf23 hneS
      clear n5 p0 q1
      go_wp2_with fail
      have hlw := HLW.out
      have hb3' := hP3.1
      have hown3 := hP3.2.2.2.1
      dsimp only at hb3' hown3
      have q2' := hb3'.cell 2
      simp only [List.getElem?_toArray, List.getElem?_cons_zero, List.getElem?_cons_succ] at q2'
      have hcw := hbT3.all
      have hST : ¬ ((Value.slice A d.way.length c).ownBlock = some w.heap.size) := fun hh => by have := (hown.lt _ hh).2; omega
      have hSH : ¬ ((Value.slice A d.way.length c).ownBlock = some H) := fun hh => (HV.out _ hh).1 rfl
      refine T_begin2 (fun b => (Value.slice A d.way.length c).ownBlock = some b) [10] [0, 1, 2, 3, 4, 5, 6, 7, 8, 9, 10] [6, 7, 10] (by kernel_rfl) (by kernel_rfl) ?_
      simp only [pickOps, List.filterMap_cons, List.filterMap_nil, List.getElem?_cons_zero, List.getElem?_cons_succ, Act.put]
      repeat (first | (refine T_skip (by rfl) (by rfl) (fun _ _ _ h => h) ?_; try simp only [Act.put, List.setIfInBounds_toArray, List.set_cons_zero, List.set_cons_succ]) | (refine T_pass (by rfl) (by rfl) ?_; try simp only [Act.put, List.setIfInBounds_toArray, List.set_cons_zero, List.set_cons_succ]) | (refine T_load (by assumption) (by rfl) (by rfl) (fun _ _ _ _ h => h) rfl rfl (by assumption) (by first | exact (fun hn => hn) | assumption) ?_; try simp only [Act.put, List.setIfInBounds_toArray, List.set_cons_zero, List.set_cons_succ]) | (refine T_nil (by rfl) (by rfl) (fun _ _ _ _ h => h) rfl rfl ?_; try simp only [Act.put, List.setIfInBounds_toArray, List.set_cons_zero, List.set_cons_succ]) | (refine T_quietN (by rfl) (by rfl) (by rfl) (by rfl) (fun _ _ _ _ h => h) (fun K hK => ?_); go_big_quiet_op; refine hK _ ?_; clear hK K) | (refine T_two (by rfl) (by rfl) (by rfl) (by rfl) (fun _ _ _ _ h => h) (fun K hK => ?_); go_big_quiet_op; refine ⟨_, fun _ _ => rfl, ?_⟩; refine hK _ ?_; clear hK K; try simp only [Act.put, List.setIfInBounds_toArray, List.set_cons_zero, List.set_cons_succ]) | fail)
      refine T_loadA (cs := way1 (k, s)) ag_wrote (by rfl) (by rfl) (fun _ _ _ _ h => h) rfl rfl hlw hcw hST ?_
      try simp only [Act.put, List.setIfInBounds_toArray, List.set_cons_zero, List.set_cons_succ]
      refine T_call (by rfl) (by rfl) (fun K hK => ?_)
      refine wp_buildOne so_wrote (by decide) (way1 (k, s)) hlw rfl rfl ?_
      (refine hK.out _ _ (((Fr.refl _ _).alloc _)) ?_; clear hK K; try simp only [Act.put, List.setIfInBounds_toArray, List.set_cons_zero, List.set_cons_succ])
      refine T_call (by rfl) (by rfl) (fun K hK => ?_)
      refine wp_app_at so_wrote (own_fr0 hown3 ((Fr.refl No _).drew.alloc (.cells (way1 (k, s)).toArray 90))) ((Blk.new _ _ _).rd (size := 129) (n := 1) (by simpa using hlw) (by decide)) (way1_one _) (by omega) (Nat.zero_le _) rfl rfl rfl ?_
      intro v5 w5 hown5 hg5 hat5
      refine hK.out _ _ ((Fr.refl _ _).grown hg5 (fun q hq => .inr hq)) ?_
      clear hK K
      try simp only [Act.put, List.setIfInBounds_toArray, List.set_cons_zero, List.set_cons_succ]
      have hb5 := (hb3'.drew.alloc (.cells (way1 (k, s)).toArray 90)).grown hg5 (fun hh => hSH hh.symm)
      obtain ⟨A3, c3, rfl, hc3, _, hA3⟩ := own_form hown5
      have q52 := hb5.cell 2
      have z52 := hb5.frozen 2
      simp only [List.getElem?_toArray, List.getElem?_cons_zero, List.getElem?_cons_succ] at q52
      repeat (first | (refine T_skip (by rfl) (by rfl) (fun _ _ _ h => h) ?_; try simp only [Act.put, List.setIfInBounds_toArray, List.set_cons_zero, List.set_cons_succ]) | (refine T_pass (by rfl) (by rfl) ?_; try simp only [Act.put, List.setIfInBounds_toArray, List.set_cons_zero, List.set_cons_succ]) | (refine T_load (by assumption) (by rfl) (by rfl) (fun _ _ _ _ h => h) rfl rfl (by assumption) (by first | exact (fun hn => hn) | assumption) ?_; try simp only [Act.put, List.setIfInBounds_toArray, List.set_cons_zero, List.set_cons_succ]) | (refine T_nil (by rfl) (by rfl) (fun _ _ _ _ h => h) rfl rfl ?_; try simp only [Act.put, List.setIfInBounds_toArray, List.set_cons_zero, List.set_cons_succ]) | (refine T_quietN (by rfl) (by rfl) (by rfl) (by rfl) (fun _ _ _ _ h => h) (fun K hK => ?_); go_big_quiet_op; refine hK _ ?_; clear hK K) | (refine T_two (by rfl) (by rfl) (by rfl) (by rfl) (fun _ _ _ _ h => h) (fun K hK => ?_); go_big_quiet_op; refine ⟨_, fun _ _ => rfl, ?_⟩; refine hK _ ?_; clear hK K; try simp only [Act.put, List.setIfInBounds_toArray, List.set_cons_zero, List.set_cons_succ]) | fail)
      refine T_turn No [] (by rfl) (by rfl) (by rfl) (fun K hK => ?_)
      go_wp2_with fail
      refine hK.out _ _ ?_
      clear hK K
      refine T_done ?_
      go_wp2
      go_ret
      have hg5b := ((Fr.refl (fun b => (Value.slice A d.way.length c).ownBlock = some b) _).drew.alloc (.cells (way1 (k, s)).toArray 90)).grown hg5 (fun q hq => .inr hq)
      have hmr := hP3.more (Y := Y) hown5 hg5b (by simpa using hat5) hXY (fun b hb => hY b (by have := hset.size; have := hf23.size; omega)) (by simpa using hk) HS.out
      rw [HR.out]
      refine ⟨rfl, ⟨gs, cs, gn, cn, A3, c3, ?_⟩, ?_⟩
      · have h3 := hmr.1
        rw [HM2.out] at h3
        exact h3
      · exact (hset.mono (T := X) (fun b _ hb => by subst hb; exact hX.1)).trans ((hf23.mono (T := X) (fun b _ hb => by subst hb; exact hX.2.2)).trans hmr.2 (fun _ _ hb => hb)) (fun _ _ hb => hb)
end Go.Proofs.YtannkgglgmbkdaaDoor
namespace Go.Proofs.YtannkgglgmbkdaaDoor
set_option linter.unusedVariables false
set_option linter.unusedSimpArgs false
open Go.RowKit

theorem made_u8 (n : Nat) : madeCells #[Value.int .u8 0] n = (U8 (List.replicate n 0)).toArray := by
  rw [← Array.toArray_toList (xs := madeCells _ n), toList_madeCells_one]
  simp [U8]
theorem made_any (z : Array Value) (v : Value) (n : Nat) (hz : 0 < z.size) (h : ∀ i (hi : i < z.size), z[i] = v) : (madeCells z n).toList = List.replicate n v := by
  apply List.ext_getElem
  · simp [size_madeCells]
  · intro i h1 h2
    have hm : i % z.size < z.size := Nat.mod_lt _ hz
    simp only [madeCells, Array.getElem_toList, Array.getElem_map, Array.getElem_range, List.getElem_replicate]
    rw [getElem!_pos z (i % z.size) hm, h _ hm]
theorem made_sec (n : Nat) : madeCells (U8 zsec).toArray n = (U8 (List.replicate n 0)).toArray := by
  unfold zsec
  rw [← Array.toArray_toList (xs := madeCells _ n), made_any _ (.int .u8 0) n (by rw [List.size_toArray, U8_length, List.length_replicate]; decide) (fun i hi => by
    rw [List.getElem_toArray]
    have : i < 128 := by rw [List.size_toArray, U8_length, List.length_replicate] at hi; exact hi
    unfold U8
    rw [List.getElem_map, List.getElem_replicate]; rfl)]
  unfold U8
  rw [List.map_replicate]; rfl
theorem fill_set (k m : Nat) (b : UInt8) (h : k < m) : (U8 (List.replicate k b ++ List.replicate (m - k) 0)).toArray.setIfInBounds k (.int .u8 (b.toNat : Int)) = (U8 (List.replicate (k + 1) b ++ List.replicate (m - (k + 1)) 0)).toArray := by
  obtain ⟨j, rfl⟩ : ∃ j, m = k + 1 + j := ⟨m - (k + 1), by omega⟩
  rw [show k + 1 + j - k = j + 1 by omega, show k + 1 + j - (k + 1) = j by omega, List.replicate_succ, List.replicate_succ']
  simp [U8, List.set_append]
theorem full_rd {w : World} {g n : Nat} {b : UInt8} (h : Blk w g 5 (U8 (List.replicate (n * 128) b)).toArray) (hn : n ≤ 4096) : Rd w (fun x => x = g) 1 (some ⟨g, 0, none⟩) (n * 128) (U8 (List.replicate (n * 128) b)) := by
  have := h.rd (size := 1) (n := n * 128) (by simp [U8_length]) (by omega)
  exact this
end Go.Proofs.YtannkgglgmbkdaaDoor
namespace Go.Proofs.YtannkgglgmbkdaaDoor
set_option linter.unusedVariables false
set_option linter.unusedSimpArgs false
open Go.RowKit

def zeros (n : Nat) : List Sec := List.replicate n zsec
def zeroM (n : Nat) : DiskM := ⟨zeros n, zeros n, [], false, 0⟩
theorem zeros_len (n : Nat) : Len128 (zeros n) := fun s hs => by obtain rfl := List.eq_of_mem_replicate hs; exact zsec_len
theorem secs_zeros (n : Nat) : secs (zeros n) = U8 (List.replicate (n * 128) 0) := by
  rw [secs_flat, zeros, zsec, List.flatten_replicate_replicate]
theorem SecAt.zeros {w : World} {g n : Nat} (h : Blk w g 88 (madeCells (U8 zsec).toArray (n * 128))) (hn : n ≤ 4096) : SecAt w g n (zeros n) := by
  rw [made_sec] at h
  refine ⟨zeros_len n, by simp [Proofs.YtannkgglgmbkdaaDoor.zeros], Nat.le_trans hn (by decide), _, h, by simp [U8_length], fun j u hu => ?_⟩
  rw [secs_zeros] at hu
  simpa using hu
theorem DiskP.start {w : World} {X : Nat → Prop} {H gs gn n : Nat} (hb : Blk w H 87 #[.slice (some ⟨gs, 0, none⟩) n n, .slice (some ⟨gn, 0, none⟩) n n, .slice none 0 0, .bool false, .int .i64 0]) (hs : SecAt w gs n (zeros n)) (hn : SecAt w gn n (zeros n))
    (hne : gs ≠ gn ∧ gs ≠ H ∧ gn ≠ H) (hX : X H ∧ X gs ∧ X gn) (h4 : n ≤ 4096) : DiskP w X H gs n gn n none 0 (zeroM n) := by
  have hl : (zeros n).length = n := by simp [zeros]
  refine ⟨?_, hs, hn, World.ownsRow_nil _ _ _ _, hne, fun b hb => by simp [Value.ownBlock] at hb, hX, rfl, by show (zeros n).length ≤ 4096; omega, fun p hp => by cases hp⟩
  show Blk w H _ #[.slice _ (zeros n).length n, .slice _ (zeros n).length n, _, _, _]
  rw [hl]; exact hb

set_option maxHeartbeats 2000000 in
set_option maxRecDepth 100000 in
theorem new_calls (n : Nat) (h1 : 1 ≤ n) (h2 : n ≤ 4096) (w : World) :
    Calls Tryd.prog 26 #[.int .i64 (n : Int)] w fun e w' => ∃ H, w.heap.size ≤ H ∧ e = .returned (.tuple #[.pointer (some ⟨H, 0, none⟩), .int .i64 0]) ∧ DiskAt w' (fun b => w.heap.size ≤ b) H (zeroM n) ∧ Fr No w w' := by
  have e1 : decide ((n : Int) < 1) = false := by simp; omega
  have e2 : decide ((4096 : Int) < n) = false := by simp; omega
  have e3 : 0 < n := h1
  have e4 : ¬ (4096 < n) := by omega
  go_enter Tryd.func26, Tryd.ntmps26
  go_wp2_with fail
  refine T_begin No [0, 2, 1, 3, 4, 5, 6, 7] [1, 3, 5, 1001] (by kernel_rfl) (by kernel_rfl) ?_
  simp only [pickOps, List.filterMap_cons, List.filterMap_nil, List.getElem?_cons_zero, List.getElem?_cons_succ, Act.put]
  repeat (first | (refine T_skip (by rfl) (by rfl) (fun _ _ _ h => h) ?_; try simp only [Act.put, List.setIfInBounds_toArray, List.set_cons_zero, List.set_cons_succ]) | (refine T_pass (by rfl) (by rfl) ?_; try simp only [Act.put, List.setIfInBounds_toArray, List.set_cons_zero, List.set_cons_succ]) | (refine T_load (by assumption) (by rfl) (by rfl) (fun _ _ _ _ h => h) rfl rfl (by assumption) (by first | exact (fun hn => hn) | assumption) ?_; try simp only [Act.put, List.setIfInBounds_toArray, List.set_cons_zero, List.set_cons_succ]) | (refine T_nil (by rfl) (by rfl) (fun _ _ _ _ h => h) rfl rfl ?_; try simp only [Act.put, List.setIfInBounds_toArray, List.set_cons_zero, List.set_cons_succ]) | (refine T_quietN (by rfl) (by rfl) (by rfl) (by rfl) (fun _ _ _ _ h => h) (fun K hK => ?_); go_big_quiet_op; refine hK _ ?_; clear hK K) | (refine T_two (by rfl) (by rfl) (by rfl) (by rfl) (fun _ _ _ _ h => h) (fun K hK => ?_); go_big_quiet_op; refine ⟨_, fun _ _ => rfl, ?_⟩; refine hK _ ?_; clear hK K; try simp only [Act.put, List.setIfInBounds_toArray, List.set_cons_zero, List.set_cons_succ]) | fail)
  refine T_fork (ord2 := [0, 2, 3, 1, 4, 5, 6, 7]) (calls2 := [1, 3, 5, 1003]) (i := 1) (j := 3) (by kernel_rfl) rfl rfl rfl (by kernel_rfl) rfl rfl rfl (by rfl) (by rfl) (fun K hK => ?_) (fun K hK => ?_)
  · refine wp_make so_sec (n := n) (c := n) (Nat.le_refl _) (by omega) rfl rfl rfl ?_
    (refine hK.out _ _ (((Fr.refl _ _).alloc _)) ?_; clear hK K; try simp only [Act.put, List.setIfInBounds_toArray, List.set_cons_zero, List.set_cons_succ])
    refine T_call (by rfl) (by rfl) (fun K hK => ?_)
    refine wp_make so_sec (n := n) (c := n) (Nat.le_refl _) (by omega) rfl rfl rfl ?_
    (refine hK.out _ _ (((Fr.refl _ _).alloc _)) ?_; clear hK K; try simp only [Act.put, List.setIfInBounds_toArray, List.set_cons_zero, List.set_cons_succ])
    repeat (first | (refine T_skip (by rfl) (by rfl) (fun _ _ _ h => h) ?_; try simp only [Act.put, List.setIfInBounds_toArray, List.set_cons_zero, List.set_cons_succ]) | (refine T_pass (by rfl) (by rfl) ?_; try simp only [Act.put, List.setIfInBounds_toArray, List.set_cons_zero, List.set_cons_succ]) | (refine T_load (by assumption) (by rfl) (by rfl) (fun _ _ _ _ h => h) rfl rfl (by assumption) (by first | exact (fun hn => hn) | assumption) ?_; try simp only [Act.put, List.setIfInBounds_toArray, List.set_cons_zero, List.set_cons_succ]) | (refine T_nil (by rfl) (by rfl) (fun _ _ _ _ h => h) rfl rfl ?_; try simp only [Act.put, List.setIfInBounds_toArray, List.set_cons_zero, List.set_cons_succ]) | (refine T_quietN (by rfl) (by rfl) (by rfl) (by rfl) (fun _ _ _ _ h => h) (fun K hK => ?_); go_big_quiet_op; refine hK _ ?_; clear hK K) | (refine T_two (by rfl) (by rfl) (by rfl) (by rfl) (fun _ _ _ _ h => h) (fun K hK => ?_); go_big_quiet_op; refine ⟨_, fun _ _ => rfl, ?_⟩; refine hK _ ?_; clear hK K; try simp only [Act.put, List.setIfInBounds_toArray, List.set_cons_zero, List.set_cons_succ]) | fail)
    (refine T_call (by rfl) (by rfl) (fun K hK => ?_); go_wp2_with fail)
    (refine hK.out _ _ (((Fr.refl _ _).alloc _)) ?_; clear hK K; try simp only [Act.put, List.setIfInBounds_toArray, List.set_cons_zero, List.set_cons_succ])
    repeat (first | (refine T_skip (by rfl) (by rfl) (fun _ _ _ h => h) ?_; try simp only [Act.put, List.setIfInBounds_toArray, List.set_cons_zero, List.set_cons_succ]) | (refine T_pass (by rfl) (by rfl) ?_; try simp only [Act.put, List.setIfInBounds_toArray, List.set_cons_zero, List.set_cons_succ]) | (refine T_load (by assumption) (by rfl) (by rfl) (fun _ _ _ _ h => h) rfl rfl (by assumption) (by first | exact (fun hn => hn) | assumption) ?_; try simp only [Act.put, List.setIfInBounds_toArray, List.set_cons_zero, List.set_cons_succ]) | (refine T_nil (by rfl) (by rfl) (fun _ _ _ _ h => h) rfl rfl ?_; try simp only [Act.put, List.setIfInBounds_toArray, List.set_cons_zero, List.set_cons_succ]) | (refine T_quietN (by rfl) (by rfl) (by rfl) (by rfl) (fun _ _ _ _ h => h) (fun K hK => ?_); go_big_quiet_op; refine hK _ ?_; clear hK K) | (refine T_two (by rfl) (by rfl) (by rfl) (by rfl) (fun _ _ _ _ h => h) (fun K hK => ?_); go_big_quiet_op; refine ⟨_, fun _ _ => rfl, ?_⟩; refine hK _ ?_; clear hK K; try simp only [Act.put, List.setIfInBounds_toArray, List.set_cons_zero, List.set_cons_succ]) | fail)
    refine T_done ?_
    go_wp2
    go_ret2
    have hB1 := Blk.new w 88 (madeCells (U8 zsec).toArray (n * 128))
    have hB2 : Blk ((w.alloc (.cells (madeCells (U8 zsec).toArray (n * 128)) 88)).alloc (.cells (madeCells (U8 zsec).toArray (n * 128)) 88)) (w.heap.size + 1) 88 (madeCells (U8 zsec).toArray (n * 128)) := Blk.newAt (by simp)
    refine ⟨w.heap.size + 1 + 1, by omega, by simp, ⟨w.heap.size, n, (w.heap.size + 1), n, none, 0, ?_⟩, ((((Fr.refl No w).alloc _).alloc _).alloc _).drew⟩
    exact DiskP.start (Blk.drew (Blk.newAt (by simp))) (SecAt.zeros (Blk.drew <| (hB1.alloc _).alloc _) h2) (SecAt.zeros (Blk.drew <| hB2.alloc _) h2) (by omega) ⟨by omega, by omega, by omega⟩ h2
  · refine wp_make so_sec (n := n) (c := n) (Nat.le_refl _) (by omega) rfl rfl rfl ?_
    (refine hK.out _ _ (((Fr.refl _ _).alloc _)) ?_; clear hK K; try simp only [Act.put, List.setIfInBounds_toArray, List.set_cons_zero, List.set_cons_succ])
    refine T_call (by rfl) (by rfl) (fun K hK => ?_)
    refine wp_make so_sec (n := n) (c := n) (Nat.le_refl _) (by omega) rfl rfl rfl ?_
    (refine hK.out _ _ (((Fr.refl _ _).alloc _)) ?_; clear hK K; try simp only [Act.put, List.setIfInBounds_toArray, List.set_cons_zero, List.set_cons_succ])
    repeat (first | (refine T_skip (by rfl) (by rfl) (fun _ _ _ h => h) ?_; try simp only [Act.put, List.setIfInBounds_toArray, List.set_cons_zero, List.set_cons_succ]) | (refine T_pass (by rfl) (by rfl) ?_; try simp only [Act.put, List.setIfInBounds_toArray, List.set_cons_zero, List.set_cons_succ]) | (refine T_load (by assumption) (by rfl) (by rfl) (fun _ _ _ _ h => h) rfl rfl (by assumption) (by first | exact (fun hn => hn) | assumption) ?_; try simp only [Act.put, List.setIfInBounds_toArray, List.set_cons_zero, List.set_cons_succ]) | (refine T_nil (by rfl) (by rfl) (fun _ _ _ _ h => h) rfl rfl ?_; try simp only [Act.put, List.setIfInBounds_toArray, List.set_cons_zero, List.set_cons_succ]) | (refine T_quietN (by rfl) (by rfl) (by rfl) (by rfl) (fun _ _ _ _ h => h) (fun K hK => ?_); go_big_quiet_op; refine hK _ ?_; clear hK K) | (refine T_two (by rfl) (by rfl) (by rfl) (by rfl) (fun _ _ _ _ h => h) (fun K hK => ?_); go_big_quiet_op; refine ⟨_, fun _ _ => rfl, ?_⟩; refine hK _ ?_; clear hK K; try simp only [Act.put, List.setIfInBounds_toArray, List.set_cons_zero, List.set_cons_succ]) | fail)
    (refine T_call (by rfl) (by rfl) (fun K hK => ?_); go_wp2_with fail)
    (refine hK.out _ _ (((Fr.refl _ _).alloc _)) ?_; clear hK K; try simp only [Act.put, List.setIfInBounds_toArray, List.set_cons_zero, List.set_cons_succ])
    repeat (first | (refine T_skip (by rfl) (by rfl) (fun _ _ _ h => h) ?_; try simp only [Act.put, List.setIfInBounds_toArray, List.set_cons_zero, List.set_cons_succ]) | (refine T_pass (by rfl) (by rfl) ?_; try simp only [Act.put, List.setIfInBounds_toArray, List.set_cons_zero, List.set_cons_succ]) | (refine T_load (by assumption) (by rfl) (by rfl) (fun _ _ _ _ h => h) rfl rfl (by assumption) (by first | exact (fun hn => hn) | assumption) ?_; try simp only [Act.put, List.setIfInBounds_toArray, List.set_cons_zero, List.set_cons_succ]) | (refine T_nil (by rfl) (by rfl) (fun _ _ _ _ h => h) rfl rfl ?_; try simp only [Act.put, List.setIfInBounds_toArray, List.set_cons_zero, List.set_cons_succ]) | (refine T_quietN (by rfl) (by rfl) (by rfl) (by rfl) (fun _ _ _ _ h => h) (fun K hK => ?_); go_big_quiet_op; refine hK _ ?_; clear hK K) | (refine T_two (by rfl) (by rfl) (by rfl) (by rfl) (fun _ _ _ _ h => h) (fun K hK => ?_); go_big_quiet_op; refine ⟨_, fun _ _ => rfl, ?_⟩; refine hK _ ?_; clear hK K; try simp only [Act.put, List.setIfInBounds_toArray, List.set_cons_zero, List.set_cons_succ]) | fail)
    refine T_done ?_
    go_wp2
    go_ret2
    have hB1 := Blk.new w 88 (madeCells (U8 zsec).toArray (n * 128))
    have hB2 : Blk ((w.alloc (.cells (madeCells (U8 zsec).toArray (n * 128)) 88)).alloc (.cells (madeCells (U8 zsec).toArray (n * 128)) 88)) (w.heap.size + 1) 88 (madeCells (U8 zsec).toArray (n * 128)) := Blk.newAt (by simp)
    refine ⟨w.heap.size + 1 + 1, by omega, by simp, ⟨(w.heap.size + 1), n, w.heap.size, n, none, 0, ?_⟩, ((((Fr.refl No w).alloc _).alloc _).alloc _).drew⟩
    exact DiskP.start (Blk.drew (Blk.newAt (by simp))) (SecAt.zeros (Blk.drew <| hB2.alloc _) h2) (SecAt.zeros (Blk.drew <| (hB1.alloc _).alloc _) h2) (by omega) ⟨by omega, by omega, by omega⟩ h2
end Go.Proofs.YtannkgglgmbkdaaDoor
namespace Go.Proofs.YtannkgglgmbkdaaDoor
set_option linter.unusedVariables false
set_option linter.unusedSimpArgs false
open Go.RowKit

/-- Sectors written one behind the other, up to the one that fails. -/
def putsM (d : DiskM) (k : Nat) : List Sec → DiskM × Bool
  | [] => (d, true)
  | s :: ss => if (oneM d k s).2 = true then putsM (oneM d k s).1 (k + 1) ss else ((oneM d k s).1, false)
theorem oneM_keeps (d : DiskM) (k : Nat) (s : Sec) : (oneM d k s).1.now.length = d.now.length ∧ (oneM d k s).1.way.length ≤ d.way.length + 1 ∧ (oneM d k s).1.left ≤ d.left := by
  unfold oneM
  split
  · simp
  · split <;> simp
def rawW (k : Nat) : List Value := way1 (k, zsec)
theorem run_buildW (k : Int) (w : World) : (Instr.build 90 #[(0, .int .i64 k)]).run Tryd.prog w = .ok (.agg (.int .i64 k :: U8 zsec).toArray) w := by kernel_rfl
theorem wpList_buildW {w : World} {ops : Array Oper} {rest : List Oper} {o : Oper} {a : Act} {Q : Exit → Act → World → Prop} (k : Nat) (hw : Region.wanted o (yielded ops a.tmps) = true) {x : Operand} (ho : o.op = .build 90 #[(0, x)]) (hx : a.eval x = .int .i64 (k : Int))
    (h : wpList Tryd.prog ops Q rest (a.put o.dst (.agg (way1 (k, zsec)).toArray)) w) : wpList Tryd.prog ops Q (o :: rest) a w := by
  refine BigFrame.wpList_want hw fun K hK => ?_
  unfold Oper.wp execOp
  simp only [ho, Sem.run_bind, List.map_toArray, List.map_cons, List.map_nil, hx, run_buildW, Result.andThen_ok, Sem.run_pure]
  exact hK _ _ h
theorem zero_wrote : (Tryd.prog.info? 90).bind (·.zero) = some (.agg (way1 (0, zsec)).toArray) := by kernel_rfl
theorem way1_len {k : Nat} {s : Sec} (hs : s.length = 128) : (way1 (k, s)).length = 129 := by simp [way1, U8_length, hs]
theorem splice_way1 (k : Nat) (s t : Sec) (hs : s.length = 128) (ht : t.length = 128) : splice (way1 (k, t)).toArray 1 (U8 s) = (way1 (k, s)).toArray := by
  unfold splice way1
  simp [U8_length, hs, ht]

def WriteR (w : World) (X Y : Nat → Prop) (H : Nat) (r : DiskM × Bool) (e : Ending) (w' : World) : Prop := e = .returned (.int .i64 (if r.2 = true then 0 else 14)) ∧ Left w X Y H r.1 w'
def BadR (w : World) (X Y : Nat → Prop) (H : Nat) (d : DiskM) (n : Int) (e : Ending) (w' : World) : Prop := e = .returned (.int .i64 n) ∧ Left w X Y H d w'
theorem WriteR.yes {w w' : World} {X Y : Nat → Prop} {H : Nat} {r : DiskM × Bool} (h : r.2 = true) (hl : Left w X Y H r.1 w') : WriteR w X Y H r (.returned (.int .i64 0)) w' := ⟨by rw [if_pos h], hl⟩
theorem WriteR.no {w w' : World} {X Y : Nat → Prop} {H : Nat} {r : DiskM × Bool} (h : r.2 = false) (hl : Left w X Y H r.1 w') : WriteR w X Y H r (.returned (.int .i64 14)) w' := ⟨by rw [if_neg (by rw [h]; exact Bool.false_ne_true)], hl⟩
set_option maxHeartbeats 4000000 in
set_option maxRecDepth 100000 in
/-- A write that has no such place. -/
theorem write_range (w : World) (X : Nat → Prop) (H : Nat) (d : DiskM) (k : Int) (m : Nat) (A : Option Addr) (c : Nat) (h : DiskAt w X H d) (hk : -9223372036854775808 ≤ k ∧ k ≤ 9223372036854775807) (hm : m ≤ 524288) (hbad : k < 0 ∨ (d.now.length : Int) < k ∨ ((d.now.length : Int) - k) * 128 < m) :
    Calls Tryd.prog 45 #[.pointer (some ⟨H, 0, none⟩), .int .i64 k, .slice A m c] w fun e w' => e = .returned (.int .i64 13) ∧ w = w' := by
  obtain ⟨gs, cs, gn, cn, A', c', hP⟩ := h
  obtain ⟨hb, _, _, _, _, _, _, hlen, hmax, _⟩ := hP
  have q1 := hb.cell 1
  simp only [List.getElem?_toArray, List.getElem?_cons_zero, List.getElem?_cons_succ] at q1
  by_cases h1 : k < 0
  · have e1 : decide (k < 0) = true := by simpa using h1
    go_enter Tryd.func45, Tryd.ntmps45
    go_wp2
    go_ret
    exact ⟨rfl, rfl⟩
  have e1 : decide (k < 0) = false := by simpa using h1
  by_cases h2 : (d.now.length : Int) < k
  · have e2 : decide ((d.now.length : Int) < k) = true := by simpa using h2
    go_enter Tryd.func45, Tryd.ntmps45
    go_wp2
    go_ret
    exact ⟨rfl, rfl⟩
  have e2 : decide ((d.now.length : Int) < k) = false := by simpa using h2
  have h3 : ((d.now.length : Int) - k) * 128 < m := by omega
  have e3 : decide (((d.now.length : Int) - k) * 128 < m) = true := by simpa using h3
  have h4 : 0 ≤ (d.now.length : Int) - k := by omega
  have h5 : (d.now.length : Int) - k ≤ 4096 := by omega
  go_enter Tryd.func45, Tryd.ntmps45
  go_wp2
  go_ret
  exact ⟨rfl, rfl⟩
theorem flat_head {ss : List Sec} (h : Len128 ss) {j : Nat} (hj : j < ss.length) : (U8 (ss.drop j).flatten).take 128 = U8 ss[j] ∧ (U8 (ss.drop j).flatten).drop 128 = U8 (ss.drop (j + 1)).flatten := by
  have hl : (U8 ss[j]).length = 128 := by rw [U8_length, h _ (List.getElem_mem hj)]
  rw [List.drop_eq_getElem_cons hj, List.flatten_cons, U8_append, ← hl]
  exact ⟨by simp, by simp⟩
theorem putsM_cons (d : DiskM) (k : Nat) (s : Sec) (ss : List Sec) : putsM d k (s :: ss) = if (oneM d k s).2 = true then putsM (oneM d k s).1 (k + 1) ss else ((oneM d k s).1, false) := rfl

set_option maxHeartbeats 8000000 in
set_option maxRecDepth 100000 in
theorem write_calls (w : World) (X Y : Nat → Prop) (H : Nat) (d : DiskM) (k : Nat) (ss : List Sec) (A : Option Addr) (c : Nat) (h : DiskAt w X H d) (hrd : Rd w (fun b => ¬ X b) 1 A (ss.length * 128) (U8 ss.flatten)) (hss : Len128 ss) (hc : ss.length * 128 ≤ c) (hcm : c ≤ maxLen)
    (hn : 1 ≤ ss.length) (hfit : k + ss.length ≤ d.now.length) (hway : d.way.length ≤ 50000) (hleft : d.left ≤ 1000000) (hXY : ∀ b, X b → Y b) (hY : ∀ b, w.heap.size ≤ b → Y b) :
    Calls Tryd.prog 45 #[.pointer (some ⟨H, 0, none⟩), .int .i64 (k : Int), .slice A (ss.length * 128) c] w (WriteR w X Y H (putsM d k ss)) := by
  have hH : DiskAt w X H d := h
  obtain ⟨gs, cs, gn, cn, A', c', hP⟩ := h
  obtain ⟨hb, _, _, _, _, _, _, hlen, hmax, _⟩ := hP
  have q1 := hb.cell 1
  simp only [List.getElem?_toArray, List.getElem?_cons_zero, List.getElem?_cons_succ] at q1
  obtain ⟨m, hm⟩ : ∃ m, m = ss.length * 128 := ⟨_, rfl⟩
  have e1 : decide ((k : Int) < 0) = false := by simp
  have e2 : ¬ (d.now.length < k) := by omega
  have e3 : decide (((d.now.length : Int) - k) * 128 < m) = false := by simp; omega
  have h4 : 0 ≤ (d.now.length : Int) - k := by omega
  have h5 : (d.now.length : Int) - k ≤ 4096 := by omega
  have e4 : ((m : Int) == 0) = false := by rw [beq_eq_false_iff_ne]; omega
  have e5 : (m : Int).tmod 128 = 0 := by subst hm; rw [Int.natCast_mul]; exact Int.mul_tmod_left _ _
  have hm1 : 0 < m := by omega
  have hm2 : m ≤ 524288 := by omega
  rw [← hm] at hrd hc ⊢
  have HM := Lib.hid hm
  clear hm hlen
  go_enter Tryd.func45, Tryd.ntmps45
  go_wp2_with fail
  clear e1 e2 e3 h4 h5 e4 e5 q1
  have HSS := Lib.hid hss
  clear hss
  go_loopw [1, 2] (fun va vb wr => ∃ (j p n cb : Nat) (B : Option Addr) (dj : DiskM), j ≤ ss.length ∧ Hid (p = k + j) ∧ va = .int .i64 (p : Int) ∧ vb = .slice B n cb ∧ Hid (n = (ss.length - j) * 128) ∧ n ≤ cb ∧ cb ≤ maxLen ∧
    Rd wr (fun b => ¬ X b ∧ b < w.heap.size) 1 B n (U8 (ss.drop j).flatten) ∧ DiskAt wr (fun b => X b ∨ w.heap.size ≤ b) H dj ∧ Hid (putsM d k ss = putsM dj p (ss.drop j)) ∧
    (dj.now.length = d.now.length ∧ dj.way.length ≤ 50000 + j ∧ dj.left ≤ d.left) ∧ Fr X w wr) (fun _ vb _ => (match vb with | .slice _ n _ => n | _ => 0))
  case atStart => exact ⟨0, k, m, c, A, d, by omega, Lib.hid rfl, rfl, rfl, HM, hc, hcm, hrd.lt (by decide), hH.mono (fun b _ hb => .inl hb), Lib.hid rfl, ⟨rfl, by omega, Nat.le_refl _⟩, Fr.refl _ _⟩
  case round =>
    obtain ⟨j, p, n, cb, B, dj, hj, HP, rfl, rfl, HN, hncb, hcbm, hrdj, hdj, HPU, ⟨hl1, hl2, hl3⟩, hf⟩ := hrel
    have hn0 := HN.out
    have hp0 := HP.out
    by_cases hlt : j < ss.length
    · have hn1 : 128 ≤ n := by omega
      have hn2 : n ≤ 524288 := by omega
      have en : decide ((0 : Int) < n) = true := by simp; omega
      have hlen := HSS.out _ (List.getElem_mem hlt)
      obtain ⟨hh1, hh2⟩ := flat_head HSS.out hlt
      have hdr : ss.drop j = ss[j] :: ss.drop (j + 1) := List.drop_eq_getElem_cons hlt
      have hpu := HPU.out
      rw [hdr, putsM_cons] at hpu
      have HPU2 := Lib.hid hpu
      have HH1 := Lib.hid hh1
      have HH2 := Lib.hid hh2
      have hpk : p < dj.now.length := by omega
      have hone := oneM_keeps dj p ss[j]
      clear hn0 hp0 hdr hpu hh1 hh2
      generalize ss[j] = s at *
      have hnb : 0 < n := by omega
      have hgT : ¬ (X wr.heap.size ∧ False) := fun h => h.2
      go_wp2_with (first
        | (refine wpList_buildW p rfl rfl rfl ?_)
        | (refine wpList_allocA zero_wrote rfl rfl ?_; have hb0 := Blk.new wr 90 (way1 (0, zsec)).toArray)
        | (refine wpList_stA ag_wrote.info rfl _ _ rfl wr.heap.size 0 _ _ (way1 (p, zsec)) _ rfl rfl rfl (way1_len zsec_len) (way1_one _) hb0 (by rw [List.size_toArray, way1_len zsec_len]; decide) ?_; intro w1 hb1 hg1 hz1; rw [splice_all _ _ (by rw [List.size_toArray, way1_len zsec_len, way1_len zsec_len])] at hb1; have hf1 : Fr No wr w1 := ((Fr.refl No wr).alloc _).grown hg1 (fun q hq => by injection hq with hq; exact .inl (by omega)))
        | (refine wpList_copyA so_u8 rfl rfl hb1 (hrdj.fr0 hf1) (U8_one _) rfl rfl (by rw [List.size_toArray, way1_len zsec_len]; omega) ?_; intro w2 hb2 hg2 hz2; rw [show min n 128 * 1 = 128 by omega, HH1.out, splice_way1 p s zsec hlen zsec_len] at hb2; have hf2 : Fr No wr w2 := hf1.grown hg2 (fun q hq => by injection hq with hq; exact .inl (by omega)))
        | (refine wpList_ldA ag_wrote rfl _ rfl ⟨wr.heap.size, 0, none⟩ (way1 (p, s)) rfl (way1_len hlen) hb2.all ?_)
        | fail)
      have hs2 := hf2.size
      have hsw := hf.size
      refine (one_calls w2 (fun b => X b ∨ w.heap.size ≤ b) (fun b => X b ∨ w.heap.size ≤ b) H dj p s (hdj.fr0 hf2) hpk hlen (by omega) (by omega) (fun _ hb => hb) (fun b hb => .inr (by omega))).mono ?_
      rintro e w3 ⟨rfl, hd3, hf3⟩
      have hf03 : Fr X w w3 := (hf.trans (hf2.mono (T := X) (fun _ _ hn => hn.elim)) (fun _ _ hb => hb)).trans hf3 (fun b hb hT => hT.elim id (fun h => by omega))
      cases hok : (oneM dj p s).2 with
      | false =>
        have HO := Lib.hid (show putsM d k ss = ((oneM dj p s).1, false) by rw [HPU2.out, if_neg (by rw [hok]; exact Bool.false_ne_true)])
        clear hok
        go_wp2
        go_ret
        rw [HO.out]
        exact WriteR.no rfl ⟨hd3.mono (fun b _ hb => hb.elim (hXY b) (hY b)), hf03⟩
      | true =>
        have HO := Lib.hid (show putsM d k ss = putsM (oneM dj p s).1 (p + 1) (ss.drop (j + 1)) by rw [HPU2.out, if_pos hok])
        have hrd3 : Rd w3 (fun b => ¬ X b ∧ b < w.heap.size) 1 B n _ := (hrdj.fr0 hf2).fr hf3 (fun b hb hT => hT.elim hb.1 (fun h => by have := hb.2; omega))
        have hcut := hrd3.cut (k := 128) (cap := cb) hn1 hncb
        simp only [Nat.mul_one, HH2.out] at hcut
        have HCUT := Lib.hid hcut
        obtain ⟨ho1, ho2, ho3⟩ := hone
        clear hok hcut hrd3
        by_cases hcb : cb = 128
        · subst hcb
          obtain rfl : n = 128 := by omega
          have hc := HCUT.out
          rw [if_pos rfl] at hc
          have HC := Lib.hid hc
          clear hc
          go_wp2
          go_roundw
          case rel => exact ⟨j + 1, p + 1, _, _, _, (oneM dj p s).1, by omega, Lib.hid (by have := HP.out; omega), by go_num, rfl, Lib.hid (by have := HN.out; omega), by omega, by omega, HC.out, hd3, HO, ⟨by omega, by omega, by omega⟩, hf03⟩
          case measure => simp
        · have hc := HCUT.out
          rw [if_neg hcb] at hc
          have HC := Lib.hid hc
          clear hc
          go_wp2
          go_roundw
          case rel => exact ⟨j + 1, p + 1, _, _, _, (oneM dj p s).1, by omega, Lib.hid (by have := HP.out; omega), by go_num, rfl, Lib.hid (by have := HN.out; omega), by omega, by omega, HC.out, hd3, HO, ⟨by omega, by omega, by omega⟩, hf03⟩
          case measure => simp; omega
    · obtain rfl : j = ss.length := by omega
      obtain rfl : n = 0 := by omega
      have hpu := HPU.out
      rw [List.drop_length] at hpu
      have HPU2 := Lib.hid (show putsM d k ss = (dj, true) from hpu)
      clear hn0 hp0 hpu
      go_wp2
      go_ret
      rw [HPU2.out]
      exact WriteR.yes rfl ⟨hdj.mono (fun b _ hb => hb.elim (hXY b) (hY b)), hf⟩
end Go.Proofs.YtannkgglgmbkdaaDoor
namespace Go.Proofs.YtannkgglgmbkdaaDoor
set_option linter.unusedVariables false
set_option linter.unusedSimpArgs false
open Go.RowKit

theorem splice_secs {cur : Array Value} {cap : Nat} {L : List Sec} (hL : Len128 L) (hc : cur.size = cap * 128) (hl : L.length ≤ cap) (j : Nat) (u : Value) (hu : (secs L)[j]? = some u) : (splice cur 0 (secs L))[j]? = some u := by
  have hlen := secs_len hL
  have hj := (List.getElem?_eq_some_iff.1 hu).1
  rw [splice_get _ _ _ (by omega), if_neg (by omega), if_pos (by omega), Nat.sub_zero]
  exact hu
/-- A row of sectors written over by another one as long. -/
theorem SecAt.over {w w' : World} {g cap : Nat} {L L' : List Sec} (h : SecAt w g cap L) {cur : Array Value} (hb : Blk w g 88 cur) (hL : Len128 L') (hl : L'.length = L.length) (hb' : Blk w' g 88 (splice cur 0 (secs L'))) : SecAt w' g cap L' := by
  obtain ⟨h1, h2, h3, cur0, hb0, h4, h5⟩ := h
  have e : cur0 = cur := by
    have := hb0.symm.trans hb
    simpa using this
  subst e
  have hlen := secs_len hL
  exact ⟨hL, by omega, h3, _, hb', by rw [splice_size _ _ _ (by omega), h4], fun j u hu => splice_secs hL h4 (by omega) j u hu⟩
theorem size_calls (w : World) (X : Nat → Prop) (H : Nat) (d : DiskM) (h : DiskAt w X H d) : Calls Tryd.prog 32 #[.pointer (some ⟨H, 0, none⟩)] w fun e w' => e = .returned (.int .i64 (d.now.length : Int)) ∧ w = w' := by
  obtain ⟨gs, cs, gn, cn, A, c, hb, _⟩ := h
  have q1 := hb.cell 1
  simp only [List.getElem?_toArray, List.getElem?_cons_zero, List.getElem?_cons_succ] at q1
  go_enter Tryd.func32, Tryd.ntmps32
  go_wp2
  go_ret
  exact ⟨rfl, rfl⟩
theorem fail_calls (w : World) (X : Nat → Prop) (H : Nat) (d : DiskM) (n : Nat) (hn : n ≤ 1000000) (h : DiskAt w X H d) : Calls Tryd.prog 23 #[.pointer (some ⟨H, 0, none⟩), .int .i64 (n : Int)] w fun e w' => e = .returned (.tuple #[]) ∧ Left w X X H { d with left := n } w' := by
  obtain ⟨gs, cs, gn, cn, A, c, hP⟩ := h
  have hb := hP.1
  have q4 := hb.cell 4
  have z4 := hb.frozen 4
  simp only [List.getElem?_toArray, List.getElem?_cons_zero, List.getElem?_cons_succ] at q4
  have HM := Lib.hid (show (n : Int) = max 0 (n : Int) by omega)
  go_enter Tryd.func23, Tryd.ntmps23
  go_wp2_with (first
    | (refine wpList_max (t := 3) 0 (n : Int) (n : Int) HM.out rfl rfl rfl rfl ?_)
    | fail)
  go_end0
  have hset : Fr (fun b => b = H) w (w.setCell ⟨H, 4, none⟩ (.int .i64 (n : Int))) := (Fr.refl (fun b => b = H) w).set (.inr rfl) _
  exact ⟨rfl, ⟨gs, cs, gn, cn, A, c, hP.head hset (hb.put 4 _)⟩, hset.mono (fun b _ hb2 => by subst hb2; exact hP.2.2.2.2.2.2.1.1)⟩

set_option maxHeartbeats 4000000 in
set_option maxRecDepth 100000 in
theorem flush_calls (w : World) (X : Nat → Prop) (H : Nat) (d : DiskM) (h : DiskAt w X H d) (hdead : d.dead = false) :
    Calls Tryd.prog 46 #[.pointer (some ⟨H, 0, none⟩)] w fun e w' => e = .returned (.int .i64 0) ∧ Left w X X H { d with safe := d.now, way := [] } w' := by
  obtain ⟨gs, cs, gn, cn, A, c, hP⟩ := h
  obtain ⟨hb, hsafe, hnow, hown, hne, hv, hX, hlen, hmax, hwf⟩ := id hP
  have g3 := plain_lsec
  have q0 := hb.cell 0
  have q1 := hb.cell 1
  have q3 := hb.cell 3
  have hneH : ¬ (H = gs) := fun e => hne.2.1 e.symm
  simp only [List.getElem?_toArray, List.getElem?_cons_zero, List.getElem?_cons_succ] at q0 q1 q3
  rw [hdead] at q3
  have hLn := hnow.1
  have HLN := Lib.hid hLn
  obtain ⟨_, hcs, _, cur, hbs, hcz, _⟩ := id hsafe
  have HV := Lib.hid hv
  have HW := Lib.hid hwf
  have HLEN := Lib.hid hlen
  have HD := Lib.hid hdead
  clear hv hwf hdead hLn hlen
  go_enter Tryd.func46, Tryd.ntmps46
  go_wp2_with fail
  (refine T_begin (fun b => b = gs) [0, 1, 2, 3, 4, 5, 6, 7, 8] [8] (by kernel_rfl) (by kernel_rfl) ?_; simp only [pickOps, List.filterMap_cons, List.filterMap_nil, List.getElem?_cons_zero, List.getElem?_cons_succ, Act.put])
  repeat (first | (refine T_skip (by rfl) (by rfl) (fun _ _ _ h => h) ?_; try simp only [Act.put, List.setIfInBounds_toArray, List.set_cons_zero, List.set_cons_succ]) | (refine T_pass (by rfl) (by rfl) ?_; try simp only [Act.put, List.setIfInBounds_toArray, List.set_cons_zero, List.set_cons_succ]) | (refine T_load (by assumption) (by rfl) (by rfl) (fun _ _ _ _ h => h) rfl rfl (by assumption) (by first | exact (fun hn => hn) | assumption) ?_; try simp only [Act.put, List.setIfInBounds_toArray, List.set_cons_zero, List.set_cons_succ]) | (refine T_nil (by rfl) (by rfl) (fun _ _ _ _ h => h) rfl rfl ?_; try simp only [Act.put, List.setIfInBounds_toArray, List.set_cons_zero, List.set_cons_succ]) | (refine T_quietN (by rfl) (by rfl) (by rfl) (by rfl) (fun _ _ _ _ h => h) (fun K hK => ?_); go_big_quiet_op; refine hK _ ?_; clear hK K) | (refine T_two (by rfl) (by rfl) (by rfl) (by rfl) (fun _ _ _ _ h => h) (fun K hK => ?_); go_big_quiet_op; refine ⟨_, fun _ _ => rfl, ?_⟩; refine hK _ ?_; clear hK K; try simp only [Act.put, List.setIfInBounds_toArray, List.set_cons_zero, List.set_cons_succ]) | fail)
  refine T_call (by rfl) (by rfl) (fun K hK => ?_)
  have hrd := hnow.rd (by omega)
  refine wp_copyA so_sec rfl hbs (hrd.drew) (secs_one _) rfl rfl (by have := HLEN.out; rw [hcz]; omega) ?_
  intro w3 hb3 hg3 hz3
  refine hK.out _ _ ((Fr.refl _ _).grown hg3 (fun q hq => by injection hq with hq; exact .inr hq.symm)) ?_
  clear hK K
  try simp only [Act.put, List.setIfInBounds_toArray, List.set_cons_zero, List.set_cons_succ]
  refine T_done ?_
  rw [List.take_of_length_le (by rw [secs_len HLN.out]; have := HLEN.out; omega)] at hb3
  have hf3 : Fr (fun b => b = gs) w w3 := ((Fr.refl (fun b => b = gs) w).drew).grown hg3 (fun q hq => by injection hq with hq; exact .inr hq.symm)
  have hP3 := hP.saved hf3 (L := d.now) HLEN.out.symm (hsafe.over hbs HLN.out HLEN.out.symm hb3)
  have hb3H := hP3.1
  have q32 := hb3H.cell 2
  have z32 := hb3H.frozen 2
  simp only [List.getElem?_toArray, List.getElem?_cons_zero, List.getElem?_cons_succ] at q32
  go_wp2
  go_ret
  have hset : Fr (fun b => b = H) w3 (w3.setCell ⟨H, 2, none⟩ (.slice none 0 0)) := (Fr.refl (fun b => b = H) w3).set (.inr rfl) _
  refine ⟨rfl, ⟨gs, cs, gn, cn, none, 0, ?_⟩, (hf3.mono (T := X) (fun b _ hb2 => by subst hb2; exact hX.2.1)).trans (hset.mono (T := X) (fun b _ hb2 => by subst hb2; exact hX.1)) (fun _ _ hb => hb)⟩
  obtain ⟨_, h1, h2, _, _, _, _, h7, h8, _⟩ := hP3
  exact ⟨hb3H.put 2 _, h1.fr hset hne.2.1, h2.fr hset hne.2.2, World.ownsRow_nil _ _ _ _, hne, fun b hb => by simp [Value.ownBlock] at hb, hX, h7, h8, fun p hp => by cases hp⟩
end Go.Proofs.YtannkgglgmbkdaaDoor
namespace Go.Proofs.YtannkgglgmbkdaaDoor
set_option linter.unusedVariables false
set_option linter.unusedSimpArgs false
open Go.RowKit

/-- What is safe behind a crash. -/
def crashS : List Sec → List (Nat × Sec) → List Bool → List Sec
  | S, [], _ => S
  | S, p :: ps, ks => crashS (if ks.headD false = true then S.set p.1 p.2 else S) ps ks.tail
def crashM (d : DiskM) (ks : List Bool) : DiskM := ⟨crashS d.safe d.way ks, crashS d.safe d.way ks, [], false, 0⟩
theorem ways_len {l : List (Nat × Sec)} (h : ∀ p ∈ l, p.2.length = 128) : (ways l).length = l.length * 129 := by
  induction l with
  | nil => rfl
  | cons p l ih =>
    have : ways (p :: l) = way1 p ++ ways l := rfl
    rw [this, List.length_append, ih (fun x hx => h x (by simp [hx])), way1_len (k := p.1) (h p (by simp)), List.length_cons]; omega
theorem ways_at {l : List (Nat × Sec)} (h : ∀ p ∈ l, p.2.length = 128) {i : Nat} (hi : i < l.length) (j : Nat) (u : Value) (hu : (way1 l[i])[j]? = some u) : (ways l)[i * 129 + j]? = some u := by
  have hj := (List.getElem?_eq_some_iff.1 hu).1
  have e : l = l.take i ++ (l[i] :: l.drop (i + 1)) := by rw [← List.drop_eq_getElem_cons hi, List.take_append_drop]
  have e2 : ways l = ways (l.take i) ++ (way1 l[i] ++ ways (l.drop (i + 1))) := by
    conv => lhs; rw [e]
    rw [ways_append]; rfl
  have hl : (ways (l.take i)).length = i * 129 := by rw [ways_len (fun p hp => h p (List.mem_of_mem_take hp)), List.length_take, Nat.min_eq_left (by omega)]
  rw [e2, List.getElem?_append_right (by omega), hl, show i * 129 + j - i * 129 = j by omega, List.getElem?_append_left hj]
  exact hu
theorem crashS_step (S : List Sec) (l : List (Nat × Sec)) (ks : List Bool) {i : Nat} (hi : i < l.length) : crashS S (l.drop i) (ks.drop i) = crashS (if ks.getD i false = true then S.set l[i].1 l[i].2 else S) (l.drop (i + 1)) (ks.drop (i + 1)) := by
  rw [List.drop_eq_getElem_cons hi, crashS, List.tail_drop]
  have : (ks.drop i).headD false = ks.getD i false := by
    rw [List.headD_eq_head?_getD, List.head?_drop, List.getD_eq_getElem?_getD]
  rw [this]
def BLs (ks : List Bool) : List Value := ks.map Value.bool

set_option maxHeartbeats 8000000 in
set_option maxRecDepth 100000 in
theorem crash_calls (w : World) (X S : Nat → Prop) (H : Nat) (d : DiskM) (ks : List Bool) (B : Option Addr) (cb : Nat) (h : DiskAt w X H d) (hks : Rd w S 1 B ks.length (BLs ks)) (hS : ∀ b, S b → ¬ X b) (hway : d.way.length ≤ 100000) :
    Calls Tryd.prog 24 #[.pointer (some ⟨H, 0, none⟩), .slice B ks.length cb] w fun e w' => e = .returned (.tuple #[]) ∧ Left w X X H (crashM d ks) w' := by
  obtain ⟨gs, cs, gn, cn, A, c, hP⟩ := h
  obtain ⟨hb, hsafe, hnow, hown, hne, hv, hX, hlen, hmax, hwf⟩ := id hP
  have hksl := hks.le
  have g1 := plain_int
  have g3 := plain_lsec
  have q2 := hb.cell 2
  simp only [List.getElem?_toArray, List.getElem?_cons_zero, List.getElem?_cons_succ] at q2
  have hneHs : ¬ (H = gs) := fun e => hne.2.1 e.symm
  have hneHn : ¬ (H = gn) := fun e => hne.2.2 e.symm
  have hSs : ∀ b, S b → ¬ (b = gs) := fun b hb e => hS b hb (e ▸ hX.2.1)
  have HV := Lib.hid hv
  have HW := Lib.hid hwf
  have HLEN := Lib.hid hlen
  have HSs := Lib.hid hSs
  clear hv hwf hlen hSs hS
  go_enter Tryd.func24, Tryd.ntmps24
  go_wp2_with fail
  go_loopw [13] (fun i wr => ∃ (k : Nat) (L : List Sec), k ≤ d.way.length ∧ i = .int .i64 (k : Int) ∧ SecAt wr gs cs L ∧ Hid (L.length = d.safe.length) ∧ Hid (crashS d.safe d.way ks = crashS L (d.way.drop k) (ks.drop k)) ∧ Fr (fun b => b = gs) w wr) (fun i _ => d.way.length - (intOf i).toNat)
  case atStart => exact ⟨0, d.safe, by omega, rfl, hsafe, Lib.hid rfl, Lib.hid rfl, Fr.refl _ _⟩
  case round =>
    obtain ⟨k, L, hk, rfl, hL, HL, HC, hf⟩ := hrel
    by_cases hlt : k < d.way.length
    · have ek : decide ((k : Int) < d.way.length) = true := by simpa using (by omega : (k : Int) < d.way.length)
      obtain ⟨gw, capw, hvA, _, hglt⟩ := hown.form (by omega)
      have hA : A = some ⟨gw, 0, none⟩ := by injection hvA
      subst hA
      have hgw := HV.out gw rfl
      obtain ⟨wf1, wf2⟩ := HW.out _ (List.getElem_mem hlt)
      have hcw : ∀ j u, (way1 d.way[k])[j]? = some u → wr.cell? ((⟨gw, k * 129, none⟩ : Addr).add j) = some u := fun j u hu => by
        have h1 := (hown.cells (g := gw) rfl) _ _ (ways_at (fun p hp => (HW.out p hp).2) hlt j u hu)
        have e : (⟨gw, k * 129, none⟩ : Addr).add j = (⟨gw, 0, none⟩ : Addr).add (k * 129 + j) := by rw [add_plain]; unfold Addr.add; split <;> simp_all
        rw [e]
        exact hf.cell_some h1 (by rw [block_of_add]; exact hgw.2.1)
      have hst := crashS_step L d.way ks hlt
      have hcc := HC.out.trans hst
      have HCC := Lib.hid hcc
      have HCW := Lib.hid hcw
      clear hst hcc hcw hvA
      generalize d.way[k] = p at *
      obtain ⟨pk, s⟩ := p
      have hls : s.length = 128 := wf2
      have hpk : pk < d.now.length := wf1
      have hw129 : (way1 (pk, s)).length = 129 := way1_len hls
      have HW129 := Lib.hid hw129
      clear wf1 wf2 hw129
      by_cases hkeep : k < ks.length
      · have ekk : decide ((k : Int) < ks.length) = true := by simpa using (by omega : (k : Int) < ks.length)
        obtain ⟨ad, u, rfl, hSad, hu, hkc⟩ := Rd.at_ (hks.fr hf HSs.out) hkeep
        have hu2 : (BLs ks)[k]? = some (.bool ks[k]) := by simp [BLs, hkeep]
        obtain rfl : Value.bool ks[k] = u := Option.some.inj (hu2.symm.trans hu)
        have hgd : ks.getD k false = ks[k] := by rw [List.getD_eq_getElem?_getD, List.getElem?_eq_getElem hkeep]; rfl
        clear hu hu2
        generalize ks[k] = bk at *
        cases bk with
        | false =>
          have HG := Lib.hid hgd
          clear hgd
          go_wp2_with (first
            | (refine wpList_ldA ag_wrote rfl _ rfl ⟨gw, k * 129, none⟩ (way1 (pk, s)) rfl HW129.out HCW.out ?_)
            | (refine wpList_allocA zero_wrote rfl rfl ?_; have hb0 := Blk.new wr 90 (way1 (0, zsec)).toArray)
            | (refine wpList_stA ag_wrote.info rfl _ _ rfl wr.heap.size 0 _ _ (way1 (pk, s)) _ rfl rfl rfl HW129.out (way1_one _) hb0 (by rw [List.size_toArray, way1_len zsec_len]; decide) ?_; intro w1 hb1 hg1 hz1; rw [splice_all _ _ (by rw [List.size_toArray, way1_len zsec_len, HW129.out])] at hb1; have hf1 : Fr No wr w1 := ((Fr.refl No wr).alloc _).grown hg1 (fun q hq => by injection hq with hq; exact .inl (by omega)); have hkc1 := hf1.cell_some hkc (fun hn => hn))
            | fail)
          go_roundw
          case rel => exact ⟨k + 1, L, by omega, by go_num, hL.fr hf1 (fun hn => hn), HL, Lib.hid (by rw [HCC.out, HG.out]; rfl), hf.trans hf1 (fun _ _ hn => hn.elim)⟩
          case measure => simp [intOf]; omega
        | true =>
          have HG := Lib.hid hgd
          clear hgd
          go_wp2_with (first
            | (refine wpList_ldA ag_wrote rfl _ rfl ⟨gw, k * 129, none⟩ (way1 (pk, s)) rfl HW129.out HCW.out ?_)
            | (refine wpList_allocA zero_wrote rfl rfl ?_; have hb0 := Blk.new wr 90 (way1 (0, zsec)).toArray)
            | (refine wpList_stA ag_wrote.info rfl _ _ rfl wr.heap.size 0 _ _ (way1 (pk, s)) _ rfl rfl rfl HW129.out (way1_one _) hb0 (by rw [List.size_toArray, way1_len zsec_len]; decide) ?_; intro w1 hb1 hg1 hz1; rw [splice_all _ _ (by rw [List.size_toArray, way1_len zsec_len, HW129.out])] at hb1; have hf1 : Fr No wr w1 := ((Fr.refl No wr).alloc _).grown hg1 (fun q hq => by injection hq with hq; exact .inl (by omega)); have hkc1 := hf1.cell_some hkc (fun hn => hn))
            | fail)
          have hL1 := hL.fr hf1 (fun hn => hn)
          obtain ⟨_, hcs, _, cur, hbs, hcz, _⟩ := id hL1
          have hbH : Blk wr H 87 _ := hb.fr hf hneHs
          have q0 := (hbH.fr0 hf1).cell 0
          have p0 : w1.cell? ⟨wr.heap.size, 0, none⟩ = some (.int .i64 (pk : Int)) := hb1.cell 0
          have hcs1 : ∀ j u, (U8 s)[j]? = some u → w1.cell? ((⟨wr.heap.size, 1, none⟩ : Addr).add j) = some u := hb1.cells 1 (U8 s) (fun j u hu => by
            rw [List.getElem?_toArray, Nat.add_comm]; exact hu)
          simp only [List.getElem?_toArray, List.getElem?_cons_zero, List.getElem?_cons_succ] at q0
          have hls2 : (U8 s).length = 128 := by rw [U8_length, hls]
          have hneB : ¬ (wr.heap.size = gs) := by have := hL.lt; omega
          have hpL : pk < d.safe.length := by have := HLEN.out; omega
          have hLl : pk < L.length := by have := HL.out; omega
          have hsm : d.safe.length ≤ 4096 := by have := HLEN.out; omega
          (refine T_begin (fun b => b = gs) [0, 1, 2, 3, 4, 5, 6, 7, 8, 9] [9] (by kernel_rfl) (by kernel_rfl) ?_; simp only [pickOps, List.filterMap_cons, List.filterMap_nil, List.getElem?_cons_zero, List.getElem?_cons_succ, Act.put])
          repeat (first | (refine T_skip (by rfl) (by rfl) (fun _ _ _ h => h) ?_; try simp only [Act.put, List.setIfInBounds_toArray, List.set_cons_zero, List.set_cons_succ]) | (refine T_pass (by rfl) (by rfl) ?_; try simp only [Act.put, List.setIfInBounds_toArray, List.set_cons_zero, List.set_cons_succ]) | (refine T_load (by assumption) (by rfl) (by rfl) (fun _ _ _ _ h => h) rfl rfl (by assumption) (by first | exact (fun hn => hn) | assumption) ?_; try simp only [Act.put, List.setIfInBounds_toArray, List.set_cons_zero, List.set_cons_succ]) | (refine T_nil (by rfl) (by rfl) (fun _ _ _ _ h => h) rfl rfl ?_; try simp only [Act.put, List.setIfInBounds_toArray, List.set_cons_zero, List.set_cons_succ]) | (refine T_quietN (by rfl) (by rfl) (by rfl) (by rfl) (fun _ _ _ _ h => h) (fun K hK => ?_); go_big_quiet_op; refine hK _ ?_; clear hK K) | (refine T_two (by rfl) (by rfl) (by rfl) (by rfl) (fun _ _ _ _ h => h) (fun K hK => ?_); go_big_quiet_op; refine ⟨_, fun _ _ => rfl, ?_⟩; refine hK _ ?_; clear hK K; try simp only [Act.put, List.setIfInBounds_toArray, List.set_cons_zero, List.set_cons_succ]) | fail)
          refine T_loadA (cs := U8 s) ag_sec (by rfl) (by rfl) (fun _ _ _ _ h => h) rfl rfl hls2 hcs1 hneB ?_
          try simp only [Act.put, List.setIfInBounds_toArray, List.set_cons_zero, List.set_cons_succ]
          repeat (first | (refine T_skip (by rfl) (by rfl) (fun _ _ _ h => h) ?_; try simp only [Act.put, List.setIfInBounds_toArray, List.set_cons_zero, List.set_cons_succ]) | (refine T_pass (by rfl) (by rfl) ?_; try simp only [Act.put, List.setIfInBounds_toArray, List.set_cons_zero, List.set_cons_succ]) | (refine T_load (by assumption) (by rfl) (by rfl) (fun _ _ _ _ h => h) rfl rfl (by assumption) (by first | exact (fun hn => hn) | assumption) ?_; try simp only [Act.put, List.setIfInBounds_toArray, List.set_cons_zero, List.set_cons_succ]) | (refine T_nil (by rfl) (by rfl) (fun _ _ _ _ h => h) rfl rfl ?_; try simp only [Act.put, List.setIfInBounds_toArray, List.set_cons_zero, List.set_cons_succ]) | (refine T_quietN (by rfl) (by rfl) (by rfl) (by rfl) (fun _ _ _ _ h => h) (fun K hK => ?_); go_big_quiet_op; refine hK _ ?_; clear hK K) | (refine T_two (by rfl) (by rfl) (by rfl) (by rfl) (fun _ _ _ _ h => h) (fun K hK => ?_); go_big_quiet_op; refine ⟨_, fun _ _ => rfl, ?_⟩; refine hK _ ?_; clear hK K; try simp only [Act.put, List.setIfInBounds_toArray, List.set_cons_zero, List.set_cons_succ]) | fail)
          refine T_call (by rfl) (by rfl) (fun K hK => ?_)
          refine wp_stA ag_sec.info _ _ rfl gs (pk * 128) _ cur (U8 s) _ rfl rfl rfl hls2 (U8_one s) hbs (by rw [hcz]; omega) ?_
          intro w3 hb3 hg3 hz3
          refine hK.out _ _ ((Fr.refl _ _).grown hg3 (fun q hq => by injection hq with hq; exact .inr hq.symm)) ?_
          clear hK K
          try simp only [Act.put, List.setIfInBounds_toArray, List.set_cons_zero, List.set_cons_succ]
          refine T_done ?_
          have hf13 : Fr (fun b => b = gs) w1 w3 := ((Fr.refl (fun b => b = gs) w1).drew).grown hg3 (fun q hq => by injection hq with hq; exact .inr hq.symm)
          go_wp2
          go_roundw
          case rel => exact ⟨k + 1, L.set pk s, by omega, by go_num, SecAt.put hL1 hLl hls hbs hb3, Lib.hid (by rw [List.length_set]; exact HL.out), Lib.hid (by rw [HCC.out, HG.out]; rfl), (hf.trans hf1 (fun _ _ hn => hn.elim)).trans hf13 (fun _ _ hb => hb)⟩
          case measure => simp [intOf]; omega
      · have ekk : decide (k < ks.length) = false := by simpa using hkeep
        have hgd : ks.getD k false = false := by rw [List.getD_eq_getElem?_getD, List.getElem?_eq_none (by omega)]; rfl
        have HG := Lib.hid hgd
        clear hgd
        go_wp2_with (first
          | (refine wpList_ldA ag_wrote rfl _ rfl ⟨gw, k * 129, none⟩ (way1 (pk, s)) rfl HW129.out HCW.out ?_)
          | (refine wpList_allocA zero_wrote rfl rfl ?_; have hb0 := Blk.new wr 90 (way1 (0, zsec)).toArray)
          | (refine wpList_stA ag_wrote.info rfl _ _ rfl wr.heap.size 0 _ _ (way1 (pk, s)) _ rfl rfl rfl HW129.out (way1_one _) hb0 (by rw [List.size_toArray, way1_len zsec_len]; decide) ?_; intro w1 hb1 hg1 hz1; rw [splice_all _ _ (by rw [List.size_toArray, way1_len zsec_len, HW129.out])] at hb1; have hf1 : Fr No wr w1 := ((Fr.refl No wr).alloc _).grown hg1 (fun q hq => by injection hq with hq; exact .inl (by omega)))
          | fail)
        go_roundw
        case rel => exact ⟨k + 1, L, by omega, by go_num, hL.fr hf1 (fun hn => hn), HL, Lib.hid (by rw [HCC.out, HG.out]; rfl), hf.trans hf1 (fun _ _ hn => hn.elim)⟩
        case measure => simp [intOf]; omega
    · obtain rfl : k = d.way.length := by omega
      have ek : decide ((d.way.length : Int) < d.way.length) = false := by simp
      have HCE := Lib.hid (show crashS d.safe d.way ks = L by have := HC.out; rw [List.drop_length] at this; exact this)
      clear ek
      have hP1 := hP.saved hf HL.out hL
      obtain ⟨hbH, _, hnow1, _⟩ := id hP1
      have q0 := hbH.cell 0
      have q1 := hbH.cell 1
      simp only [List.getElem?_toArray, List.getElem?_cons_zero, List.getElem?_cons_succ] at q0 q1
      have hnow2 : SecAt wr gn cn d.now := hnow1
      obtain ⟨_, hcn, _, cur, hbn, hcz, _⟩ := id hnow2
      have hsm : d.safe.length ≤ 4096 := by have := HLEN.out; omega
      have hrd := hL.rd (by have := HL.out; omega)
      rw [HL.out] at hrd
      rw [HL.out] at q0
      have HLL := Lib.hid hL.1
      have ek : decide ((d.way.length : Int) < d.way.length) = false := by simp
      go_wp2_with fail
      (refine T_begin (fun b => b = gn) [0, 1, 2, 3, 4, 5, 6, 7, 8] [8] (by kernel_rfl) (by kernel_rfl) ?_; simp only [pickOps, List.filterMap_cons, List.filterMap_nil, List.getElem?_cons_zero, List.getElem?_cons_succ, Act.put])
      repeat (first | (refine T_skip (by rfl) (by rfl) (fun _ _ _ h => h) ?_; try simp only [Act.put, List.setIfInBounds_toArray, List.set_cons_zero, List.set_cons_succ]) | (refine T_pass (by rfl) (by rfl) ?_; try simp only [Act.put, List.setIfInBounds_toArray, List.set_cons_zero, List.set_cons_succ]) | (refine T_load (by assumption) (by rfl) (by rfl) (fun _ _ _ _ h => h) rfl rfl (by assumption) (by first | exact (fun hn => hn) | assumption) ?_; try simp only [Act.put, List.setIfInBounds_toArray, List.set_cons_zero, List.set_cons_succ]) | (refine T_nil (by rfl) (by rfl) (fun _ _ _ _ h => h) rfl rfl ?_; try simp only [Act.put, List.setIfInBounds_toArray, List.set_cons_zero, List.set_cons_succ]) | (refine T_quietN (by rfl) (by rfl) (by rfl) (by rfl) (fun _ _ _ _ h => h) (fun K hK => ?_); go_big_quiet_op; refine hK _ ?_; clear hK K) | (refine T_two (by rfl) (by rfl) (by rfl) (by rfl) (fun _ _ _ _ h => h) (fun K hK => ?_); go_big_quiet_op; refine ⟨_, fun _ _ => rfl, ?_⟩; refine hK _ ?_; clear hK K; try simp only [Act.put, List.setIfInBounds_toArray, List.set_cons_zero, List.set_cons_succ]) | fail)
      refine T_call (by rfl) (by rfl) (fun K hK => ?_)
      refine wp_copyA so_sec rfl hbn (hrd.drew) (secs_one _) rfl rfl (by have := HLEN.out; rw [hcz]; omega) ?_
      intro w3 hb3 hg3 hz3
      refine hK.out _ _ ((Fr.refl _ _).grown hg3 (fun q hq => by injection hq with hq; exact .inr hq.symm)) ?_
      clear hK K
      try simp only [Act.put, List.setIfInBounds_toArray, List.set_cons_zero, List.set_cons_succ]
      refine T_done ?_
      rw [List.take_of_length_le (by rw [secs_len HLL.out, HL.out]; have := HLEN.out; omega)] at hb3
      have hf3 : Fr (fun b => b = gn) wr w3 := ((Fr.refl (fun b => b = gn) wr).drew).grown hg3 (fun q hq => by injection hq with hq; exact .inr hq.symm)
      have hll : L.length = d.now.length := HL.out.trans HLEN.out
      have HLn := Lib.hid hll
      clear hll hrd
      have hP3 := hP1.turn hf3 HLn.out (hnow2.over hbn HLL.out HLn.out hb3)
      have hb3H := hP3.1
      have q32 := hb3H.cell 2
      have z32 := hb3H.frozen 2
      have q33 := hb3H.cell 3
      have z33 := hb3H.frozen 3
      have q34 := hb3H.cell 4
      have z34 := hb3H.frozen 4
      simp only [List.getElem?_toArray, List.getElem?_cons_zero, List.getElem?_cons_succ] at q32 q33 q34
      go_wp2
      go_end0
      have hset : Fr (fun b => b = H) w3 (((w3.setCell ⟨H, 2, none⟩ (.slice none 0 0)).setCell ⟨H, 3, none⟩ (.bool false)).setCell ⟨H, 4, none⟩ (.int .i64 0)) := (((Fr.refl (fun b => b = H) w3).set (.inr rfl) _).set (p := ⟨H, 3, none⟩) (.inr rfl) _).set (p := ⟨H, 4, none⟩) (.inr rfl) _
      have hfin : crashM d ks = ⟨L, L, [], false, 0⟩ := by unfold crashM; rw [HCE.out]
      rw [hfin]
      refine ⟨rfl, ⟨gs, cs, gn, cn, none, 0, ?_⟩, ((hf.mono (T := X) (fun b _ hb2 => by subst hb2; exact hX.2.1)).trans (hf3.mono (T := X) (fun b _ hb2 => by subst hb2; exact hX.2.2)) (fun _ _ hb => hb)).trans (hset.mono (T := X) (fun b _ hb2 => by subst hb2; exact hX.1)) (fun _ _ hb => hb)⟩
      obtain ⟨_, h1, h2, _, _, _, _, h7, h8, _⟩ := hP3
      exact ⟨((hb3H.put 2 _).put 3 _).put 4 _, h1.fr hset hne.2.1, h2.fr hset hne.2.2, World.ownsRow_nil _ _ _ _, hne, fun b hb => by simp [Value.ownBlock] at hb, hX, rfl, h8, fun p hp => by cases hp⟩
end Go.Proofs.YtannkgglgmbkdaaDoor
namespace Go.Proofs.YtannkgglgmbkdaaDoor
set_option linter.unusedVariables false
set_option linter.unusedSimpArgs false
open Go.RowKit

def countZ (k n : Int) : Int := if n < 1 then 0 else if k.tmod n < 0 then k.tmod n + n else k.tmod n
theorem countZ_range (k n : Int) (h : 1 ≤ n) : 0 ≤ countZ k n ∧ countZ k n < n := by
  have h1 := Int.tmod_lt_of_pos k (show 0 < n by omega)
  have h2 := Int.tmod_lt_of_pos (-k) (show 0 < n by omega)
  rw [Int.neg_tmod] at h2
  unfold countZ
  rw [if_neg (by omega)]
  split <;> omega
theorem count_calls (k n : Int) (w : World) (hk : -9223372036854775808 ≤ k) (hk2 : k ≤ 9223372036854775807) (hn : -9223372036854775808 ≤ n) (hn2 : n ≤ 4611686018427387904) :
    Calls Tryd.prog 15 #[.int .i64 k, .int .i64 n] w fun e w' => e = .returned (.int .i64 (countZ k n)) ∧ w = w' := by
  by_cases h1 : n < 1
  · have H := Lib.hid (show countZ k n = 0 by unfold countZ; rw [if_pos h1])
    have e1 : decide (n < 1) = true := by simpa using h1
    go_enter Tryd.func15, Tryd.ntmps15
    go_wp2
    go_ret
    exact ⟨by rw [H.out]; rfl, rfl⟩
  have e1 : decide (n < 1) = false := by simpa using h1
  have g1 := Int.tmod_lt_of_pos k (show 0 < n by omega)
  have g2 := Int.tmod_lt_of_pos (-k) (show 0 < n by omega)
  rw [Int.neg_tmod] at g2
  by_cases h2 : k.tmod n < 0
  · have H := Lib.hid (show countZ k n = k.tmod n + n by unfold countZ; rw [if_neg h1, if_pos h2])
    have e2 : decide (k.tmod n < 0) = true := by simpa using h2
    have e3 : (n == 0) = false := by rw [beq_eq_false_iff_ne]; omega
    go_enter Tryd.func15, Tryd.ntmps15
    go_wp2
    go_ret
    exact ⟨by rw [H.out]; rfl, rfl⟩
  · have H := Lib.hid (show countZ k n = k.tmod n by unfold countZ; rw [if_neg h1, if_neg h2])
    have e2 : decide (k.tmod n < 0) = false := by simpa using h2
    have e3 : (n == 0) = false := by rw [beq_eq_false_iff_ne]; omega
    go_enter Tryd.func15, Tryd.ntmps15
    go_wp2
    go_ret
    exact ⟨by rw [H.out]; rfl, rfl⟩
end Go.Proofs.YtannkgglgmbkdaaDoor
namespace Go.Proofs.YtannkgglgmbkdaaDoor
set_option linter.unusedVariables false
set_option linter.unusedSimpArgs false
open Go.RowKit

structure ActM where
  kind : Int
  n : Int
  k : Int
  c : UInt8
  keep : List Bool
abbrev tAct : TypeId := 81
theorem ag_act : AggOf Tryd.prog tAct 5 := ⟨⟨_, Tryd.underlying81, rfl⟩, by kernel_rfl⟩
def ActC (w : World) (S : Nat → Prop) (cs : List Value) (a : ActM) : Prop :=
  ∃ B b, cs = [.int .i64 a.kind, .int .i64 a.n, .int .i64 a.k, .int .u8 (a.c.toNat : Int), .slice B a.keep.length b] ∧ Rd w S 1 B a.keep.length (BLs a.keep)
theorem ActC.len {w : World} {S : Nat → Prop} {cs : List Value} {a : ActM} (h : ActC w S cs a) : cs.length = 5 := by
  obtain ⟨B, b, rfl, _⟩ := h; rfl
theorem ActC.fr {w w' : World} {S T : Nat → Prop} {cs : List Value} {a : ActM} (h : ActC w S cs a) (hf : Fr T w w') (hd : ∀ b, S b → ¬ T b) : ActC w' S cs a := by
  obtain ⟨B, b, rfl, h1⟩ := h
  exact ⟨B, b, rfl, h1.fr hf hd⟩
theorem Rd.plain {w : World} {S : Nat → Prop} {size n : Nat} {A : Option Addr} {xs : List Value} (h : Rd w S size A n xs) (hn : 0 < n) (hs : 0 < size) : ∃ g o, A = some ⟨g, o, none⟩ ∧ S g ∧ ∀ j u, xs[j]? = some u → w.cell? ⟨g, o + j, none⟩ = some u := by
  obtain ⟨ad, rfl, hS, hc⟩ := h.2.2 hn
  have hl : 0 < xs.length := by rw [h.1]; exact Nat.mul_pos hn hs
  have hsp : ad.spot = none := by
    have h3 := hc 0 _ (List.getElem?_eq_getElem hl)
    have := World.cell?_spot h3
    simpa [Addr.add] using this
  obtain ⟨g, o, sp⟩ := ad
  simp only at hsp
  subst hsp
  refine ⟨g, o, rfl, hS, fun j u hu => ?_⟩
  have := hc j u hu
  have key : (⟨g, o, none⟩ : Addr).add j = ⟨g, o + j, none⟩ := by unfold Addr.add; split <;> simp_all
  rwa [key] at this
theorem addr5 (g a : Nat) (cs : List Value) {w : World} (h : ∀ j u, cs[j]? = some u → w.cell? ⟨g, a + j, none⟩ = some u) : ∀ j u, cs[j]? = some u → w.cell? ((⟨g, a, none⟩ : Addr).add j) = some u := by
  intro j u hu
  have e : (⟨g, a, none⟩ : Addr).add j = ⟨g, a + j, none⟩ := by unfold Addr.add; split <;> simp_all
  rw [e]; exact h j u hu
def ActsC (w : World) (S : Nat → Prop) : List Value → List ActM → Prop
  | xs, [] => xs = []
  | xs, t :: ts => ∃ cs rest, xs = cs ++ rest ∧ ActC w S cs t ∧ ActsC w S rest ts
theorem ActsC.fr {w w' : World} {S T : Nat → Prop} (hf : Fr T w w') (hd : ∀ b, S b → ¬ T b) : ∀ {ts : List ActM} {xs : List Value}, ActsC w S xs ts → ActsC w' S xs ts
  | [], _, h => h
  | t :: ts, _, ⟨cs, rest, e, hc, hr⟩ => ⟨cs, rest, e, hc.fr hf hd, ActsC.fr hf hd hr⟩
theorem ActsC.at_ {w : World} {S : Nat → Prop} : ∀ {ts : List ActM} {xs : List Value} {k : Nat} (_ : ActsC w S xs ts) (hk : k < ts.length), ∃ cs, ActC w S cs ts[k] ∧ ∀ j u, cs[j]? = some u → xs[k * 5 + j]? = some u
  | t :: ts, _, 0, ⟨cs, rest, e, hc, hr⟩, _ => ⟨cs, hc, fun j u hu => by
      obtain ⟨hj, _⟩ := List.getElem?_eq_some_iff.1 hu
      rw [e, Nat.zero_mul, Nat.zero_add, List.getElem?_append_left hj]; exact hu⟩
  | t :: ts, _, k + 1, ⟨cs, rest, e, hc, hr⟩, hk => by
    obtain ⟨cs', h1, h2⟩ := ActsC.at_ hr (k := k) (by simpa using hk)
    refine ⟨cs', by simpa using h1, fun j u hu => ?_⟩
    have hl := hc.len
    rw [e, List.getElem?_append_right (by omega), hl, show (k + 1) * 5 + j - 5 = k * 5 + j by omega]
    exact h2 j u hu
def RdAct (w : World) (S : Nat → Prop) (A : Option Addr) (ts : List ActM) : Prop := ∃ xs, Rd w S 5 A ts.length xs ∧ ActsC w S xs ts
theorem RdAct.fr {w w' : World} {S T : Nat → Prop} {A : Option Addr} {ts : List ActM} (h : RdAct w S A ts) (hf : Fr T w w') (hd : ∀ b, S b → ¬ T b) : RdAct w' S A ts := by
  obtain ⟨xs, h1, h2⟩ := h; exact ⟨xs, h1.fr hf hd, h2.fr hf hd⟩
theorem RdAct.fr0 {w w' : World} {S : Nat → Prop} {A : Option Addr} {ts : List ActM} (h : RdAct w S A ts) (hf : Fr No w w') : RdAct w' S A ts := h.fr hf (fun _ _ hn => hn)
theorem RdAct.le {w : World} {S : Nat → Prop} {A : Option Addr} {ts : List ActM} (h : RdAct w S A ts) : ts.length ≤ 211106232532992 := by
  obtain ⟨xs, h1, h2⟩ := h; exact h1.2.1
theorem RdAct.at_ {w : World} {S : Nat → Prop} {A : Option Addr} {ts : List ActM} (h : RdAct w S A ts) {k : Nat} (hk : k < ts.length) :
    ∃ g o cs, A = some ⟨g, o, none⟩ ∧ S g ∧ ActC w S cs ts[k] ∧ ∀ j u, cs[j]? = some u → w.cell? ((⟨g, o + k * 5, none⟩ : Addr).add j) = some u := by
  obtain ⟨xs, h1, h2⟩ := h
  obtain ⟨g, o, hA, hS, hc⟩ := h1.plain (by omega) (by decide)
  obtain ⟨cs, hcs, hj⟩ := h2.at_ hk
  exact ⟨g, o, cs, hA, hS, hcs, addr5 _ _ _ (fun j u hu => by have := hc _ u (hj j u hu); rwa [← Nat.add_assoc] at this)⟩
def I64R (n : Int) : Prop := -9223372036854775808 ≤ n ∧ n ≤ 9223372036854775807
def ActOk (a : ActM) : Prop := I64R a.kind ∧ I64R a.n ∧ I64R a.k
end Go.Proofs.YtannkgglgmbkdaaDoor
