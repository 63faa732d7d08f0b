/- A device of sectors, as plain data, and how it lies in memory. No condition. -/
import Derived.Test.YtannkgglgmbkdaaDoorProg
import Derived.Test.YtannkgglgmbkdaaDoorLap
import Derived.Test.YtannkgglgmbkdaaDoorReg
import Derived.Test.YtannkgglgmbkdaaDoorMem
import Derived.Lib.SliceRun
import Derived.Stop.BytesEq
namespace Go.Proofs.YtannkgglgmbkdaaDoor
set_option linter.unusedVariables false
set_option linter.unusedSimpArgs false
open Go.RowKit

abbrev Sec := List UInt8
/-- A device. -/
structure DiskM where
  safe : List Sec
  now : List Sec
  way : List (Nat × Sec)
  dead : Bool
  left : Nat
/-- A sector of noughts. -/
def zsec : Sec := List.replicate 128 0
theorem zsec_len : zsec.length = 128 := by simp [zsec]
def secs (L : List Sec) : List Value := L.flatMap U8
def way1 (p : Nat × Sec) : List Value := .int .i64 (p.1 : Int) :: U8 p.2
def ways (l : List (Nat × Sec)) : List Value := l.flatMap way1
theorem secs_append (a b : List Sec) : secs (a ++ b) = secs a ++ secs b := by simp [secs]
theorem secs_flat (L : List Sec) : secs L = U8 L.flatten := by
  induction L with
  | nil => rfl
  | cons s L ih => rw [List.flatten_cons, U8_append, ← ih]; rfl
theorem ways_append (a b : List (Nat × Sec)) : ways (a ++ b) = ways a ++ ways b := by simp [ways]
def Len128 (L : List Sec) : Prop := ∀ s ∈ L, s.length = 128
theorem flat_len {L : List Sec} (h : Len128 L) : L.flatten.length = L.length * 128 := by
  induction L with
  | nil => rfl
  | cons s L ih =>
    rw [List.flatten_cons, List.length_append, h s (by simp), ih (fun x hx => h x (by simp [hx])), List.length_cons]; omega
theorem secs_len {L : List Sec} (h : Len128 L) : (secs L).length = L.length * 128 := by rw [secs_flat, U8_length, flat_len h]
theorem secs_one (L : List Sec) : ∀ u ∈ secs L, u.oneCell' = true := by rw [secs_flat]; exact U8_one _
theorem Len128.set {L : List Sec} (h : Len128 L) (k : Nat) {s : Sec} (hs : s.length = 128) : Len128 (L.set k s) := fun x hx => by
  rcases List.mem_or_eq_of_mem_set hx with hx | rfl
  · exact h x hx
  · exact hs
theorem Len128.take {L : List Sec} (h : Len128 L) (k : Nat) : Len128 (L.take k) := fun x hx => h x (List.mem_of_mem_take hx)
theorem Len128.drop {L : List Sec} (h : Len128 L) (k : Nat) : Len128 (L.drop k) := fun x hx => h x (List.mem_of_mem_drop hx)
theorem secs_split {L : List Sec} {k : Nat} (hk : k < L.length) : secs L = secs (L.take k) ++ (U8 L[k] ++ secs (L.drop (k + 1))) := by
  have e : L = L.take k ++ (L[k] :: L.drop (k + 1)) := by rw [← List.drop_eq_getElem_cons hk, List.take_append_drop]
  conv => lhs; rw [e]
  rw [secs_append]; rfl
theorem secs_set {L : List Sec} {k : Nat} (hk : k < L.length) (s : Sec) : secs (L.set k s) = secs (L.take k) ++ (U8 s ++ secs (L.drop (k + 1))) := by
  have h1 := secs_split (L := L.set k s) (k := k) (by simpa using hk)
  rw [h1, List.getElem_set_self, List.take_set_of_le (Nat.le_refl k), List.drop_set_of_lt (by omega)]
/-- The cells of the k-th sector. -/
theorem secs_at {L : List Sec} (h : Len128 L) {k : Nat} (hk : k < L.length) (j : Nat) (u : Value) (hu : (U8 L[k])[j]? = some u) : (secs L)[k * 128 + j]? = some u := by
  have hj := (List.getElem?_eq_some_iff.1 hu).1
  rw [secs_split hk, List.getElem?_append_right (by rw [secs_len (h.take k), List.length_take]; omega), secs_len (h.take k), List.length_take, show k * 128 + j - min k L.length * 128 = j by rw [Nat.min_eq_left (by omega)]; omega, List.getElem?_append_left hj]
  exact hu
/-- Sectors in a row of their own, with room behind. -/
def SecAt (w : World) (g cap : Nat) (L : List Sec) : Prop :=
  Len128 L ∧ L.length ≤ cap ∧ cap ≤ maxLen ∧ ∃ cur : Array Value, Blk w g 88 cur ∧ cur.size = cap * 128 ∧ ∀ (j : Nat) (u : Value), (secs L)[j]? = some u → cur[j]? = some u
section
variable {w w' : World} {S : Nat → Prop} {g cap : Nat} {L : List Sec}
theorem SecAt.fr (h : SecAt w g cap L) (hf : Fr S w w') (hs : ¬ S g) : SecAt w' g cap L := by
  obtain ⟨h1, h2, h3, cur, hb, h4, h5⟩ := h
  exact ⟨h1, h2, h3, cur, hb.fr hf hs, h4, h5⟩
theorem SecAt.lt (h : SecAt w g cap L) : g < w.heap.size := by obtain ⟨_, _, _, cur, hb, _⟩ := h; exact hb.lt
/-- A sector of it, as cells. -/
theorem SecAt.at_ (h : SecAt w g cap L) {k : Nat} (hk : k < L.length) (j : Nat) (u : Value) (hu : (U8 L[k])[j]? = some u) : w.cell? ((⟨g, k * 128, none⟩ : Addr).add j) = some u := by
  obtain ⟨h1, h2, h3, cur, hb, h4, h5⟩ := h
  have e : (⟨g, k * 128, none⟩ : Addr).add j = ⟨g, k * 128 + j, none⟩ := by unfold Addr.add; split <;> simp_all
  rw [e, hb.cell]
  exact h5 _ _ (secs_at h1 hk j u hu)
theorem splice_get (cur : Array Value) (o : Nat) (cs : List Value) (h : o + cs.length ≤ cur.size) (j : Nat) :
    (splice cur o cs)[j]? = if j < o then cur[j]? else if j < o + cs.length then cs[j - o]? else cur[j]? := by
  rw [← Array.getElem?_toList, splice_toList]
  by_cases h1 : j < o
  · rw [if_pos h1, List.append_assoc, List.getElem?_append_left (by simp; omega), List.getElem?_take, if_pos h1, Array.getElem?_toList]
  · rw [if_neg h1]
    have ht : (cur.toList.take o).length = o := by simp; omega
    by_cases h2 : j < o + cs.length
    · rw [if_pos h2, List.append_assoc, List.getElem?_append_right (by omega), List.getElem?_append_left (by omega), ht]
    · rw [if_neg h2, List.getElem?_append_right (by simp; omega), List.getElem?_drop, List.length_append, ht, show o + cs.length + (j - (o + cs.length)) = j by omega, Array.getElem?_toList]
/-- A sector of it stored. -/
theorem SecAt.put (h : SecAt w g cap L) {k : Nat} (hk : k < L.length) {s : Sec} (hs : s.length = 128) {cur : Array Value} (hb : Blk w g 88 cur) (hb' : Blk w' g 88 (splice cur (k * 128) (U8 s))) : SecAt w' g cap (L.set k s) := by
  obtain ⟨h1, h2, h3, cur0, hb0, h4, h5⟩ := h
  have e : cur0 = cur := by
    have := hb0.symm.trans hb
    simpa using this
  subst e
  have hfit : k * 128 + (U8 s).length ≤ cur0.size := by rw [U8_length, hs, h4]; omega
  refine ⟨h1.set k hs, by simpa using h2, h3, _, hb', by rw [splice_size _ _ _ hfit, h4], fun j u hu => ?_⟩
  rw [splice_get _ _ _ hfit]
  rw [secs_set hk] at hu
  have hl1 : (secs (L.take k)).length = k * 128 := by rw [secs_len (h1.take k), List.length_take]; congr 1; omega
  have hl2 : (U8 s).length = 128 := by rw [U8_length, hs]
  have hl3 : (U8 L[k]).length = 128 := by rw [U8_length, h1 _ (List.getElem_mem hk)]
  have hold := secs_split hk
  by_cases hj : j < k * 128
  · rw [if_pos hj]
    rw [List.getElem?_append_left (by omega)] at hu
    refine h5 j u ?_
    rw [hold, List.getElem?_append_left (by omega)]; exact hu
  · rw [if_neg hj]
    rw [List.getElem?_append_right (by omega), hl1] at hu
    by_cases hj2 : j < k * 128 + (U8 s).length
    · rw [if_pos hj2]
      rw [List.getElem?_append_left (by omega)] at hu
      exact hu
    · rw [if_neg hj2]
      rw [List.getElem?_append_right (by omega), hl2] at hu
      refine h5 j u ?_
      rw [hold, List.getElem?_append_right (by omega), hl1, List.getElem?_append_right (by omega), hl3]; exact hu
theorem SecAt.rd (h : SecAt w g cap L) (hn : L.length ≤ 211106232532992) : Rd w (fun b => b = g) 128 (some ⟨g, 0, none⟩) L.length (secs L) := by
  obtain ⟨h1, h2, h3, cur, hb, h4, h5⟩ := h
  exact ⟨secs_len h1, hn, fun _ => ⟨_, rfl, rfl, fun j u hu => by rw [add_plain, hb.cell]; exact h5 j u hu⟩⟩
end
/-- The device H, in blocks that meet X: its rows are gs, gn and A's. -/
def DiskP (w : World) (X : Nat → Prop) (H gs cs gn cn : Nat) (A : Option Addr) (c : Nat) (d : DiskM) : Prop :=
  Blk w H 87 #[.slice (some ⟨gs, 0, none⟩) d.safe.length cs, .slice (some ⟨gn, 0, none⟩) d.now.length cn, .slice A d.way.length c, .bool d.dead, .int .i64 (d.left : Int)] ∧
    SecAt w gs cs d.safe ∧ SecAt w gn cn d.now ∧ w.ownsRow 0 90 129 (.slice A d.way.length c) d.way.length (ways d.way) ∧
    (gs ≠ gn ∧ gs ≠ H ∧ gn ≠ H) ∧ (∀ b, (Value.slice A d.way.length c).ownBlock = some b → b ≠ H ∧ b ≠ gs ∧ b ≠ gn ∧ X b) ∧ (X H ∧ X gs ∧ X gn) ∧
    d.safe.length = d.now.length ∧ d.now.length ≤ 4096 ∧ ∀ p ∈ d.way, p.1 < d.now.length ∧ p.2.length = 128
def DiskAt (w : World) (X : Nat → Prop) (H : Nat) (d : DiskM) : Prop := ∃ gs cs gn cn A c, DiskP w X H gs cs gn cn A c d
section
variable {w w' : World} {X Y S : Nat → Prop} {H gs cs gn cn : Nat} {A : Option Addr} {c : Nat} {d : DiskM}
theorem DiskP.fr (h : DiskP w X H gs cs gn cn A c d) (hf : Fr S w w') (hX : ∀ b, X b → ¬ S b) : DiskP w' X H gs cs gn cn A c d := by
  obtain ⟨hb, h1, h2, h3, h4, h5, h6, h7⟩ := h
  exact ⟨hb.fr hf (hX _ h6.1), h1.fr hf (hX _ h6.2.1), h2.fr hf (hX _ h6.2.2), own_fr h3 hf (fun b hb => hX b (h5 b hb).2.2.2), h4, h5, h6, h7⟩
theorem DiskP.fr0 (h : DiskP w X H gs cs gn cn A c d) (hf : Fr No w w') : DiskP w' X H gs cs gn cn A c d := h.fr hf (fun _ _ hn => hn)
theorem DiskP.mono (h : DiskP w X H gs cs gn cn A c d) (hX : ∀ b, b < w.heap.size → X b → Y b) : DiskP w Y H gs cs gn cn A c d := by
  obtain ⟨hb, h1, h2, h3, h4, h5, h6, h7⟩ := h
  exact ⟨hb, h1, h2, h3, h4, fun b hb => ⟨(h5 b hb).1, (h5 b hb).2.1, (h5 b hb).2.2.1, hX b (h3.lt b hb).2 (h5 b hb).2.2.2⟩, ⟨hX _ hb.lt h6.1, hX _ h1.lt h6.2.1, hX _ h2.lt h6.2.2⟩, h7⟩
/-- Its own block has other words behind the rows. -/
theorem DiskP.head (h : DiskP w X H gs cs gn cn A c d) (hf : Fr (fun b => b = H) w w') {dead : Bool} {left : Nat}
    (hb : Blk w' H 87 #[.slice (some ⟨gs, 0, none⟩) d.safe.length cs, .slice (some ⟨gn, 0, none⟩) d.now.length cn, .slice A d.way.length c, .bool dead, .int .i64 (left : Int)]) :
    DiskP w' X H gs cs gn cn A c { d with dead := dead, left := left } := by
  obtain ⟨_, h1, h2, h3, h4, h5, h6, h7⟩ := h
  exact ⟨hb, h1.fr hf h4.2.1, h2.fr hf h4.2.2, own_fr h3 hf (fun b hb => (h5 b hb).1), h4, h5, h6, h7⟩
/-- What stands now has changed. -/
theorem DiskP.turn (h : DiskP w X H gs cs gn cn A c d) (hf : Fr (fun b => b = gn) w w') {L : List Sec} (hl : L.length = d.now.length) (hL : SecAt w' gn cn L) : DiskP w' X H gs cs gn cn A c { d with now := L } := by
  obtain ⟨hb, h1, h2, h3, h4, h5, h6, h7, h8, h9⟩ := h
  have hb' := hb.fr hf (fun e => h4.2.2 e.symm)
  rw [← hl] at hb'
  exact ⟨hb', h1.fr hf h4.1, hL, own_fr h3 hf (fun b hb => (h5 b hb).2.2.1), h4, h5, h6, h7.trans hl.symm, by show L.length ≤ 4096; omega, fun p hp => by have := h9 p hp; exact ⟨by show p.1 < L.length; omega, this.2⟩⟩
/-- What is safe has changed. -/
theorem DiskP.saved (h : DiskP w X H gs cs gn cn A c d) (hf : Fr (fun b => b = gs) w w') {L : List Sec} (hl : L.length = d.safe.length) (hL : SecAt w' gs cs L) : DiskP w' X H gs cs gn cn A c { d with safe := L } := by
  obtain ⟨hb, h1, h2, h3, h4, h5, h6, h7, h8, h9⟩ := h
  have hb' := hb.fr hf (fun e => h4.2.1 e.symm)
  rw [← hl] at hb'
  exact ⟨hb', hL, h2.fr hf (fun e => h4.1 e.symm), own_fr h3 hf (fun b hb => (h5 b hb).2.1), h4, h5, h6, hl.trans h7, h8, h9⟩
theorem DiskAt.fr (h : DiskAt w X H d) (hf : Fr S w w') (hX : ∀ b, X b → ¬ S b) : DiskAt w' X H d := by
  obtain ⟨gs, cs, gn, cn, A, c, h⟩ := h
  exact ⟨gs, cs, gn, cn, A, c, h.fr hf hX⟩
theorem DiskAt.fr0 (h : DiskAt w X H d) (hf : Fr No w w') : DiskAt w' X H d := h.fr hf (fun _ _ hn => hn)
theorem DiskAt.mono (h : DiskAt w X H d) (hX : ∀ b, b < w.heap.size → X b → Y b) : DiskAt w Y H d := by
  obtain ⟨gs, cs, gn, cn, A, c, h⟩ := h
  exact ⟨gs, cs, gn, cn, A, c, h.mono hX⟩
end
theorem ag_sec : AggOf Tryd.prog 88 128 := ⟨⟨_, Tryd.underlying88, rfl⟩, by kernel_rfl⟩
theorem ag_wrote : AggOf Tryd.prog 90 129 := ⟨⟨_, Tryd.underlying90, rfl⟩, by kernel_rfl⟩
theorem so_u8 : SliceOf Tryd.prog 40 5 (.int .u8 0) 1 1 := ⟨Tryd.underlying40, by kernel_rfl, rfl, by decide, by decide, by decide⟩
theorem so_sec : SliceOf Tryd.prog 84 88 (.agg (U8 zsec).toArray) 128 128 := ⟨Tryd.underlying84, by kernel_rfl, rfl, by decide, by decide, by decide⟩
theorem so_wrote : SliceOf Tryd.prog 85 90 (.agg (way1 (0, zsec)).toArray) 129 136 := ⟨Tryd.underlying85, by kernel_rfl, rfl, by decide, by decide, by decide⟩
end Go.Proofs.YtannkgglgmbkdaaDoor
