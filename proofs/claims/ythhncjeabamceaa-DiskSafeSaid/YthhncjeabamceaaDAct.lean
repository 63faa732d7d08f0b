/- Writes as the laws make them: anywhere, of one byte. No condition but size. -/
import Derived.Test.YthhncjeabamceaaPDisk
import Derived.Test.YthhncjeabamceaaCount
namespace Go.Proofs.Ythhncjeabamceaa
set_option linter.unusedVariables false
set_option linter.unusedSimpArgs false
open Go.RowKit

def Live (d : DiskM) : Prop := d.dead = false ∧ d.left = 0
def over (L : List Sec) (k : Nat) : List Sec → List Sec
  | [] => L
  | s :: ss => over (L.set k s) (k + 1) ss
def marks (k : Nat) : List Sec → List (Nat × Sec)
  | [] => []
  | s :: ss => (k, s) :: marks (k + 1) ss
def applyW (S : List Sec) (way : List (Nat × Sec)) : List Sec := way.foldl (fun S p => S.set p.1 p.2) S
theorem applyW_app (S : List Sec) (a b : List (Nat × Sec)) : applyW S (a ++ b) = applyW (applyW S a) b := by simp [applyW, List.foldl_append]
theorem over_marks (L : List Sec) (k : Nat) (ss : List Sec) : over L k ss = applyW L (marks k ss) := by
  induction ss generalizing L k with
  | nil => rfl
  | cons s ss ih => rw [over, ih]; rfl
theorem over_len (L : List Sec) (k : Nat) (ss : List Sec) : (over L k ss).length = L.length := by
  induction ss generalizing L k with
  | nil => rfl
  | cons s ss ih => rw [over, ih, List.length_set]
theorem marks_len (k : Nat) (ss : List Sec) : (marks k ss).length = ss.length := by
  induction ss generalizing k with
  | nil => rfl
  | cons s ss ih => rw [marks, List.length_cons, ih, List.length_cons]
theorem marks_mem {k : Nat} {ss : List Sec} {p : Nat × Sec} (h : p ∈ marks k ss) : p.2 ∈ ss ∧ k ≤ p.1 ∧ p.1 < k + ss.length := by
  induction ss generalizing k with
  | nil => cases h
  | cons s ss ih =>
    rcases List.mem_cons.1 h with rfl | h
    · exact ⟨by simp, by simp, by simp⟩
    · have := ih h
      exact ⟨List.mem_cons_of_mem _ this.1, by omega, by rw [List.length_cons]; omega⟩
theorem puts_live {d : DiskM} (h : Live d) (k : Nat) (ss : List Sec) : putsM d k ss = ({ d with now := over d.now k ss, way := d.way ++ marks k ss }, true) := by
  induction ss generalizing d k with
  | nil => simp [putsM, over, marks]
  | cons s ss ih =>
    have h1 : oneM d k s = ({ d with now := d.now.set k s, way := d.way ++ [(k, s)] }, true) := by
      unfold oneM
      rw [if_neg (by rw [h.2]; decide), if_neg (by rw [h.1]; exact Bool.false_ne_true), h.2]
    rw [putsM_cons, h1, if_pos rfl]
    refine (ih (d := { d with now := d.now.set k s, way := d.way ++ [(k, s)] }) ⟨h.1, h.2⟩ (k + 1)).trans ?_
    simp [over, marks]
/-- A write anywhere. -/
def badAt (d : DiskM) (a : Int) (n : Nat) : Bool := decide (a < 0) || (decide ((d.now.length : Int) < a) || decide (((d.now.length : Int) - a) * 128 < ((n * 128 : Nat) : Int)))
def actM (d : DiskM) (a : Int) (n : Nat) (c : UInt8) : DiskM := if badAt d a n = true then d else { d with now := over d.now a.toNat (List.replicate n (fsec c)), way := d.way ++ marks a.toNat (List.replicate n (fsec c)) }
def actE (d : DiskM) (a : Int) (n : Nat) : Int := if badAt d a n = true then 13 else 0
theorem badAt_no {d : DiskM} {a : Int} {n : Nat} (h : badAt d a n = false) : 0 ≤ a ∧ a.toNat + n ≤ d.now.length := by
  simp only [badAt, Bool.or_eq_false_iff, decide_eq_false_iff_not] at h
  obtain ⟨h1, h2, h3⟩ := h
  omega
theorem act_live {d : DiskM} (h : Live d) (a : Int) (n : Nat) (c : UInt8) : Live (actM d a n c) := by unfold actM; split <;> exact h
theorem act_len (d : DiskM) (a : Int) (n : Nat) (c : UInt8) : (actM d a n c).now.length = d.now.length := by unfold actM; split <;> simp [over_len]
theorem act_way (d : DiskM) (a : Int) (n : Nat) (c : UInt8) : (actM d a n c).way.length ≤ d.way.length + n := by unfold actM; split <;> simp [marks_len]
theorem act_safe (d : DiskM) (a : Int) (n : Nat) (c : UInt8) : (actM d a n c).safe = d.safe := by unfold actM; split <;> rfl
theorem act_apply {d : DiskM} (a : Int) (n : Nat) (c : UInt8) (h : applyW d.safe d.way = d.now) : applyW (actM d a n c).safe (actM d a n c).way = (actM d a n c).now := by
  unfold actM
  split
  · exact h
  · simp only; rw [applyW_app, h, over_marks]
theorem act_mem {d : DiskM} {a : Int} {n : Nat} {c : UInt8} {p : Nat × Sec} (h : p ∈ (actM d a n c).way) : p ∈ d.way ∨ (actE d a n = 0 ∧ 0 ≤ a ∧ p.2 = fsec c ∧ a.toNat ≤ p.1 ∧ p.1 < a.toNat + n ∧ a.toNat + n ≤ d.now.length) := by
  unfold actM at h
  split at h
  · exact .inl h
  · rename_i hb
    have hb' : badAt d a n = false := by simpa using hb
    rcases List.mem_append.1 h with h | h
    · exact .inl h
    · have h1 := marks_mem h
      rw [List.length_replicate] at h1
      have h2 := badAt_no hb'
      exact .inr ⟨by unfold actE; rw [if_neg hb], h2.1, List.eq_of_mem_replicate h1.1, h1.2.1, h1.2.2, h2.2⟩
/-- Write, anywhere, of some sectors of one byte. -/
theorem write_act (w : World) (X Y : Nat → Prop) (H : Nat) (d : DiskM) (a : Int) (n : Nat) (c : UInt8) (g : Nat) (h : DiskAt w X H d) (hl : Live d) (ha : -9223372036854775808 ≤ a ∧ a ≤ 9223372036854775807) (hb : Blk w g 5 (U8 (List.replicate (n * 128) c)).toArray) (hg : ¬ X g) (hn : 1 ≤ n) (hn2 : n ≤ 4096) (hway : d.way.length ≤ 50000) (hXY : ∀ b, X b → Y b) (hY : ∀ b, w.heap.size ≤ b → Y b) :
    Calls Try.prog 9 #[.pointer (some ⟨H, 0, none⟩), .int .i64 a, .slice (some ⟨g, 0, none⟩) (n * 128) (n * 128)] w fun e w' => e = .returned (.int .i64 (actE d a n)) ∧ Left w X Y H (actM d a n c) w' := by
  cases hbad : badAt d a n with
  | true =>
    have hb2 : a < 0 ∨ (d.now.length : Int) < a ∨ ((d.now.length : Int) - a) * 128 < ((n * 128 : Nat) : Int) := by
      simpa [badAt, or_assoc] using hbad
    refine (write_range w X H d a (n * 128) _ _ h ha (by omega) hb2).mono ?_
    rintro e _ ⟨rfl, rfl⟩
    unfold actE actM
    rw [if_pos hbad, if_pos hbad]
    exact ⟨rfl, h.mono (fun b _ hb => hXY b hb), Fr.refl _ _⟩
  | false =>
    obtain ⟨h1, h2⟩ := badAt_no hbad
    obtain ⟨k, rfl⟩ := Int.eq_ofNat_of_zero_le h1
    rw [Int.toNat_natCast] at h2
    refine (write_full w X Y H d k n c g h hb hg hn h2 hway (by rw [hl.2]; decide) hXY hY).mono ?_
    intro e w' hret
    rw [puts_live hl] at hret
    obtain ⟨rfl, hL⟩ := hret.ok rfl
    have hnb : ¬ (badAt d (k : Int) n = true) := by rw [hbad]; exact Bool.false_ne_true
    unfold actE actM
    rw [if_neg hnb, if_neg hnb, Int.toNat_natCast]
    exact ⟨rfl, hL⟩
theorem crash_all (S : List Sec) (way : List (Nat × Sec)) : crashS S way (List.replicate way.length true) = applyW S way := by
  induction way generalizing S with
  | nil => rfl
  | cons p way ih => rw [List.length_cons, List.replicate_succ, crashS]; simp only [List.headD_cons, if_true, List.tail_cons]; rw [ih]; rfl
theorem crash_none (S : List Sec) (ks : List Bool) : crashS S [] ks = S := rfl

/-- An act of the laws. -/
structure Act where
  at_ : Int
  n : Int
  c : UInt8
def ActsC (xs : List Value) (l : List Act) : Prop := ∀ k (h : k < l.length), xs[k * 6 + 1]? = some (.int .i64 l[k].at_) ∧ xs[k * 6 + 2]? = some (.int .i64 l[k].n) ∧ xs[k * 6 + 3]? = some (.int .u8 (l[k].c.toNat : Int))
def ActOk (a : Act) : Prop := (-9223372036854775808 ≤ a.at_ ∧ a.at_ ≤ 9223372036854775807) ∧ (-9223372036854775808 ≤ a.n ∧ a.n ≤ 9223372036854775807)
def RdA (w : World) (S : Nat → Prop) (A : Option Addr) (l : List Act) : Prop := ∃ xs, Rd w S 6 A l.length xs ∧ ActsC xs l
theorem RdA.fr {w w' : World} {S T : Nat → Prop} {A : Option Addr} {l : List Act} (h : RdA w S A l) (hf : Fr T w w') (hd : ∀ b, S b → ¬ T b) : RdA w' S A l := by
  obtain ⟨xs, h1, h2⟩ := h; exact ⟨xs, h1.fr hf hd, h2⟩
theorem RdA.le {w : World} {S : Nat → Prop} {A : Option Addr} {l : List Act} (h : RdA w S A l) : l.length ≤ 211106232532992 := by obtain ⟨xs, h1, _⟩ := h; exact h1.le
theorem RdA.at_ {w : World} {S : Nat → Prop} {A : Option Addr} {l : List Act} {k : Nat} (h : RdA w S A l) (hk : k < l.length) :
    ∃ g o, A = some ⟨g, o, none⟩ ∧ S g ∧ w.cell? ⟨g, o + k * 6 + 1, none⟩ = some (.int .i64 l[k].at_) ∧ w.cell? ⟨g, o + k * 6 + 2, none⟩ = some (.int .i64 l[k].n) ∧ w.cell? ⟨g, o + k * 6 + 3, none⟩ = some (.int .u8 (l[k].c.toNat : Int)) := by
  obtain ⟨xs, h1, h2⟩ := h
  obtain ⟨ad, rfl, hS, hc⟩ := h1.2.2 (by omega)
  obtain ⟨e1, e2, e3⟩ := h2 k hk
  have hsp : ad.spot = none := by
    have hl : 0 < xs.length := by rw [h1.1]; omega
    have h3 := hc 0 _ (List.getElem?_eq_getElem hl)
    have := World.cell?_spot h3
    simpa [Addr.add] using this
  obtain ⟨g, o, sp⟩ := ad
  simp only at hsp
  subst hsp
  have key : ∀ j, (⟨g, o, none⟩ : Addr).add j = ⟨g, o + j, none⟩ := by
    intro j; unfold Addr.add; split <;> simp_all
  refine ⟨g, o, rfl, hS, ?_, ?_, ?_⟩
  · have := hc _ _ e1; rwa [key, ← Nat.add_assoc] at this
  · have := hc _ _ e2; rwa [key, ← Nat.add_assoc] at this
  · have := hc _ _ e3; rwa [key, ← Nat.add_assoc] at this
theorem plain_u8 : ∀ w, (isAgg 5).run Try.prog w = .ok false w := plain_of Try.underlying5 rfl
def cnt3 (z : Int) : Nat := 1 + (countZ z 3).toNat
theorem cnt3_spec (z : Int) : 1 ≤ cnt3 z ∧ cnt3 z ≤ 3 ∧ (1 + countZ z 3 : Int) = (cnt3 z : Int) ∧ 0 ≤ countZ z 3 ∧ countZ z 3 < 3 := by
  have := countZ_range z 3 (by decide)
  unfold cnt3
  omega
end Go.Proofs.Ythhncjeabamceaa
