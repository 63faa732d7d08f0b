/- ring.Open where it goes well. No condition but size. Layings of the library's own functions at this seat's numbers. No condition. bytes.Buffer's Write and Bytes at this seat. No condition but size. ring.sectors in full. No condition but size. -/
import Derived.Test.YtannkgglgmbkdaaDoorJRRingAgainp4
import Derived.Deep.CutBlock
import Derived.Deep.DeepCutAuto
import Derived.Shelf.Bytes.Write
import Derived.Shelf.Bytes.Bytes
import Derived.Test.YtannkgglgmbkdaaDoorProg
import Derived.Test.YtannkgglgmbkdaaDoorJRRingAgainp2
import Derived.Test.YtannkgglgmbkdaaDoorJRRingAgainp3
import Derived.Shelf.Bytes.WriteAny
namespace Go.Proofs.YtannkgglgmbkdaaDoor
set_option linter.unusedVariables false
set_option linter.unusedSimpArgs false
open Go.RowKit

/-- A log. -/
structure LogM where
  h : HeadM
  seq : Int
  at_ : Nat
  bad : Bool
def logC (H : Nat) (l : LogM) : List Value := [.pointer (some ⟨H, 0, none⟩), .int .i64 l.h.life, .int .i64 l.h.half, .int .i64 l.h.first, .int .i64 l.h.since, .int .i64 l.seq, .int .i64 (l.at_ : Int), .bool l.bad]
def LogAt (w : World) (L H : Nat) (l : LogM) : Prop := Blk w L 71 (logC H l).toArray
/-- Records in memory: the cells of their slices. -/
def RecCells (w : World) (S : Nat → Prop) (recs : List (List UInt8)) (cs : List Value) : Prop :=
  cs.length = recs.length ∧ ∀ (i : Nat) (l : List UInt8), recs[i]? = some l → ∃ (A : Option Addr) (c : Nat), cs[i]? = some (Value.slice A l.length c) ∧ RdB w S A l
theorem RecCells.fr {w w' : World} {S T : Nat → Prop} {recs : List (List UInt8)} {cs : List Value} (h : RecCells w S recs cs) (hf : Fr T w w') (hd : ∀ b, S b → ¬ T b) : RecCells w' S recs cs :=
  ⟨h.1, fun i l hi => by obtain ⟨A, c, h1, h2⟩ := h.2 i l hi; exact ⟨A, c, h1, Rd.fr h2 hf hd⟩⟩
theorem RecCells.mono {w : World} {S T : Nat → Prop} {recs : List (List UInt8)} {cs : List Value} (h : RecCells w S recs cs) (hS : ∀ b, b < w.heap.size → S b → T b) : RecCells w T recs cs :=
  ⟨h.1, fun i l hi => by obtain ⟨A, c, h1, h2⟩ := h.2 i l hi; exact ⟨A, c, h1, Rd.mono h2 hS (by decide)⟩⟩
theorem RecCells.snoc {w : World} {S : Nat → Prop} {recs : List (List UInt8)} {cs : List Value} (h : RecCells w S recs cs) {l : List UInt8} {A : Option Addr} {c : Nat} (hl : RdB w S A l) : RecCells w S (recs ++ [l]) (cs ++ [Value.slice A l.length c]) := by
  refine ⟨by simp [h.1], fun i x hi => ?_⟩
  rcases Nat.lt_or_ge i recs.length with hlt | hge
  · rw [List.getElem?_append_left hlt] at hi
    rw [List.getElem?_append_left (by rw [h.1]; exact hlt)]
    exact h.2 i x hi
  · rw [List.getElem?_append_right hge] at hi
    obtain ⟨h0, rfl⟩ : i - recs.length = 0 ∧ l = x := by
      rcases hn : i - recs.length with _ | n
      · rw [hn] at hi; exact ⟨rfl, by simpa using hi⟩
      · rw [hn] at hi; simp at hi
    rw [List.getElem?_append_right (by rw [h.1]; exact hge), h.1, h0]
    exact ⟨A, c, rfl, hl⟩
theorem RecCells.one {w : World} {S : Nat → Prop} {recs : List (List UInt8)} {cs : List Value} (h : RecCells w S recs cs) : ∀ u ∈ cs, u.oneCell' = true := fun u hu => by
  obtain ⟨i, hi, rfl⟩ := List.getElem_of_mem hu
  obtain ⟨A, c, h1, _⟩ := h.2 i (recs[i]'(by rw [← h.1]; exact hi)) (List.getElem?_eq_getElem _)
  rw [List.getElem?_eq_getElem hi] at h1
  injection h1 with h1
  rw [h1]; rfl
theorem recGo_len : ∀ (ss : List Sec) (seq : Int) (i : Nat) (life : Int) (acc l : List UInt8) (lf : Int) (n : Nat), recGo seq i life acc ss = some (l, lf, n) → i < n ∧ n ≤ i + ss.length
  | [], _, _, _, _, _, _, _, h => by cases h
  | s :: ss, seq, i, life, acc, l, lf, n, h => by
    rw [recGo] at h
    split at h
    · cases h
    · split at h
      · injection h with h
        injection h with h1 h2
        injection h2 with h2 h3
        subst h3
        simp
      · have := recGo_len ss _ _ _ _ _ _ _ h
        simp only [List.length_cons]
        omega
theorem recGo_small : ∀ (ss : List Sec) (seq : Int) (i : Nat) (life : Int) (acc l : List UInt8) (lf : Int) (n : Nat), recGo seq i life acc ss = some (l, lf, n) → acc.length ≤ 60000 → l.length ≤ 60112
  | [], _, _, _, _, _, _, _, h, _ => by cases h
  | s :: ss, seq, i, life, acc, l, lf, n, h, ha => by
    rw [recGo] at h
    split at h
    · cases h
    · rename_i hb
      have hb1 : ¬ recBad acc.length s := fun h => hb (.inl h)
      unfold recBad at hb1
      have hs : (subB s 16 (s.getD 15 0).toNat).length ≤ (s.getD 15 0).toNat := by unfold subB; rw [List.length_take]; omega
      split at h
      · injection h with h
        injection h with h1 h2
        rw [← h1, List.length_append]
        omega
      · exact recGo_small ss _ _ _ _ _ _ _ h (by rw [List.length_append]; omega)
/-- The records that stand in sectors, one behind the other. -/
def openGo (top : Int) : Nat → Int → Int → Nat → List (List UInt8) → List Sec → List (List UInt8) × Int × Nat
  | 0, _, seq, at_, recs, _ => (recs, seq, at_)
  | f + 1, was, seq, at_, recs, ss => match recGo seq 0 0 [] ss with
    | none => (recs, seq, at_)
    | some (l, life, n) => if life < was ∨ top < life then (recs, seq, at_) else openGo top f life (seq + 1) (at_ + n) (recs ++ [l]) (ss.drop n)
theorem openGo_none {top was seq : Int} {f at_ : Nat} {recs : List (List UInt8)} {ss : List Sec} (h : recGo seq 0 0 [] ss = none) : openGo top (f + 1) was seq at_ recs ss = (recs, seq, at_) := by rw [openGo, h]
theorem openGo_stop {top was seq : Int} {f at_ : Nat} {recs : List (List UInt8)} {ss : List Sec} {l : List UInt8} {life : Int} {n : Nat} (h : recGo seq 0 0 [] ss = some (l, life, n)) (h2 : life < was ∨ top < life) : openGo top (f + 1) was seq at_ recs ss = (recs, seq, at_) := by
  rw [openGo, h]; exact if_pos h2
theorem openGo_on {top was seq : Int} {f at_ : Nat} {recs : List (List UInt8)} {ss : List Sec} {l : List UInt8} {life : Int} {n : Nat} (h : recGo seq 0 0 [] ss = some (l, life, n)) (h2 : ¬ (life < was ∨ top < life)) : openGo top (f + 1) was seq at_ recs ss = openGo top f life (seq + 1) (at_ + n) (recs ++ [l]) (ss.drop n) := by
  rw [openGo, h]; exact if_neg h2
def halfN (n : Nat) : Nat := (n - 2) / 2
/-- The sectors of a half. -/
def restOf (now : List Sec) (half : Nat) : List Sec := (now.drop (2 + half * halfN now.length)).take (halfN now.length)
theorem so_lb : SliceOf Tryd.prog 33 40 (.slice none 0 0) 1 24 := ⟨Tryd.underlying33, by kernel_rfl, rfl, by decide, by decide, by decide⟩
theorem zero_headZ : (Tryd.prog.info? 63).bind (·.zero) = some (.agg #[.int .i64 0, .int .i64 0, .int .i64 0, .int .i64 0]) := by kernel_rfl
structure OpenR (w : World) (X : Nat → Prop) (H : Nat) (l : LogM) (recs : List (List UInt8)) (d : DiskM) (L N : Nat) (v : Value) (cs : List Value) (w' : World) : Prop where
  le : w.heap.size ≤ L
  lt : L < N
  lN : N ≤ w'.heap.size
  log : LogAt w' L H l
  disk : DiskAt w' (fun b => (X b ∧ b < w.heap.size) ∨ N ≤ b) H d
  own : w'.ownsRow (L + 1) 40 1 v recs.length cs
  ownN : ∀ b, v.ownBlock = some b → b < N
  cells : RecCells w' (fun b => L < b ∧ b < N) recs cs
  fr : Fr X w w'
set_option maxHeartbeats 8000000 in
set_option maxRecDepth 100000 in
theorem open_calls (w : World) (X : Nat → Prop) (H : Nat) (d d' : DiskM) (s0 s1 : Sec) (h : HeadM) (half : Nat) (recs : List (List UInt8)) (seq : Int) (at_ : Nat) (hd : DiskAt w X H d) (h4 : 4 ≤ d.now.length) (hdead : d.dead = false) (hway : d.way.length ≤ 50000) (hleft : d.left ≤ 1000000)
    (h0 : d.now[0]? = some s0) (h1 : d.now[1]? = some s1) (hnew : newestM s0 s1 = (h, true)) (hhalf : h.half = (half : Int)) (hh1 : half ≤ 1) (hlife : 1 ≤ h.life ∧ h.life < 1099511627776) (hfirst : 1 ≤ h.first ∧ h.first ≤ 1099511627776)
    (hgo : openGo h.life (halfN d.now.length + 1) h.since h.first 0 [] (restOf d.now half) = (recs, seq, at_)) (hseq : seq ≤ 1099511627776)
    (hlay : layM d { h with life := h.life + 1 } = (d', true)) :
    Calls Tryd.prog 14 #[.pointer (some ⟨H, 0, none⟩)] w fun e w' => ∃ L N v cs, e = .returned (.tuple #[.pointer (some ⟨L, 0, none⟩), v, .int .i64 0]) ∧ OpenR w X H ⟨{ h with life := h.life + 1 }, seq, at_, false⟩ recs d' L N v cs w' := by
  have g1 : ∀ w, (isAgg 2).run Tryd.prog w = .ok false w := plain_of Tryd.underlying2 rfl
  have hmax : d.now.length ≤ 4096 := by obtain ⟨gs, cs, gn, cn, A, c, hP⟩ := hd; exact hP.2.2.2.2.2.2.2.2.1
  have h128 : Len128 d.now := by obtain ⟨gs, cs, gn, cn, A, c, hP⟩ := hd; exact hP.2.2.1.1
  have hwr := wrong_calls w X H d hd
  rw [if_neg (by omega)] at hwr
  have hsz := size_calls w X H d hd
  have hre := read_calls w X H d 0 d.now.length hd (by omega) hdead
  rw [List.drop_zero, List.take_length] at hre
  have hD : DiskAt w (fun b => X b ∧ b < w.heap.size) H d := hd.mono (fun b hb hx => ⟨hx, hb⟩)
  have hst : ∀ w', Fr No w w' → Calls Tryd.prog 34 #[.pointer (some ⟨H, 0, none⟩), .int .i64 (half : Int)] w' fun e w'' => e = .returned (.int .i64 (2 + half * halfN d.now.length : Nat)) ∧ w'' = w' := fun w' hf => start_calls w' X H d half (hd.fr0 hf) (by omega) hmax hh1
  have hhf : ∀ w', Fr No w w' → Calls Tryd.prog 35 #[.pointer (some ⟨H, 0, none⟩)] w' fun e w'' => e = .returned (.int .i64 (halfN d.now.length : Nat)) ∧ w'' = w' := fun w' hf => half_calls w' X H d (hd.fr0 hf) (by omega) hmax
  have hrl : (restOf d.now half).length = halfN d.now.length := by
    unfold restOf halfN
    rw [List.length_take, List.length_drop]
    rcases Nat.lt_or_ge half 1 with hx | hx
    · obtain rfl : half = 0 := by omega
      omega
    · obtain rfl : half = 1 := by omega
      omega
  have hr128 : Len128 (restOf d.now half) := (h128.drop _).take _
  have hrfl : ∀ w' g, Blk w' g 5 (U8 d.now.flatten).toArray → Rd w' (fun b => b = g) 1 (some ⟨g, (2 + half * halfN d.now.length) * 128, none⟩) (halfN d.now.length * 128) (U8 (restOf d.now half).flatten) := fun w' g hb => by
    have hfl : (U8 (restOf d.now half).flatten).length = halfN d.now.length * 128 := by rw [U8_length, flat_len hr128, hrl]
    refine ⟨by rw [hfl]; omega, by unfold halfN; omega, fun _ => ⟨_, rfl, rfl, hb.cells _ _ (fun j u hu => ?_)⟩⟩
    have hj := (List.getElem?_eq_some_iff.1 hu).1
    have e : d.now.flatten = (d.now.take (2 + half * halfN d.now.length)).flatten ++ ((restOf d.now half).flatten ++ ((d.now.drop (2 + half * halfN d.now.length)).drop (halfN d.now.length)).flatten) := by
      rw [← List.flatten_append, ← List.flatten_append]
      unfold restOf
      rw [List.take_append_drop, List.take_append_drop]
    have hp : (U8 (d.now.take (2 + half * halfN d.now.length)).flatten).length = (2 + half * halfN d.now.length) * 128 := by
      rw [U8_length, flat_len (h128.take _), List.length_take]
      have : 2 + half * halfN d.now.length ≤ d.now.length := by
        have h2 : half * halfN d.now.length ≤ 1 * halfN d.now.length := Nat.mul_le_mul_right _ hh1
        unfold halfN at h2 ⊢
        omega
      rw [Nat.min_eq_left this]
    rw [List.getElem?_toArray, e, U8_append, U8_append, List.getElem?_append_right (by omega), hp, show (2 + half * halfN d.now.length) * 128 + j - (2 + half * halfN d.now.length) * 128 = j by omega, List.getElem?_append_left hj]
    exact hu
  have hnw : ∀ w' g, Blk w' g 5 (U8 d.now.flatten).toArray → Calls Tryd.prog 33 #[.slice (some ⟨g, 0, none⟩) (d.now.length * 128) (d.now.length * 128)] w' fun e w'' => e = .returned (.tuple #[headV h, .bool true]) ∧ Fr No w' w'' := fun w' g hb => by
    have := newest_calls w' g d.now s0 s1 (d.now.length * 128) (d.now.length * 128) hb h128 h0 h1 (by omega) (Nat.le_refl _)
    rw [hnew] at this
    exact this
  have hly : ∀ w' Y, DiskAt w' Y H d → Calls Tryd.prog 37 #[.pointer (some ⟨H, 0, none⟩), headV { h with life := h.life + 1 }] w' fun e w'' => e = .returned (.int .i64 0) ∧ Left w' Y (Wid Y w') H d' w'' := fun w' Y hdy => by
    have := lay_calls w' Y H d { h with life := h.life + 1 } hdy (by show 0 ≤ h.life + 1; omega) (by omega) hway hleft
    rw [hlay] at this
    exact this
  have hhl : halfN d.now.length ≤ 2047 := by unfold halfN; omega
  have hhl1 : 1 ≤ halfN d.now.length := by unfold halfN; omega
  obtain ⟨FR, hFR⟩ : ∃ FR, FR = (2 + half * halfN d.now.length) * 128 := ⟨_, rfl⟩
  have hFR2 : FR + halfN d.now.length * 128 ≤ d.now.length * 128 := by
    have h2 : half * halfN d.now.length ≤ 1 * halfN d.now.length := Nat.mul_le_mul_right _ hh1
    unfold halfN at h2 ⊢ hFR
    omega
  have HFR := Lib.hid (show ((2 + half * halfN d.now.length : Nat) : Int) * 128 = (FR : Int) by rw [hFR]; omega)
  rw [← hFR] at hrfl
  obtain ⟨ST, hST⟩ : ∃ ST : Int, ST = ((2 + half * halfN d.now.length : Nat) : Int) := ⟨_, rfl⟩
  have HST : Hid (ST * 128 = (FR : Int)) := Lib.hid (by rw [hST]; exact HFR.out)
  rw [← hST] at hst
  have hST0 : 0 ≤ ST ∧ ST ≤ 8192 := by
    have h2 : half * halfN d.now.length ≤ 1 * halfN d.now.length := Nat.mul_le_mul_right _ hh1
    rw [hST]
    omega
  clear HFR hFR hST h128 hnew hlay h0 h1 hdead
  have HGO := Lib.hid hgo
  clear hgo
  generalize restOf d.now half = R at *
  generalize halfN d.now.length = hn at *
  generalize hdl : d.now.length = dl at *
  obtain ⟨M, hM⟩ : ∃ M, M = hn * 128 := ⟨_, rfl⟩
  obtain ⟨CP, hCP⟩ : ∃ CP, CP = dl * 128 := ⟨_, rfl⟩
  obtain ⟨E, hE⟩ : ∃ E, E = FR + M := ⟨_, rfl⟩
  rw [← hM] at hrfl
  rw [← hM, ← hCP] at hFR2
  rw [← hCP] at hre hnw
  have HM := Lib.hid (show (hn : Int) * 128 = (M : Int) by omega)
  have HE2 := Lib.hid (show (FR : Int) + (M : Int) = (E : Int) by omega)
  have HEM := Lib.hid (show E - FR = M by omega)
  have HMN := Lib.hid hM
  have hFE : FR ≤ E := by omega
  have hEC : E ≤ CP := by omega
  have hCP5 : CP ≤ 524288 := by omega
  have hFC : ¬ (CP = FR) := by
    intro e
    have : M = 0 := by omega
    omega
  have q1 : (FR : Int) ≤ FR + (hn : Int) * 128 := by omega
  have q2 : (FR : Int) + (hn : Int) * 128 ≤ (CP : Int) := by omega
  have q3 : 0 ≤ (FR : Int) + (hn : Int) * 128 := by omega
  have q4 : (FR : Int) + (hn : Int) * 128 ≤ 9223372036854775807 := by omega
  clear hM hCP hE hFR2
  generalize hcur : (U8 d.now.flatten).toArray = cur at *
  clear hcur hdl
  unfold headV at hnw hly
  obtain ⟨life, hf_, first, since⟩ := h
  simp only at hhalf hlife hfirst HGO hnw hly
  subst hhalf
  obtain ⟨hl1, hl2⟩ := hlife
  obtain ⟨hi1, hi2⟩ := hfirst
  go_enter Tryd.func14, Tryd.ntmps14
  go_wp2_with fail
  refine hwr.mono ?_
  rintro e w1 ⟨rfl, hw1⟩
  replace hw1 := hw1.symm
  subst hw1
  go_wp2_with fail
  refine hsz.mono ?_
  rintro e w1 ⟨rfl, hw1⟩
  subst hw1
  go_wp2_with fail
  refine hre.mono ?_
  rintro e w2 ⟨rfl, hb2, hf2⟩
  go_wp2_with fail
  refine (hnw _ _ hb2).mono ?_
  rintro e w3 ⟨rfl, hf3⟩
  have hb3 := hb2.fr0 hf3
  have hF3 := hf2.tr hf3
  have hx3 := Blk.new w3 63 #[.int .i64 0, .int .i64 0, .int .i64 0, .int .i64 0]
  have hg3 := hb3.lt
  clear hwr hsz hre hb2 hf2 hf3
  go_upto_region 10 with (first
    | (refine wpList_stA ag_head.info rfl _ _ rfl w3.heap.size 0 _ _ [.int .i64 life, .int .i64 (half : Int), .int .i64 first, .int .i64 since] _ rfl rfl rfl rfl (by intro u hu; simp at hu; rcases hu with rfl | rfl | rfl | rfl <;> rfl) hx3 (by decide) ?_; intro w4 hx4 hg4 hz4)
    | fail)
  rw [splice_all _ _ (by rfl)] at hx4
  have hf4 : Fr No w3 w4 := ((Fr.refl No w3).alloc _).grown hg4 (fun q hq => by injection hq with hq; exact .inl (by rw [← hq]; exact Nat.le_refl _))
  have hb4 := hb3.fr0 hf4
  have hF4 := hF3.tr hf4
  have hs4 := hF3.size
  obtain ⟨gh, hgh⟩ : ∃ gh, gh = w3.heap.size := ⟨_, rfl⟩
  have hghw : w.heap.size < gh := by omega
  try simp only [Act.put, List.setIfInBounds_toArray, List.set_cons_zero, List.set_cons_succ]
  rw [← hgh] at hx4 ⊢
  clear hgh hx3 hg4 hz4 hf4 hb3 hF3 hg3 hs4
  have hgh4 := hx4.lt
  have hbo : Blk (w4.alloc (.cells (logC H ⟨⟨life, half, first, since⟩, first, 0, false⟩).toArray 71)) w4.heap.size 71 (logC H ⟨⟨life, half, first, since⟩, first, 0, false⟩).toArray := Blk.new w4 _ _
  (have p0 := hx4.cell 0; have p1 := hx4.cell 1; have p2 := hx4.cell 2; have p3 := hx4.cell 3; have pf0 := hx4.frozen 0; have pf1 := hx4.frozen 1; have pf2 := hx4.frozen 2; have pf3 := hx4.frozen 3; simp only [List.getElem?_toArray, List.getElem?_cons_zero, List.getElem?_cons_succ] at p0 p1 p2 p3)
  go_upto_region 11 with (first
    | (refine wpList_ldA ag_head rfl _ rfl ⟨gh, 0, none⟩ [.int .i64 life, .int .i64 (half : Int), .int .i64 first, .int .i64 since] rfl rfl hx4.all ?_)
    | fail)
  try simp only [Act.put, List.setIfInBounds_toArray, List.set_cons_zero, List.set_cons_succ]
  have hlog : LogAt (w4.alloc (.cells (logC H ⟨⟨life, half, first, since⟩, first, 0, false⟩).toArray 71)) w4.heap.size H ⟨⟨life, half, first, since⟩, first, 0, false⟩ := hbo
  have hf5 : Fr No w4 (w4.alloc (.cells (logC H ⟨⟨life, half, first, since⟩, first, 0, false⟩).toArray 71)) := (Fr.refl No w4).alloc _
  have hsz5 : (w4.alloc (.cells (logC H ⟨⟨life, half, first, since⟩, first, 0, false⟩).toArray 71)).heap.size = w4.heap.size + 1 := by simp
  obtain ⟨L, hL⟩ : ∃ L, L = w4.heap.size := ⟨_, rfl⟩
  have hLw : gh < L := by omega
  rw [← hL] at hlog hsz5 hgh4 ⊢
  clear hL hbo p0 p1 p2 p3 pf0 pf1 pf2 pf3
  change Code.wp _ _ _ _ (w4.alloc (.cells (logC H ⟨⟨life, half, first, since⟩, first, 0, false⟩).toArray 71))
  generalize w4.alloc (.cells (logC H ⟨⟨life, half, first, since⟩, first, 0, false⟩).toArray 71) = w5 at *
  have hx5 := hx4.fr0 hf5
  have hb5 := hb4.fr0 hf5
  have hF5 := hF4.tr hf5
  have hrdR := hrfl _ _ hb5
  clear hx4 hb4 hF4 hf5 hrfl hnw
  (have p0 := hx5.cell 0; have p1 := hx5.cell 1; have p2 := hx5.cell 2; have p3 := hx5.cell 3; have pf0 := hx5.frozen 0; have pf1 := hx5.frozen 1; have pf2 := hx5.frozen 2; have pf3 := hx5.frozen 3; simp only [List.getElem?_toArray, List.getElem?_cons_zero, List.getElem?_cons_succ] at p0 p1 p2 p3)
  go_wp2_with fail
  refine (hst _ hF5).mono ?_
  rintro e w6 ⟨rfl, hw6⟩
  replace hw6 := hw6.symm
  subst hw6
  go_upto_region 12 with fail
  try rw [HST.out]
  go_wp2_with fail
  refine (hhf _ hF5).mono ?_
  rintro e w6 ⟨rfl, hw6⟩
  replace hw6 := hw6.symm
  subst hw6
  go_upto_block 0 with fail
  have hlb : Blk w5 L 71 (logC H ⟨⟨life, half, first, since⟩, first, 0, false⟩).toArray := hlog
  have hL5 : L < w5.heap.size := by omega
  have hwL : w.heap.size < L := by omega
  have hrdR2 : Rd w5 (fun b => b < L) 1 (some ⟨w.heap.size, FR, none⟩) M (U8 R.flatten) := hrdR.mono (fun b _ hb => by subst hb; exact hwL) (by decide)
  have HRD := Lib.hid hrdR2
  clear hrdR hrdR2 hb5 hlog p0 p1 p2 p3 pf0 pf1 pf2 pf3 hst hhf
  have HR128 := Lib.hid hr128
  clear hr128
  rw [show FR + hn * 128 - FR = hn * 128 by omega]
  go_cut [12, 13, 14, 15, 16, 17] (fun s12 s13 s14 s15 s16 s17 wx => ∃ cs : List Value, wx.ownsRow (L + 1) 40 1 s13 recs.length cs ∧ Hid (RecCells wx (fun b => L < b) recs cs) ∧ LogAt wx L H ⟨⟨life, half, first, since⟩, seq, at_, false⟩ ∧ Fr No w wx)
  case first =>
    go_wp2_with fail
    go_loopw [12, 13, 14] (fun v12 v13 v14 wr => ∃ (ss : List Sec) (n c : Nat) (A : Option Addr) (f : Nat) (was sq : Int) (at0 : Nat) (rl : List (List UInt8)) (cs : List Value),
      v12 = .slice A n c ∧ Hid (n = ss.length * 128) ∧ n ≤ c ∧ c ≤ maxLen ∧ Hid (Len128 ss) ∧ ss.length ≤ 2047 ∧ ss.length < f ∧ Hid (Rd wr (fun b => b < L) 1 A n (U8 ss.flatten)) ∧
      v14 = .int .i64 was ∧ Hid (openGo life f was sq at0 rl ss = (recs, seq, at_)) ∧ wr.ownsRow (L + 1) 40 1 v13 rl.length cs ∧ Hid (RecCells wr (fun b => (L < b ∧ b < wr.heap.size) ∧ v13.ownBlock ≠ some b) rl cs) ∧
      LogAt wr L H ⟨⟨life, half, first, since⟩, sq, at0, false⟩ ∧ Blk wr gh 63 #[.int .i64 life, .int .i64 (half : Int), .int .i64 first, .int .i64 since] ∧ (rl.length + ss.length ≤ 2047 ∧ at0 + ss.length ≤ 2047) ∧ (1 ≤ sq ∧ sq + ss.length ≤ 1099511631872) ∧ Fr No w wr ∧ L < wr.heap.size)
      (fun v12 _ _ _ => (match v12 with | .slice _ n _ => n | _ => 0))
    case atStart =>
      rw [show hn * 128 = M from HMN.out.symm]
      refine ⟨R, M, _, _, hn + 1, since, first, 0, [], [], rfl, Lib.hid (by have := HMN.out; rw [hrl]; exact this), by have := HMN.out; omega, by have : maxLen = 9223372036854775807 := rfl; omega, HR128, by omega, by omega, HRD, rfl, HGO, World.ownsRow_nil _ _ _ _, Lib.hid ⟨rfl, fun i l h => by simp at h⟩, hlb, hx5, ⟨by simp only [List.length_nil]; omega, by omega⟩, ⟨by omega, by omega⟩, hF5, hL5⟩
    case round =>
      obtain ⟨ss, n, c, A, f, was, sq, at0, rl, cs, rfl, HN, hnc, hcm, H128, hs2, hsf, HRA, rfl, HO, hown, HRC, hlg, hxr, ⟨hb1, hb2⟩, ⟨hb3, hb4⟩, hf, hLr⟩ := hrel
      obtain ⟨A13, c13, rfl, hc13, hc13m, hA13⟩ := own_form hown
      have hn0 := HN.out
      obtain ⟨f, rfl⟩ : ∃ f', f = f' + 1 := ⟨f - 1, by omega⟩
      have hlgb : Blk wr L 71 #[.pointer (some ⟨H, 0, none⟩), .int .i64 life, .int .i64 (half : Int), .int .i64 first, .int .i64 since, .int .i64 sq, .int .i64 (at0 : Int), .bool false] := hlg
      have hrec := record_calls wr A c ss sq (by rw [← hn0]; exact (HRA.out).mono (fun b hb _ => hb) (by decide)) H128.out (by rw [← hn0]; exact hnc) hcm (by omega)
      rw [← hn0] at hrec
      have q5 := hlgb.cell 5
      simp only [List.getElem?_toArray, List.getElem?_cons_zero, List.getElem?_cons_succ] at q5
      clear hn0
      have HOWN := Lib.hid (fun b hb => (hown.lt b hb).2)
      go_wp2_with fail
      refine hrec.mono ?_
      rintro e w2 ⟨hres, hf2⟩
      clear hrec q5
      have hown2 := own_fr0 hown hf2
      have HRC2 := Lib.hid (HRC.out.fr hf2 (fun _ _ hn => hn))
      have hlg2 := hlgb.fr0 hf2
      have hx2 := hxr.fr0 hf2
      have hF2 := hf.tr hf2
      have hz2 := hf2.size
      have HRA2 := Lib.hid (HRA.out.fr0 hf2)
      clear hown HRC hlg hlgb hxr hf HRA
      rcases hres with ⟨hnone, rfl⟩ | ⟨l, lf, k, v, hsome, rfl, hownv⟩
      · have HE := Lib.hid (HO.out.symm.trans (openGo_none hnone))
        have hend : rl = recs ∧ sq = seq ∧ at0 = at_ := by
          have := HE.out
          injection this with h1 h2
          injection h2 with h2 h3
          exact ⟨h1.symm, h2.symm, h3.symm⟩
        obtain ⟨rfl, rfl, rfl⟩ := hend
        clear hnone hf2
        go_wp2_with fail
        go_meet
        case rel => exact ⟨cs, hown2, Lib.hid (HRC2.out.mono (fun b _ hb => hb.1.1)), hlg2, hF2⟩
      · obtain ⟨hk1, hk2⟩ := recGo_len _ _ _ _ _ _ _ _ hsome
        obtain ⟨Av, cv, rfl, hcv, hcvm, hAv⟩ := own_form hownv
        have hl6x := Lib.hid (recGo_small _ _ _ _ _ _ _ _ hsome (by simp))
        have HOL := Lib.hid (show ∀ b, (Value.slice A13 rl.length c13).ownBlock = some b → b < wr.heap.size from HOWN.out)
        have ek : ((k : Int) == 0) = false := by rw [beq_eq_false_iff_ne]; omega
        by_cases hc1 : lf < was
        · have e1 : decide (lf < was) = true := by simpa using hc1
          have HE := HO.out.symm.trans (openGo_stop hsome (.inl hc1))
          have hend : rl = recs ∧ sq = seq ∧ at0 = at_ := by
            injection HE with h1 h2
            injection h2 with h2 h3
            exact ⟨h1.symm, h2.symm, h3.symm⟩
          obtain ⟨rfl, rfl, rfl⟩ := hend
          clear hsome hf2 HE hc1 hownv hAv
          go_wp2_with fail
          go_meet
          case rel => exact ⟨cs, hown2, Lib.hid (HRC2.out.mono (fun b _ hb => hb.1.1)), hlg2, hF2⟩
        · have e1 : decide (lf < was) = false := by simpa using hc1
          have hx20 := hx2.cell 0
          simp only [List.getElem?_toArray, List.getElem?_cons_zero, List.getElem?_cons_succ] at hx20
          by_cases hc2 : life < lf
          · have e2 : decide (life < lf) = true := by simpa using hc2
            have HE := HO.out.symm.trans (openGo_stop hsome (.inr hc2))
            have hend : rl = recs ∧ sq = seq ∧ at0 = at_ := by
              injection HE with h1 h2
              injection h2 with h2 h3
              exact ⟨h1.symm, h2.symm, h3.symm⟩
            obtain ⟨rfl, rfl, rfl⟩ := hend
            clear hsome hf2 HE hc1 hc2 hownv hAv
            go_wp2_with fail
            go_meet
            case rel => exact ⟨cs, hown2, Lib.hid (HRC2.out.mono (fun b _ hb => hb.1.1)), hlg2, hF2⟩
          · have e2 : decide (life < lf) = false := by simpa using hc2
            have HON := Lib.hid (HO.out.symm.trans (openGo_on hsome (by rintro (h | h); exact hc1 h; exact hc2 h))).symm
            have hka : k ≤ ss.length := by omega
            obtain ⟨KB, hKB⟩ : ∃ KB, KB = k * 128 := ⟨_, rfl⟩
            have hkn : KB ≤ n := by have := HN.out; omega
            have hKB1 : 128 ≤ KB := by omega
            have HKB := Lib.hid (show (k : Int) * 128 = (KB : Int) by omega)
            have HKN := Lib.hid hKB
            have qk1 : 0 ≤ (k : Int) * 128 := by omega
            have qk2 : (k : Int) * 128 ≤ (n : Int) := by omega
            have qk3 : (k : Int) * 128 ≤ 9223372036854775807 := by omega
            have hcut := (HRA2.out).cut (k := KB) (cap := c) hkn hnc
            have hfd : (U8 ss.flatten).drop (KB * 1) = U8 (ss.drop k).flatten := by
              rw [Nat.mul_one, ← U8_drop]
              congr 1
              have e : ss.flatten = (ss.take k).flatten ++ (ss.drop k).flatten := by rw [← List.flatten_append, List.take_append_drop]
              have hl : (ss.take k).flatten.length = KB := by rw [flat_len (H128.out.take k), List.length_take, Nat.min_eq_left hka, hKB]
              conv => lhs; rw [e, ← hl, List.drop_left]
            rw [hfd] at hcut
            simp only [Nat.mul_one] at hcut
            have HCUT := Lib.hid hcut
            have HNK := Lib.hid (show n - KB = (ss.drop k).length * 128 by rw [List.length_drop]; have := HN.out; omega)
            have HDL := Lib.hid (show (ss.drop k).length = ss.length - k by rw [List.length_drop])
            clear hcut hfd hKB hsome hf2 hc1 hc2 HRA2 HO
            go_upto_region 17 with fail
            go_cut [12, 14] (fun s12 s14 wx => ∃ A2 c2 n2, s12 = .slice A2 n2 c2 ∧ s14 = .int .i64 lf ∧ Hid (n2 = n - KB) ∧ n2 ≤ c2 ∧ c2 ≤ maxLen ∧ Hid (Rd w2 (fun b => b < L) 1 A2 n2 (U8 (ss.drop k).flatten)) ∧ wx = w2.drew)
            case first =>
              by_cases hcb : c = KB
              · subst hcb
                have hnk : n = c := by omega
                have hc := HCUT.out
                rw [if_pos rfl] at hc
                subst hnk
                rw [Nat.sub_self] at hc
                have HC := Lib.hid hc
                clear hc
                go_wp2_with fail
                (refine T_begin No [0, 1, 2, 3, 4, 5, 6] [] (by kernel_rfl) (by kernel_rfl) ?_; simp only [pickOps, List.filterMap_cons, List.filterMap_nil, List.getElem?_cons_zero, List.getElem?_cons_succ, Act.put])
                (first | (refine T_skip (by rfl) (by rfl) (fun _ _ _ h => h) ?_; try simp only [Act.put, List.setIfInBounds_toArray, List.set_cons_zero, List.set_cons_succ]) | (refine T_pass (by rfl) (by rfl) ?_; try simp only [Act.put, List.setIfInBounds_toArray, List.set_cons_zero, List.set_cons_succ]) | (refine T_load (by assumption) (by rfl) (by rfl) (fun _ _ _ _ h => h) rfl rfl (by assumption) (by first | exact (fun hn => hn) | assumption) ?_; try simp only [Act.put, List.setIfInBounds_toArray, List.set_cons_zero, List.set_cons_succ]) | (refine T_nil (by rfl) (by rfl) (fun _ _ _ _ h => h) rfl rfl ?_; try simp only [Act.put, List.setIfInBounds_toArray, List.set_cons_zero, List.set_cons_succ]) | (refine T_quietN (by rfl) (by rfl) (by rfl) (by rfl) (fun _ _ _ _ h => h) (fun K hK => ?_); go_big_quiet_op; refine hK _ ?_; clear hK K) | (refine T_two (by rfl) (by rfl) (by rfl) (by rfl) (fun _ _ _ _ h => h) (fun K hK => ?_); go_big_quiet_op; refine ⟨_, fun _ _ => rfl, ?_⟩; refine hK _ ?_; clear hK K; try simp only [Act.put, List.setIfInBounds_toArray, List.set_cons_zero, List.set_cons_succ]) | fail)
                (first | (refine T_skip (by rfl) (by rfl) (fun _ _ _ h => h) ?_; try simp only [Act.put, List.setIfInBounds_toArray, List.set_cons_zero, List.set_cons_succ]) | (refine T_pass (by rfl) (by rfl) ?_; try simp only [Act.put, List.setIfInBounds_toArray, List.set_cons_zero, List.set_cons_succ]) | (refine T_load (by assumption) (by rfl) (by rfl) (fun _ _ _ _ h => h) rfl rfl (by assumption) (by first | exact (fun hn => hn) | assumption) ?_; try simp only [Act.put, List.setIfInBounds_toArray, List.set_cons_zero, List.set_cons_succ]) | (refine T_nil (by rfl) (by rfl) (fun _ _ _ _ h => h) rfl rfl ?_; try simp only [Act.put, List.setIfInBounds_toArray, List.set_cons_zero, List.set_cons_succ]) | (refine T_quietN (by rfl) (by rfl) (by rfl) (by rfl) (fun _ _ _ _ h => h) (fun K hK => ?_); go_big_quiet_op; refine hK _ ?_; clear hK K) | (refine T_two (by rfl) (by rfl) (by rfl) (by rfl) (fun _ _ _ _ h => h) (fun K hK => ?_); go_big_quiet_op; refine ⟨_, fun _ _ => rfl, ?_⟩; refine hK _ ?_; clear hK K; try simp only [Act.put, List.setIfInBounds_toArray, List.set_cons_zero, List.set_cons_succ]) | fail)
                (first | (refine T_skip (by rfl) (by rfl) (fun _ _ _ h => h) ?_; try simp only [Act.put, List.setIfInBounds_toArray, List.set_cons_zero, List.set_cons_succ]) | (refine T_pass (by rfl) (by rfl) ?_; try simp only [Act.put, List.setIfInBounds_toArray, List.set_cons_zero, List.set_cons_succ]) | (refine T_load (by assumption) (by rfl) (by rfl) (fun _ _ _ _ h => h) rfl rfl (by assumption) (by first | exact (fun hn => hn) | assumption) ?_; try simp only [Act.put, List.setIfInBounds_toArray, List.set_cons_zero, List.set_cons_succ]) | (refine T_nil (by rfl) (by rfl) (fun _ _ _ _ h => h) rfl rfl ?_; try simp only [Act.put, List.setIfInBounds_toArray, List.set_cons_zero, List.set_cons_succ]) | (refine T_quietN (by rfl) (by rfl) (by rfl) (by rfl) (fun _ _ _ _ h => h) (fun K hK => ?_); go_big_quiet_op; refine hK _ ?_; clear hK K) | (refine T_two (by rfl) (by rfl) (by rfl) (by rfl) (fun _ _ _ _ h => h) (fun K hK => ?_); go_big_quiet_op; refine ⟨_, fun _ _ => rfl, ?_⟩; refine hK _ ?_; clear hK K; try simp only [Act.put, List.setIfInBounds_toArray, List.set_cons_zero, List.set_cons_succ]) | fail)
                (first | (refine T_skip (by rfl) (by rfl) (fun _ _ _ h => h) ?_; try simp only [Act.put, List.setIfInBounds_toArray, List.set_cons_zero, List.set_cons_succ]) | (refine T_pass (by rfl) (by rfl) ?_; try simp only [Act.put, List.setIfInBounds_toArray, List.set_cons_zero, List.set_cons_succ]) | (refine T_load (by assumption) (by rfl) (by rfl) (fun _ _ _ _ h => h) rfl rfl (by assumption) (by first | exact (fun hn => hn) | assumption) ?_; try simp only [Act.put, List.setIfInBounds_toArray, List.set_cons_zero, List.set_cons_succ]) | (refine T_nil (by rfl) (by rfl) (fun _ _ _ _ h => h) rfl rfl ?_; try simp only [Act.put, List.setIfInBounds_toArray, List.set_cons_zero, List.set_cons_succ]) | (refine T_quietN (by rfl) (by rfl) (by rfl) (by rfl) (fun _ _ _ _ h => h) (fun K hK => ?_); go_big_quiet_op; refine hK _ ?_; clear hK K) | (refine T_two (by rfl) (by rfl) (by rfl) (by rfl) (fun _ _ _ _ h => h) (fun K hK => ?_); go_big_quiet_op; refine ⟨_, fun _ _ => rfl, ?_⟩; refine hK _ ?_; clear hK K; try simp only [Act.put, List.setIfInBounds_toArray, List.set_cons_zero, List.set_cons_succ]) | fail)
                try rw [HKB.out]
                (first | (refine T_skip (by rfl) (by rfl) (fun _ _ _ h => h) ?_; try simp only [Act.put, List.setIfInBounds_toArray, List.set_cons_zero, List.set_cons_succ]) | (refine T_pass (by rfl) (by rfl) ?_; try simp only [Act.put, List.setIfInBounds_toArray, List.set_cons_zero, List.set_cons_succ]) | (refine T_load (by assumption) (by rfl) (by rfl) (fun _ _ _ _ h => h) rfl rfl (by assumption) (by first | exact (fun hn => hn) | assumption) ?_; try simp only [Act.put, List.setIfInBounds_toArray, List.set_cons_zero, List.set_cons_succ]) | (refine T_nil (by rfl) (by rfl) (fun _ _ _ _ h => h) rfl rfl ?_; try simp only [Act.put, List.setIfInBounds_toArray, List.set_cons_zero, List.set_cons_succ]) | (refine T_quietN (by rfl) (by rfl) (by rfl) (by rfl) (fun _ _ _ _ h => h) (fun K hK => ?_); go_big_quiet_op; refine hK _ ?_; clear hK K) | (refine T_two (by rfl) (by rfl) (by rfl) (by rfl) (fun _ _ _ _ h => h) (fun K hK => ?_); go_big_quiet_op; refine ⟨_, fun _ _ => rfl, ?_⟩; refine hK _ ?_; clear hK K; try simp only [Act.put, List.setIfInBounds_toArray, List.set_cons_zero, List.set_cons_succ]) | fail)
                (first | (refine T_skip (by rfl) (by rfl) (fun _ _ _ h => h) ?_; try simp only [Act.put, List.setIfInBounds_toArray, List.set_cons_zero, List.set_cons_succ]) | (refine T_pass (by rfl) (by rfl) ?_; try simp only [Act.put, List.setIfInBounds_toArray, List.set_cons_zero, List.set_cons_succ]) | (refine T_load (by assumption) (by rfl) (by rfl) (fun _ _ _ _ h => h) rfl rfl (by assumption) (by first | exact (fun hn => hn) | assumption) ?_; try simp only [Act.put, List.setIfInBounds_toArray, List.set_cons_zero, List.set_cons_succ]) | (refine T_nil (by rfl) (by rfl) (fun _ _ _ _ h => h) rfl rfl ?_; try simp only [Act.put, List.setIfInBounds_toArray, List.set_cons_zero, List.set_cons_succ]) | (refine T_quietN (by rfl) (by rfl) (by rfl) (by rfl) (fun _ _ _ _ h => h) (fun K hK => ?_); go_big_quiet_op; refine hK _ ?_; clear hK K) | (refine T_two (by rfl) (by rfl) (by rfl) (by rfl) (fun _ _ _ _ h => h) (fun K hK => ?_); go_big_quiet_op; refine ⟨_, fun _ _ => rfl, ?_⟩; refine hK _ ?_; clear hK K; try simp only [Act.put, List.setIfInBounds_toArray, List.set_cons_zero, List.set_cons_succ]) | fail)
                (first | (refine T_skip (by rfl) (by rfl) (fun _ _ _ h => h) ?_; try simp only [Act.put, List.setIfInBounds_toArray, List.set_cons_zero, List.set_cons_succ]) | (refine T_pass (by rfl) (by rfl) ?_; try simp only [Act.put, List.setIfInBounds_toArray, List.set_cons_zero, List.set_cons_succ]) | (refine T_load (by assumption) (by rfl) (by rfl) (fun _ _ _ _ h => h) rfl rfl (by assumption) (by first | exact (fun hn => hn) | assumption) ?_; try simp only [Act.put, List.setIfInBounds_toArray, List.set_cons_zero, List.set_cons_succ]) | (refine T_nil (by rfl) (by rfl) (fun _ _ _ _ h => h) rfl rfl ?_; try simp only [Act.put, List.setIfInBounds_toArray, List.set_cons_zero, List.set_cons_succ]) | (refine T_quietN (by rfl) (by rfl) (by rfl) (by rfl) (fun _ _ _ _ h => h) (fun K hK => ?_); go_big_quiet_op; refine hK _ ?_; clear hK K) | (refine T_two (by rfl) (by rfl) (by rfl) (by rfl) (fun _ _ _ _ h => h) (fun K hK => ?_); go_big_quiet_op; refine ⟨_, fun _ _ => rfl, ?_⟩; refine hK _ ?_; clear hK K; try simp only [Act.put, List.setIfInBounds_toArray, List.set_cons_zero, List.set_cons_succ]) | fail)
                refine T_done ?_
                go_wp2_with fail
                go_meet
                case rel => exact ⟨_, _, _, rfl, rfl, Lib.hid (by first | rfl | omega), by omega, by omega, HC, rfl⟩
              · have hc := HCUT.out
                rw [if_neg hcb] at hc
                have HC := Lib.hid hc
                have hcb2 : ¬ (c = k * 128) := by rw [← HKN.out]; exact hcb
                clear hc
                go_wp2_with fail
                (refine T_begin No [0, 1, 2, 3, 4, 5, 6] [] (by kernel_rfl) (by kernel_rfl) ?_; simp only [pickOps, List.filterMap_cons, List.filterMap_nil, List.getElem?_cons_zero, List.getElem?_cons_succ, Act.put])
                (first | (refine T_skip (by rfl) (by rfl) (fun _ _ _ h => h) ?_; try simp only [Act.put, List.setIfInBounds_toArray, List.set_cons_zero, List.set_cons_succ]) | (refine T_pass (by rfl) (by rfl) ?_; try simp only [Act.put, List.setIfInBounds_toArray, List.set_cons_zero, List.set_cons_succ]) | (refine T_load (by assumption) (by rfl) (by rfl) (fun _ _ _ _ h => h) rfl rfl (by assumption) (by first | exact (fun hn => hn) | assumption) ?_; try simp only [Act.put, List.setIfInBounds_toArray, List.set_cons_zero, List.set_cons_succ]) | (refine T_nil (by rfl) (by rfl) (fun _ _ _ _ h => h) rfl rfl ?_; try simp only [Act.put, List.setIfInBounds_toArray, List.set_cons_zero, List.set_cons_succ]) | (refine T_quietN (by rfl) (by rfl) (by rfl) (by rfl) (fun _ _ _ _ h => h) (fun K hK => ?_); go_big_quiet_op; refine hK _ ?_; clear hK K) | (refine T_two (by rfl) (by rfl) (by rfl) (by rfl) (fun _ _ _ _ h => h) (fun K hK => ?_); go_big_quiet_op; refine ⟨_, fun _ _ => rfl, ?_⟩; refine hK _ ?_; clear hK K; try simp only [Act.put, List.setIfInBounds_toArray, List.set_cons_zero, List.set_cons_succ]) | fail)
                (first | (refine T_skip (by rfl) (by rfl) (fun _ _ _ h => h) ?_; try simp only [Act.put, List.setIfInBounds_toArray, List.set_cons_zero, List.set_cons_succ]) | (refine T_pass (by rfl) (by rfl) ?_; try simp only [Act.put, List.setIfInBounds_toArray, List.set_cons_zero, List.set_cons_succ]) | (refine T_load (by assumption) (by rfl) (by rfl) (fun _ _ _ _ h => h) rfl rfl (by assumption) (by first | exact (fun hn => hn) | assumption) ?_; try simp only [Act.put, List.setIfInBounds_toArray, List.set_cons_zero, List.set_cons_succ]) | (refine T_nil (by rfl) (by rfl) (fun _ _ _ _ h => h) rfl rfl ?_; try simp only [Act.put, List.setIfInBounds_toArray, List.set_cons_zero, List.set_cons_succ]) | (refine T_quietN (by rfl) (by rfl) (by rfl) (by rfl) (fun _ _ _ _ h => h) (fun K hK => ?_); go_big_quiet_op; refine hK _ ?_; clear hK K) | (refine T_two (by rfl) (by rfl) (by rfl) (by rfl) (fun _ _ _ _ h => h) (fun K hK => ?_); go_big_quiet_op; refine ⟨_, fun _ _ => rfl, ?_⟩; refine hK _ ?_; clear hK K; try simp only [Act.put, List.setIfInBounds_toArray, List.set_cons_zero, List.set_cons_succ]) | fail)
                (first | (refine T_skip (by rfl) (by rfl) (fun _ _ _ h => h) ?_; try simp only [Act.put, List.setIfInBounds_toArray, List.set_cons_zero, List.set_cons_succ]) | (refine T_pass (by rfl) (by rfl) ?_; try simp only [Act.put, List.setIfInBounds_toArray, List.set_cons_zero, List.set_cons_succ]) | (refine T_load (by assumption) (by rfl) (by rfl) (fun _ _ _ _ h => h) rfl rfl (by assumption) (by first | exact (fun hn => hn) | assumption) ?_; try simp only [Act.put, List.setIfInBounds_toArray, List.set_cons_zero, List.set_cons_succ]) | (refine T_nil (by rfl) (by rfl) (fun _ _ _ _ h => h) rfl rfl ?_; try simp only [Act.put, List.setIfInBounds_toArray, List.set_cons_zero, List.set_cons_succ]) | (refine T_quietN (by rfl) (by rfl) (by rfl) (by rfl) (fun _ _ _ _ h => h) (fun K hK => ?_); go_big_quiet_op; refine hK _ ?_; clear hK K) | (refine T_two (by rfl) (by rfl) (by rfl) (by rfl) (fun _ _ _ _ h => h) (fun K hK => ?_); go_big_quiet_op; refine ⟨_, fun _ _ => rfl, ?_⟩; refine hK _ ?_; clear hK K; try simp only [Act.put, List.setIfInBounds_toArray, List.set_cons_zero, List.set_cons_succ]) | fail)
                (first | (refine T_skip (by rfl) (by rfl) (fun _ _ _ h => h) ?_; try simp only [Act.put, List.setIfInBounds_toArray, List.set_cons_zero, List.set_cons_succ]) | (refine T_pass (by rfl) (by rfl) ?_; try simp only [Act.put, List.setIfInBounds_toArray, List.set_cons_zero, List.set_cons_succ]) | (refine T_load (by assumption) (by rfl) (by rfl) (fun _ _ _ _ h => h) rfl rfl (by assumption) (by first | exact (fun hn => hn) | assumption) ?_; try simp only [Act.put, List.setIfInBounds_toArray, List.set_cons_zero, List.set_cons_succ]) | (refine T_nil (by rfl) (by rfl) (fun _ _ _ _ h => h) rfl rfl ?_; try simp only [Act.put, List.setIfInBounds_toArray, List.set_cons_zero, List.set_cons_succ]) | (refine T_quietN (by rfl) (by rfl) (by rfl) (by rfl) (fun _ _ _ _ h => h) (fun K hK => ?_); go_big_quiet_op; refine hK _ ?_; clear hK K) | (refine T_two (by rfl) (by rfl) (by rfl) (by rfl) (fun _ _ _ _ h => h) (fun K hK => ?_); go_big_quiet_op; refine ⟨_, fun _ _ => rfl, ?_⟩; refine hK _ ?_; clear hK K; try simp only [Act.put, List.setIfInBounds_toArray, List.set_cons_zero, List.set_cons_succ]) | fail)
                try rw [HKB.out]
                (first | (refine T_skip (by rfl) (by rfl) (fun _ _ _ h => h) ?_; try simp only [Act.put, List.setIfInBounds_toArray, List.set_cons_zero, List.set_cons_succ]) | (refine T_pass (by rfl) (by rfl) ?_; try simp only [Act.put, List.setIfInBounds_toArray, List.set_cons_zero, List.set_cons_succ]) | (refine T_load (by assumption) (by rfl) (by rfl) (fun _ _ _ _ h => h) rfl rfl (by assumption) (by first | exact (fun hn => hn) | assumption) ?_; try simp only [Act.put, List.setIfInBounds_toArray, List.set_cons_zero, List.set_cons_succ]) | (refine T_nil (by rfl) (by rfl) (fun _ _ _ _ h => h) rfl rfl ?_; try simp only [Act.put, List.setIfInBounds_toArray, List.set_cons_zero, List.set_cons_succ]) | (refine T_quietN (by rfl) (by rfl) (by rfl) (by rfl) (fun _ _ _ _ h => h) (fun K hK => ?_); go_big_quiet_op; refine hK _ ?_; clear hK K) | (refine T_two (by rfl) (by rfl) (by rfl) (by rfl) (fun _ _ _ _ h => h) (fun K hK => ?_); go_big_quiet_op; refine ⟨_, fun _ _ => rfl, ?_⟩; refine hK _ ?_; clear hK K; try simp only [Act.put, List.setIfInBounds_toArray, List.set_cons_zero, List.set_cons_succ]) | fail)
                (first | (refine T_skip (by rfl) (by rfl) (fun _ _ _ h => h) ?_; try simp only [Act.put, List.setIfInBounds_toArray, List.set_cons_zero, List.set_cons_succ]) | (refine T_pass (by rfl) (by rfl) ?_; try simp only [Act.put, List.setIfInBounds_toArray, List.set_cons_zero, List.set_cons_succ]) | (refine T_load (by assumption) (by rfl) (by rfl) (fun _ _ _ _ h => h) rfl rfl (by assumption) (by first | exact (fun hn => hn) | assumption) ?_; try simp only [Act.put, List.setIfInBounds_toArray, List.set_cons_zero, List.set_cons_succ]) | (refine T_nil (by rfl) (by rfl) (fun _ _ _ _ h => h) rfl rfl ?_; try simp only [Act.put, List.setIfInBounds_toArray, List.set_cons_zero, List.set_cons_succ]) | (refine T_quietN (by rfl) (by rfl) (by rfl) (by rfl) (fun _ _ _ _ h => h) (fun K hK => ?_); go_big_quiet_op; refine hK _ ?_; clear hK K) | (refine T_two (by rfl) (by rfl) (by rfl) (by rfl) (fun _ _ _ _ h => h) (fun K hK => ?_); go_big_quiet_op; refine ⟨_, fun _ _ => rfl, ?_⟩; refine hK _ ?_; clear hK K; try simp only [Act.put, List.setIfInBounds_toArray, List.set_cons_zero, List.set_cons_succ]) | fail)
                (first | (refine T_skip (by rfl) (by rfl) (fun _ _ _ h => h) ?_; try simp only [Act.put, List.setIfInBounds_toArray, List.set_cons_zero, List.set_cons_succ]) | (refine T_pass (by rfl) (by rfl) ?_; try simp only [Act.put, List.setIfInBounds_toArray, List.set_cons_zero, List.set_cons_succ]) | (refine T_load (by assumption) (by rfl) (by rfl) (fun _ _ _ _ h => h) rfl rfl (by assumption) (by first | exact (fun hn => hn) | assumption) ?_; try simp only [Act.put, List.setIfInBounds_toArray, List.set_cons_zero, List.set_cons_succ]) | (refine T_nil (by rfl) (by rfl) (fun _ _ _ _ h => h) rfl rfl ?_; try simp only [Act.put, List.setIfInBounds_toArray, List.set_cons_zero, List.set_cons_succ]) | (refine T_quietN (by rfl) (by rfl) (by rfl) (by rfl) (fun _ _ _ _ h => h) (fun K hK => ?_); go_big_quiet_op; refine hK _ ?_; clear hK K) | (refine T_two (by rfl) (by rfl) (by rfl) (by rfl) (fun _ _ _ _ h => h) (fun K hK => ?_); go_big_quiet_op; refine ⟨_, fun _ _ => rfl, ?_⟩; refine hK _ ?_; clear hK K; try simp only [Act.put, List.setIfInBounds_toArray, List.set_cons_zero, List.set_cons_succ]) | fail)
                refine T_done ?_
                go_wp2_with fail
                go_meet
                case rel => exact ⟨_, _, _, rfl, rfl, Lib.hid (by first | rfl | omega), by omega, by omega, HC, rfl⟩
            case rest =>
              obtain ⟨A2, c2, n2, rfl, rfl, HN2, hn2c, hc2m, HR2, hwx⟩ := hcut
              have hf3 : Fr No w2 wc := by rw [hwx]; exact (Fr.refl No w2).drew
              have hown3 := own_fr0 hown2 hf3
              have HRC3 := HRC2.out.fr hf3 (fun _ _ hn => hn)
              have hlg3 := hlg2.fr0 hf3
              have hx3 := hx2.fr0 hf3
              have hF3 := hF2.tr hf3
              have HR3 := (HR2.out).fr0 hf3
              have hv3 := own_fr0 hownv hf3
              have hz3 := hf3.size
              clear hwx hf3 hown2 HRC2 hlg2 hx2 hF2 HR2 hownv hx20
              have hL3 : L < wc.heap.size := by omega
              have hfa : Fr No wc (wc.alloc (.cells #[.slice Av l.length cv] 40)) := (Fr.refl No wc).alloc _
              go_upto_region 19 with (first
                | (at_builtin; refine wpList_app_at so_lb (own_fr0 hown3 hfa) ((Blk.new wc 40 #[.slice Av l.length cv]).rd (size := 1) (n := 1) (by rfl) (by decide)) (by intro u hu; simp at hu; subst hu; rfl) (by omega) (by simp; omega) rfl rfl rfl rfl ?_; intro v4 w4 hown4 hg4 hat4)
                | fail)
              have hF4 : Fr No w w4 := (hF3.alloc _).grown hg4 (fun q hq => .inl (by have := (hown3.lt q hq).1; omega))
              have hfT : Fr (fun b => (Value.slice A13 rl.length c13).ownBlock = some b) wc w4 := ((Fr.refl _ wc).alloc _).grown hg4 (fun q hq => .inr hq)
              have hg4b : ∀ b, (Value.slice A13 rl.length c13).ownBlock = some b → L < b := fun b hb => (hown3.lt b hb).1
              have hne : some L ≠ (Value.slice A13 rl.length c13).ownBlock := fun e => by have := hg4b L e.symm; omega
              have hlg4 := (hlg3.alloc (.cells #[.slice Av l.length cv] 40)).grown hg4 hne
              have hx4 := (hx3.alloc (.cells #[.slice Av l.length cv] 40)).grown hg4 (fun e => by have := hg4b gh e.symm; omega)
              have hrv : RdB wc (fun b => (L < b ∧ b < wc.heap.size) ∧ (Value.slice A13 rl.length c13).ownBlock ≠ some b) Av l := by
                have hl6 : l.length ≤ 211106232532992 := by have h1 := hcv; have h2 := hl6x.out; omega
                refine (own_rd hv3 hl6).mono (fun b hb hx => ?_) (by decide)
                have h1 := (hv3.lt b (by rcases Av with _ | ad; cases hx; injection hx with hx; exact congrArg some hx)).1
                refine ⟨⟨by omega, hb⟩, fun e => ?_⟩
                have h2 := HOL.out b e
                omega
              have hRC4 := (HRC3.mono (T := fun b => (L < b ∧ b < wc.heap.size) ∧ (Value.slice A13 rl.length c13).ownBlock ≠ some b) (fun b hb hx => ⟨⟨hx.1.1, hb⟩, hx.2⟩)).snoc hrv (c := cv)
              have hRC5 := hRC4.fr hfT (fun b hb hT => hb.2 hT)
              have hz4 := hfT.size
              have hRC6 : RecCells w4 (fun b => (L < b ∧ b < w4.heap.size) ∧ v4.ownBlock ≠ some b) (rl ++ [l]) (cs ++ [Value.slice Av l.length cv]) := hRC5.mono (fun b hb hx => ⟨⟨hx.1.1, hb⟩, fun e => by
                rcases hat4 with h | h
                · rw [h] at e; exact hx.2 e
                · rw [h] at e
                  injection e with e
                  have h1 := hx.1.2
                  simp at e
                  omega⟩)
              have hR4 : Rd w4 (fun b => b < L) 1 A2 n2 (U8 (ss.drop k).flatten) := HR3.fr hfT (fun b hb hT => by have := hg4b b hT; omega)
              have HRC6 := Lib.hid hRC6
              have HR4 := Lib.hid hR4
              have hw4 : w4.ownsRow (L + 1) 40 1 v4 (rl ++ [l]).length (cs ++ [Value.slice Av l.length cv]) := by rw [List.length_append]; exact hown4
              have HOW := Lib.hid hw4
              obtain ⟨A4, c4, rfl, _, _, _⟩ := own_form hown4
              clear hRC4 hRC5 hRC6 hfT hfa hg4 hg4b hat4 HRC3 hown3 hv3 hrv HR3 hR4 hlg3 hx3 hF3 hw4 hown4 hne
              have hL4 : L < w4.heap.size := by omega
              (have y0 := hlg4.cell 0; have y1 := hlg4.cell 1; have y2 := hlg4.cell 2; have y3 := hlg4.cell 3; have y4 := hlg4.cell 4; have y5 := hlg4.cell 5; have y6 := hlg4.cell 6; have y7 := hlg4.cell 7; have yf0 := hlg4.frozen 0; have yf1 := hlg4.frozen 1; have yf2 := hlg4.frozen 2; have yf3 := hlg4.frozen 3; have yf4 := hlg4.frozen 4; have yf5 := hlg4.frozen 5; have yf6 := hlg4.frozen 6; have yf7 := hlg4.frozen 7; simp only [List.getElem?_toArray, List.getElem?_cons_zero, List.getElem?_cons_succ] at y0 y1 y2 y3 y4 y5 y6 y7)
              go_upto_region 20 with fail
              have HAT := Lib.hid (show (at0 : Int) + (k : Int) = ((at0 + k : Nat) : Int) by omega)
              rw [HAT.out]
              have hlg5 : Blk (w4.setCell ⟨L, 6, none⟩ (.int .i64 ((at0 + k : Nat) : Int))) L 71 #[.pointer (some ⟨H, 0, none⟩), .int .i64 life, .int .i64 (half : Int), .int .i64 first, .int .i64 since, .int .i64 sq, .int .i64 ((at0 + k : Nat) : Int), .bool false] := hlg4.put 6 _
              have hfL : Fr (fun b => b = L) w4 (w4.setCell ⟨L, 6, none⟩ (.int .i64 ((at0 + k : Nat) : Int))) := (Fr.refl (fun b => b = L) w4).set (p := ⟨L, 6, none⟩) (.inr rfl) _
              have hsz : (w4.setCell ⟨L, 6, none⟩ (.int .i64 ((at0 + k : Nat) : Int))).heap.size = w4.heap.size := by simp
              clear y0 y1 y2 y3 y4 y5 y6 y7 yf0 yf1 yf2 yf3 yf4 yf5 yf6 yf7 hlg4
              generalize w4.setCell ⟨L, 6, none⟩ (.int .i64 ((at0 + k : Nat) : Int)) = w6 at *
              (have y0 := hlg5.cell 0; have y1 := hlg5.cell 1; have y2 := hlg5.cell 2; have y3 := hlg5.cell 3; have y4 := hlg5.cell 4; have y5 := hlg5.cell 5; have y6 := hlg5.cell 6; have y7 := hlg5.cell 7; have yf0 := hlg5.frozen 0; have yf1 := hlg5.frozen 1; have yf2 := hlg5.frozen 2; have yf3 := hlg5.frozen 3; have yf4 := hlg5.frozen 4; have yf5 := hlg5.frozen 5; have yf6 := hlg5.frozen 6; have yf7 := hlg5.frozen 7; simp only [List.getElem?_toArray, List.getElem?_cons_zero, List.getElem?_cons_succ] at y0 y1 y2 y3 y4 y5 y6 y7)
              have hlg7 : Blk (w6.setCell ⟨L, 5, none⟩ (.int .i64 (sq + 1))) L 71 #[.pointer (some ⟨H, 0, none⟩), .int .i64 life, .int .i64 (half : Int), .int .i64 first, .int .i64 since, .int .i64 (sq + 1), .int .i64 ((at0 + k : Nat) : Int), .bool false] := hlg5.put 5 _
              have hfL2 : Fr (fun b => b = L) w4 (w6.setCell ⟨L, 5, none⟩ (.int .i64 (sq + 1))) := hfL.set (p := ⟨L, 5, none⟩) (.inr rfl) _
              have hsz2 : (w6.setCell ⟨L, 5, none⟩ (.int .i64 (sq + 1))).heap.size = w4.heap.size := by simp [hsz]
              have hsq : sq + 1 ≤ 9223372036854775807 := by omega
              go_wp2_with fail
              go_roundw
              case rel =>
                refine ⟨ss.drop k, n2, c2, A2, f, lf, sq + 1, at0 + k, rl ++ [l], cs ++ [Value.slice Av l.length cv], rfl, Lib.hid (by rw [HN2.out]; exact HNK.out), hn2c, hc2m, Lib.hid (H128.out.drop k), by rw [HDL.out]; omega, by rw [HDL.out]; omega, Lib.hid (Rd.fr HR4.out hfL2 (fun b hb e => by omega)), rfl, HON, own_fr HOW.out hfL2 (fun b hb e => by have := (HOW.out.lt b hb).1; omega), Lib.hid ?_, hlg7, hx4.fr hfL2 (fun e => by omega), ⟨by rw [List.length_append, HDL.out]; simp only [List.length_cons, List.length_nil]; omega, by rw [HDL.out]; omega⟩, ⟨by omega, by rw [HDL.out]; omega⟩, hF4.trans hfL2 (fun b hb e => by omega), by rw [hsz2]; exact hL4⟩
                exact (HRC6.out.fr hfL2 (fun b hb e => by have := hb.1.1; omega)).mono (fun b hb hx => ⟨⟨hx.1.1, hb⟩, hx.2⟩)
              case measure => simp; have := HN2.out; have := HKN.out; omega
  case rest =>
    obtain ⟨cs, hown, HRC, hlg, hfc⟩ := hcut
    obtain ⟨Ao, co, rfl, _, _, hAo⟩ := own_form hown
    have hlgb : Blk wc L 71 #[.pointer (some ⟨H, 0, none⟩), .int .i64 life, .int .i64 (half : Int), .int .i64 first, .int .i64 since, .int .i64 seq, .int .i64 (at_ : Int), .bool false] := hlg
    have hLc := hlgb.lt
    have e1 : (life == 1099511627776) = false := by rw [beq_eq_false_iff_ne]; omega
    have e2 : decide (1099511627776 < seq) = false := by simp; omega
    clear hlg
    (have y0 := hlgb.cell 0; have y1 := hlgb.cell 1; have y2 := hlgb.cell 2; have y3 := hlgb.cell 3; have y4 := hlgb.cell 4; have y5 := hlgb.cell 5; have y6 := hlgb.cell 6; have y7 := hlgb.cell 7; have yf0 := hlgb.frozen 0; have yf1 := hlgb.frozen 1; have yf2 := hlgb.frozen 2; have yf3 := hlgb.frozen 3; have yf4 := hlgb.frozen 4; have yf5 := hlgb.frozen 5; have yf6 := hlgb.frozen 6; have yf7 := hlgb.frozen 7; simp only [List.getElem?_toArray, List.getElem?_cons_zero, List.getElem?_cons_succ] at y0 y1 y2 y3 y4 y5 y6 y7)
    go_upto_region 23 with fail
    clear y0 y2 y3 y4 y5 y6 y7 yf0 yf2 yf3 yf4 yf5 yf6 yf7
    have hl3 : life + 1 ≤ 9223372036854775807 := by omega
    go_upto_region 24 with fail
    have hlg6 : Blk (wc.setCell ⟨L, 1, none⟩ (.int .i64 (life + 1))) L 71 #[.pointer (some ⟨H, 0, none⟩), .int .i64 (life + 1), .int .i64 (half : Int), .int .i64 first, .int .i64 since, .int .i64 seq, .int .i64 (at_ : Int), .bool false] := hlgb.put 1 _
    have hfL : Fr (fun b => b = L) wc (wc.setCell ⟨L, 1, none⟩ (.int .i64 (life + 1))) := (Fr.refl (fun b => b = L) wc).set (p := ⟨L, 1, none⟩) (.inr rfl) _
    have hsz : (wc.setCell ⟨L, 1, none⟩ (.int .i64 (life + 1))).heap.size = wc.heap.size := by simp
    clear y1 yf1
    generalize wc.setCell ⟨L, 1, none⟩ (.int .i64 (life + 1)) = w6 at *
    have hF6 : Fr No w w6 := hfc.trans hfL (fun b hb e => by omega)
    have hown6 := own_fr hown hfL (fun b hb e => by have := (hown.lt b hb).1; omega)
    have hobn : ∀ b, (Value.slice Ao recs.length co).ownBlock = some b → b < w6.heap.size := fun b hb => (hown6.lt b hb).2
    have hRC6 := (HRC.out.mono (T := fun b => L < b ∧ b < w6.heap.size) (fun b hb hx => ⟨hx, by omega⟩)).fr hfL (fun b hb e => by have := hb.1; omega)
    have hd6 := hD.fr0 hF6
    have hc6 := hlg6.cells 1 [.int .i64 (life + 1), .int .i64 (half : Int), .int .i64 first, .int .i64 since] (fun j u hu => by
      rcases j with _ | _ | _ | _ | j
      · exact hu
      · exact hu
      · exact hu
      · exact hu
      · simp at hu)
    have hL6 : L < w6.heap.size := hlg6.lt
    have HFF := Lib.hid hF6
    clear hfc hfL hown hsz HRC hlgb
    go_wp2_with (first
      | (refine wpList_ldA ag_head rfl _ rfl ⟨L, 1, none⟩ [.int .i64 (life + 1), .int .i64 (half : Int), .int .i64 first, .int .i64 since] rfl rfl hc6 ?_)
      | fail)
    refine (hly _ _ hd6).mono ?_
    rintro e w7 ⟨rfl, hd7, hf7⟩
    go_wp2_with fail
    go_ret3
    refine ⟨L, w6.heap.size, _, cs, rfl, ⟨by omega, hL6, hf7.size, hlg6.fr hf7 (fun h => by have := h.2; omega), hd7, own_fr hown6 hf7 (fun b hb h => by have := (hown6.lt b hb).1; have := h.2; omega), hobn, hRC6.fr hf7 (fun b hb h => by have := hb.1; have := h.2; omega), ?_⟩⟩
    exact (HFF.out.mono (T := X) (fun _ _ hn => hn.elim)).trans hf7 (fun b _ hb => hb.1)
end Go.Proofs.YtannkgglgmbkdaaDoor
namespace Go.Proofs.YtannkgglgmbkdaaDoor
set_option linter.unusedVariables false
set_option linter.unusedSimpArgs false
set_option linter.unusedVariables false
open Go.Shelf
def layBufWrite_ren : Go.Shelf.Ren := ⟨fun | 180 => 49 | 181 => 56 | 184 => 57 | 251 => 54 | 252 => 55 | 290 => 58 | 324 => 59 | n => n, fun | 0 => 0 | 3 => 3 | 4 => 4 | 5 => 5 | 9 => 9 | 20 => 20 | 37 => 40 | 75 => 106 | 80 => 118 | 91 => 102 | 93 => 104 | 130 => 114 | 131 => 78 | n => n, fun | 14 => 0 | n => n⟩
theorem layBufWrite : LaysM.n180 Tryd.prog layBufWrite_ren := {
  mixed := by kernel_rfl
  f180 := Tryd.func49.trans (congrArg some (by kernel_rfl))
  f181 := Tryd.func56.trans (congrArg some (by kernel_rfl))
  f184 := Tryd.func57.trans (congrArg some (by kernel_rfl))
  f251 := Tryd.func54.trans (congrArg some (by kernel_rfl))
  f252 := Tryd.func55.trans (congrArg some (by kernel_rfl))
  f290 := Tryd.func58.trans (congrArg some (by kernel_rfl))
  f324 := Tryd.func59.trans (congrArg some (by kernel_rfl))
  t0 := Tryd.underlying0
  a0 := Tryd.isAgg0
  z0 := Tryd.sizeOf0
  v0 := Tryd.zeroValue0
  t3 := Tryd.underlying3
  a3 := Tryd.isAgg3
  z3 := Tryd.sizeOf3
  v3 := Tryd.zeroValue3
  t4 := Tryd.underlying4
  a4 := Tryd.isAgg4
  z4 := Tryd.sizeOf4
  v4 := Tryd.zeroValue4
  t20 := Tryd.underlying20
  a20 := Tryd.isAgg20
  z20 := Tryd.sizeOf20
  v20 := Tryd.zeroValue20
  t37 := Tryd.underlying40
  a37 := Tryd.isAgg40
  z37 := Tryd.sizeOf40
  v37 := Tryd.zeroValue40
  t75 := Tryd.underlying106
  a75 := Tryd.isAgg106
  z75 := Tryd.sizeOf106
  v75 := Tryd.zeroValue106
  t91 := Tryd.underlying102
  a91 := Tryd.isAgg102
  z91 := Tryd.sizeOf102
  v91 := Tryd.zeroValue102
  t93 := Tryd.underlying104
  a93 := Tryd.isAgg104
  z93 := Tryd.sizeOf104
  v93 := Tryd.zeroValue104
  t130 := Tryd.underlying114
  a130 := Tryd.isAgg114
  z130 := Tryd.sizeOf114
  v130 := Tryd.zeroValue114
  t131 := Tryd.underlying78
  a131 := Tryd.isAgg78
  z131 := Tryd.sizeOf78
  v131 := Tryd.zeroValue78
  g14 := by kernel_rfl
  t5 := Tryd.underlying5
  a5 := Tryd.isAgg5
  z5 := Tryd.sizeOf5
  v5 := Tryd.zeroValue5
  t9 := Tryd.underlying9
  a9 := Tryd.isAgg9
  z9 := Tryd.sizeOf9
  v9 := Tryd.zeroValue9
  t80 := Tryd.underlying118
  a80 := Tryd.isAgg118
  z80 := Tryd.sizeOf118
  v80 := Tryd.zeroValue118
  i0 := by kernel_rfl
  i3 := by kernel_rfl
  i4 := by kernel_rfl
  i5 := by kernel_rfl
  i9 := by kernel_rfl
  i20 := by kernel_rfl
  i37 := by kernel_rfl
  i75 := by kernel_rfl
  i80 := by kernel_rfl
  i91 := by kernel_rfl
  i93 := by kernel_rfl
  i130 := by kernel_rfl
  i131 := by kernel_rfl
  m14 := by kernel_rfl }
def layBufBytes_ren : Go.Shelf.Ren := ⟨fun | 183 => 50 | n => n, fun | 0 => 0 | 3 => 3 | 5 => 5 | 37 => 40 | 91 => 102 | 93 => 104 | 130 => 114 | n => n, fun n => n⟩
theorem layBufBytes : LaysM.n183 Tryd.prog layBufBytes_ren := {
  mixed := by kernel_rfl
  f183 := Tryd.func50.trans (congrArg some (by kernel_rfl))
  t0 := Tryd.underlying0
  a0 := Tryd.isAgg0
  z0 := Tryd.sizeOf0
  v0 := Tryd.zeroValue0
  t3 := Tryd.underlying3
  a3 := Tryd.isAgg3
  z3 := Tryd.sizeOf3
  v3 := Tryd.zeroValue3
  t37 := Tryd.underlying40
  a37 := Tryd.isAgg40
  z37 := Tryd.sizeOf40
  v37 := Tryd.zeroValue40
  t93 := Tryd.underlying104
  a93 := Tryd.isAgg104
  z93 := Tryd.sizeOf104
  v93 := Tryd.zeroValue104
  t130 := Tryd.underlying114
  a130 := Tryd.isAgg114
  z130 := Tryd.sizeOf114
  v130 := Tryd.zeroValue114
  t5 := Tryd.underlying5
  a5 := Tryd.isAgg5
  z5 := Tryd.sizeOf5
  v5 := Tryd.zeroValue5
  t91 := Tryd.underlying102
  a91 := Tryd.isAgg102
  z91 := Tryd.sizeOf102
  v91 := Tryd.zeroValue102
  i0 := by kernel_rfl
  i3 := by kernel_rfl
  i5 := by kernel_rfl
  i37 := by kernel_rfl
  i91 := by kernel_rfl
  i93 := by kernel_rfl
  i130 := by kernel_rfl }
end Go.Proofs.YtannkgglgmbkdaaDoor
namespace Go.Proofs.YtannkgglgmbkdaaDoor
set_option linter.unusedVariables false
set_option linter.unusedSimpArgs false
open Go.RowKit

theorem bufwrite_calls (B b : Nat) (bs cs : List Value) (a : Addr) (n c : Nat) (w : World) (h : Lib.IsBuffer 104 5 B b bs w) (hBw : B ≤ w.heap.size) (h1 : ∀ v ∈ bs, v.oneCell' = true)
    (hn : cs.length = n) (haB : a.block < B) (hsrc : ∀ j v, cs[j]? = some v → w.cell? (a.add j) = some v) (h1c : ∀ v ∈ cs, v.oneCell' = true) (hlim : bs.length + n ≤ 140737488355328) :
    Calls Tryd.prog 49 #[.pointer (some ⟨b, 0, none⟩), .slice (some a) n c] w fun e w' => e = .returned (.tuple #[.int .i64 n, .nilIface]) ∧ Lib.IsBuffer 104 5 B b (bs ++ cs) w' ∧ Below B w w' :=
  Any.Buffer_Write layBufWrite B b bs cs a n c w h hBw h1 hn haB hsrc h1c hlim
theorem bufbytes_calls (B b : Nat) (bs : List Value) (w : World) (h : Lib.IsBuffer 104 5 B b bs w) :
    Calls Tryd.prog 50 #[.pointer (some ⟨b, 0, none⟩)] w fun e w' => ∃ v, e = .returned v ∧ w'.ownsRow B 5 1 v bs.length bs ∧ ∃ n, w' = w.drewN n :=
  Any.Buffer_Bytes layBufBytes B b bs w h
end Go.Proofs.YtannkgglgmbkdaaDoor
namespace Go.Proofs.YtannkgglgmbkdaaDoor
set_option linter.unusedVariables false
set_option linter.unusedSimpArgs false
open Go.RowKit

/-- How many sectors a record of l bytes has, and what they are. -/
def recN (l : Nat) : Nat := (l + 111) / 112
def recPart (rec : List UInt8) (j : Nat) : List UInt8 := (rec.drop (112 * j)).take 112
def recPre (life seq : Int) (rec : List UInt8) (j : Nat) : List UInt8 := [] ++ putL 6 life ++ putL 6 seq ++ putL 2 (j : Int)
def recSec (life seq : Int) (rec : List UInt8) (j : Nat) : Sec :=
  recPre life seq rec j ++ [if rec.length ≤ 112 * (j + 1) then 1 else 0] ++ [UInt8.ofNat (recPart rec j).length] ++ recPart rec j ++ List.replicate (112 - (recPart rec j).length) 0
def recB (life seq : Int) (rec : List UInt8) : List Sec := (List.range (recN rec.length)).map (recSec life seq rec)
theorem recPart_len (rec : List UInt8) (j : Nat) : (recPart rec j).length = min 112 (rec.length - 112 * j) := by unfold recPart; rw [List.length_take, List.length_drop]
theorem recPre_len (life seq : Int) (rec : List UInt8) (j : Nat) : (recPre life seq rec j).length = 14 := by simp [recPre, putL_len]
theorem recSec_len (life seq : Int) (rec : List UInt8) (j : Nat) : (recSec life seq rec j).length = 128 := by
  have := recPart_len rec j
  simp only [recSec, List.length_append, recPre_len, List.length_cons, List.length_nil, List.length_replicate]
  omega
theorem recB_len (life seq : Int) (rec : List UInt8) : (recB life seq rec).length = recN rec.length := by simp [recB]
theorem recB_128 (life seq : Int) (rec : List UInt8) : Len128 (recB life seq rec) := fun s hs => by
  obtain ⟨j, _, rfl⟩ := List.mem_map.1 hs
  exact recSec_len _ _ _ _
def recUp (life seq : Int) (rec : List UInt8) (j : Nat) : List UInt8 := ((List.range j).map (recSec life seq rec)).flatten
theorem recUp_step (life seq : Int) (rec : List UInt8) (j : Nat) : recUp life seq rec (j + 1) = recUp life seq rec j ++ recSec life seq rec j := by
  unfold recUp; rw [List.range_succ, List.map_append, List.flatten_append]; simp
theorem recUp_len (life seq : Int) (rec : List UInt8) (j : Nat) : (recUp life seq rec j).length = j * 128 := by
  induction j with
  | zero => rfl
  | succ j ih => rw [recUp_step, List.length_append, ih, recSec_len]; omega
theorem isbuf_fr0 {T e : TypeId} {B b : Nat} {bs : List Value} {w w' : World} (h : Lib.IsBuffer T e B b bs w) (hf : Fr No w w') : Lib.IsBuffer T e B b bs w' := by
  have hlt := h.lt
  obtain ⟨h1, v, lr, h2, h3, h4⟩ := h
  exact ⟨h1, v, lr, (hf.block b hlt (fun hn => hn)).trans h2, own_fr0 h3 hf, h4⟩
theorem bufwrite_any (B b : Nat) (bs cs : List Value) (a : Addr) (n c : Nat) (w : World) (h : Lib.IsBuffer 104 5 B b bs w) (hBw : B ≤ w.heap.size) (h1 : ∀ v ∈ bs, v.oneCell' = true)
    (hn : cs.length = n) (hab : a.block ≠ b) (hsrc : ∀ j v, cs[j]? = some v → w.cell? (a.add j) = some v) (h1c : ∀ v ∈ cs, v.oneCell' = true) (hlim : bs.length + n ≤ 140737488355328) :
    Calls Tryd.prog 49 #[.pointer (some ⟨b, 0, none⟩), .slice (some a) n c] w fun e w' => e = .returned (.tuple #[.int .i64 n, .nilIface]) ∧ Lib.IsBuffer 104 5 B b (bs ++ cs) w' ∧ Below B w w' :=
  (Any.Buffer_Write_any layBufWrite B b bs cs a n c w h hBw h1 hn hab hsrc h1c hlim).mono (fun _ _ h => ⟨h.1, h.2.1, h.2.2.1⟩)
theorem zero_secZ : (Tryd.prog.info? tSec).bind (·.zero) = some (.agg (U8 zsec).toArray) := zero_sec
theorem fr_below {w w1 w2 : World} (h : Fr No w w1) (k : Below w.heap.size w1 w2) (hs : w.heap.size ≤ w1.heap.size) : Fr No w w2 :=
  ⟨k.os.trans h.os, k.tape.trans h.tape, k.output.trans h.output, Nat.le_trans h.size k.size, fun i hi _ => (k.block i hi).trans (h.block i hi (fun hn => hn))⟩
set_option maxHeartbeats 8000000 in
set_option maxRecDepth 100000 in
theorem recs_calls (w : World) (life seq : Int) (A : Option Addr) (c : Nat) (rec : List UInt8) (hr : RdB w (fun b => b < w.heap.size) A rec) (hl : rec.length ≤ 60000) (hc : rec.length ≤ c) (hcm : c ≤ maxLen) :
    Calls Tryd.prog 38 #[.int .i64 life, .int .i64 seq, .slice A rec.length c] w fun e w' => ∃ v, e = .returned v ∧ w'.ownsRow w.heap.size 5 1 v (recN rec.length * 128) (U8 (recB life seq rec).flatten) ∧ Fr No w w' := by
  go_enter Tryd.func38, Tryd.ntmps38
  go_wp2_with fail
  have hI0 : Lib.IsBuffer 104 5 w.heap.size w.heap.size (U8 (recUp life seq rec 0)) (w.alloc (.cells #[.slice none 0 0, .int .i64 0, .int .i8 0] 104)) := Lib.fresh_isBuffer _ _ w
  have hf0 : Fr No w (w.alloc (.cells #[.slice none 0 0, .int .i64 0, .int .i8 0] 104)) := (Fr.refl No w).alloc _
  have hr0 := hr.fr0 hf0
  go_loopw [2, 8] (fun v2 v8 wr => ∃ (j nj cj : Nat) (Aj : Option Addr), j ≤ recN rec.length ∧ v8 = .int .i64 (j : Int) ∧ v2 = .slice Aj nj cj ∧ Hid (nj = rec.length - 112 * j) ∧ nj ≤ cj ∧ cj ≤ maxLen ∧ nj ≤ 60000 ∧
    Rd wr (fun b => b < w.heap.size) 1 Aj nj (U8 (rec.drop (112 * j))) ∧ Lib.IsBuffer 104 5 w.heap.size w.heap.size (U8 (recUp life seq rec j)) wr ∧ Fr No w wr) (fun v2 _ _ => (match v2 with | .slice _ n _ => n | _ => 0))
  case atStart => exact ⟨0, rec.length, c, A, by omega, rfl, rfl, Lib.hid (by omega), hc, hcm, hl, hr0, hI0, hf0⟩
  case round =>
    obtain ⟨j, nj, cj, Aj, hj, rfl, rfl, HN, hnc, hcj, hn6, hrd, hI, hf⟩ := hrel
    have hn0 := HN.out
    have hj6 : j ≤ 536 := by unfold recN at hj; omega
    by_cases hlt : 0 < nj
    · have hpl := recPart_len rec j
      have hjl : j < recN rec.length := by unfold recN; omega
      have HJL := Lib.hid hjl
      have HUL := Lib.hid (recUp_len life seq rec j)
      have HUS := Lib.hid (recUp_step life seq rec j)
      have hpre := recPre_len life seq rec j
      have en : decide ((0 : Int) < nj) = true := by simp; omega
      obtain ⟨m, hm⟩ : ∃ m, m = (recPart rec j).length := ⟨_, rfl⟩
      have hmm : m = min nj 112 := by omega
      have hm1 : m ≤ nj := by omega
      have hm2 : m ≤ 112 := by omega
      have hm3 : m ≤ cj := by omega
      have hm0 : 0 < m := by omega
      have HMI := Lib.hid (show (m : Int) = min (nj : Int) 112 by omega)
      have HM := Lib.hid hm
      have hpt := (hrd.take (k := m) hm1)
      rw [Nat.mul_one, ← U8_take] at hpt
      have hpp : (List.drop (112 * j) rec).take m = recPart rec j := by
        unfold recPart
        rw [hm, recPart_len]
        apply List.take_eq_take_iff.2
        rw [List.length_drop]
        omega
      rw [hpp] at hpt
      have hcut := hrd.cut (k := m) (cap := cj) hm1 hnc
      rw [Nat.mul_one, ← U8_drop, List.drop_drop] at hcut
      have hrem : nj - m = rec.length - 112 * (j + 1) := by omega
      have hdr : rec.drop (112 * j + m) = rec.drop (112 * (j + 1)) := by
        rcases Nat.lt_or_ge (112 * j + m) rec.length with h | h
        · congr 1; omega
        · rw [List.drop_eq_nil_of_le h, List.drop_eq_nil_of_le (by omega)]
      rw [hdr] at hcut
      have HREM := Lib.hid hrem
      have HCUT := Lib.hid hcut
      clear hcut hrem hdr hpp
      by_cases hla : nj ≤ 112
      · have hmn : m = nj := by omega
        have HS : Hid (recSec life seq rec j = recPre life seq rec j ++ [1] ++ [UInt8.ofNat m] ++ recPart rec j ++ List.replicate (112 - m) 0) := Lib.hid (by unfold recSec; rw [if_pos (by omega), ← hm])
        have emn : ((m : Int) == (nj : Int)) = true := by rw [hmn]; exact beq_self_eq_true _
        clear hmn hla hn0 hmm hm hpl hjl
        go_upto_region 7 with (first
          | (refine wpList_allocA zero_secZ rfl rfl ?_)
          | (refine wpList_min (nj : Int) 112 (m : Int) HMI.out rfl rfl rfl rfl ?_)
          | fail)
        have hb1 := Blk.new wr tSec (U8 zsec).toArray
        have hF1 : Fr No wr (wr.alloc (.cells (U8 zsec).toArray tSec)) := (Fr.refl No wr).alloc _
        obtain ⟨gs, hgs⟩ : ∃ gs, gs = wr.heap.size := ⟨_, rfl⟩
        have hge : wr.heap.size ≤ gs := by omega
        have hgw : w.heap.size < gs := by have := hI.lt; omega
        try simp only [Act.put, List.setIfInBounds_toArray, List.set_cons_zero, List.set_cons_succ]
        rw [← hgs] at hb1 ⊢
        clear hgs
        generalize wr.alloc (.cells (U8 zsec).toArray tSec) = w1 at *
        go_wp2_with fail
        refine (put_calls _ gs 0 6 128 tSec _ life hb1 (by rw [List.size_toArray, U8_length, zsec_len]; decide) (by decide)).mono ?_
        rintro e w2 ⟨rfl, hb2, hf2⟩
        have e0 : (U8 zsec).toArray = (U8 ([] ++ List.replicate 128 0)).toArray := rfl
        rw [e0, splice_pre [] _ 128 122 0 rfl (by rw [putL_len])] at hb2
        have hF2 : Fr No wr w2 := hF1.trans hf2 (fun b hb e => by omega)
        clear hb1 hF1 hf2 e0
        go_wp2_with fail
        refine (put_calls _ gs 6 6 122 tSec _ seq hb2 (by rw [List.size_toArray, U8_length]; simp [putL_len]) (by decide)).mono ?_
        rintro e w3 ⟨rfl, hb3, hf3⟩
        rw [splice_pre _ _ 122 116 6 (by simp [putL_len]) (by rw [putL_len])] at hb3
        have hF3 : Fr No wr w3 := hF2.trans hf3 (fun b hb e => by omega)
        clear hb2 hF2 hf3
        go_wp2_with fail
        refine (put_calls _ gs 12 2 116 tSec _ (j : Int) hb3 (by rw [List.size_toArray, U8_length]; simp [putL_len]) (by decide)).mono ?_
        rintro e w4 ⟨rfl, hb4, hf4⟩
        rw [splice_pre _ _ 116 114 12 (by simp [putL_len]) (by rw [putL_len]), show [] ++ putL 6 life ++ putL 6 seq ++ putL 2 (j : Int) = recPre life seq rec j from rfl] at hb4
        have hF4 : Fr No wr w4 := hF3.trans hf4 (fun b hb e => by omega)
        clear hb3 hF3 hf4
        have hc14 := (hb4.cell 14).trans (Array.getElem?_eq_getElem (by rw [List.size_toArray, U8_length, List.length_append, hpre, List.length_replicate]; decide))
        have hz14 := hb4.frozen 14
        have hb5 := hb4.put 14 (.int .u8 1)
        have hset := set_pre (recPre life seq rec j) 1 113 14 hpre
        rw [show ((1 : UInt8).toNat : Int) = 1 from rfl] at hset
        rw [hset] at hb5
        clear hset
        generalize (U8 (recPre life seq rec j ++ List.replicate 114 0)).toArray[14]'_ = old at hc14
        go_upto_region 12 with fail
        have hF5 : Fr No wr (w4.setCell ⟨gs, 14, none⟩ (.int .u8 1)) := hF4.trans ((Fr.refl (fun b => b = gs) w4).set (p := ⟨gs, 14, none⟩) (.inr rfl) _) (fun b hb e => by omega)
        clear hc14 hz14 hb4 hF4
        generalize w4.setCell ⟨gs, 14, none⟩ (.int .u8 1) = w5 at *
        have hp15 : (recPre life seq rec j ++ [1]).length = 15 := by rw [List.length_append, hpre]; rfl
        have hc15 := (hb5.cell 15).trans (Array.getElem?_eq_getElem (by rw [List.size_toArray, U8_length, List.length_append, hp15, List.length_replicate]; decide))
        have hz15 := hb5.frozen 15
        have hb6 := hb5.put 15 (.int .u8 (m : Int))
        have hset := set_pre (recPre life seq rec j ++ [1]) (UInt8.ofNat m) 112 15 hp15
        rw [show ((UInt8.ofNat m).toNat : Int) = (m : Int) by rw [UInt8.toNat_ofNat']; omega] at hset
        rw [hset] at hb6
        clear hset
        generalize (U8 (recPre life seq rec j ++ [1] ++ List.replicate 113 0)).toArray[15]'_ = old at hc15
        have hmod : (m : Int) % 256 = (m : Int) := by omega
        go_upto_region 13 with fail
        try rw [hmod]
        have hF6 : Fr No wr (w5.setCell ⟨gs, 15, none⟩ (.int .u8 (m : Int))) := hF5.trans ((Fr.refl (fun b => b = gs) w5).set (p := ⟨gs, 15, none⟩) (.inr rfl) _) (fun b hb e => by omega)
        clear hc15 hz15 hb5 hF5 hmod
        generalize w5.setCell ⟨gs, 15, none⟩ (.int .u8 (m : Int)) = w6 at *
        have hp16 : (recPre life seq rec j ++ [1] ++ [UInt8.ofNat m]).length = 16 := by rw [List.length_append, hp15]; rfl
        have hpt6 := hpt.fr0 hF6
        go_wp2_with fail
        (refine T_begin (fun b => b = gs) [0, 1, 2, 3, 4] [4] (by kernel_rfl) (by kernel_rfl) ?_; simp only [pickOps, List.filterMap_cons, List.filterMap_nil, List.getElem?_cons_zero, List.getElem?_cons_succ, Act.put])
        repeat (first | (refine T_skip (by rfl) (by rfl) (fun _ _ _ h => h) ?_; try simp only [Act.put, List.setIfInBounds_toArray, List.set_cons_zero, List.set_cons_succ]) | (refine T_pass (by rfl) (by rfl) ?_; try simp only [Act.put, List.setIfInBounds_toArray, List.set_cons_zero, List.set_cons_succ]) | (refine T_load (by assumption) (by rfl) (by rfl) (fun _ _ _ _ h => h) rfl rfl (by assumption) (by first | exact (fun hn => hn) | assumption) ?_; try simp only [Act.put, List.setIfInBounds_toArray, List.set_cons_zero, List.set_cons_succ]) | (refine T_nil (by rfl) (by rfl) (fun _ _ _ _ h => h) rfl rfl ?_; try simp only [Act.put, List.setIfInBounds_toArray, List.set_cons_zero, List.set_cons_succ]) | (refine T_quietN (by rfl) (by rfl) (by rfl) (by rfl) (fun _ _ _ _ h => h) (fun K hK => ?_); go_big_quiet_op; refine hK _ ?_; clear hK K) | (refine T_two (by rfl) (by rfl) (by rfl) (by rfl) (fun _ _ _ _ h => h) (fun K hK => ?_); go_big_quiet_op; refine ⟨_, fun _ _ => rfl, ?_⟩; refine hK _ ?_; clear hK K; try simp only [Act.put, List.setIfInBounds_toArray, List.set_cons_zero, List.set_cons_succ]) | fail)
        refine T_call (by rfl) (by rfl) (fun K hK => ?_)
        refine wp_copyA so_u8 rfl hb6.drew hpt6.drew (U8_one _) rfl rfl (by rw [List.size_toArray, U8_length, List.length_append, hp16, List.length_replicate]; omega) ?_
        intro w7 hb7 hg7 hz7
        rw [show min m 112 * 1 = m by omega, List.take_of_length_le (by rw [U8_length, ← HM.out]; exact Nat.le_refl _), splice_pre _ _ 112 (112 - m) 16 hp16 (by rw [← HM.out]; omega), ← HS.out] at hb7
        (refine hK.out _ _ ((Fr.refl _ _).grown hg7 (fun q hq => by injection hq with hq; exact .inr hq.symm)) ?_; clear hK K; try simp only [Act.put, List.setIfInBounds_toArray, List.set_cons_zero, List.set_cons_succ])
        repeat (first | (refine T_skip (by rfl) (by rfl) (fun _ _ _ h => h) ?_; try simp only [Act.put, List.setIfInBounds_toArray, List.set_cons_zero, List.set_cons_succ]) | (refine T_pass (by rfl) (by rfl) ?_; try simp only [Act.put, List.setIfInBounds_toArray, List.set_cons_zero, List.set_cons_succ]) | (refine T_load (by assumption) (by rfl) (by rfl) (fun _ _ _ _ h => h) rfl rfl (by assumption) (by first | exact (fun hn => hn) | assumption) ?_; try simp only [Act.put, List.setIfInBounds_toArray, List.set_cons_zero, List.set_cons_succ]) | (refine T_nil (by rfl) (by rfl) (fun _ _ _ _ h => h) rfl rfl ?_; try simp only [Act.put, List.setIfInBounds_toArray, List.set_cons_zero, List.set_cons_succ]) | (refine T_quietN (by rfl) (by rfl) (by rfl) (by rfl) (fun _ _ _ _ h => h) (fun K hK => ?_); go_big_quiet_op; refine hK _ ?_; clear hK K) | (refine T_two (by rfl) (by rfl) (by rfl) (by rfl) (fun _ _ _ _ h => h) (fun K hK => ?_); go_big_quiet_op; refine ⟨_, fun _ _ => rfl, ?_⟩; refine hK _ ?_; clear hK K; try simp only [Act.put, List.setIfInBounds_toArray, List.set_cons_zero, List.set_cons_succ]) | fail)
        refine T_done ?_
        have hF7 : Fr No wr w7 := (hF6.drew).grown hg7 (fun q hq => by injection hq with hq; exact .inl (by omega))
        have hI7 := isbuf_fr0 hI hF7
        have hlen := recSec_len life seq rec j
        clear hb6 hF6 hg7
        go_wp2_with fail
        refine (bufwrite_any _ _ _ (U8 (recSec life seq rec j)) ⟨gs, 0, none⟩ 128 128 _ hI7 (hf.tr hF7).size (U8_one _) (by rw [U8_length]; exact hlen) (by show gs ≠ w.heap.size; omega) (fun i v hv => hb7.all i v (by simpa using hv)) (U8_one _) (by rw [U8_length, HUL.out]; omega)).mono ?_
        rintro e w8 ⟨rfl, hI8, hbel⟩
        have hf8 : Fr No w w8 := fr_below (hf.tr hF7) hbel (hf.tr hF7).size
        rw [← U8_append, ← HUS.out] at hI8
        have hrd8 : ∀ A xs, Rd wr (fun b => b < w.heap.size) 1 A (nj - m) xs → Rd w8 (fun b => b < w.heap.size) 1 A (nj - m) xs := fun A xs h => (h.fr0 hF7).keep (fun p hp u hu => by
          have hb := hbel.block p.block hp
          exact (World.cell?_of_block hb).trans hu)
        have HR8 := Lib.hid hrd8
        clear hI7 hbel hb7 hrd8 hF7
        by_cases hcb : cj = m
        · subst hcb
          have hc := HCUT.out
          rw [if_pos rfl] at hc
          have hx := HR8.out _ _ hc
          have hz : nj - cj = 0 := by omega
          rw [hz] at hx
          have HC := Lib.hid hx
          have HREM0 := HREM.out
          rw [hz] at HREM0
          have HRE := Lib.hid HREM0
          clear hc hx HREM0 hz
          go_wp2
          go_roundw
          case rel => exact ⟨j + 1, _, _, _, by have := HJL.out; omega, by go_num, rfl, HRE, by omega, by omega, by omega, HC.out, hI8, hf8⟩
          case measure => simp; omega
        · have hc := HCUT.out
          rw [if_neg hcb] at hc
          have HC := Lib.hid (HR8.out _ _ hc)
          clear hc
          go_wp2
          go_roundw
          case rel => exact ⟨j + 1, _, _, _, by have := HJL.out; omega, by go_num, rfl, HREM, by omega, by omega, by omega, HC.out, hI8, hf8⟩
          case measure => simp; omega
      · have hmn : m ≠ nj := by omega
        have HS : Hid (recSec life seq rec j = recPre life seq rec j ++ [0] ++ [UInt8.ofNat m] ++ recPart rec j ++ List.replicate (112 - m) 0) := Lib.hid (by unfold recSec; rw [if_neg (by omega), ← hm])
        have emn : ((m : Int) == (nj : Int)) = false := by rw [beq_eq_false_iff_ne]; omega
        clear hmn hla hn0 hmm hm hpl hjl
        go_upto_region 7 with (first
          | (refine wpList_allocA zero_secZ rfl rfl ?_)
          | (refine wpList_min (nj : Int) 112 (m : Int) HMI.out rfl rfl rfl rfl ?_)
          | fail)
        have hb1 := Blk.new wr tSec (U8 zsec).toArray
        have hF1 : Fr No wr (wr.alloc (.cells (U8 zsec).toArray tSec)) := (Fr.refl No wr).alloc _
        obtain ⟨gs, hgs⟩ : ∃ gs, gs = wr.heap.size := ⟨_, rfl⟩
        have hge : wr.heap.size ≤ gs := by omega
        have hgw : w.heap.size < gs := by have := hI.lt; omega
        try simp only [Act.put, List.setIfInBounds_toArray, List.set_cons_zero, List.set_cons_succ]
        rw [← hgs] at hb1 ⊢
        clear hgs
        generalize wr.alloc (.cells (U8 zsec).toArray tSec) = w1 at *
        go_wp2_with fail
        refine (put_calls _ gs 0 6 128 tSec _ life hb1 (by rw [List.size_toArray, U8_length, zsec_len]; decide) (by decide)).mono ?_
        rintro e w2 ⟨rfl, hb2, hf2⟩
        have e0 : (U8 zsec).toArray = (U8 ([] ++ List.replicate 128 0)).toArray := rfl
        rw [e0, splice_pre [] _ 128 122 0 rfl (by rw [putL_len])] at hb2
        have hF2 : Fr No wr w2 := hF1.trans hf2 (fun b hb e => by omega)
        clear hb1 hF1 hf2 e0
        go_wp2_with fail
        refine (put_calls _ gs 6 6 122 tSec _ seq hb2 (by rw [List.size_toArray, U8_length]; simp [putL_len]) (by decide)).mono ?_
        rintro e w3 ⟨rfl, hb3, hf3⟩
        rw [splice_pre _ _ 122 116 6 (by simp [putL_len]) (by rw [putL_len])] at hb3
        have hF3 : Fr No wr w3 := hF2.trans hf3 (fun b hb e => by omega)
        clear hb2 hF2 hf3
        go_wp2_with fail
        refine (put_calls _ gs 12 2 116 tSec _ (j : Int) hb3 (by rw [List.size_toArray, U8_length]; simp [putL_len]) (by decide)).mono ?_
        rintro e w4 ⟨rfl, hb4, hf4⟩
        rw [splice_pre _ _ 116 114 12 (by simp [putL_len]) (by rw [putL_len]), show [] ++ putL 6 life ++ putL 6 seq ++ putL 2 (j : Int) = recPre life seq rec j from rfl] at hb4
        have hF4 : Fr No wr w4 := hF3.trans hf4 (fun b hb e => by omega)
        clear hb3 hF3 hf4
        go_upto_region 12 with fail
        have hb5 : Blk w4 gs tSec (U8 (recPre life seq rec j ++ [0] ++ List.replicate 113 0)).toArray := by
          have e : recPre life seq rec j ++ List.replicate 114 0 = recPre life seq rec j ++ [0] ++ List.replicate 113 0 := by rw [List.replicate_succ]; simp
          rw [← e]; exact hb4
        have hF5 := hF4
        clear hb4 hF4
        generalize w4 = w5 at *
        have hp15 : (recPre life seq rec j ++ [0]).length = 15 := by rw [List.length_append, hpre]; rfl
        have hc15 := (hb5.cell 15).trans (Array.getElem?_eq_getElem (by rw [List.size_toArray, U8_length, List.length_append, hp15, List.length_replicate]; decide))
        have hz15 := hb5.frozen 15
        have hb6 := hb5.put 15 (.int .u8 (m : Int))
        have hset := set_pre (recPre life seq rec j ++ [0]) (UInt8.ofNat m) 112 15 hp15
        rw [show ((UInt8.ofNat m).toNat : Int) = (m : Int) by rw [UInt8.toNat_ofNat']; omega] at hset
        rw [hset] at hb6
        clear hset
        generalize (U8 (recPre life seq rec j ++ [0] ++ List.replicate 113 0)).toArray[15]'_ = old at hc15
        have hmod : (m : Int) % 256 = (m : Int) := by omega
        go_upto_region 13 with fail
        try rw [hmod]
        have hF6 : Fr No wr (w5.setCell ⟨gs, 15, none⟩ (.int .u8 (m : Int))) := hF5.trans ((Fr.refl (fun b => b = gs) w5).set (p := ⟨gs, 15, none⟩) (.inr rfl) _) (fun b hb e => by omega)
        clear hc15 hz15 hb5 hF5 hmod
        generalize w5.setCell ⟨gs, 15, none⟩ (.int .u8 (m : Int)) = w6 at *
        have hp16 : (recPre life seq rec j ++ [0] ++ [UInt8.ofNat m]).length = 16 := by rw [List.length_append, hp15]; rfl
        have hpt6 := hpt.fr0 hF6
        go_wp2_with fail
        (refine T_begin (fun b => b = gs) [0, 1, 2, 3, 4] [4] (by kernel_rfl) (by kernel_rfl) ?_; simp only [pickOps, List.filterMap_cons, List.filterMap_nil, List.getElem?_cons_zero, List.getElem?_cons_succ, Act.put])
        repeat (first | (refine T_skip (by rfl) (by rfl) (fun _ _ _ h => h) ?_; try simp only [Act.put, List.setIfInBounds_toArray, List.set_cons_zero, List.set_cons_succ]) | (refine T_pass (by rfl) (by rfl) ?_; try simp only [Act.put, List.setIfInBounds_toArray, List.set_cons_zero, List.set_cons_succ]) | (refine T_load (by assumption) (by rfl) (by rfl) (fun _ _ _ _ h => h) rfl rfl (by assumption) (by first | exact (fun hn => hn) | assumption) ?_; try simp only [Act.put, List.setIfInBounds_toArray, List.set_cons_zero, List.set_cons_succ]) | (refine T_nil (by rfl) (by rfl) (fun _ _ _ _ h => h) rfl rfl ?_; try simp only [Act.put, List.setIfInBounds_toArray, List.set_cons_zero, List.set_cons_succ]) | (refine T_quietN (by rfl) (by rfl) (by rfl) (by rfl) (fun _ _ _ _ h => h) (fun K hK => ?_); go_big_quiet_op; refine hK _ ?_; clear hK K) | (refine T_two (by rfl) (by rfl) (by rfl) (by rfl) (fun _ _ _ _ h => h) (fun K hK => ?_); go_big_quiet_op; refine ⟨_, fun _ _ => rfl, ?_⟩; refine hK _ ?_; clear hK K; try simp only [Act.put, List.setIfInBounds_toArray, List.set_cons_zero, List.set_cons_succ]) | fail)
        refine T_call (by rfl) (by rfl) (fun K hK => ?_)
        refine wp_copyA so_u8 rfl hb6.drew hpt6.drew (U8_one _) rfl rfl (by rw [List.size_toArray, U8_length, List.length_append, hp16, List.length_replicate]; omega) ?_
        intro w7 hb7 hg7 hz7
        rw [show min m 112 * 1 = m by omega, List.take_of_length_le (by rw [U8_length, ← HM.out]; exact Nat.le_refl _), splice_pre _ _ 112 (112 - m) 16 hp16 (by rw [← HM.out]; omega), ← HS.out] at hb7
        (refine hK.out _ _ ((Fr.refl _ _).grown hg7 (fun q hq => by injection hq with hq; exact .inr hq.symm)) ?_; clear hK K; try simp only [Act.put, List.setIfInBounds_toArray, List.set_cons_zero, List.set_cons_succ])
        repeat (first | (refine T_skip (by rfl) (by rfl) (fun _ _ _ h => h) ?_; try simp only [Act.put, List.setIfInBounds_toArray, List.set_cons_zero, List.set_cons_succ]) | (refine T_pass (by rfl) (by rfl) ?_; try simp only [Act.put, List.setIfInBounds_toArray, List.set_cons_zero, List.set_cons_succ]) | (refine T_load (by assumption) (by rfl) (by rfl) (fun _ _ _ _ h => h) rfl rfl (by assumption) (by first | exact (fun hn => hn) | assumption) ?_; try simp only [Act.put, List.setIfInBounds_toArray, List.set_cons_zero, List.set_cons_succ]) | (refine T_nil (by rfl) (by rfl) (fun _ _ _ _ h => h) rfl rfl ?_; try simp only [Act.put, List.setIfInBounds_toArray, List.set_cons_zero, List.set_cons_succ]) | (refine T_quietN (by rfl) (by rfl) (by rfl) (by rfl) (fun _ _ _ _ h => h) (fun K hK => ?_); go_big_quiet_op; refine hK _ ?_; clear hK K) | (refine T_two (by rfl) (by rfl) (by rfl) (by rfl) (fun _ _ _ _ h => h) (fun K hK => ?_); go_big_quiet_op; refine ⟨_, fun _ _ => rfl, ?_⟩; refine hK _ ?_; clear hK K; try simp only [Act.put, List.setIfInBounds_toArray, List.set_cons_zero, List.set_cons_succ]) | fail)
        refine T_done ?_
        have hF7 : Fr No wr w7 := (hF6.drew).grown hg7 (fun q hq => by injection hq with hq; exact .inl (by omega))
        have hI7 := isbuf_fr0 hI hF7
        have hlen := recSec_len life seq rec j
        clear hb6 hF6 hg7
        go_wp2_with fail
        refine (bufwrite_any _ _ _ (U8 (recSec life seq rec j)) ⟨gs, 0, none⟩ 128 128 _ hI7 (hf.tr hF7).size (U8_one _) (by rw [U8_length]; exact hlen) (by show gs ≠ w.heap.size; omega) (fun i v hv => hb7.all i v (by simpa using hv)) (U8_one _) (by rw [U8_length, HUL.out]; omega)).mono ?_
        rintro e w8 ⟨rfl, hI8, hbel⟩
        have hf8 : Fr No w w8 := fr_below (hf.tr hF7) hbel (hf.tr hF7).size
        rw [← U8_append, ← HUS.out] at hI8
        have hrd8 : ∀ A xs, Rd wr (fun b => b < w.heap.size) 1 A (nj - m) xs → Rd w8 (fun b => b < w.heap.size) 1 A (nj - m) xs := fun A xs h => (h.fr0 hF7).keep (fun p hp u hu => by
          have hb := hbel.block p.block hp
          exact (World.cell?_of_block hb).trans hu)
        have HR8 := Lib.hid hrd8
        clear hI7 hbel hb7 hrd8 hF7
        by_cases hcb : cj = m
        · subst hcb
          have hc := HCUT.out
          rw [if_pos rfl] at hc
          have hx := HR8.out _ _ hc
          have hz : nj - cj = 0 := by omega
          rw [hz] at hx
          have HC := Lib.hid hx
          have HREM0 := HREM.out
          rw [hz] at HREM0
          have HRE := Lib.hid HREM0
          clear hc hx HREM0 hz
          go_wp2
          go_roundw
          case rel => exact ⟨j + 1, _, _, _, by have := HJL.out; omega, by go_num, rfl, HRE, by omega, by omega, by omega, HC.out, hI8, hf8⟩
          case measure => simp; omega
        · have hc := HCUT.out
          rw [if_neg hcb] at hc
          have HC := Lib.hid (HR8.out _ _ hc)
          clear hc
          go_wp2
          go_roundw
          case rel => exact ⟨j + 1, _, _, _, by have := HJL.out; omega, by go_num, rfl, HREM, by omega, by omega, by omega, HC.out, hI8, hf8⟩
          case measure => simp; omega
    · obtain rfl : nj = 0 := by omega
      have hje : j = recN rec.length := by unfold recN at *; omega
      have en : decide ((0 : Int) < ((0 : Nat) : Int)) = false := by simp
      have hIe := hI
      rw [hje] at hIe
      clear hje hn0 hj6
      go_wp2_with fail
      refine (bufbytes_calls _ _ _ _ hIe).mono ?_
      rintro e w9 ⟨v, rfl, hown, n9, rfl⟩
      rw [U8_length, recUp_len] at hown
      go_wp2
      go_ret
      exact ⟨_, rfl, hown, hf.drewN n9⟩
end Go.Proofs.YtannkgglgmbkdaaDoor
