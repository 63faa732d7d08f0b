/- law04's some, lent: lists of records of the call's own. No condition but size. ring: Append on a device that fails. No condition but size. the reference's Same at lists alike. No condition. ring: what play keeps from round to round; Append, Rewrite, Crash, Open of a log that stands. No condition but size. -/
import Derived.Test.YtannkgglgmbkdaaDoorJRRingAgainp7
import Derived.Test.YtannkgglgmbkdaaDoorJRRingAgainp6
import Derived.Test.YtannkgglgmbkdaaDoorJRRingAgainp5
namespace Go.Proofs.YtannkgglgmbkdaaDoor
set_option linter.unusedVariables false
set_option linter.unusedSimpArgs false
open Go.RowKit

theorem CapOk.nil : CapOk [] := fun i A n c h => by simp at h
theorem CapOk.snoc {cs : List Value} (h : CapOk cs) {A : Option Addr} {n c : Nat} (h1 : n ≤ c) (h2 : c ≤ maxLen) : CapOk (cs ++ [Value.slice A n c]) := fun i A' n' c' hi => by
  rcases Nat.lt_or_ge i cs.length with hlt | hge
  · rw [List.getElem?_append_left hlt] at hi
    exact h i A' n' c' hi
  · rw [List.getElem?_append_right hge] at hi
    rcases hn : i - cs.length with _ | m
    · rw [hn] at hi
      simp at hi
      obtain ⟨_, rfl, rfl⟩ := hi
      exact ⟨h1, h2⟩
    · rw [hn] at hi; simp at hi
/-- A list of records of the call's own. -/
structure LstR (w0 : World) (v : Value) (recs : List (List UInt8)) (cs : List Value) (w' : World) : Prop where
  own : w'.ownsRow w0.heap.size 40 1 v recs.length cs
  cells : RecCells w' (fun b => (w0.heap.size ≤ b ∧ b < w'.heap.size) ∧ v.ownBlock ≠ some b) recs cs
  cap : CapOk cs
  fr : Fr No w0 w'
theorem LstR.nil (w : World) : LstR w (.slice none 0 0) [] [] w := ⟨World.ownsRow_nil _ _ _ _, ⟨rfl, fun i l hi => by simp at hi⟩, CapOk.nil, Fr.refl _ _⟩
/-- A record more, behind an append of its slice. -/
theorem LstR.snoc {w0 wr w4 : World} {A Av : Option Addr} {c cv : Nat} {recs : List (List UInt8)} {cs : List Value} (h : LstR w0 (.slice A recs.length c) recs cs wr) {w3 : World} (hf3 : Fr No wr w3) {l : List UInt8} (hv : RdB w3 (fun b => wr.heap.size ≤ b ∧ b < w3.heap.size) Av l) (hc : l.length ≤ cv) (hcm : cv ≤ maxLen)
    {v4 : Value} (hown4 : w4.ownsRow w0.heap.size 40 1 v4 (recs.length + 1) (cs ++ [Value.slice Av l.length cv])) {cell : _} (hg4 : (w3.alloc cell).grownBy w4 (Value.slice A recs.length c).ownBlock) (hat4 : v4.ownBlock = (Value.slice A recs.length c).ownBlock ∨ v4.ownBlock = some (w3.alloc cell).heap.size) : LstR w0 v4 (recs ++ [l]) (cs ++ [Value.slice Av l.length cv]) w4 := by
  obtain ⟨h1, h2, h3, h4⟩ := h
  have hlt := fun b hb => h1.lt b hb
  have hfT : Fr (fun b => (Value.slice A recs.length c).ownBlock = some b) w3 w4 := ((Fr.refl _ w3).alloc _).grown hg4 (fun q hq => .inr hq)
  have hz3 := hf3.size
  have hz0 := h4.size
  have hRC3 : RecCells w3 (fun b => (w0.heap.size ≤ b ∧ b < w3.heap.size) ∧ (Value.slice A recs.length c).ownBlock ≠ some b) recs cs := (h2.fr hf3 (fun _ _ hn => hn)).mono (fun b hb hx => ⟨⟨hx.1.1, hb⟩, hx.2⟩)
  have hv2 : RdB w3 (fun b => (w0.heap.size ≤ b ∧ b < w3.heap.size) ∧ (Value.slice A recs.length c).ownBlock ≠ some b) Av l := Rd.mono hv (fun b hb hx => ⟨⟨by omega, hb⟩, fun e => by have := (hlt b e).2; omega⟩) (by decide)
  have hRC4 := (hRC3.snoc hv2 (c := cv)).fr hfT (fun b hb hT => hb.2 hT)
  refine ⟨by rw [List.length_append]; exact hown4, hRC4.mono (fun b hb hx => ⟨⟨hx.1.1, hb⟩, fun e => ?_⟩), h3.snoc hc hcm, (h4.tr hf3).trans hfT (fun b hb hT => by have := (hlt b hT).1; omega)⟩
  rcases hat4 with h | h
  · rw [h] at e; exact hx.2 e
  · rw [h] at e
    injection e with e
    have h1 := hx.1.2
    simp at e
    omega
def a5 : List UInt8 := List.replicate 8 165
/-- Bytes that were lent: a block of their own, with room behind. -/
def LentAt (w : World) (g : Nat) (l : List UInt8) : Prop := Blk w g 5 (U8 (l ++ a5)).toArray

theorem lent_calls (S : Nat → Prop) (A : Option Addr) (c : Nat) (l : List UInt8) (w : World) (h : RdB w S A l) :
    Calls Tryd.prog 51 #[.slice A l.length c] w fun e w' => ∃ g, e = .returned (.slice (some ⟨g, 0, none⟩) l.length (l.length + 8)) ∧ w.heap.size ≤ g ∧ LentAt w' g l ∧ Fr No w w' := by
  have hle := h.le
  go_enter Tryd.func51, Tryd.ntmps51
  go_wp2_with (first
    | (refine wpList_make so_u8 (n := 0) (c := l.length + 8) (by omega) (by omega) rfl rfl rfl rfl ?_)
    | (at_builtin; refine wpList_app_room so_u8 (Blk.new _ _ _) (Rd.alloc h _) (U8_one _) (by omega) (by simp [size_madeCells]) rfl rfl rfl rfl ?_; intro w1 hb1 hg1 hz1)
    | (at_builtin; refine wpList_app_room so_u8 (hb1.alloc _) (Blk.rd (Blk.new _ _ _) (n := 8) (size := 1) rfl (by omega)) (U8_one a5) (by omega) (by simp [splice_size, size_madeCells, U8_length]) rfl rfl rfl rfl ?_; intro w2 hb2 hg2 hz2))
  go_ret
  have hf1 : Fr No w w1 := ((Fr.refl No w).alloc _).grown hg1 (by rintro k hk; injection hk with hk; subst hk; exact .inl (Nat.le_refl _))
  have hf2 : Fr No w w2 := (hf1.alloc _).grown hg2 (by rintro k hk; injection hk with hk; subst hk; exact .inl (Nat.le_refl _))
  refine ⟨w.heap.size, rfl, Nat.le_refl _, ?_, hf2⟩
  have e := splice_made #[Value.int IntKind.u8 0] (U8 l) (U8 a5) (l.length + 8) (by simp [U8_length]; rfl)
  rw [U8_length] at e
  unfold LentAt
  rw [U8_append, ← e]
  simp only [Nat.zero_mul, Nat.mul_one] at hb2
  exact hb2

theorem LentAt.rd {w : World} {g : Nat} {l : List UInt8} (h : LentAt w g l) (hl : l.length ≤ 211106232532992) : RdB w (fun b => b = g) (some ⟨g, 0, none⟩) l := by
  refine ⟨by simp [U8_length], hl, fun _ => ⟨_, rfl, rfl, fun j u hu => ?_⟩⟩
  rw [add_plain, Blk.cell h]
  have hj : j < (U8 l).length := (List.getElem?_eq_some_iff.1 hu).1
  simpa [U8_append, List.getElem?_append_left hj] using hu
/-- The records that some makes. -/
def someL (k n : Nat) (c : UInt8) : List (List UInt8) := (List.range k).map (fun i => List.replicate (n + 40 * i) c)
theorem someL_len (k n : Nat) (c : UInt8) : (someL k n c).length = k := by simp [someL]
theorem someL_step (k n : Nat) (c : UInt8) : someL (k + 1) n c = someL k n c ++ [List.replicate (n + 40 * k) c] := by
  unfold someL
  rw [List.range_succ, List.map_append]; rfl
theorem someL_in {k n : Nat} {c : UInt8} (h1 : 1 ≤ n) (h2 : n ≤ 1000) (hk : k ≤ 100) : ∀ r ∈ someL k n c, 1 ≤ r.length ∧ r.length ≤ 60000 := fun r hr => by
  unfold someL at hr
  obtain ⟨i, hi, rfl⟩ := List.mem_map.1 hr
  have := List.mem_range.1 hi
  rw [List.length_replicate]
  omega
set_option maxHeartbeats 2000000 in
set_option maxRecDepth 100000 in
theorem some_calls (k n : Nat) (c : UInt8) (w : World) (hk : k ≤ 100) (hn : n ≤ 1000) :
    Calls Tryd.prog 41 #[.int .i64 (k : Int), .int .i64 (n : Int), .int .u8 (c.toNat : Int)] w fun e w' => ∃ v cs, e = .returned v ∧ LstR w v (someL k n c) cs w' := by
  go_enter Tryd.func41, Tryd.ntmps41
  go_wp2_with fail
  go_loopw [7, 8] (fun s7 s8 wr => ∃ (i : Nat) (v : Value) (cs : List Value), i ≤ k ∧ s7 = v ∧ s8 = .int .i64 (i : Int) ∧ LstR w v (someL i n c) cs wr) (fun _ s8 _ => k - (intOf s8).toNat)
  case atStart => exact ⟨0, _, [], by omega, rfl, rfl, LstR.nil w⟩
  case round =>
    obtain ⟨i, v, cs, hi, rfl, rfl, hL⟩ := hrel
    obtain ⟨A, cp, hv, hc1, hc2, _⟩ := own_form hL.own
    subst hv
    by_cases hlt : i < k
    · have e1 : decide ((i : Int) < (k : Int)) = true := by simp; omega
      have hown := hL.own
      have hil : (someL i n c).length = i := someL_len i n c
      have hst := someL_step i n c
      obtain ⟨recs, hrecs⟩ : ∃ recs, recs = someL i n c := ⟨_, rfl⟩
      rw [← hrecs] at hL hown hil hst ⊢
      have HST := Lib.hid hst
      have HIL := Lib.hid hil
      have HL := Lib.hid hL
      obtain ⟨m, hm⟩ : ∃ m, m = n + 40 * i := ⟨_, rfl⟩
      have HM := Lib.hid (show (n : Int) + 40 * (i : Int) = (m : Int) by omega)
      have HM2 := Lib.hid hm
      have hm2 : m ≤ 5000 := by omega
      have hwr : w.heap.size ≤ wr.heap.size := hL.fr.size
      clear hrecs hst hm hL
      go_wp2_with fail
      try rw [HM.out]
      refine (text_calls m c _ (by omega)).mono ?_
      rintro e w3 ⟨rfl, hb3, hf3⟩
      have hz3 := hf3.size
      have hlt3 := hb3.lt
      have hfa : ∀ cell, Fr No wr (w3.alloc cell) := fun cell => hf3.alloc _
      have hrl : recs.length ≤ 100 := by rw [hil]; omega
      clear hil
      go_upto_region 4 with (first
        | (at_builtin; refine wpList_app_at so_lb (own_fr0 hown (hfa _)) ((Blk.new w3 40 #[.slice (some ⟨wr.heap.size, 0, none⟩) m m]).rd (size := 1) (n := 1) (by rfl) (by decide)) (by intro u hu; simp at hu; subst hu; rfl) (by omega) (by simp; omega) rfl rfl rfl rfl ?_; intro v4 w4 hown4 hg4 hat4)
        | fail)
      have hml : (List.replicate m c).length = m := List.length_replicate
      have hv3 : RdB w3 (fun b => wr.heap.size ≤ b ∧ b < w3.heap.size) (some ⟨wr.heap.size, 0, none⟩) (List.replicate m c) := by
        have h1 := hb3.rd (size := 1) (n := m) (by simp [U8_length]) (by omega)
        have h2 := h1.mono (T := fun b => wr.heap.size ≤ b ∧ b < w3.heap.size) (fun b hb hx => ⟨by omega, hb⟩) (by decide)
        unfold RdB
        rw [hml]
        exact h2
      have hL4 := HL.out.snoc hf3 hv3 (show (List.replicate m c).length ≤ m by omega) (by have : maxLen = 9223372036854775807 := rfl; omega) (by rw [hml]; exact hown4) hg4 hat4
      rw [hml, HM2.out, ← HST.out] at hL4
      have HL4 := Lib.hid hL4
      clear hL4 hown4 hg4 hat4 hv3 hb3 hf3 hown HL hml hlt3
      rw [HM2.out]
      go_wp2_with fail
      go_roundw
      case rel => exact ⟨i + 1, v4, _, by omega, rfl, by go_num, HL4.out⟩
      case measure => simp [intOf]; omega
    · obtain rfl : i = k := by omega
      have e1 : decide ((i : Int) < (i : Int)) = false := by simp
      go_wp2_with fail
      go_ret
      exact ⟨_, cs, rfl, hL⟩
set_option maxHeartbeats 2000000 in
set_option maxRecDepth 100000 in
theorem lents_calls (S : Nat → Prop) (A : Option Addr) (c : Nat) (recs : List (List UInt8)) (ds : List Value) (w : World) (hA : Rd w S 1 A recs.length ds) (hds : RecCells w (fun _ => True) recs ds) (hr : ∀ r ∈ recs, r.length ≤ 60000) (hl : recs.length ≤ 1000) :
    Calls Tryd.prog 42 #[.slice A recs.length c] w fun e w' => ∃ v cs, e = .returned v ∧ LstR w v recs cs w' := by
  have g3 : ∀ w, (isAgg 40).run Tryd.prog w = .ok false w := plain_of Tryd.underlying40 rfl
  obtain ⟨n, hn⟩ : ∃ n, n = recs.length := ⟨_, rfl⟩
  have HN := Lib.hid hn
  have HR := Lib.hid hr
  rw [← hn] at hA hl ⊢
  clear hn hr
  go_enter Tryd.func42, Tryd.ntmps42
  go_wp2_with fail
  go_loopw [3, 4] (fun s3 s4 wr => ∃ (i : Nat) (v : Value) (cs : List Value), i ≤ n ∧ s3 = v ∧ s4 = .int .i64 (i : Int) ∧ LstR w v (recs.take i) cs wr) (fun _ s4 _ => n - (intOf s4).toNat)
  case atStart => exact ⟨0, _, [], by omega, rfl, rfl, LstR.nil w⟩
  case round =>
    obtain ⟨i, v, cs, hi, rfl, rfl, hL⟩ := hrel
    obtain ⟨A5, cp, hv, hc1, hc2, _⟩ := own_form hL.own
    subst hv
    by_cases hlt : i < n
    · have e1 : decide ((i : Int) < (n : Int)) = true := by simp; omega
      obtain ⟨ad, u, hAe, _, hu, hc⟩ := hA.at_ hlt
      subst hAe
      have hkr : i < recs.length := by rw [← HN.out]; exact hlt
      obtain ⟨Aa, ca, h1, hra⟩ := hds.2 i _ (List.getElem?_eq_getElem hkr)
      rw [hu] at h1
      injection h1 with h1
      subst h1
      have hst : recs.take (i + 1) = recs.take i ++ [recs[i]] := (List.take_append_getElem hkr).symm
      have hrk := HR.out _ (List.getElem_mem hkr)
      have hown := hL.own
      have hil : (recs.take i).length = i := by rw [List.length_take]; omega
      obtain ⟨rs, hrs⟩ : ∃ rs, rs = recs.take i := ⟨_, rfl⟩
      rw [← hrs] at hL hown hil hst ⊢
      have hcr := hL.fr.cell_some hc (fun hn => hn)
      have hrw : RdB wr (fun _ => True) Aa recs[i] := Rd.fr0 hra hL.fr
      have HST := Lib.hid hst
      have HL := Lib.hid hL
      have hwr : w.heap.size ≤ wr.heap.size := hL.fr.size
      clear hrs hst hL hra hu hc
      generalize recs[i] = r at *
      have hrl : rs.length ≤ 1000 := by rw [hil]; omega
      clear hil
      go_wp2_with fail
      refine (lent_calls _ _ _ _ _ hrw).mono ?_
      rintro e w3 ⟨g, rfl, hg, hb3, hf3⟩
      have hz3 := hf3.size
      have hlt3 : g < w3.heap.size := Blk.lt hb3
      have hfa : ∀ cell, Fr No wr (w3.alloc cell) := fun cell => hf3.alloc _
      go_upto_region 4 with (first
        | (at_builtin; refine wpList_app_at so_lb (own_fr0 hown (hfa _)) ((Blk.new w3 40 #[.slice (some ⟨g, 0, none⟩) r.length (r.length + 8)]).rd (size := 1) (n := 1) (by rfl) (by decide)) (by intro u hu; simp at hu; subst hu; rfl) (by omega) (by simp; omega) rfl rfl rfl rfl ?_; intro v4 w4 hown4 hg4 hat4)
        | fail)
      have hL4 := HL.out.snoc hf3 ((hb3.rd (by omega)).mono (T := fun b => wr.heap.size ≤ b ∧ b < w3.heap.size) (fun b hb hx => ⟨by omega, hb⟩) (by decide)) (show r.length ≤ r.length + 8 by omega) (by have : maxLen = 9223372036854775807 := rfl; omega) hown4 hg4 hat4
      rw [← HST.out] at hL4
      have HL4 := Lib.hid hL4
      clear hL4 hown4 hg4 hat4 hb3 hf3 hown HL hrw hcr hlt3
      go_wp2_with fail
      go_roundw
      case rel => exact ⟨i + 1, v4, cs ++ [.slice (some ⟨g, 0, none⟩) r.length (r.length + 8)], by omega, rfl, by go_num, HL4.out⟩
      case measure => simp [intOf]; omega
    · obtain rfl : i = n := by omega
      have e1 : decide ((i : Int) < (i : Int)) = false := by simp
      have ht : recs.take i = recs := by rw [HN.out, List.take_length]
      have hln : (recs.take i).length = i := by rw [ht]; exact HN.out.symm
      rw [hln]
      rw [ht, ← HN.out] at hL
      go_wp2_with fail
      go_ret
      exact ⟨_, cs, rfl, hL⟩
end Go.Proofs.YtannkgglgmbkdaaDoor
namespace Go.Proofs.YtannkgglgmbkdaaDoor
set_option linter.unusedVariables false
set_option linter.unusedSimpArgs false
open Go.RowKit

set_option maxHeartbeats 8000000 in
set_option maxRecDepth 100000 in
theorem append_dead (w : World) (X : Nat → Prop) (L H : Nat) (l : LogM) (d d' : DiskM) (A : Option Addr) (c : Nat) (rec : List UInt8) (half : Nat) (hlg : LogAt w L H l) (hbad : l.bad = false) (hL : ¬ X L) (hd : DiskAt w X H d) (h4 : 4 ≤ d.now.length)
    (hhalf : l.h.half = (half : Int)) (hh1 : half ≤ 1) (hr : RdB w (fun _ => True) A rec) (hr1 : 1 ≤ rec.length) (hr2 : rec.length ≤ 60000) (hc : rec.length ≤ c) (hcm : c ≤ maxLen) (hroom : l.at_ + recN rec.length ≤ halfN d.now.length)
    (hseq : 1 ≤ l.seq ∧ l.seq < 1099511627776) (hway : d.way.length ≤ 50000) (hleft : d.left ≤ 1000000) (hs : safelyM d (2 + half * halfN d.now.length + l.at_) (recB l.h.life l.seq rec) = (d', false)) :
    Calls Tryd.prog 18 #[.pointer (some ⟨L, 0, none⟩), .slice A rec.length c] w fun e w' => e = .returned (.int .i64 14) ∧ LogAt w' L H { l with bad := true } ∧
      DiskAt w' (fun b => (X b ∧ b < w.heap.size) ∨ w.heap.size ≤ b) H d' ∧ Fr (fun b => X b ∨ b = L) w w' := by
  have g1 : ∀ w, (isAgg 2).run Tryd.prog w = .ok false w := plain_of Tryd.underlying2 rfl
  have g2 := plain_int
  have g4 := plain_pdisk
  have g5 := plain_bool
  have hmax : d.now.length ≤ 4096 := by obtain ⟨gs, cs, gn, cn, A, c, hP⟩ := hd; exact hP.2.2.2.2.2.2.2.2.1
  have hhn : halfN d.now.length ≤ 2047 := by unfold halfN; omega
  have hat2 : l.at_ ≤ 2047 := by omega
  have hrn1 : 1 ≤ recN rec.length := by unfold recN; omega
  have hX1 : DiskAt w (fun b => X b ∧ b < w.heap.size) H d := hd.mono (fun b hb hx => ⟨hx, hb⟩)
  have hst : ∀ w', Fr No w w' → Calls Tryd.prog 34 #[.pointer (some ⟨H, 0, none⟩), .int .i64 (half : Int)] w' fun e w'' => e = .returned (.int .i64 (2 + half * halfN d.now.length : Nat)) ∧ w'' = w' := fun w' hf => start_calls w' X H d half (hd.fr0 hf) (by omega) hmax hh1
  have hsec : ∀ w', Calls Tryd.prog 9 #[.int .i64 (rec.length : Int)] w' fun e w'' => e = .returned (.int .i64 (recN rec.length : Int)) ∧ w'' = w' := fun w' => by
    have := sectors_calls (rec.length : Int) w'
    rw [sectorsM_recN hr1 hr2] at this
    exact this
  have hrm := room_calls w X L H l d hlg hd h4 (by omega)
  have hrecs : ∀ w', Fr No w w' → Calls Tryd.prog 38 #[.int .i64 l.h.life, .int .i64 l.seq, .slice A rec.length c] w' fun e w'' => ∃ v, e = .returned v ∧ w''.ownsRow w'.heap.size 5 1 v (recN rec.length * 128) (U8 (recB l.h.life l.seq rec).flatten) ∧ Fr No w' w'' := fun w' hf => by
    exact recs_calls w' _ _ A c rec ((Rd.fr0 hr hf).mono (fun b hb _ => hb) (by decide)) hr2 hc hcm
  obtain ⟨PL, hPL⟩ : ∃ PL, PL = 2 + half * halfN d.now.length := ⟨_, rfl⟩
  have hh2 : half * halfN d.now.length ≤ 1 * halfN d.now.length := Nat.mul_le_mul_right _ hh1
  have hfit : PL + l.at_ + recN rec.length ≤ d.now.length := by
    unfold halfN at *
    rw [hPL]
    rcases Nat.lt_or_ge half 1 with h | h
    · obtain rfl : half = 0 := by omega
      omega
    · obtain rfl : half = 1 := by omega
      omega
  rw [← hPL] at hst hs
  have hPL2 : PL ≤ 4096 := by omega
  have hsafe : ∀ w' A' c', DiskAt w' (fun b => X b ∧ b < w.heap.size) H d → Rd w' (fun b => ¬ (X b ∧ b < w.heap.size)) 1 A' (recN rec.length * 128) (U8 (recB l.h.life l.seq rec).flatten) → recN rec.length * 128 ≤ c' → c' ≤ maxLen →
      Calls Tryd.prog 30 #[.pointer (some ⟨H, 0, none⟩), .int .i64 ((PL + l.at_ : Nat) : Int), .slice A' (recN rec.length * 128) c'] w' fun e w'' => e = .returned (.int .i64 14) ∧ Left w' (fun b => X b ∧ b < w.heap.size) (Wid (fun b => X b ∧ b < w.heap.size) w') H d' w'' := fun w' A' c' hd' hr' hc' hcm' => by
    have hbl := recB_len l.h.life l.seq rec
    have := safely_calls w' _ H d (PL + l.at_) (recB l.h.life l.seq rec) A' c' hd' (by rw [hbl]; exact hr') (recB_128 _ _ _) (by rw [hbl]; exact hc') hcm' (by rw [hbl]; exact hrn1) (by rw [hbl]; omega) hway hleft
    rw [hbl, hs] at this
    exact this
  have HAT := Lib.hid (show (PL : Int) + (l.at_ : Int) = ((PL + l.at_ : Nat) : Int) by omega)
  have hroom2 : recN rec.length ≤ halfN d.now.length - l.at_ := by omega
  have hb := hlg.lit
  have hbl2 : (U8 (recB l.h.life l.seq rec).flatten).length = recN rec.length * 128 := by rw [U8_length, flat_len (recB_128 _ _ _), recB_len]
  have HPL := Lib.hid hPL
  clear hPL hh2 hs hr
  generalize recN rec.length = rn at *
  generalize U8 (recB l.h.life l.seq rec).flatten = rv at *
  generalize halfN d.now.length - l.at_ = ro at *
  generalize halfN d.now.length = hn at *
  obtain ⟨⟨life, hf_, first, since⟩, seq, at_, bad⟩ := l
  simp only at hbad hhalf hseq hlg hb hrm hrecs hsafe HAT hfit hroom hat2 ⊢
  subst hbad hhalf
  obtain ⟨hs1, hs2⟩ := hseq
  have e0 : ((rn : Int) == 0) = false := by rw [beq_eq_false_iff_ne]; omega
  have e1 : decide ((ro : Int) < (rn : Int)) = false := by simp; omega
  have e2 : (seq == 1099511627776) = false := by rw [beq_eq_false_iff_ne]; omega
  have hLw := hb.lt
  (have y0 := hb.cell 0; have y1 := hb.cell 1; have y2 := hb.cell 2; have y3 := hb.cell 3; have y4 := hb.cell 4; have y5 := hb.cell 5; have y6 := hb.cell 6; have y7 := hb.cell 7; have yf0 := hb.frozen 0; have yf1 := hb.frozen 1; have yf2 := hb.frozen 2; have yf3 := hb.frozen 3; have yf4 := hb.frozen 4; have yf5 := hb.frozen 5; have yf6 := hb.frozen 6; have yf7 := hb.frozen 7; simp only [List.getElem?_toArray, List.getElem?_cons_zero, List.getElem?_cons_succ] at y0 y1 y2 y3 y4 y5 y6 y7)
  go_enter Tryd.func18, Tryd.ntmps18
  go_wp2_with fail
  refine (hsec _).mono ?_
  rintro e w1 ⟨rfl, hw1⟩
  replace hw1 := hw1.symm
  subst hw1
  go_wp2_with fail
  refine (hsec _).mono ?_
  rintro e w1 ⟨rfl, hw1⟩
  replace hw1 := hw1.symm
  subst hw1
  go_wp2_with fail
  refine hrm.mono ?_
  rintro e w1 ⟨rfl, hf1⟩
  have hb1 := hb.fr0 hf1
  clear y0 y1 y2 y3 y4 y5 y6 y7 yf0 yf1 yf2 yf3 yf4 yf5 yf6 yf7
  (have y0 := hb1.cell 0; have y1 := hb1.cell 1; have y2 := hb1.cell 2; have y3 := hb1.cell 3; have y4 := hb1.cell 4; have y5 := hb1.cell 5; have y6 := hb1.cell 6; have y7 := hb1.cell 7; have yf0 := hb1.frozen 0; have yf1 := hb1.frozen 1; have yf2 := hb1.frozen 2; have yf3 := hb1.frozen 3; have yf4 := hb1.frozen 4; have yf5 := hb1.frozen 5; have yf6 := hb1.frozen 6; have yf7 := hb1.frozen 7; simp only [List.getElem?_toArray, List.getElem?_cons_zero, List.getElem?_cons_succ] at y0 y1 y2 y3 y4 y5 y6 y7)
  go_wp2_with fail
  have hz1 := hf1.size
  have hns : ¬ ((X L ∧ L < w.heap.size) ∨ w1.heap.size ≤ L) := fun h => h.elim (fun h => hL h.1) (fun h => by omega)
  (refine T_begin (fun b => (X b ∧ b < w.heap.size) ∨ w1.heap.size ≤ b) [0, 1, 2, 3, 4, 5, 6, 7, 8, 9, 10, 11, 12, 14, 15, 16, 17, 19, 20, 21, 22, 23, 24, 25, 26, 27, 28, 13, 18, 29, 30, 31] [13, 29, 30] (by kernel_rfl) (by kernel_rfl) ?_; simp only [pickOps, List.filterMap_cons, List.filterMap_nil, List.getElem?_cons_zero, List.getElem?_cons_succ, Act.put])
  repeat (first | (refine T_skip (by rfl) (by rfl) (fun _ _ _ h => h) ?_; try simp only [Act.put, List.setIfInBounds_toArray, List.set_cons_zero, List.set_cons_succ]) | (refine T_pass (by rfl) (by rfl) ?_; try simp only [Act.put, List.setIfInBounds_toArray, List.set_cons_zero, List.set_cons_succ]) | (refine T_load (by assumption) (by rfl) (by rfl) (fun _ _ _ _ h => h) rfl rfl (by assumption) (by first | exact (fun hn => hn) | assumption) ?_; try simp only [Act.put, List.setIfInBounds_toArray, List.set_cons_zero, List.set_cons_succ]) | (refine T_nil (by rfl) (by rfl) (fun _ _ _ _ h => h) rfl rfl ?_; try simp only [Act.put, List.setIfInBounds_toArray, List.set_cons_zero, List.set_cons_succ]) | (refine T_quietN (by rfl) (by rfl) (by rfl) (by rfl) (fun _ _ _ _ h => h) (fun K hK => ?_); go_big_quiet_op; refine hK _ ?_; clear hK K) | (refine T_two (by rfl) (by rfl) (by rfl) (by rfl) (fun _ _ _ _ h => h) (fun K hK => ?_); go_big_quiet_op; refine ⟨_, fun _ _ => rfl, ?_⟩; refine hK _ ?_; clear hK K; try simp only [Act.put, List.setIfInBounds_toArray, List.set_cons_zero, List.set_cons_succ]) | fail)
  (refine T_call (by rfl) (by rfl) (fun K hK => ?_); go_wp2_with fail)
  refine (hst _ (hf1.drew)).mono ?_
  rintro e w2 ⟨rfl, hw2⟩
  replace hw2 := hw2.symm
  subst hw2
  go_wp2_with fail
  (refine hK.out _ _ ((Fr.refl _ _)) ?_; clear hK K; try simp only [Act.put, List.setIfInBounds_toArray, List.set_cons_zero, List.set_cons_succ])
  repeat (first | (refine T_skip (by rfl) (by rfl) (fun _ _ _ h => h) ?_; try simp only [Act.put, List.setIfInBounds_toArray, List.set_cons_zero, List.set_cons_succ]) | (refine T_pass (by rfl) (by rfl) ?_; try simp only [Act.put, List.setIfInBounds_toArray, List.set_cons_zero, List.set_cons_succ]) | (refine T_load (by assumption) (by rfl) (by rfl) (fun _ _ _ _ h => h) rfl rfl (by assumption) (by first | exact (fun hn => hn) | assumption) ?_; try simp only [Act.put, List.setIfInBounds_toArray, List.set_cons_zero, List.set_cons_succ]) | (refine T_nil (by rfl) (by rfl) (fun _ _ _ _ h => h) rfl rfl ?_; try simp only [Act.put, List.setIfInBounds_toArray, List.set_cons_zero, List.set_cons_succ]) | (refine T_quietN (by rfl) (by rfl) (by rfl) (by rfl) (fun _ _ _ _ h => h) (fun K hK => ?_); go_big_quiet_op; refine hK _ ?_; clear hK K) | (refine T_two (by rfl) (by rfl) (by rfl) (by rfl) (fun _ _ _ _ h => h) (fun K hK => ?_); go_big_quiet_op; refine ⟨_, fun _ _ => rfl, ?_⟩; refine hK _ ?_; clear hK K; try simp only [Act.put, List.setIfInBounds_toArray, List.set_cons_zero, List.set_cons_succ]) | fail)
  try rw [HAT.out]
  (refine T_call (by rfl) (by rfl) (fun K hK => ?_); go_wp2_with fail)
  refine (hrecs _ (hf1.drew)).mono ?_
  rintro e w3 ⟨v, rfl, hown3, hf3⟩
  obtain ⟨A3, c3, rfl, hc3, hc3m, hA3⟩ := own_form hown3
  go_wp2_with fail
  (refine hK.out _ _ ((hf3.mono (fun _ _ hn => hn.elim))) ?_; clear hK K; try simp only [Act.put, List.setIfInBounds_toArray, List.set_cons_zero, List.set_cons_succ])
  have hF3 := hf1.drew.tr hf3
  have hrn5 : rn * 128 ≤ 524288 := by omega
  have hrd3 : Rd w3 (fun b => ¬ (X b ∧ b < w.heap.size)) 1 A3 (rn * 128) rv := (own_rd hown3 (by omega)).mono (fun b hb hx hh => by
    have h1 := (hown3.lt b (by rcases A3 with _ | ad; cases hx; injection hx with hx; exact congrArg some hx)).1
    have h2 : w1.heap.size ≤ b := h1
    have := hh.2
    omega) (by decide)
  (refine T_call (by rfl) (by rfl) (fun K hK => ?_); go_wp2_with fail)
  refine (hsafe _ _ _ (hX1.fr0 hF3) hrd3 hc3 hc3m).mono ?_
  rintro e w4 ⟨rfl, hd4, hf4⟩
  go_wp2_with fail
  (refine hK.out _ _ ((hf4.mono (fun _ _ hb => .inl hb))) ?_; clear hK K; try simp only [Act.put, List.setIfInBounds_toArray, List.set_cons_zero, List.set_cons_succ])
  repeat (first | (refine T_skip (by rfl) (by rfl) (fun _ _ _ h => h) ?_; try simp only [Act.put, List.setIfInBounds_toArray, List.set_cons_zero, List.set_cons_succ]) | (refine T_pass (by rfl) (by rfl) ?_; try simp only [Act.put, List.setIfInBounds_toArray, List.set_cons_zero, List.set_cons_succ]) | (refine T_load (by assumption) (by rfl) (by rfl) (fun _ _ _ _ h => h) rfl rfl (by assumption) (by first | exact (fun hn => hn) | assumption) ?_; try simp only [Act.put, List.setIfInBounds_toArray, List.set_cons_zero, List.set_cons_succ]) | (refine T_nil (by rfl) (by rfl) (fun _ _ _ _ h => h) rfl rfl ?_; try simp only [Act.put, List.setIfInBounds_toArray, List.set_cons_zero, List.set_cons_succ]) | (refine T_quietN (by rfl) (by rfl) (by rfl) (by rfl) (fun _ _ _ _ h => h) (fun K hK => ?_); go_big_quiet_op; refine hK _ ?_; clear hK K) | (refine T_two (by rfl) (by rfl) (by rfl) (by rfl) (fun _ _ _ _ h => h) (fun K hK => ?_); go_big_quiet_op; refine ⟨_, fun _ _ => rfl, ?_⟩; refine hK _ ?_; clear hK K; try simp only [Act.put, List.setIfInBounds_toArray, List.set_cons_zero, List.set_cons_succ]) | fail)
  refine T_done ?_
  have hlg4 := (hb1.drew.fr0 hf3).fr hf4 (fun h => hL h.1)
  have hF4 : Fr X w w4 := (hF3.mono (T := X) (fun _ _ hn => hn.elim)).trans hf4 (fun b _ hb => hb.1)
  have hd5 : DiskAt w4 (fun b => (X b ∧ b < w.heap.size) ∨ w.heap.size ≤ b) H d' := hd4.mono (fun b _ hb => hb.elim .inl (fun h => .inr (Nat.le_trans hF3.size h)))
  clear y0 y1 y2 y3 y4 y5 y6 y7 yf0 yf1 yf2 yf3 yf4 yf5 yf6 yf7 hb1 hown3 hrd3 hf3 hf4 hd4 hsafe hrecs hst hrm hA3
  (have y0 := hlg4.cell 0; have y1 := hlg4.cell 1; have y2 := hlg4.cell 2; have y3 := hlg4.cell 3; have y4 := hlg4.cell 4; have y5 := hlg4.cell 5; have y6 := hlg4.cell 6; have y7 := hlg4.cell 7; have yf0 := hlg4.frozen 0; have yf1 := hlg4.frozen 1; have yf2 := hlg4.frozen 2; have yf3 := hlg4.frozen 3; have yf4 := hlg4.frozen 4; have yf5 := hlg4.frozen 5; have yf6 := hlg4.frozen 6; have yf7 := hlg4.frozen 7; simp only [List.getElem?_toArray, List.getElem?_cons_zero, List.getElem?_cons_succ] at y0 y1 y2 y3 y4 y5 y6 y7)
  go_wp2_with fail
  have hlg5 : Blk (w4.setCell ⟨L, 7, none⟩ (.bool true)) L 71 #[.pointer (some ⟨H, 0, none⟩), .int .i64 life, .int .i64 (half : Int), .int .i64 first, .int .i64 since, .int .i64 seq, .int .i64 (at_ : Int), .bool true] := hlg4.put 7 _
  have hfL : Fr (fun b => b = L) w4 (w4.setCell ⟨L, 7, none⟩ (.bool true)) := (Fr.refl (fun b => b = L) w4).set (p := ⟨L, 7, none⟩) (.inr rfl) _
  go_ret
  exact ⟨rfl, hlg5, hd5.fr hfL (fun b hX e => by rw [e] at hX; exact hX.elim (fun h => hL h.1) (fun h => by omega)), (hF4.mono (T := fun b => X b ∨ b = L) (fun b _ hb => .inl hb)).trans hfL (fun b _ hb => .inr hb)⟩
end Go.Proofs.YtannkgglgmbkdaaDoor
namespace Go.Proofs.YtannkgglgmbkdaaDoor
set_option linter.unusedVariables false
set_option linter.unusedSimpArgs false
open Go.RowKit

theorem T_neqStr {P : Program} {S : Nat → Prop} {ops : Array Oper} {Q : Exit → Go.Act → World → Prop} {ms : List Nat} {ord calls : List Nat} {k : Nat} {l : List Oper} {o : Oper} {a : Go.Act} {w : World} {s t : List UInt8} {b : Bool} (hst : b = decide (s ≠ t)) {ty : TypeId} {x y : Operand} {ty2 : TypeId}
    (hc : calls.contains (ord.getD k 0) = false) (hw : Region.wanted o (yielded ops a.tmps) = true) (hQ : ∀ v c a w, Q (.panic c) (a.put o.dst v) w → Q (.panic c) a w)
    (ho : o.op = .binOp .neq ty x y ty2) (hx : a.eval x = .string ⟨s.toArray⟩) (hy : a.eval y = .string ⟨t.toArray⟩)
    (h : wpT P S ops Q ms ord calls (k + 1) l (a.put o.dst (.bool b)) w) (hxm : calls.contains (ord.getD k 0 + 1000) = false := by rfl) : wpT P S ops Q ms ord calls k (o :: l) a w := by
  subst hst
  refine T_take hc hw (hQ _) (fun w' hf => ?_) h hxm
  unfold execOp
  by_cases he : s = t
  · subst he; simp [ho, hx, hy, eqGuard, binOp, Op.stringOp]
  · have hne : ¬ ((ByteArray.mk s.toArray) = (ByteArray.mk t.toArray)) := fun h2 => he (by injection h2 with h2; simpa using h2)
    simp [ho, hx, hy, eqGuard, binOp, Op.stringOp, he]
set_option maxRecDepth 100000 in
theorem rsame_calls (w : World) (S T : Nat → Prop) (A B : Option Addr) (c d : Nat) (recs : List (List UInt8)) (cs ds : List Value) (hA : Rd w S 1 A recs.length cs) (hB : Rd w T 1 B recs.length ds) (hcs : RecCells w (fun _ => True) recs cs) (hds : RecCells w (fun _ => True) recs ds) :
    Calls Tryd.prog 25 #[.slice A recs.length c, .slice B recs.length d] w fun e w' => e = .returned (.bool true) ∧ Fr No w w' := by
  have g3 : ∀ w, (isAgg 40).run Tryd.prog w = .ok false w := plain_of Tryd.underlying40 rfl
  obtain ⟨n, hn⟩ : ∃ n, n = recs.length := ⟨_, rfl⟩
  have HN := Lib.hid hn
  have hle := hA.2.1
  rw [← hn] at hA hB hle ⊢
  clear hn
  go_enter Tryd.func25, Tryd.ntmps25
  go_wp2_with fail
  go_loopw [5] (fun i wr => ∃ k : Nat, k ≤ n ∧ i = .int .i64 (k : Int) ∧ Fr No w wr) (fun i _ => n - (intOf i).toNat)
  case atStart => exact ⟨0, by omega, rfl, Fr.refl _ _⟩
  case round =>
    obtain ⟨k, hk, rfl, hf⟩ := hrel
    by_cases hlt : k < n
    · have ek : decide ((k : Int) < n) = true := by simpa using (by omega : (k : Int) < n)
      obtain ⟨a, u, hAe, _, hu, hc⟩ := hA.at_ hlt
      obtain ⟨b, v, hBe, _, hv, hd⟩ := hB.at_ hlt
      subst hAe hBe
      have hkr : k < recs.length := by rw [← HN.out]; exact hlt
      obtain ⟨Aa, ca, h1, hra⟩ := hcs.2 k _ (List.getElem?_eq_getElem hkr)
      obtain ⟨Ab, cb, h2, hrb⟩ := hds.2 k _ (List.getElem?_eq_getElem hkr)
      rw [hu] at h1
      rw [hv] at h2
      injection h1 with h1
      injection h2 with h2
      subst h1 h2
      generalize recs[k] = r at *
      have hcr := hf.cell_some hc (fun hn => hn)
      have hdr := hf.cell_some hd (fun hn => hn)
      have hrar : RdB wr.drew (fun _ => True) Aa r := (Rd.fr0 hra hf).drew
      have hrbr : RdB wr.drew (fun _ => True) Ab r := (Rd.fr0 hrb hf).drew
      clear hu hv hc hd hra hrb
      go_wp2_with fail
      (refine T_begin No [0, 1, 2, 3, 4, 5, 6, 7, 8, 9, 10] [] (by kernel_rfl) (by kernel_rfl) ?_; simp only [pickOps, List.filterMap_cons, List.filterMap_nil, List.getElem?_cons_zero, List.getElem?_cons_succ, Act.put])
      (first | (refine T_skip (by rfl) (by rfl) (fun _ _ _ h => h) ?_; try simp only [Act.put, List.setIfInBounds_toArray, List.set_cons_zero, List.set_cons_succ]) | (refine T_pass (by rfl) (by rfl) ?_; try simp only [Act.put, List.setIfInBounds_toArray, List.set_cons_zero, List.set_cons_succ]) | (refine T_load (by assumption) (by rfl) (by rfl) (fun _ _ _ _ h => h) rfl rfl (by assumption) (by first | exact (fun hn => hn) | assumption) ?_; try simp only [Act.put, List.setIfInBounds_toArray, List.set_cons_zero, List.set_cons_succ]) | (refine T_nil (by rfl) (by rfl) (fun _ _ _ _ h => h) rfl rfl ?_; try simp only [Act.put, List.setIfInBounds_toArray, List.set_cons_zero, List.set_cons_succ]) | (refine T_quietN (by rfl) (by rfl) (by rfl) (by rfl) (fun _ _ _ _ h => h) (fun K hK => ?_); go_big_quiet_op; refine hK _ ?_; clear hK K) | (refine T_two (by rfl) (by rfl) (by rfl) (by rfl) (fun _ _ _ _ h => h) (fun K hK => ?_); go_big_quiet_op; refine ⟨_, fun _ _ => rfl, ?_⟩; refine hK _ ?_; clear hK K; try simp only [Act.put, List.setIfInBounds_toArray, List.set_cons_zero, List.set_cons_succ]) | fail)
      (first | (refine T_skip (by rfl) (by rfl) (fun _ _ _ h => h) ?_; try simp only [Act.put, List.setIfInBounds_toArray, List.set_cons_zero, List.set_cons_succ]) | (refine T_pass (by rfl) (by rfl) ?_; try simp only [Act.put, List.setIfInBounds_toArray, List.set_cons_zero, List.set_cons_succ]) | (refine T_load (by assumption) (by rfl) (by rfl) (fun _ _ _ _ h => h) rfl rfl (by assumption) (by first | exact (fun hn => hn) | assumption) ?_; try simp only [Act.put, List.setIfInBounds_toArray, List.set_cons_zero, List.set_cons_succ]) | (refine T_nil (by rfl) (by rfl) (fun _ _ _ _ h => h) rfl rfl ?_; try simp only [Act.put, List.setIfInBounds_toArray, List.set_cons_zero, List.set_cons_succ]) | (refine T_quietN (by rfl) (by rfl) (by rfl) (by rfl) (fun _ _ _ _ h => h) (fun K hK => ?_); go_big_quiet_op; refine hK _ ?_; clear hK K) | (refine T_two (by rfl) (by rfl) (by rfl) (by rfl) (fun _ _ _ _ h => h) (fun K hK => ?_); go_big_quiet_op; refine ⟨_, fun _ _ => rfl, ?_⟩; refine hK _ ?_; clear hK K; try simp only [Act.put, List.setIfInBounds_toArray, List.set_cons_zero, List.set_cons_succ]) | fail)
      (first | (refine T_skip (by rfl) (by rfl) (fun _ _ _ h => h) ?_; try simp only [Act.put, List.setIfInBounds_toArray, List.set_cons_zero, List.set_cons_succ]) | (refine T_pass (by rfl) (by rfl) ?_; try simp only [Act.put, List.setIfInBounds_toArray, List.set_cons_zero, List.set_cons_succ]) | (refine T_load (by assumption) (by rfl) (by rfl) (fun _ _ _ _ h => h) rfl rfl (by assumption) (by first | exact (fun hn => hn) | assumption) ?_; try simp only [Act.put, List.setIfInBounds_toArray, List.set_cons_zero, List.set_cons_succ]) | (refine T_nil (by rfl) (by rfl) (fun _ _ _ _ h => h) rfl rfl ?_; try simp only [Act.put, List.setIfInBounds_toArray, List.set_cons_zero, List.set_cons_succ]) | (refine T_quietN (by rfl) (by rfl) (by rfl) (by rfl) (fun _ _ _ _ h => h) (fun K hK => ?_); go_big_quiet_op; refine hK _ ?_; clear hK K) | (refine T_two (by rfl) (by rfl) (by rfl) (by rfl) (fun _ _ _ _ h => h) (fun K hK => ?_); go_big_quiet_op; refine ⟨_, fun _ _ => rfl, ?_⟩; refine hK _ ?_; clear hK K; try simp only [Act.put, List.setIfInBounds_toArray, List.set_cons_zero, List.set_cons_succ]) | fail)
      (refine T_load g3 (by rfl) (by rfl) (fun _ _ _ _ h => h) rfl rfl hcr (fun hn => hn) ?_; try simp only [Act.put, List.setIfInBounds_toArray, List.set_cons_zero, List.set_cons_succ])
      (refine T_str Tryd.underlying40 Tryd.underlying5 Tryd.underlying9 hrar (fun _ _ hn => hn) (by rfl) (by rfl) (fun _ _ _ _ h => h) rfl rfl rfl ?_; try simp only [Act.put, List.setIfInBounds_toArray, List.set_cons_zero, List.set_cons_succ])
      (first | (refine T_skip (by rfl) (by rfl) (fun _ _ _ h => h) ?_; try simp only [Act.put, List.setIfInBounds_toArray, List.set_cons_zero, List.set_cons_succ]) | (refine T_pass (by rfl) (by rfl) ?_; try simp only [Act.put, List.setIfInBounds_toArray, List.set_cons_zero, List.set_cons_succ]) | (refine T_load (by assumption) (by rfl) (by rfl) (fun _ _ _ _ h => h) rfl rfl (by assumption) (by first | exact (fun hn => hn) | assumption) ?_; try simp only [Act.put, List.setIfInBounds_toArray, List.set_cons_zero, List.set_cons_succ]) | (refine T_nil (by rfl) (by rfl) (fun _ _ _ _ h => h) rfl rfl ?_; try simp only [Act.put, List.setIfInBounds_toArray, List.set_cons_zero, List.set_cons_succ]) | (refine T_quietN (by rfl) (by rfl) (by rfl) (by rfl) (fun _ _ _ _ h => h) (fun K hK => ?_); go_big_quiet_op; refine hK _ ?_; clear hK K) | (refine T_two (by rfl) (by rfl) (by rfl) (by rfl) (fun _ _ _ _ h => h) (fun K hK => ?_); go_big_quiet_op; refine ⟨_, fun _ _ => rfl, ?_⟩; refine hK _ ?_; clear hK K; try simp only [Act.put, List.setIfInBounds_toArray, List.set_cons_zero, List.set_cons_succ]) | fail)
      (first | (refine T_skip (by rfl) (by rfl) (fun _ _ _ h => h) ?_; try simp only [Act.put, List.setIfInBounds_toArray, List.set_cons_zero, List.set_cons_succ]) | (refine T_pass (by rfl) (by rfl) ?_; try simp only [Act.put, List.setIfInBounds_toArray, List.set_cons_zero, List.set_cons_succ]) | (refine T_load (by assumption) (by rfl) (by rfl) (fun _ _ _ _ h => h) rfl rfl (by assumption) (by first | exact (fun hn => hn) | assumption) ?_; try simp only [Act.put, List.setIfInBounds_toArray, List.set_cons_zero, List.set_cons_succ]) | (refine T_nil (by rfl) (by rfl) (fun _ _ _ _ h => h) rfl rfl ?_; try simp only [Act.put, List.setIfInBounds_toArray, List.set_cons_zero, List.set_cons_succ]) | (refine T_quietN (by rfl) (by rfl) (by rfl) (by rfl) (fun _ _ _ _ h => h) (fun K hK => ?_); go_big_quiet_op; refine hK _ ?_; clear hK K) | (refine T_two (by rfl) (by rfl) (by rfl) (by rfl) (fun _ _ _ _ h => h) (fun K hK => ?_); go_big_quiet_op; refine ⟨_, fun _ _ => rfl, ?_⟩; refine hK _ ?_; clear hK K; try simp only [Act.put, List.setIfInBounds_toArray, List.set_cons_zero, List.set_cons_succ]) | fail)
      (first | (refine T_skip (by rfl) (by rfl) (fun _ _ _ h => h) ?_; try simp only [Act.put, List.setIfInBounds_toArray, List.set_cons_zero, List.set_cons_succ]) | (refine T_pass (by rfl) (by rfl) ?_; try simp only [Act.put, List.setIfInBounds_toArray, List.set_cons_zero, List.set_cons_succ]) | (refine T_load (by assumption) (by rfl) (by rfl) (fun _ _ _ _ h => h) rfl rfl (by assumption) (by first | exact (fun hn => hn) | assumption) ?_; try simp only [Act.put, List.setIfInBounds_toArray, List.set_cons_zero, List.set_cons_succ]) | (refine T_nil (by rfl) (by rfl) (fun _ _ _ _ h => h) rfl rfl ?_; try simp only [Act.put, List.setIfInBounds_toArray, List.set_cons_zero, List.set_cons_succ]) | (refine T_quietN (by rfl) (by rfl) (by rfl) (by rfl) (fun _ _ _ _ h => h) (fun K hK => ?_); go_big_quiet_op; refine hK _ ?_; clear hK K) | (refine T_two (by rfl) (by rfl) (by rfl) (by rfl) (fun _ _ _ _ h => h) (fun K hK => ?_); go_big_quiet_op; refine ⟨_, fun _ _ => rfl, ?_⟩; refine hK _ ?_; clear hK K; try simp only [Act.put, List.setIfInBounds_toArray, List.set_cons_zero, List.set_cons_succ]) | fail)
      (refine T_load g3 (by rfl) (by rfl) (fun _ _ _ _ h => h) rfl rfl hdr (fun hn => hn) ?_; try simp only [Act.put, List.setIfInBounds_toArray, List.set_cons_zero, List.set_cons_succ])
      (refine T_str Tryd.underlying40 Tryd.underlying5 Tryd.underlying9 hrbr (fun _ _ hn => hn) (by rfl) (by rfl) (fun _ _ _ _ h => h) rfl rfl rfl ?_; try simp only [Act.put, List.setIfInBounds_toArray, List.set_cons_zero, List.set_cons_succ])
      (refine T_neqStr (s := r) (t := r) (b := false) (by simp) (by rfl) (by rfl) (fun _ _ _ _ h => h) rfl rfl rfl ?_; try simp only [Act.put, List.setIfInBounds_toArray, List.set_cons_zero, List.set_cons_succ])
      refine T_done ?_
      go_wp2_with fail
      go_roundw
      case rel => exact ⟨k + 1, by omega, by go_num, hf.drew⟩
      case measure => simp [intOf]; omega
    · obtain rfl : k = n := by omega
      have ek : decide ((k : Int) < k) = false := by simp
      go_wp2_with fail
      go_ret
      exact ⟨rfl, hf⟩
end Go.Proofs.YtannkgglgmbkdaaDoor
namespace Go.Proofs.YtannkgglgmbkdaaDoor
set_option linter.unusedVariables false
set_option linter.unusedSimpArgs false
open Go.RowKit

/-- A log that stands, in memory. -/
structure Good (W w : World) (n i ST H L : Nat) (X : Nat → Prop) (d : DiskM) (h : HeadM) (hf : Nat) (ps : List (Int × List UInt8)) : Prop where
  log : LogAt w L H ⟨h, h.first + ps.length, (placed h.first ps).length, false⟩
  disk : DiskAt w X H d
  calm : Calm d n
  stand : Stand d.now n h hf ps
  inX : ∀ b, X b → W.heap.size ≤ b ∧ b < w.heap.size
  nL : ¬ X L
  nS : ¬ X ST
  ne : L ≠ ST
  geL : W.heap.size ≤ L
  geS : W.heap.size ≤ ST
  ltL : L < w.heap.size
  ltS : ST < w.heap.size
  fr : Fr No W w
  life : h.life ≤ 2 + i
  seq : h.first + ps.length ≤ 1 + 10 * i
  fit : (placed h.first ps).length ≤ halfN n
/-- A device behind a write that failed, in memory. -/
structure Bad (W w : World) (n i ST H : Nat) (X : Nat → Prop) (d : DiskM) (h : HeadM) (hf : Nat) (ps : List (Int × List UInt8)) : Prop where
  disk : DiskAt w X H d
  way : d.way.length ≤ 1000
  crash : ∀ ks, Quiet (crashM d ks) n ∧ (crashM d ks).safe = (crashM d ks).now ∧ Near (crashM d ks).now n h hf ps
  inX : ∀ b, X b → W.heap.size ≤ b ∧ b < w.heap.size
  nS : ¬ X ST
  geS : W.heap.size ≤ ST
  ltS : ST < w.heap.size
  fr : Fr No W w
  life : h.life ≤ 2 + i
  seq : h.first + ps.length ≤ 1 + 10 * i
  fit : (placed h.first ps).length ≤ halfN n
/-- A list of records that what is written does not meet. -/
def SureAt (w : World) (X : Nat → Prop) (L ST : Nat) (v : Value) (recs : List (List UInt8)) : Prop :=
  ∃ A c cs, v = .slice A recs.length c ∧ Rd w (fun b => ¬ X b ∧ b ≠ L ∧ b ≠ ST) 1 A recs.length cs ∧ RecCells w (fun b => ¬ X b ∧ b ≠ L ∧ b ≠ ST) recs cs
theorem SureAt.step {w w' : World} {X X' : Nat → Prop} {L L' ST : Nat} {v : Value} {recs : List (List UInt8)} (h : SureAt w X L ST v recs) (hf : Fr (fun b => X b ∨ b = L ∨ b = ST) w w') (hX : ∀ b, X' b → X b ∨ w.heap.size ≤ b) (hL : L' = L ∨ w.heap.size ≤ L') : SureAt w' X' L' ST v recs := by
  obtain ⟨A, c, cs, hv, hr, hc⟩ := h
  have hd : ∀ b, (¬ X b ∧ b ≠ L ∧ b ≠ ST) ∧ b < w.heap.size → ¬ (X b ∨ b = L ∨ b = ST) := fun b hb hn => by
    rcases hn with h | h | h
    · exact hb.1.1 h
    · exact hb.1.2.1 h
    · exact hb.1.2.2 h
  have hm : ∀ b, b < w'.heap.size → (¬ X b ∧ b ≠ L ∧ b ≠ ST) ∧ b < w.heap.size → ¬ X' b ∧ b ≠ L' ∧ b ≠ ST := fun b _ hb => ⟨fun hx => (hX b hx).elim hb.1.1 (fun h => by omega), fun e => by rcases hL with h | h; exact hb.1.2.1 (e.trans h); omega, hb.1.2.2⟩
  exact ⟨A, c, cs, hv, ((hr.mono (T := fun b => (¬ X b ∧ b ≠ L ∧ b ≠ ST) ∧ b < w.heap.size) (fun b hb hx => ⟨hx, hb⟩) (by decide)).fr hf hd).mono hm (by decide), ((hc.mono (T := fun b => (¬ X b ∧ b ≠ L ∧ b ≠ ST) ∧ b < w.heap.size) (fun b hb hx => ⟨hx, hb⟩)).fr hf hd).mono hm⟩
/-- What is stored in the story's own block does not matter. -/
theorem Good.fr1 {W w w' : World} {n i ST H L : Nat} {X : Nat → Prop} {d : DiskM} {h : HeadM} {hf : Nat} {ps : List (Int × List UInt8)} (g : Good W w n i ST H L X d h hf ps) (hfr : Fr (fun b => b = ST) w w') : Good W w' n i ST H L X d h hf ps := by
  have hz := hfr.size
  refine ⟨Blk.fr g.log hfr g.ne, g.disk.fr hfr (fun b hb e => g.nS (e ▸ hb)), g.calm, g.stand, fun b hb => by have := g.inX b hb; omega, g.nL, g.nS, g.ne, g.geL, g.geS, by have := g.ltL; omega, by have := g.ltS; omega, g.fr.trans hfr (fun b hb e => by have := g.geS; omega), g.life, g.seq, g.fit⟩
theorem Bad.fr1 {W w w' : World} {n i ST H : Nat} {X : Nat → Prop} {d : DiskM} {h : HeadM} {hf : Nat} {ps : List (Int × List UInt8)} (g : Bad W w n i ST H X d h hf ps) (hfr : Fr (fun b => b = ST) w w') : Bad W w' n i ST H X d h hf ps := by
  have hz := hfr.size
  refine ⟨g.disk.fr hfr (fun b hb e => g.nS (e ▸ hb)), g.way, g.crash, fun b hb => by have := g.inX b hb; omega, g.nS, g.geS, by have := g.ltS; omega, g.fr.trans hfr (fun b hb e => by have := g.geS; omega), g.life, g.seq, g.fit⟩
theorem Good.up {W w : World} {n i j ST H L : Nat} {X : Nat → Prop} {d : DiskM} {h : HeadM} {hf : Nat} {ps : List (Int × List UInt8)} (g : Good W w n i ST H L X d h hf ps) (hij : i ≤ j) : Good W w n j ST H L X d h hf ps :=
  ⟨g.log, g.disk, g.calm, g.stand, g.inX, g.nL, g.nS, g.ne, g.geL, g.geS, g.ltL, g.ltS, g.fr, by have := g.life; omega, by have := g.seq; omega, g.fit⟩
/-- What an Append or a Rewrite leaves. -/
structure DoneR (W w : World) (n i ST H L : Nat) (X : Nat → Prop) (h h' : HeadM) (hf hf' : Nat) (ps ps' : List (Int × List UInt8)) (f : Int) (X' : Nat → Prop) (d' : DiskM) (w' : World) : Prop where
  fr : Fr (fun b => X b ∨ b = L) w w'
  sub : ∀ b, X' b → X b ∨ w.heap.size ≤ b
  out : (f = 0 ∧ Good W w' n (i + 1) ST H L X' d' h' hf' ps') ∨ (f = 4 ∧ Good W w' n i ST H L X' d' h hf ps) ∨ (f = 14 ∧ Bad W w' n i ST H X' d' h hf ps)
theorem half48 {n : Nat} (h : 8 ≤ n ∧ n ≤ 48) : halfN n ≤ 23 := by unfold halfN; omega
set_option maxRecDepth 100000 in
theorem append_good (W w : World) (n i ST H L : Nat) (X : Nat → Prop) (d : DiskM) (h : HeadM) (hf : Nat) (ps : List (Int × List UInt8)) (g : Good W w n i ST H L X d h hf ps) (hn : 8 ≤ n ∧ n ≤ 48) (hi : i ≤ 30) (A : Option Addr) (c : Nat) (rec : List UInt8) (hr : RdB w (fun _ => True) A rec) (hr1 : 1 ≤ rec.length) (hr2 : rec.length ≤ 60000) (hc : rec.length ≤ c) (hcm : c ≤ maxLen) :
    Calls Tryd.prog 18 #[.pointer (some ⟨L, 0, none⟩), .slice A rec.length c] w fun e w' => ∃ f X' d', e = .returned (.int .i64 f) ∧ DoneR W w n i ST H L X h h hf hf ps (ps ++ [(h.life, rec)]) f X' d' w' := by
  obtain ⟨c1, c2, c3, c4, c5⟩ := g.calm
  have hh := g.stand.isHalf
  have hle := g.stand.le1
  obtain ⟨q1, q2, q3, q4⟩ := g.stand.heads.1
  have hlf := g.life
  have hsq := g.seq
  have h23 := half48 hn
  by_cases hroom : (placed h.first ps).length + recN rec.length ≤ halfN n
  · have hbl := recB_len h.life (h.first + ps.length) rec
    have hrn1 : 1 ≤ recN rec.length := by unfold recN; omega
    rcases safely_calm g.calm (2 + hf * halfN n + (placed h.first ps).length) (ss := recB h.life (h.first + ps.length) rec) (by intro e; rw [e] at hbl; simp at hbl; omega) with ⟨d', e1, e2, e3⟩ | ⟨d', m, e1, e2, e3, e4⟩
    · have hap := append_calls w X L H ⟨h, h.first + ps.length, (placed h.first ps).length, false⟩ d d' A c rec hf g.log rfl g.nL g.disk (by omega) hh hle hr hr1 hr2 hc hcm (by rw [c4]; exact hroom) ⟨by show 1 ≤ h.first + ps.length; omega, by show h.first + (ps.length : Int) < _; omega⟩ (by rw [c2]; simp) (by omega) (by rw [c4]; exact e1)
      refine hap.mono ?_
      rintro e w' ⟨rfl, hlg, hdk, hfr⟩
      have hz := hfr.size
      have hst := g.stand.appended ⟨hr1, hr2⟩ (by omega) hroom (by omega) e3
      have hpl : (placed h.first (ps ++ [(h.life, rec)])).length = (placed h.first ps).length + recN rec.length := by rw [placed_snoc, List.length_append, recB_len]
      refine ⟨0, fun b => ((X b ∧ b < w.heap.size) ∨ w.heap.size ≤ b) ∧ b < w'.heap.size, d', rfl, hfr, fun b hb => hb.1.elim (fun x => .inl x.1) .inr, .inl ⟨rfl, ?_⟩⟩
      refine ⟨?_, hdk.mono (fun b hb hx => ⟨hx, hb⟩), e2, hst, fun b hb => ⟨?_, hb.2⟩, fun hx => hx.1.elim (fun x => g.nL x.1) (fun x => by have := g.ltL; omega), fun hx => hx.1.elim (fun x => g.nS x.1) (fun x => by have := g.ltS; omega), g.ne, g.geL, g.geS, by have := g.ltL; omega, by have := g.ltS; omega, g.fr.trans hfr (fun b hb e => by
          rcases e with e | e
          · have := (g.inX b e).1; omega
          · have := g.geL; omega), by omega, by rw [List.length_append, List.length_singleton]; omega, by rw [hpl]; exact hroom⟩
      · rw [hpl, List.length_append, List.length_singleton, show h.first + ((ps.length + 1 : Nat) : Int) = h.first + ps.length + 1 by omega]
        exact hlg
      · rcases hb.1 with x | x
        · exact (g.inX b x.1).1
        · have := g.fr.size; omega
    · have hap := append_dead w X L H ⟨h, h.first + ps.length, (placed h.first ps).length, false⟩ d d' A c rec hf g.log rfl g.nL g.disk (by omega) hh hle hr hr1 hr2 hc hcm (by rw [c4]; exact hroom) ⟨by show 1 ≤ h.first + ps.length; omega, by show h.first + (ps.length : Int) < _; omega⟩ (by rw [c2]; simp) (by omega) (by rw [c4]; exact e1)
      refine hap.mono ?_
      rintro e w' ⟨rfl, hlg, hdk, hfr⟩
      have hz := hfr.size
      refine ⟨14, fun b => ((X b ∧ b < w.heap.size) ∨ w.heap.size ≤ b) ∧ b < w'.heap.size, d', rfl, hfr, fun b hb => hb.1.elim (fun x => .inl x.1) .inr, .inr (.inr ⟨rfl, ?_⟩)⟩
      refine ⟨hdk.mono (fun b hb hx => ⟨hx, hb⟩), by rw [hbl] at e3; omega, fun ks => ?_, fun b hb => ⟨?_, hb.2⟩, fun hx => hx.1.elim (fun x => g.nS x.1) (fun x => by have := g.ltS; omega), g.geS, by have := g.ltS; omega, g.fr.trans hfr (fun b hb e => by
          rcases e with e | e
          · have := (g.inX b e).1; omega
          · have := g.geL; omega), hlf, hsq, g.fit⟩
      · obtain ⟨k1, k2, k3, _⟩ := e4 ks
        exact ⟨k2, k3, (g.stand.failed (m := m) (by rw [hbl] at e2; exact e2) (by omega) hroom (by omega) k1).near⟩
      · rcases hb.1 with x | x
        · exact (g.inX b x.1).1
        · have := g.fr.size; omega
  · have hap := append_full w X L H ⟨h, h.first + ps.length, (placed h.first ps).length, false⟩ d A c rec.length g.log rfl g.disk (by omega) hr1 hr2 (by rw [c4]; exact g.fit) (by rw [c4]; show halfN n < (placed h.first ps).length + recN rec.length; omega)
    refine hap.mono ?_
    rintro e w' ⟨rfl, hfr⟩
    exact ⟨4, X, d, rfl, hfr.mono (fun _ _ hn => hn.elim), fun b hb => .inl hb, .inr (.inl ⟨rfl, g.fr1 (hfr.mono (fun _ _ hn => hn.elim))⟩)⟩
set_option maxRecDepth 100000 in
theorem rewrite_good (W w : World) (n i ST H L : Nat) (X : Nat → Prop) (d : DiskM) (h : HeadM) (hf : Nat) (ps : List (Int × List UInt8)) (g : Good W w n i ST H L X d h hf ps) (hn : 8 ≤ n ∧ n ≤ 48) (hi : i ≤ 30) (A : Option Addr) (c : Nat) (recs : List (List UInt8)) (cs : List Value)
    (hA : Rd w (fun b => ¬ X b ∧ b ≠ L ∧ b < w.heap.size) 1 A recs.length cs) (hcs : RecCells w (fun b => ¬ X b ∧ b ≠ L ∧ b < w.heap.size) recs cs) (hcap : CapOk cs) (hr : ∀ r ∈ recs, 1 ≤ r.length ∧ r.length ≤ 60000) (hlen : recs.length ≤ 6) :
    Calls Tryd.prog 21 #[.pointer (some ⟨L, 0, none⟩), .slice A recs.length c] w fun e w' => ∃ f X' d', e = .returned (.int .i64 f) ∧ DoneR W w n i ST H L X h ⟨h.life + 1, 1 - h.half, h.first + ps.length, h.life + 1⟩ hf (1 - hf) ps (aged (h.life + 1) recs) f X' d' w' := by
  obtain ⟨c1, c2, c3, c4, c5⟩ := g.calm
  have hh := g.stand.isHalf
  have hle := g.stand.le1
  obtain ⟨q1, q2, q3, q4⟩ := g.stand.heads.1
  have hlf := g.life
  have hsq := g.seq
  have h23 := half48 hn
  by_cases hroom : sumN recs ≤ halfN n
  · have hpl := placed_len recs (h.first + ps.length) (h.life + 1)
    have hf2 := (half_fit (n := n) (by omega) hle).2.1
    have hro : ∀ d' ok, rewM d (2 + (1 - hf) * halfN n) (placed (h.first + ps.length) (aged (h.life + 1) recs)) ⟨h.life + 1, 1 - h.half, h.first + ps.length, h.life + 1⟩ = (d', ok) → _ := fun d' ok e1 => rewrite_calls w X L H ⟨h, h.first + ps.length, (placed h.first ps).length, false⟩ d d' ok A c recs cs hf g.log rfl g.nL g.disk (by omega) hh hle ⟨q1.1, by show h.life < _; omega⟩ hA hcs hcap hr (by omega) (by rw [c4]; exact hroom) ⟨by show 1 ≤ h.first + ps.length; omega, by show h.first + (ps.length : Int) + recs.length ≤ _; omega⟩ c1 (by rw [c2]; simp) (by omega) (by rw [c4]; exact e1)
    rcases rew_calm g.calm (2 + (1 - hf) * halfN n) (placed (h.first + ps.length) (aged (h.life + 1) recs)) ⟨h.life + 1, 1 - h.half, h.first + ps.length, h.life + 1⟩ (by rw [hpl]; omega) with ⟨d', e1, e2, e3⟩ | ⟨d', e1, e2, e3⟩
    · refine (hro d' true e1).mono ?_
      rintro e w' ⟨rfl, hlg, hdk, hfr⟩
      have hz := hfr.size
      have hst := g.stand.rewrote hr (by omega) (by omega) (by rw [hpl]; exact hroom) (by omega) e3
      refine ⟨0, fun b => ((X b ∧ b < w.heap.size) ∨ w.heap.size < b) ∧ b < w'.heap.size, d', rfl, hfr, fun b hb => hb.1.elim (fun x => .inl x.1) (fun x => .inr (Nat.le_of_lt x)), .inl ⟨rfl, ?_⟩⟩
      refine ⟨?_, hdk.mono (fun b hb hx => ⟨hx, hb⟩), e2, hst, fun b hb => ⟨?_, hb.2⟩, fun hx => hx.1.elim (fun x => g.nL x.1) (fun x => by have := g.ltL; omega), fun hx => hx.1.elim (fun x => g.nS x.1) (fun x => by have := g.ltS; omega), g.ne, g.geL, g.geS, by have := g.ltL; omega, by have := g.ltS; omega, g.fr.trans hfr (fun b hb e => by
          rcases e with e | e
          · have := (g.inX b e).1; omega
          · have := g.geL; omega), by show h.life + 1 ≤ _; omega, by show h.first + (ps.length : Int) + (aged (h.life + 1) recs).length ≤ _; rw [aged_len]; omega, by show (placed (h.first + ps.length) (aged (h.life + 1) recs)).length ≤ _; rw [hpl]; exact hroom⟩
      · show LogAt w' L H ⟨_, h.first + ps.length + ((aged (h.life + 1) recs).length : Nat), (placed (h.first + ps.length) (aged (h.life + 1) recs)).length, false⟩
        rw [hpl, aged_len]
        exact hlg rfl
      · rcases hb.1 with x | x
        · exact (g.inX b x.1).1
        · have := g.fr.size; omega
    · refine (hro d' false e1).mono ?_
      rintro e w' ⟨rfl, hlg, hdk, hfr⟩
      have hz := hfr.size
      refine ⟨14, fun b => ((X b ∧ b < w.heap.size) ∨ w.heap.size < b) ∧ b < w'.heap.size, d', rfl, hfr, fun b hb => hb.1.elim (fun x => .inl x.1) (fun x => .inr (Nat.le_of_lt x)), .inr (.inr ⟨rfl, ?_⟩)⟩
      refine ⟨hdk.mono (fun b hb hx => ⟨hx, hb⟩), by rw [hpl] at e2; omega, fun ks => ?_, fun b hb => ⟨?_, hb.2⟩, fun hx => hx.1.elim (fun x => g.nS x.1) (fun x => by have := g.ltS; omega), g.geS, by have := g.ltS; omega, g.fr.trans hfr (fun b hb e => by
          rcases e with e | e
          · have := (g.inX b e).1; omega
          · have := g.geL; omega), hlf, hsq, g.fit⟩
      · have hm := e3 ks
        exact ⟨hm.1, hm.2.1, g.stand.missed (by omega) (by omega) (by omega) (by rw [hpl]; exact hroom) (by omega) hm⟩
      · rcases hb.1 with x | x
        · exact (g.inX b x.1).1
        · have := g.fr.size; omega
  · have hap := rewrite_full w X _ L H ⟨h, h.first + ps.length, (placed h.first ps).length, false⟩ d A c recs cs g.log rfl g.disk (by omega) hA hcs hr (by omega) (by rw [c4]; omega)
    refine hap.mono ?_
    rintro e w' ⟨rfl, hfr⟩
    exact ⟨4, X, d, rfl, hfr.mono (fun _ _ hn => hn.elim), fun b hb => .inl hb, .inr (.inl ⟨rfl, g.fr1 (hfr.mono (fun _ _ hn => hn.elim))⟩)⟩
/-- A device to be opened. -/
structure Ready (W w : World) (n i ST H : Nat) (X : Nat → Prop) (d : DiskM) (h : HeadM) (hf : Nat) (ps : List (Int × List UInt8)) : Prop where
  disk : DiskAt w X H d
  quiet : Quiet d n
  same : d.safe = d.now
  near : Near d.now n h hf ps
  inX : ∀ b, X b → W.heap.size ≤ b ∧ b < w.heap.size
  nS : ¬ X ST
  geS : W.heap.size ≤ ST
  ltS : ST < w.heap.size
  fr : Fr No W w
  life : h.life ≤ 2 + i
  seq : h.first + ps.length ≤ 1 + 10 * i
  fit : (placed h.first ps).length ≤ halfN n
theorem Ready.fr1 {W w w' : World} {n i ST H : Nat} {X : Nat → Prop} {d : DiskM} {h : HeadM} {hf : Nat} {ps : List (Int × List UInt8)} (g : Ready W w n i ST H X d h hf ps) (hfr : Fr (fun b => b = ST) w w') : Ready W w' n i ST H X d h hf ps := by
  have hz := hfr.size
  refine ⟨g.disk.fr hfr (fun b hb e => g.nS (e ▸ hb)), g.quiet, g.same, g.near, fun b hb => by have := g.inX b hb; omega, g.nS, g.geS, by have := g.ltS; omega, g.fr.trans hfr (fun b hb e => by have := g.geS; omega), g.life, g.seq, g.fit⟩
theorem crash_bad (W w : World) (n i ST H : Nat) (X : Nat → Prop) (d : DiskM) (h : HeadM) (hf : Nat) (ps : List (Int × List UInt8)) (g : Bad W w n i ST H X d h hf ps) (ks : List Bool) (B : Option Addr) (cb : Nat) (hks : Rd W (fun b => b < W.heap.size) 1 B ks.length (BLs ks)) :
    Calls Tryd.prog 24 #[.pointer (some ⟨H, 0, none⟩), .slice B ks.length cb] w fun e w' => e = .returned (.tuple #[]) ∧ Ready W w' n i ST H X (crashM d ks) h hf ps ∧ Fr X w w' := by
  refine (crash_calls w X _ H d ks B cb g.disk (Rd.fr0 hks g.fr) (fun b hb hx => by have := (g.inX b hx).1; omega) (by have := g.way; omega)).mono ?_
  rintro e w' ⟨rfl, hd, hfr⟩
  have hz := hfr.size
  obtain ⟨k1, k2, k3⟩ := g.crash ks
  exact ⟨rfl, ⟨hd, k1, k2, k3, fun b hb => by have := g.inX b hb; omega, g.nS, g.geS, by have := g.ltS; omega, g.fr.trans hfr (fun b hb e => by have := (g.inX b e).1; omega), g.life, g.seq, g.fit⟩, hfr⟩
theorem crash_calm {d : DiskM} {n : Nat} (h : Calm d n) (ks : List Bool) : Quiet (crashM d ks) n ∧ (crashM d ks).safe = (crashM d ks).now ∧ (crashM d ks).now = d.now := by
  obtain ⟨h1, h2, h3, h4, _⟩ := h
  have e : (crashM d ks).now = d.now := by show crashS d.safe d.way ks = d.now; rw [h2, h3]; rfl
  exact ⟨⟨rfl, rfl, rfl, by rw [e]; exact h4⟩, rfl, e⟩
theorem Good.bad {W w : World} {n i ST H L : Nat} {X : Nat → Prop} {d : DiskM} {h : HeadM} {hf : Nat} {ps : List (Int × List UInt8)} (g : Good W w n i ST H L X d h hf ps) : Bad W w n i ST H X d h hf ps :=
  ⟨g.disk, by rw [g.calm.2.1]; simp, fun ks => by obtain ⟨a1, a2, a3⟩ := crash_calm g.calm ks; exact ⟨a1, a2, by rw [a3]; exact g.stand.near⟩, g.inX, g.nS, g.geS, g.ltS, g.fr, g.life, g.seq, g.fit⟩
theorem placed_more : ∀ (ps : List (Int × List UInt8)) (seq was top : Int), Rising top was ps → ps.length ≤ (placed seq ps).length
  | [], _, _, _, _ => Nat.zero_le _
  | p :: ps, seq, was, top, h => by
    have := placed_more ps (seq + 1) _ _ h.2.2.2
    have h2 := h.2.2.1
    rw [placed, List.length_append, recB_len, List.length_cons]
    have : 1 ≤ recN p.2.length := by unfold recN; omega
    omega
set_option maxRecDepth 100000 in
theorem open_ready (W w : World) (n i ST H : Nat) (X : Nat → Prop) (d : DiskM) (h : HeadM) (hf : Nat) (ps : List (Int × List UInt8)) (g : Ready W w n i ST H X d h hf ps) (hn : 8 ≤ n ∧ n ≤ 48) (hi : i ≤ 40) :
    Calls Tryd.prog 14 #[.pointer (some ⟨H, 0, none⟩)] w fun e w' => ∃ L v X' d', e = .returned (.tuple #[.pointer (some ⟨L, 0, none⟩), v, .int .i64 0]) ∧ Good W w' n (i + 1) ST H L X' d' { h with life := h.life + 1 } hf ps ∧ SureAt w' X' L ST v (ps.map (·.2)) ∧
      w.heap.size ≤ L ∧ (∀ b, X' b → X b ∨ w.heap.size ≤ b) ∧ Fr X w w' ∧ d'.left = 0 := by
  obtain ⟨a1, a2, a3, a4⟩ := g.quiet
  obtain ⟨q1, q2, q3, q4⟩ := g.near.heads.1
  have hlf := g.life
  have hsq := g.seq
  have hrs := placed_more ps h.first _ _ g.near.rising
  have hft := g.fit
  obtain ⟨s0, s1, n0, n1, hnew⟩ := newest_at g.near.heads
  obtain ⟨d', l1, l2, l3, l4⟩ := safely_quiet g.quiet ((h.life + 1) % 2).toNat [headB { h with life := h.life + 1 }]
  have hst := g.near.opened (by omega)
  have hop := open_calls w X H d d' s0 s1 h hf (ps.map (·.2)) (h.first + ps.length) (placed h.first ps).length g.disk (by omega) a1 (by rw [a3]; simp) (by rw [a2]; omega) n0 n1 hnew g.near.isHalf g.near.le1 ⟨q1.1, by omega⟩ q3 (g.near.opens (by rw [a4]; omega) (by omega)) (by omega) l1
  refine hop.mono ?_
  rintro e w' ⟨L, N, v, cs, rfl, ho⟩
  have hle := ho.le
  have hlt := ho.lt
  have hlN := ho.lN
  have hown := ho.own
  rw [List.length_map] at hown
  obtain ⟨A, c, rfl, _, _, hA⟩ := own_form hown
  have hcl := ho.cells
  have hdk := ho.disk
  have hnd : d'.now = d.now.set ((h.life + 1) % 2).toNat (headB { h with life := h.life + 1 }) := l3
  have hltS := g.ltS
  have hXin := g.inX
  refine ⟨L, _, fun b => ((X b ∧ b < w.heap.size) ∨ N ≤ b) ∧ b < w'.heap.size, d', rfl, ?_, ⟨A, c, cs, by rw [List.length_map], ?_, hcl.mono (fun b _ hb => ⟨fun hx => ?_, by omega, by omega⟩)⟩, hle, fun b hb => hb.1.elim (fun x => .inl x.1) (fun x => .inr (by omega)), ho.fr, l2.2.1⟩
  · refine ⟨ho.log, hdk.mono (fun b hb hx => ⟨hx, hb⟩), l2.calm l4, by rw [hnd]; exact hst, fun b hb => ⟨?_, hb.2⟩, fun hx => hx.1.elim (fun x => by omega) (fun x => by omega), fun hx => hx.1.elim (fun x => g.nS x.1) (fun x => by omega), by omega, by have := g.fr.size; omega, g.geS, by omega, by have := ho.fr.size; omega, g.fr.trans ho.fr (fun b hb e => by have := (hXin b e).1; omega), by show h.life + 1 ≤ _; omega, by show h.first + (ps.length : Int) ≤ _; omega, hft⟩
    rcases hb.1 with x | x
    · exact (hXin b x.1).1
    · have := g.fr.size; omega
  · rw [List.length_map]
    refine (own_rd hown (by omega)).mono (fun b hb hx => ?_) (by decide)
    have hob : (Value.slice A ps.length c).ownBlock = some b := (hA b).2 hx
    have h1 := (hown.lt b hob).1
    have h2 := ho.ownN b hob
    exact ⟨fun hx => hx.1.elim (fun x => by omega) (fun x => by omega), by omega, by omega⟩
  · rcases hx.1 with x | x <;> omega
end Go.Proofs.YtannkgglgmbkdaaDoor
