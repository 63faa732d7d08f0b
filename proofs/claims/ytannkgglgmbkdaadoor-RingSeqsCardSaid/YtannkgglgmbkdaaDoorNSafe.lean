/- ring.safely, lay, Format. No condition but size. -/
import Derived.Test.YtannkgglgmbkdaaDoorNHeadT
import Derived.ArgAppend
namespace Go.Proofs.YtannkgglgmbkdaaDoor
set_option linter.unusedVariables false
set_option linter.unusedSimpArgs false
open Go.RowKit

theorem oneM_yes {d : DiskM} {k : Nat} {s : Sec} (h : (oneM d k s).2 = true) : d.dead = false ∧ d.left ≠ 1 ∧ (oneM d k s).1 = { d with left := d.left - 1, now := d.now.set k s, way := d.way ++ [(k, s)] } := by
  unfold oneM at h ⊢
  by_cases h1 : d.left = 1
  · rw [if_pos h1] at h; cases h
  · rw [if_neg h1] at h ⊢
    by_cases h2 : d.dead = true
    · rw [if_pos h2] at h; cases h
    · rw [if_neg h2]
      exact ⟨by simpa using h2, h1, rfl⟩
theorem putsM_alive : ∀ (ss : List Sec) (d : DiskM) (k : Nat), (putsM d k ss).2 = true → ss ≠ [] → (putsM d k ss).1.dead = false
  | [], _, _, _, h => absurd rfl h
  | s :: ss, d, k, h, _ => by
    rw [putsM_cons] at h ⊢
    by_cases ho : (oneM d k s).2 = true
    · rw [if_pos ho] at h ⊢
      by_cases hs : ss = []
      · subst hs
        obtain ⟨h1, _, h3⟩ := oneM_yes ho
        show (oneM d k s).1.dead = false
        rw [h3]; exact h1
      · exact putsM_alive ss _ _ h hs
    · rw [if_neg ho] at h; cases h
/-- Sectors are written, and made safe. -/
def safelyM (d : DiskM) (k : Nat) (ss : List Sec) : DiskM × Bool :=
  if (putsM d k ss).2 = true then ({ (putsM d k ss).1 with safe := (putsM d k ss).1.now, way := [] }, true) else ((putsM d k ss).1, false)
/-- Where a device may lie behind a call. -/
abbrev Wid (X : Nat → Prop) (w : World) : Nat → Prop := fun b => X b ∨ w.heap.size ≤ b
set_option maxRecDepth 100000 in
theorem safely_calls (w : World) (X : Nat → Prop) (H : Nat) (d : DiskM) (k : Nat) (ss : List Sec) (A : Option Addr) (c : Nat) (h : DiskAt w X H d) (hrd : Rd w (fun b => ¬ X b) 1 A (ss.length * 128) (U8 ss.flatten)) (hss : Len128 ss) (hc : ss.length * 128 ≤ c) (hcm : c ≤ maxLen)
    (hn : 1 ≤ ss.length) (hfit : k + ss.length ≤ d.now.length) (hway : d.way.length ≤ 50000) (hleft : d.left ≤ 1000000) :
    Calls Tryd.prog 30 #[.pointer (some ⟨H, 0, none⟩), .int .i64 (k : Int), .slice A (ss.length * 128) c] w (WriteR w X (Wid X w) H (safelyM d k ss)) := by
  have hwr := write_calls w X (Wid X w) H d k ss A c h hrd hss hc hcm hn hfit hway hleft (fun _ hb => .inl hb) (fun _ hb => .inr hb)
  have hal := putsM_alive ss d k
  have hne : ss ≠ [] := by intro e; subst e; simp at hn
  have hsf : safelyM d k ss = if (putsM d k ss).2 = true then ({ (putsM d k ss).1 with safe := (putsM d k ss).1.now, way := [] }, true) else ((putsM d k ss).1, false) := rfl
  generalize safelyM d k ss = r at *
  generalize ss.length * 128 = m at *
  generalize hp : putsM d k ss = p at *
  obtain ⟨d', ok⟩ := p
  cases ok with
  | false =>
    rw [if_neg (by simp)] at hsf
    subst hsf
    clear hrd hss hc hcm hn hfit hway hleft hp
    go_enter Tryd.func30, Tryd.ntmps30
    go_wp2_with fail
    refine hwr.mono ?_
    rintro e w1 ⟨he, hl⟩
    rw [if_neg (by simp)] at he
    subst he
    go_wp2_with fail
    go_ret
    exact WriteR.no rfl hl
  | true =>
    rw [if_pos rfl] at hsf
    subst hsf
    have hdead := hal rfl hne
    clear hrd hss hc hcm hn hfit hway hleft hp hal hne
    simp only at hdead
    go_enter Tryd.func30, Tryd.ntmps30
    go_wp2_with fail
    refine hwr.mono ?_
    rintro e w1 ⟨he, hl⟩
    rw [if_pos rfl] at he
    subst he
    obtain ⟨hd1, hf1⟩ := hl
    go_wp2_with fail
    refine (flush_calls w1 _ H d' hd1 hdead).mono ?_
    rintro e w2 ⟨rfl, hd2, hf2⟩
    go_wp2_with fail
    go_ret
    exact WriteR.yes rfl ⟨hd2, hf1.trans hf2 (fun b hb hT => hT.elim id (fun h => by omega))⟩
def layM (d : DiskM) (h : HeadM) : DiskM × Bool := safelyM d (h.life % 2).toNat [headB h]
theorem T_tuple1 {α : Type} (a b : α) (h : a = b) : b = a := h.symm
set_option maxRecDepth 100000 in
set_option maxHeartbeats 4000000 in
theorem lay_calls (w : World) (X : Nat → Prop) (H : Nat) (d : DiskM) (h : HeadM) (hd : DiskAt w X H d) (h0 : 0 ≤ h.life) (h2 : 2 ≤ d.now.length) (hway : d.way.length ≤ 50000) (hleft : d.left ≤ 1000000) :
    Calls Tryd.prog 37 #[.pointer (some ⟨H, 0, none⟩), headV h] w (WriteR w X (Wid X w) H (layM d h)) := by
  have g1 : ∀ w, (isAgg 2).run Tryd.prog w = .ok false w := plain_of Tryd.underlying2 rfl
  have hlm : layM d h = safelyM d (h.life % 2).toNat [headB h] := rfl
  have hhd : ∀ w, Calls Tryd.prog 29 #[headV h] w fun e w' => e = .returned (.agg (U8 (headB h)).toArray) ∧ Fr No w w' := fun w => head_calls w h
  have hlb := headB_len h
  generalize layM d h = r at *
  unfold headV at hhd ⊢
  obtain ⟨n, hn⟩ : ∃ n : Nat, h.life = (n : Int) := ⟨h.life.toNat, by omega⟩
  rw [hn, show ((n : Int) % 2).toNat = n % 2 by omega] at hlm
  generalize headB h = hB at *
  generalize h.life = life at *
  generalize h.half = half at *
  generalize h.first = first at *
  generalize h.since = since at *
  subst hn
  obtain ⟨k, hk⟩ : ∃ k, k = n % 2 := ⟨_, rfl⟩
  have HK := Lib.hid (show (n : Int).tmod 2 = (k : Int) by rw [Int.tmod_eq_emod_of_nonneg (by omega)]; omega)
  have HK2 := Lib.hid (show (n : Int) % 2 = (k : Int) by omega)
  have hk1 : k + 1 ≤ d.now.length := by omega
  rw [← hk] at hlm
  clear hk h0
  go_enter Tryd.func37, Tryd.ntmps37
  have hbx := Blk.new w 63 #[.int .i64 (n : Int), .int .i64 half, .int .i64 first, .int .i64 since]
  have hf1 : Fr No w (w.alloc (.cells #[.int .i64 (n : Int), .int .i64 half, .int .i64 first, .int .i64 since] 63)) := (Fr.refl No w).alloc _
  go_wp2_with (first
    | (refine wpList_ldA ag_head rfl _ rfl ⟨w.heap.size, 0, none⟩ [.int .i64 (n : Int), .int .i64 half, .int .i64 first, .int .i64 since] rfl rfl hbx.all ?_)
    | fail)
  refine (hhd _).mono ?_
  rintro e w2 ⟨rfl, hf2⟩
  have hbx2 := hbx.fr0 hf2
  have hF2 := hf1.tr hf2
  have hz2 := hbx2.lt
  clear hf1 hf2 hbx
  have hlu : (U8 hB).length = 128 := by rw [U8_length]; exact hlb
  have hb3 := Blk.new w2 tSec (U8 zsec).toArray
  go_upto_region 2 with (first
    | (refine wpList_allocA (show (Tryd.prog.info? tSec).bind (·.zero) = some (.agg (U8 zsec).toArray) from zero_sec) rfl rfl ?_)
    | (refine wpList_stA ag_sec4.info rfl _ _ rfl w2.heap.size 0 _ _ (U8 hB) _ rfl rfl rfl hlu (U8_one hB) hb3 (by rw [List.size_toArray, U8_length, zsec_len]; decide) ?_; intro w4 hb4 hg4 hz4)
    | fail)
  rw [splice_all _ _ (by rw [hlu, List.size_toArray, U8_length, zsec_len])] at hb4
  have hf4 : Fr No w2 w4 := ((Fr.refl No w2).alloc _).grown hg4 (fun q hq => by injection hq with hq; exact .inl (by rw [← hq]; exact Nat.le_refl _))
  have hbx4 := hbx2.fr0 hf4
  have hF4 := hF2.tr hf4
  have hd4 := hd.fr0 hF4
  have hsz := hF2.size
  obtain ⟨gs, hgs⟩ : ∃ gs, gs = w2.heap.size := ⟨_, rfl⟩
  have hgw : w.heap.size < gs := by omega
  have hg4s : gs < w4.heap.size := by rw [hgs]; exact hb4.lt
  try simp only [Act.put, List.setIfInBounds_toArray, List.set_cons_zero, List.set_cons_succ]
  rw [← hgs] at hb4 ⊢
  clear hgs hb3 hg4 hz4 hf4 hbx2 hF2 hsz hz2
  have hd5 : DiskAt w4 (fun b => X b ∧ b < w.heap.size) H d := by
    have h1 : DiskAt w (fun b => X b ∧ b < w.heap.size) H d := hd.mono (fun b hb hx => ⟨hx, hb⟩)
    exact h1.fr0 hF4
  have hrd4 : Rd w4 (fun b => ¬ (X b ∧ b < w.heap.size)) 1 (some ⟨gs, 0, none⟩) ([hB].length * 128) (U8 [hB].flatten) := by
    refine ⟨by simp [U8_length, hlb], by simp, fun _ => ⟨_, rfl, fun hh => absurd hh.2 (by show ¬ gs < w.heap.size; omega), fun j u hu => hb4.all j u (by simpa using hu)⟩⟩
  (have y0 := hbx4.cell 0; have y1 := hbx4.cell 1; have y2 := hbx4.cell 2; have y3 := hbx4.cell 3; have yf0 := hbx4.frozen 0; have yf1 := hbx4.frozen 1; have yf2 := hbx4.frozen 2; have yf3 := hbx4.frozen 3; simp only [List.getElem?_toArray, List.getElem?_cons_zero, List.getElem?_cons_succ] at y0 y1 y2 y3)
  have hns : ¬ ((X w.heap.size ∧ w.heap.size < w.heap.size) ∨ w4.heap.size ≤ w.heap.size) := fun hn => hn.elim (fun h => absurd h.2 (Nat.lt_irrefl _)) (fun h => by omega)
  go_wp2_with fail
  (refine T_begin (fun b => (X b ∧ b < w.heap.size) ∨ w4.heap.size ≤ b) [0, 1, 2, 3, 4, 5, 6] [5] (by kernel_rfl) (by kernel_rfl) ?_; simp only [pickOps, List.filterMap_cons, List.filterMap_nil, List.getElem?_cons_zero, List.getElem?_cons_succ, Act.put])
  (first | (refine T_skip (by rfl) (by rfl) (fun _ _ _ h => h) ?_; try simp only [Act.put, List.setIfInBounds_toArray, List.set_cons_zero, List.set_cons_succ]) | (refine T_pass (by rfl) (by rfl) ?_; try simp only [Act.put, List.setIfInBounds_toArray, List.set_cons_zero, List.set_cons_succ]) | (refine T_load (by assumption) (by rfl) (by rfl) (fun _ _ _ _ h => h) rfl rfl (by assumption) (by first | exact (fun hn => hn) | assumption) ?_; try simp only [Act.put, List.setIfInBounds_toArray, List.set_cons_zero, List.set_cons_succ]) | (refine T_nil (by rfl) (by rfl) (fun _ _ _ _ h => h) rfl rfl ?_; try simp only [Act.put, List.setIfInBounds_toArray, List.set_cons_zero, List.set_cons_succ]) | (refine T_quietN (by rfl) (by rfl) (by rfl) (by rfl) (fun _ _ _ _ h => h) (fun K hK => ?_); go_big_quiet_op; refine hK _ ?_; clear hK K) | (refine T_two (by rfl) (by rfl) (by rfl) (by rfl) (fun _ _ _ _ h => h) (fun K hK => ?_); go_big_quiet_op; refine ⟨_, fun _ _ => rfl, ?_⟩; refine hK _ ?_; clear hK K; try simp only [Act.put, List.setIfInBounds_toArray, List.set_cons_zero, List.set_cons_succ]) | fail)
  (first | (refine T_skip (by rfl) (by rfl) (fun _ _ _ h => h) ?_; try simp only [Act.put, List.setIfInBounds_toArray, List.set_cons_zero, List.set_cons_succ]) | (refine T_pass (by rfl) (by rfl) ?_; try simp only [Act.put, List.setIfInBounds_toArray, List.set_cons_zero, List.set_cons_succ]) | (refine T_load (by assumption) (by rfl) (by rfl) (fun _ _ _ _ h => h) rfl rfl (by assumption) (by first | exact (fun hn => hn) | assumption) ?_; try simp only [Act.put, List.setIfInBounds_toArray, List.set_cons_zero, List.set_cons_succ]) | (refine T_nil (by rfl) (by rfl) (fun _ _ _ _ h => h) rfl rfl ?_; try simp only [Act.put, List.setIfInBounds_toArray, List.set_cons_zero, List.set_cons_succ]) | (refine T_quietN (by rfl) (by rfl) (by rfl) (by rfl) (fun _ _ _ _ h => h) (fun K hK => ?_); go_big_quiet_op; refine hK _ ?_; clear hK K) | (refine T_two (by rfl) (by rfl) (by rfl) (by rfl) (fun _ _ _ _ h => h) (fun K hK => ?_); go_big_quiet_op; refine ⟨_, fun _ _ => rfl, ?_⟩; refine hK _ ?_; clear hK K; try simp only [Act.put, List.setIfInBounds_toArray, List.set_cons_zero, List.set_cons_succ]) | fail)
  (refine T_load g1 (by rfl) (by rfl) (fun _ _ _ _ h => h) rfl rfl y0 hns ?_; try simp only [Act.put, List.setIfInBounds_toArray, List.set_cons_zero, List.set_cons_succ])
  (first | (refine T_skip (by rfl) (by rfl) (fun _ _ _ h => h) ?_; try simp only [Act.put, List.setIfInBounds_toArray, List.set_cons_zero, List.set_cons_succ]) | (refine T_pass (by rfl) (by rfl) ?_; try simp only [Act.put, List.setIfInBounds_toArray, List.set_cons_zero, List.set_cons_succ]) | (refine T_load (by assumption) (by rfl) (by rfl) (fun _ _ _ _ h => h) rfl rfl (by assumption) (by first | exact (fun hn => hn) | assumption) ?_; try simp only [Act.put, List.setIfInBounds_toArray, List.set_cons_zero, List.set_cons_succ]) | (refine T_nil (by rfl) (by rfl) (fun _ _ _ _ h => h) rfl rfl ?_; try simp only [Act.put, List.setIfInBounds_toArray, List.set_cons_zero, List.set_cons_succ]) | (refine T_quietN (by rfl) (by rfl) (by rfl) (by rfl) (fun _ _ _ _ h => h) (fun K hK => ?_); go_big_quiet_op; refine hK _ ?_; clear hK K) | (refine T_two (by rfl) (by rfl) (by rfl) (by rfl) (fun _ _ _ _ h => h) (fun K hK => ?_); go_big_quiet_op; refine ⟨_, fun _ _ => rfl, ?_⟩; refine hK _ ?_; clear hK K; try simp only [Act.put, List.setIfInBounds_toArray, List.set_cons_zero, List.set_cons_succ]) | fail)
  (first | (refine T_skip (by rfl) (by rfl) (fun _ _ _ h => h) ?_; try simp only [Act.put, List.setIfInBounds_toArray, List.set_cons_zero, List.set_cons_succ]) | (refine T_pass (by rfl) (by rfl) ?_; try simp only [Act.put, List.setIfInBounds_toArray, List.set_cons_zero, List.set_cons_succ]) | (refine T_load (by assumption) (by rfl) (by rfl) (fun _ _ _ _ h => h) rfl rfl (by assumption) (by first | exact (fun hn => hn) | assumption) ?_; try simp only [Act.put, List.setIfInBounds_toArray, List.set_cons_zero, List.set_cons_succ]) | (refine T_nil (by rfl) (by rfl) (fun _ _ _ _ h => h) rfl rfl ?_; try simp only [Act.put, List.setIfInBounds_toArray, List.set_cons_zero, List.set_cons_succ]) | (refine T_quietN (by rfl) (by rfl) (by rfl) (by rfl) (fun _ _ _ _ h => h) (fun K hK => ?_); go_big_quiet_op; refine hK _ ?_; clear hK K) | (refine T_two (by rfl) (by rfl) (by rfl) (by rfl) (fun _ _ _ _ h => h) (fun K hK => ?_); go_big_quiet_op; refine ⟨_, fun _ _ => rfl, ?_⟩; refine hK _ ?_; clear hK K; try simp only [Act.put, List.setIfInBounds_toArray, List.set_cons_zero, List.set_cons_succ]) | fail)
  try rw [HK.out]
  try rw [HK2.out]
  (refine T_call (by rfl) (by rfl) (fun K hK => ?_); go_wp2_with fail)
  refine (safely_calls _ _ H d k [hB] (some ⟨gs, 0, none⟩) 128 (hd5.fr0 (Fr.refl No w4).drew) (hrd4.drew) (fun s hs => by rw [List.mem_singleton.1 hs]; exact hlb) (Nat.le_refl 128) (by decide) (Nat.le_refl 1) hk1 hway hleft).mono ?_
  rintro e w9 ⟨he9, hd9, hf9⟩
  obtain ⟨en, HEN⟩ : ∃ en : Int, Hid (en = if (safelyM d k [hB]).2 = true then 0 else 14) := ⟨_, Lib.hid rfl⟩
  rw [← HEN.out] at he9
  subst he9
  go_wp2_with fail
  (refine hK.out _ _ (hf9.mono (fun b _ hb => .inl hb)) ?_; clear hK K; try simp only [Act.put, List.setIfInBounds_toArray, List.set_cons_zero, List.set_cons_succ])
  (first | (refine T_skip (by rfl) (by rfl) (fun _ _ _ h => h) ?_; try simp only [Act.put, List.setIfInBounds_toArray, List.set_cons_zero, List.set_cons_succ]) | (refine T_pass (by rfl) (by rfl) ?_; try simp only [Act.put, List.setIfInBounds_toArray, List.set_cons_zero, List.set_cons_succ]) | (refine T_load (by assumption) (by rfl) (by rfl) (fun _ _ _ _ h => h) rfl rfl (by assumption) (by first | exact (fun hn => hn) | assumption) ?_; try simp only [Act.put, List.setIfInBounds_toArray, List.set_cons_zero, List.set_cons_succ]) | (refine T_nil (by rfl) (by rfl) (fun _ _ _ _ h => h) rfl rfl ?_; try simp only [Act.put, List.setIfInBounds_toArray, List.set_cons_zero, List.set_cons_succ]) | (refine T_quietN (by rfl) (by rfl) (by rfl) (by rfl) (fun _ _ _ _ h => h) (fun K hK => ?_); go_big_quiet_op; refine hK _ ?_; clear hK K) | (refine T_two (by rfl) (by rfl) (by rfl) (by rfl) (fun _ _ _ _ h => h) (fun K hK => ?_); go_big_quiet_op; refine ⟨_, fun _ _ => rfl, ?_⟩; refine hK _ ?_; clear hK K; try simp only [Act.put, List.setIfInBounds_toArray, List.set_cons_zero, List.set_cons_succ]) | fail)
  refine T_done ?_
  go_wp2_with fail
  go_ret
  rw [hlm]
  refine ⟨by rw [← HEN.out]; rfl, hd9.mono (fun b _ hb => hb.elim (fun h => .inl h.1) (fun h => .inr (Nat.le_trans hF4.size h))), (hF4.mono (T := X) (fun _ _ hn => hn.elim)).trans ((Fr.refl _ w4).drew.trans hf9 (fun _ _ hb => hb)) (fun b _ hb => hb.1)⟩
end Go.Proofs.YtannkgglgmbkdaaDoor
