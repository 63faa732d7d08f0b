/- rc's greater, and where a Bag's first greater value stands. No condition. slices.Insert of one value into a row of the call's own. No condition but size. slices.Insert of one value into a row without room. No condition but size. slices.Delete of one value out of a row of the call's own. No condition but size. rc.put in full: a Bag has a value more, or less. No condition but size. rc.Replay over a Bag, and over an object of another class. No condition but size. How often a number is in a Bag: plainly, and lapidarylaw16.count. No condition. -/
import Derived.Test.YtgchpfennbggoaaJRRcOrderp3
import Derived.Lib.Overlaps
import Derived.Lib.AppendZerosOnto
namespace Go.Proofs.Ytgchpfennbggoaa
set_option linter.unusedVariables false
set_option linter.unusedSimpArgs false
open Go.RowKit

def gtV (a b : VL) : Bool := decide (b.k < a.k) || (a.k == b.k && decide (b.n < a.n))
set_option maxHeartbeats 1000000 in
theorem greater_calls (a b : VL) (w : World) :
    Calls Try.prog 47 #[.agg #[.int .i64 a.k, .int .i64 a.n], .agg #[.int .i64 b.k, .int .i64 b.n]] w fun e w' => e = .returned (.bool (gtV a b)) ∧ Fr No w w' := by
  obtain ⟨ak, an⟩ := a
  obtain ⟨bk, bn⟩ := b
  have hf : Fr No w ((w.alloc (.cells #[.int .i64 ak, .int .i64 an] 30)).alloc (.cells #[.int .i64 bk, .int .i64 bn] 30)) := ((Fr.refl No w).alloc _).alloc _
  unfold gtV
  simp only
  by_cases h1 : bk < ak
  · have e1 : decide (bk < ak) = true := by simpa using h1
    rw [e1, Bool.true_or]
    clear h1
    go_enter Try.func47, Try.ntmps47
    go_wp2
    go_ret
    exact ⟨rfl, hf⟩
  · have e1 : decide (bk < ak) = false := by simpa using h1
    rw [e1, Bool.false_or]
    by_cases h2 : ak = bk
    · subst h2
      clear h1
      rw [beq_self_eq_true, Bool.true_and]
      go_enter Try.func47, Try.ntmps47
      go_wp2
      go_ret
      exact ⟨rfl, hf⟩
    · have e2 : (ak == bk) = false := by simpa using h2
      rw [e2, Bool.false_and]
      clear h1 h2
      go_enter Try.func47, Try.ntmps47
      go_wp2
      go_ret
      exact ⟨rfl, hf⟩
theorem ld_val {w : World} {g : Nat} {v : VL} {t : TypeId} (h : Blk w g t #[.int .i64 v.k, .int .i64 v.n]) : ∀ j u, [Value.int .i64 v.k, Value.int .i64 v.n][j]? = some u → w.cell? ((⟨g, 0, none⟩ : Addr).add j) = some u := h.all
abbrev closG (g : Nat) : Value := .func (.func 46) #[] #[.pointer (some ⟨g, 0, none⟩)]
set_option maxHeartbeats 1000000 in
theorem above_calls (x v : VL) (g : Nat) (w : World) (hb : Blk w g 30 #[.int .i64 v.k, .int .i64 v.n]) :
    Calls Try.prog 46 #[.agg #[.int .i64 x.k, .int .i64 x.n], .pointer (some ⟨g, 0, none⟩)] w fun e w' => e = .returned (.bool (gtV x v)) ∧ Fr No w w' := by
  have hf : Fr No w (w.alloc (.cells #[.int .i64 x.k, .int .i64 x.n] 30)) := (Fr.refl No w).alloc _
  have hx := Blk.new w 30 #[.int .i64 x.k, .int .i64 x.n]
  have hv := hb.fr0 hf
  go_enter Try.func46, Try.ntmps46
  go_wp2_with (first
    | (refine wpList_ldA ag_val rfl _ rfl ⟨w.heap.size, 0, none⟩ [.int .i64 x.k, .int .i64 x.n] rfl rfl hx.all ?_)
    | (refine wpList_ldA ag_val rfl _ rfl ⟨g, 0, none⟩ [.int .i64 v.k, .int .i64 v.n] rfl rfl hv.all ?_)
    | fail)
  refine (greater_calls x v _).mono ?_
  rintro e w2 ⟨rfl, hf2⟩
  go_wp2
  go_ret
  exact ⟨rfl, hf.tr hf2⟩
/-- Where the first greater value stands; -1 if there is none. -/
def placeZ (l : List VL) (v : VL) : Int := if l.findIdx (gtV · v) < l.length then ((l.findIdx (gtV · v) : Nat) : Int) else -1
set_option maxHeartbeats 1000000 in
set_option maxRecDepth 100000 in
theorem find_calls (S : Nat → Prop) (A : Option Addr) (c g : Nat) (l : List VL) (v : VL) (w : World) (h : RdV w S A l) (hb : Blk w g 30 #[.int .i64 v.k, .int .i64 v.n]) :
    Calls Try.prog 45 #[.slice A l.length c, closG g] w fun e w' => e = .returned (.int .i64 (placeZ l v)) ∧ Fr No w w' := by
  have hle := h.le
  go_enter Try.func45, Try.ntmps45
  go_wp2_with fail
  go_loopw [8] (fun i wr => ∃ k : Nat, k ≤ l.length ∧ i = .int .i64 (k : Int) ∧ Hid (∀ i, ∀ hi : i < l.length, i < k → gtV l[i] v = false) ∧ Fr No w wr) (fun i _ => l.length - (intOf i).toNat)
  case atStart => exact ⟨0, by omega, rfl, Lib.hid (fun i _ h => by omega), Fr.refl _ _⟩
  case round =>
    obtain ⟨k, hk, rfl, HN, hf⟩ := hrel
    by_cases hlt : k < l.length
    · have ek : decide ((k : Int) < l.length) = true := by simpa using (by omega : (k : Int) < l.length)
      obtain ⟨ga, of, rfl, _, _, _, hv'⟩ := RdV.at_ (Rd.fr0 h hf) hlt
      have HE := Lib.hid (show gtV l[k] v = true → placeZ l v = (k : Int) by
        intro ht
        have hfi : l.findIdx (gtV · v) = k := by
          refine (List.findIdx_eq hlt).2 ⟨ht, fun j hj => ?_⟩
          exact HN.out j (by omega) hj
        unfold placeZ
        rw [hfi, if_pos hlt])
      have HF := Lib.hid (show gtV l[k] v = false → ∀ i, ∀ hi : i < l.length, i < k + 1 → gtV l[i] v = false by
        intro ht i hi hik
        rcases Nat.lt_or_ge i k with h5 | h5
        · exact HN.out i hi h5
        · obtain rfl : i = k := by omega
          exact ht)
      generalize l[k] = x at *
      unfold vcells at hv'
      go_wp2_with (first
        | (refine wpList_ldA ag_val rfl _ rfl ⟨ga, of + k * 2, none⟩ [.int .i64 x.k, .int .i64 x.n] rfl rfl hv' ?_)
        | fail)
      refine (above_calls x v g _ (hb.fr0 hf)).mono ?_
      rintro e w2 ⟨rfl, hf2⟩
      cases hg : gtV x v with
      | true =>
        have HE' := Lib.hid (HE.out hg)
        clear hg
        go_wp2
        go_ret
        exact ⟨by rw [HE'.out]; rfl, hf.tr hf2⟩
      | false =>
        have HF' := Lib.hid (HF.out hg)
        clear hg
        go_wp2
        go_roundw
        case rel => exact ⟨k + 1, by omega, by go_num, HF', hf.tr hf2⟩
        case measure => simp [intOf]; omega
    · obtain rfl : k = l.length := by omega
      have ek : decide ((l.length : Int) < l.length) = false := by simp
      have HE := Lib.hid (show placeZ l v = -1 by
        unfold placeZ
        rw [if_neg]
        intro hlt
        have := List.findIdx_getElem (w := hlt)
        rw [HN.out _ hlt hlt] at this
        cases this)
      go_wp2
      go_ret
      exact ⟨by rw [HE.out]; rfl, hf⟩
end Go.Proofs.Ytgchpfennbggoaa
namespace Go.Proofs.Ytgchpfennbggoaa
set_option linter.unusedVariables false
set_option linter.unusedSimpArgs false
open Go.RowKit

set_option maxHeartbeats 2000000 in
set_option maxRecDepth 100000 in
/-- At the end: an append. -/
theorem insert_end (S : Nat → Prop) (B : Nat) (A : Option Addr) (c gv : Nat) (l : List VL) (x : VL) (w : World) (h : w.ownsRow B 30 2 (.slice A l.length c) l.length (vals l)) (hB : B ≤ w.heap.size) (hl : l.length ≤ 1048576) (hx : Rd w S 2 (some ⟨gv, 0, none⟩) 1 (vcells x)) :
    Calls Try.prog 48 #[.slice A l.length c, .int .i64 (l.length : Int), .slice (some ⟨gv, 0, none⟩) 1 1] w fun e w' => ∃ v', e = .returned v' ∧ w'.ownsRow B 30 2 v' (l.length + 1) (vals (l ++ [x])) ∧ w.grownBy w' (A.map (·.block)) ∧ (v'.ownBlock = A.map (·.block) ∨ v'.ownBlock = some w.heap.size) := by
  have eo : ∀ n c, (Value.slice A n c).ownBlock = A.map (·.block) := by intros; cases A <;> rfl
  have EO := Lib.hid eo
  clear eo
  go_enter Try.func48, Try.ntmps48
  obtain ⟨_, _, e9, hcl, hcm, _⟩ := own_form h
  injection e9 with e91 e92 e93
  subst e91 e93
  have HH := Lib.hid h
  clear h
  go_wp2_with (first
    | (refine wpList_app_hid so_val rfl HH.out hx (by intro u hu; simp [vcells] at hu; rcases hu with rfl | rfl <;> rfl) (by omega) hB rfl rfl rfl ?_; intro v5 w5 hown5 hg5 hat5)
    | fail)
  all_goals
    go_ret
    have ht := hat5.out
    rw [EO.out] at hg5 ht
    refine ⟨v5, rfl, ?_, hg5, ht⟩
    rw [vals_append]
    exact hown5
theorem splice_ins (cur : Array Value) (a v d : List Value) (k2 : Nat) (ha : a.length = k2) (hv : v.length = 2) (hcur : cur.toList.take (k2 + d.length) = a ++ d) (hsz : k2 + 2 + d.length ≤ cur.size) :
    (splice (splice cur (k2 + 2) d) k2 v).toList.take (k2 + 2 + d.length) = a ++ v ++ d := by
  obtain ⟨r, hr⟩ : ∃ r, r = cur.toList.drop (k2 + d.length) := ⟨_, rfl⟩
  have e : cur.toList = a ++ (d ++ r) := by rw [hr, ← List.append_assoc, ← hcur, List.take_append_drop]
  have hcl : cur.toList.length = cur.size := by simp
  have hlen : d.length + r.length = cur.size - k2 := by rw [← hcl, e]; simp; omega
  have h1 : cur.toList.take (k2 + 2) = a ++ (d ++ r).take 2 := by rw [e, ← ha, List.take_length_add_append]
  have ht : ((d ++ r).take 2).length = 2 := by simp; omega
  generalize (d ++ r).take 2 = t at *
  generalize hr' : cur.toList.drop (k2 + 2 + d.length) = r'
  have hs1 : (splice cur (k2 + 2) d).toList = a ++ (t ++ (d ++ r')) := by
    show cur.toList.take (k2 + 2) ++ d ++ cur.toList.drop (k2 + 2 + d.length) = _
    rw [h1, hr']; simp
  show ((splice cur (k2 + 2) d).toList.take k2 ++ v ++ (splice cur (k2 + 2) d).toList.drop (k2 + v.length)).take _ = _
  rw [hs1, hv]
  have h3 : (a ++ (t ++ (d ++ r'))).take k2 = a := by rw [← ha, List.take_left]
  have h4 : (a ++ (t ++ (d ++ r'))).drop (k2 + 2) = d ++ r' := by rw [← ha, List.drop_length_add_append, ← ht, List.drop_left]
  rw [h3, h4]
  have h5 : a ++ v ++ (d ++ r') = (a ++ v ++ d) ++ r' := by simp
  have h6 : (a ++ v ++ d).length = k2 + 2 + d.length := by simp; omega
  rw [h5, ← h6, List.take_left]
set_option maxHeartbeats 4000000 in
set_option maxRecDepth 100000 in
/-- There is room. -/
theorem insert_room (S : Nat → Prop) (B g c gv k : Nat) (l : List VL) (x : VL) (cur : Array Value) (w : World) (hg : w.heap[g]? = some (.cells cur 30 (0, 0))) (hc : cur.size = c * 2) (hcm : c ≤ maxLen) (hcur : cur.toList.take (l.length * 2) = vals l) (hroom : l.length + 1 ≤ c) (hk : k < l.length) (hl : l.length ≤ 1048576) (hbv : Blk w gv 30 (vcells x).toArray) (hne : gv ≠ g) :
    Calls Try.prog 48 #[.slice (some ⟨g, 0, none⟩) l.length c, .int .i64 (k : Int), .slice (some ⟨gv, 0, none⟩) 1 1] w fun e w' => ∃ cs, e = .returned (.slice (some ⟨g, 0, none⟩) (l.length + 1) c) ∧ w'.heap[g]? = some (.cells cs 30 (0, 0)) ∧ cs.size = cur.size ∧ cs.toList.take ((l.length + 1) * 2) = vals (l.take k ++ x :: l.drop k) ∧ w.grownBy w' (some g) := by
  have e1 : ((k : Int) == l.length) = false := by simp; omega
  have e2 : decide ((c : Int) < (l.length : Int) + 1) = false := by simp; omega
  obtain ⟨i0, hi0, hz0, hz1, hz2⟩ := info_parts so_val.info
  have hsz : ∀ w, (Go.sizeOf 30).run Try.prog w = .ok 2 w := fun w => by simp [Go.sizeOf, typeInfo, hi0, hz1]
  have hov : ∀ lb cb, (callFunc 61 #[.slice (some ⟨gv, 0, none⟩) 1 1, .slice (some ⟨g, (k + 1) * 2, none⟩) lb cb]).run Try.prog w = .ok (.value (.bool false)) w := fun lb cb => by
    rw [run_callFunc_extern Try.func61 (by kernel_rfl) (by kernel_rfl) (by kernel_rfl) (e := Extern.SlicesOverlaps.overlaps #[22, 22] #[4]) (by kernel_rfl),
      Lib.run_overlaps_apart w 22 4 30 Try.underlying22 2 hsz ⟨gv, 0, none⟩ ⟨g, (k + 1) * 2, none⟩ 1 1 lb cb hne 30 30 2 (c * 2) (by unfold Blk at hbv; simp [World.shape?, hbv, vcells]) (by simp [World.shape?, hg, hc]) (by omega) (hbv.frozen 0) (hbv.frozen 2)]
    rfl
  clear hi0 hz0 hz1 hz2 hsz
  go_enter Try.func48, Try.ntmps48
  go_wp2_with (simp only [hov])
  have hbg : Blk w g 30 cur := hg
  have hlv : (vals (l.drop k)).length = (l.length - k) * 2 := by rw [vals_len, List.length_drop]
  have hmin : min (l.length + 1 - k) (l.length - k) = l.length - k := by omega
  have HC := Lib.hid (show ∀ j u, (vals (l.drop k))[j]? = some u → w.cell? ((⟨g, k * 2, none⟩ : Addr).add j) = some u from hbg.cells (k * 2) _ (fun j u hu => by
    have hj := (List.getElem?_eq_some_iff.1 hu).1
    have e : vals l = vals (l.take k) ++ vals (l.drop k) := by rw [← vals_append, List.take_append_drop]
    have hl3 : (vals (l.take k)).length = k * 2 := by rw [vals_len, List.length_take, Nat.min_eq_left (by omega)]
    have h2 : (vals l)[k * 2 + j]? = some u := by rw [e, List.getElem?_append_right (by omega), hl3, Nat.add_sub_cancel_left]; exact hu
    rw [← hcur, List.getElem?_take_of_lt (by omega)] at h2
    simpa using h2))
  clear hov
  refine T_begin2 No [8] [0, 1, 2, 3, 4, 5, 6, 7, 8] [8] (by kernel_rfl) (by kernel_rfl) ?_
  simp only [pickOps, List.filterMap_cons, List.filterMap_nil, List.getElem?_cons_zero, List.getElem?_cons_succ, Act.put]
  repeat (first | (refine T_skip (by rfl) (by rfl) (fun _ _ _ h => h) ?_; try simp only [Act.put, List.setIfInBounds_toArray, List.set_cons_zero, List.set_cons_succ]) | (refine T_pass (by rfl) (by rfl) ?_; try simp only [Act.put, List.setIfInBounds_toArray, List.set_cons_zero, List.set_cons_succ]) | (refine T_load (by assumption) (by rfl) (by rfl) (fun _ _ _ _ h => h) rfl rfl (by assumption) (by first | exact (fun hn => hn) | assumption) ?_; try simp only [Act.put, List.setIfInBounds_toArray, List.set_cons_zero, List.set_cons_succ]) | (refine T_nil (by rfl) (by rfl) (fun _ _ _ _ h => h) rfl rfl ?_; try simp only [Act.put, List.setIfInBounds_toArray, List.set_cons_zero, List.set_cons_succ]) | (refine T_quietN (by rfl) (by rfl) (by rfl) (by rfl) (fun _ _ _ _ h => h) (fun K hK => ?_); go_big_quiet_op; refine hK _ ?_; clear hK K) | (refine T_two (by rfl) (by rfl) (by rfl) (by rfl) (fun _ _ _ _ h => h) (fun K hK => ?_); go_big_quiet_op; refine ⟨_, fun _ _ => rfl, ?_⟩; refine hK _ ?_; clear hK K; try simp only [Act.put, List.setIfInBounds_toArray, List.set_cons_zero, List.set_cons_succ]) | fail)
  refine T_turn No [] (by rfl) (by rfl) (by rfl) (fun K hK => ?_)
  refine wp_copyB so_val rfl hbg (cs := vals (l.drop k)) (ad := ⟨g, k * 2, none⟩) ?ha HC.out (vals_one _) rfl rfl ?hb ?hc
  case ha => rw [hlv]; congr 1; omega
  case hb => omega
  intro w2 hb2 hg2 hz2
  refine hK.out _ _ ?_
  clear hK K
  try simp only [Act.put, List.setIfInBounds_toArray, List.set_cons_zero, List.set_cons_succ]
  refine T_done ?_
  have hbv2 : Blk w2 gv 30 (vcells x).toArray := Blk.grown hbv.drew hg2 (fun e => hne (Option.some.inj e))
  have hs2 : (splice cur ((k + 1) * 2) (vals (l.drop k))).size = cur.size := splice_size _ _ _ (by omega)
  go_wp2_with (first
    | (refine wpList_copyA so_val rfl rfl hb2 (hbv2.rd (size := 2) (n := 1) (by rfl) (by decide)) (by intro u hu; simp [vcells] at hu; rcases hu with rfl | rfl <;> rfl) rfl rfl (by omega) ?_; intro w3 hb3 hg3 hz3)
    | fail)
  have hm1 : min 1 (l.length + 1 - k) = 1 := by omega
  have hv2 : (vcells x).take (1 * 2) = vcells x := rfl
  rw [hm1, hv2] at hb3
  have hl3 : (vals (l.take k)).length = k * 2 := by rw [vals_len, List.length_take, Nat.min_eq_left (by omega)]
  have hlaw := splice_ins cur (vals (l.take k)) (vcells x) (vals (l.drop k)) (k * 2) hl3 rfl (by rw [hlv, ← vals_append, List.take_append_drop, ← hcur]; congr 1; omega) (by omega)
  rw [hlv, show k * 2 + 2 + (l.length - k) * 2 = (l.length + 1) * 2 by omega, show k * 2 + 2 = (k + 1) * 2 by omega] at hlaw
  have hs3 : (splice (splice cur ((k + 1) * 2) (vals (l.drop k))) (k * 2) (vcells x)).size = c * 2 := by
    rw [splice_size _ _ _ (by have : (vcells x).length = 2 := rfl; omega), hs2, hc]
  go_ret
  refine ⟨rfl, _, hb3, hs3, ?_, ?_⟩
  · rw [hlaw, vals_append, vals_cons]; simp
  · exact ⟨hg3.os.trans hg2.os, hg3.tape.trans hg2.tape, hg3.output.trans hg2.output, Nat.le_trans hg2.size hg3.size, fun i hi hn => (hg3.block i (Nat.lt_of_lt_of_le hi hg2.size) hn).trans (hg2.block i hi hn)⟩
end Go.Proofs.Ytgchpfennbggoaa
namespace Go.Proofs.Ytgchpfennbggoaa
set_option linter.unusedVariables false
set_option linter.unusedSimpArgs false
open Go.RowKit

theorem splice_grow (cur : Array Value) (a v d : List Value) (k2 : Nat) (ha : a.length = k2) (hv : v.length = 2) (hcur : cur.toList.take k2 = a) (hsz : k2 + 2 + d.length ≤ cur.size) :
    (splice (splice cur k2 v) (k2 + 2) d).toList.take (k2 + 2 + d.length) = a ++ v ++ d := by
  obtain ⟨r, hr⟩ : ∃ r, r = cur.toList.drop (k2 + 2) := ⟨_, rfl⟩
  have hs1 : (splice cur k2 v).toList = a ++ (v ++ r) := by
    show cur.toList.take k2 ++ v ++ cur.toList.drop (k2 + v.length) = _
    rw [hcur, hv, hr]; simp
  show ((splice cur k2 v).toList.take (k2 + 2) ++ d ++ (splice cur k2 v).toList.drop (k2 + 2 + d.length)).take _ = _
  rw [hs1]
  have h3 : (a ++ (v ++ r)).take (k2 + 2) = a ++ v := by
    rw [← List.append_assoc, show k2 + 2 = (a ++ v).length by simp; omega, List.take_left]
  rw [h3]
  have h6 : (a ++ v ++ d).length = k2 + 2 + d.length := by simp; omega
  rw [← h6, List.take_left]
set_option maxHeartbeats 4000000 in
set_option maxRecDepth 100000 in
theorem insert_grow (B g c gv k : Nat) (l : List VL) (x : VL) (cur : Array Value) (w : World) (hg : Blk w g 30 cur) (hc : cur.size = c * 2) (hcm : c ≤ maxLen) (hcur : cur.toList.take (l.length * 2) = vals l) (hfull : l.length = c) (hk : k < l.length) (hl : l.length ≤ 1048576) (hbv : Blk w gv 30 (vcells x).toArray) (hne : gv ≠ g) :
    Calls Try.prog 48 #[.slice (some ⟨g, 0, none⟩) l.length c, .int .i64 (k : Int), .slice (some ⟨gv, 0, none⟩) 1 1] w fun e w' => ∃ cs c2, e = .returned (.slice (some ⟨w.heap.size, 0, none⟩) (l.length + 1) c2) ∧ Blk w' w.heap.size 30 cs ∧ cs.size = c2 * 2 ∧ l.length + 1 ≤ c2 ∧ c2 ≤ maxLen ∧ cs.toList.take ((l.length + 1) * 2) = vals (l.take k ++ x :: l.drop k) ∧ Fr No w w' := by
  have hfit : l.length + 1 > c := by omega
  have HFULL := Lib.hid hfull
  clear hfull
  obtain ⟨i0, hi0, hz0, hz1, hz2⟩ := info_parts so_val.info
  have hl3 : (vals (l.take k)).length = k * 2 := by rw [vals_len, List.length_take, Nat.min_eq_left (by omega)]
  have hold : (Builtin.firstCells i0.size k (.slice (some ⟨g, 0, none⟩) k c)).run Try.prog w.drew = .ok (vals (l.take k)).toArray w.drew := by
    rw [hz1]
    refine run_firstCells_some w.drew 2 k ⟨g, 0, none⟩ k c (vals (l.take k)) (by rw [hl3]) (hg.cells 0 _ (fun j u hu => ?_))
    have hj := (List.getElem?_eq_some_iff.1 hu).1
    have e : vals l = vals (l.take k) ++ vals (l.drop k) := by rw [← vals_append, List.take_append_drop]
    have h2 : (vals l)[j]? = some u := by rw [e, List.getElem?_append_left hj]; exact hu
    rw [← hcur, List.getElem?_take_of_lt (by omega)] at h2
    rw [Nat.zero_add]; simpa using h2
  have hrz : ∀ ty, (Builtin.append_ #[22, 3] ty #[.slice (some ⟨g, 0, none⟩) k c, .int .i64 ((l.length + 1 - k : Nat) : Int)]).run Try.prog w = _ := fun ty =>
    Lib.run_append_grow_zeros w 22 3 ty 30 i0 _ .i64 .i64 Try.underlying22 Try.underlying3 hi0 hz0 (some ⟨g, 0, none⟩) k c (vals (l.take k)) hold (l.length + 1 - k) (by omega) (by omega) (by omega) (by omega) (by rw [hz2]; omega) (by rw [hz2]; exact growslice_fits (by omega) (by omega))
  rw [show ((l.length + 1 - k : Nat) : Int) = (l.length : Int) + 1 - k by omega, show k + (l.length + 1 - k) = l.length + 1 by omega] at hrz
  have e1 : ((k : Int) == l.length) = false := by simp; omega
  have e2 : decide ((c : Int) < (l.length : Int) + 1) = true := by simp; omega
  have HR := Lib.hid hrz
  have hck : ¬ (c = k) := by have := HFULL.out; omega
  have hkc : k ≤ c := by have := HFULL.out; omega
  clear hold hi0 hz0 hz1 hz2 hfit hrz
  go_enter Try.func48, Try.ntmps48
  go_upto_region 9 with fail
  have hrz := HR.out
  go_upto_region 10 with (first | (refine Lib.wpList_append_run _ rfl _ _ _ _ rfl _ _ rfl rfl _ _ (hrz _) ?_) | fail)
  have hCge := grownCap_ge w (l.length + 1) c 30
  have hCle := grownCap_le_maxLen w (l.length + 1) c 30 (by simp only [maxLen]; omega)
  generalize grownCap w (l.length + 1) c 30 = C at *
  obtain ⟨cur2, hcur2⟩ : ∃ cur2 : Array Value, cur2 = (vals (List.take k l)).toArray ++ (Builtin.zeroCells #[Value.int IntKind.i64 0, Value.int IntKind.i64 0] (l.length + 1 - k) ++ Builtin.zeroCells #[Value.int IntKind.i64 0, Value.int IntKind.i64 0] (C - (l.length + 1))) := ⟨_, rfl⟩
  rw [← hcur2]
  have hsz2 : cur2.size = C * 2 := by
    rw [hcur2]
    simp only [Array.size_append, List.size_toArray, hl3, size_zeroCells]
    simp only [List.size_toArray, List.length_cons, List.length_nil]
    omega
  have htk2 : cur2.toList.take (k * 2) = vals (l.take k) := by
    rw [hcur2]
    simp only [Array.toList_append]
    rw [← hl3]
    exact List.take_left
  clear hcur2 hrz HR
  have hfA : Fr No w (w.alloc (.cells cur2 30)).drew := ((Fr.refl No w).alloc _).drew
  have hb2 : Blk (w.alloc (.cells cur2 30)).drew w.heap.size 30 cur2 := (Blk.new w _ cur2).drew
  have hbv2 := hbv.fr0 hfA
  have hg2 := hg.fr0 hfA
  have hglt := hg.lt
  have hgvlt := hbv.lt
  have hzA := hfA.size
  generalize (w.alloc (.cells cur2 30)).drew = w2 at *
  go_wp2_with (first
    | (refine wpList_copyA so_val rfl rfl hb2 (hbv2.rd (size := 2) (n := 1) (by rfl) (by decide)) (by intro u hu; simp [vcells] at hu; rcases hu with rfl | rfl <;> rfl) rfl rfl (by omega) ?_; intro w3 hb3 hg3 hz3)
    | fail)
  have hm1 : min 1 (l.length + 1 - k) = 1 := by omega
  have hv2 : (vcells x).take (1 * 2) = vcells x := rfl
  rw [hm1, hv2] at hb3
  have hs2 : (splice cur2 (k * 2) (vcells x)).size = C * 2 := by rw [splice_size _ _ _ (by have : (vcells x).length = 2 := rfl; omega), hsz2]
  have hg3' := Blk.grown hg2 hg3 (fun e => by injection e with e; omega)
  have hlv : (vals (l.drop k)).length = (l.length - k) * 2 := by rw [vals_len, List.length_drop]
  have HC := Lib.hid (show ∀ j u, (vals (l.drop k))[j]? = some u → w3.cell? ((⟨g, k * 2, none⟩ : Addr).add j) = some u from hg3'.cells (k * 2) _ (fun j u hu => by
    have hj := (List.getElem?_eq_some_iff.1 hu).1
    have e : vals l = vals (l.take k) ++ vals (l.drop k) := by rw [← vals_append, List.take_append_drop]
    have h2 : (vals l)[k * 2 + j]? = some u := by rw [e, List.getElem?_append_right (by omega), hl3, Nat.add_sub_cancel_left]; exact hu
    rw [← hcur, List.getElem?_take_of_lt (by omega)] at h2
    simpa using h2))
  have hck1 : ¬ (C = k + 1) := by omega
  have hck2 : ¬ (C = 1 + k) := by omega
  refine T_begin2 No [8] [0, 1, 2, 3, 4, 5, 6, 7, 8] [8] (by kernel_rfl) (by kernel_rfl) ?_
  simp only [pickOps, List.filterMap_cons, List.filterMap_nil, List.getElem?_cons_zero, List.getElem?_cons_succ, Act.put]
  repeat (first | (refine T_skip (by rfl) (by rfl) (fun _ _ _ h => h) ?_; try simp only [Act.put, List.setIfInBounds_toArray, List.set_cons_zero, List.set_cons_succ]) | (refine T_pass (by rfl) (by rfl) ?_; try simp only [Act.put, List.setIfInBounds_toArray, List.set_cons_zero, List.set_cons_succ]) | (refine T_load (by assumption) (by rfl) (by rfl) (fun _ _ _ _ h => h) rfl rfl (by assumption) (by first | exact (fun hn => hn) | assumption) ?_; try simp only [Act.put, List.setIfInBounds_toArray, List.set_cons_zero, List.set_cons_succ]) | (refine T_nil (by rfl) (by rfl) (fun _ _ _ _ h => h) rfl rfl ?_; try simp only [Act.put, List.setIfInBounds_toArray, List.set_cons_zero, List.set_cons_succ]) | (refine T_quietN (by rfl) (by rfl) (by rfl) (by rfl) (fun _ _ _ _ h => h) (fun K hK => ?_); go_big_quiet_op; refine hK _ ?_; clear hK K) | (refine T_two (by rfl) (by rfl) (by rfl) (by rfl) (fun _ _ _ _ h => h) (fun K hK => ?_); go_big_quiet_op; refine ⟨_, fun _ _ => rfl, ?_⟩; refine hK _ ?_; clear hK K; try simp only [Act.put, List.setIfInBounds_toArray, List.set_cons_zero, List.set_cons_succ]) | fail)
  refine T_turn No [] (by rfl) (by rfl) (by rfl) (fun K hK => ?_)
  refine wp_copyB so_val rfl hb3.drew (cs := vals (l.drop k)) (ad := ⟨g, k * 2, none⟩) ?ha HC.out (vals_one _) rfl rfl ?hb ?hc
  case ha => rw [hlv]; congr 1; omega
  case hb => omega
  intro w4 hb4 hg4 hz4
  refine hK.out _ _ ?_
  clear hK K
  try simp only [Act.put, List.setIfInBounds_toArray, List.set_cons_zero, List.set_cons_succ]
  refine T_done ?_
  have hlaw := splice_grow cur2 (vals (l.take k)) (vcells x) (vals (l.drop k)) (k * 2) hl3 rfl htk2 (by omega)
  rw [hlv, show k * 2 + 2 + (l.length - k) * 2 = (l.length + 1) * 2 by omega, show k * 2 + 2 = (k + 1) * 2 by omega] at hlaw
  have hs4 : (splice (splice cur2 (k * 2) (vcells x)) ((k + 1) * 2) (vals (l.drop k))).size = C * 2 := by
    rw [splice_size _ _ _ (by omega), hs2]
  have hF3 : Fr No w w3 := hfA.trans ((Fr.refl (fun b => b = w.heap.size) w2).grown hg3 (fun q hq => by injection hq with hq; exact .inr hq.symm)) (fun b hb hT => by omega)
  have hF4 : Fr No w w4 := (hF3.drew).trans ((Fr.refl (fun b => b = w.heap.size) w3.drew).grown hg4 (fun q hq => by injection hq with hq; exact .inr hq.symm)) (fun b hb hT => by omega)
  go_wp2_with fail
  go_ret
  refine ⟨_, C, rfl, hb4, hs4, hCge, hCle, ?_, hF4⟩
  rw [hlaw, vals_append, vals_cons]; simp
end Go.Proofs.Ytgchpfennbggoaa
namespace Go.Proofs.Ytgchpfennbggoaa
set_option linter.unusedVariables false
set_option linter.unusedSimpArgs false
open Go.RowKit

section
variable {P : Program} {t e : TypeId} {z : Value} {size bytes : Nat}
/-- 'append' where there is room, in a drawn region. -/
theorem wp_app_room {w : World} {o : Oper} {a : Act} {K : Act → World → Prop} {Q : Exit → Act → World → Prop} (he : SliceOf P t e z size bytes)
    {g n cap : Nat} {cur : Array Value} (hb : Blk w g e cur)
    {S : Nat → Prop} {A : Option Addr} {m c : Nat} {news : List Value} (hr : Rd w S size A m news) (h1 : ∀ u ∈ news, u.oneCell' = true)
    (hroom : n + m ≤ cap) (hfit : cap * size ≤ cur.size)
    {s x : Operand} (ho : o.op = .call { callee := .builtin .append, args := #[s, x], argTypes := #[t, t] })
    (hs : a.eval s = .slice (some ⟨g, 0, none⟩) n cap) (hx : a.eval x = .slice A m c)
    (h : ∀ w', Blk w' g e (splice cur (n * size) news) → w.grownBy w' (some g) → Hid (w'.heap.size = w.heap.size) → K (a.put o.dst (.slice (some ⟨g, 0, none⟩) (n + m) cap)) w') : o.wp P a w K Q := by
  obtain ⟨i, hi, hz, hsz, hby⟩ := info_parts he.info
  subst hsz hby
  unfold Oper.wp execOp
  rcases A with _ | ad
  · have hm : m = 0 := by
      rcases Nat.eq_zero_or_pos m with h0 | h0
      · exact h0
      · obtain ⟨ad, h, _⟩ := hr.2.2 h0
        cases h
    subst hm
    have hn : news = [] := List.eq_nil_of_length_eq_zero (by simpa using hr.1)
    subst hn
    have hrun : (Builtin.append_ #[t, t] o.type #[.slice (some ⟨g, 0, none⟩) n cap, .slice none 0 c]).run P w = .ok (.slice (some ⟨g, 0, none⟩) n cap) w := by
      have hroom' : n ≤ cap := by omega
      simp [Builtin.append_, run_underlying he.ut, sizeOf, typeInfo, hi, Builtin.lenOf, Builtin.firstCells, hroom', storeCells]
    simp only [ho, resolve, invoke, builtin, Sem.run_bind, Sem.run_pure, Result.andThen_ok, List.map_toArray, List.map_cons, List.map_nil, hs, hx, hrun]
    exact h w (by simpa [splice] using hb) (World.grownBy.refl w _) rfl
  · have hcells : ∀ j u, news[j]? = some u → w.cell? (ad.add j) = some u := by
      intro j u hu
      rcases Nat.eq_zero_or_pos m with h0 | h0
      · subst h0
        have hn : news = [] := List.eq_nil_of_length_eq_zero (by simpa using hr.1)
        subst hn
        simp at hu
      · obtain ⟨ad', h, _, hc⟩ := hr.2.2 h0
        injection h with h
        subst h
        exact hc j u hu
    have hfit' : n * i.size + news.length ≤ cur.size := by
      rw [hr.1, ← Nat.add_mul]
      exact Nat.le_trans (Nat.mul_le_mul_right _ hroom) hfit
    have hrun := run_append_room (P := P) w t o.type e i he.ut hi g n cap cur hb ad m c news hr.1 hcells h1 hroom hfit'
    simp only [ho, resolve, invoke, builtin, Sem.run_bind, Sem.run_pure, Result.andThen_ok, List.map_toArray, List.map_cons, List.map_nil, hs, hx, hrun]
    exact h _ (setRow_heap w g cur _ e _ hb) ⟨rfl, rfl, rfl, by simp, fun k _ hk => setRow_other w g k _ (fun e => hk (by rw [e]))⟩ (Lib.hid (by simp))
theorem run_clear1 (w : World) (he : SliceOf P t e z size bytes) (zs : List Value) (hzs : (Builtin.zeroCells z.cells 1).toList = zs) (hzl : zs.length = size) (h1 : ∀ u ∈ zs, u.oneCell' = true) (ty : TypeId) {g o c : Nat} {e' : TypeId} {cur : Array Value} (hg : Blk w g e' cur) (hfit : o + size ≤ cur.size) :
    (Builtin.clear_ #[t] ty #[.slice (some ⟨g, o, none⟩) 1 c]).run P w = .ok (.tuple #[]) (w.setRow g (cur.toList.take o ++ zs ++ cur.toList.drop (o + size)).toArray) := by
  obtain ⟨i, hi, hz, _, _⟩ := info_parts he.info
  have hzr : (zeroValue e).run P w = .ok z w := by simp [zeroValue, typeInfo, hi, hz]
  have hst := run_storeCells_at P g o e' zs 0 cur w hg (by rw [hzl]; simpa using hfit) h1
  simp only [Nat.add_zero, hzl] at hst
  simp [Builtin.clear_, run_underlying he.ut, hzr, hzs, hst]
theorem wpList_clear1 {w : World} {ops : Array Oper} {rest : List Oper} {op : Oper} {a : Act} {Q : Exit → Act → World → Prop} (he : SliceOf P t e z size bytes) (zs : List Value) (hzs : (Builtin.zeroCells z.cells 1).toList = zs) (hzl : zs.length = size) (h1 : ∀ u ∈ zs, u.oneCell' = true)
    (hw : Region.wanted op (yielded ops a.tmps) = true) {s : Operand} (ho : op.op = .call { callee := .builtin .clear, args := #[s], argTypes := #[t] }) {g o c : Nat} {e' : TypeId} {cur : Array Value}
    (hs : a.eval s = .slice (some ⟨g, o, none⟩) 1 c) (hg : Blk w g e' cur) (hfit : o + size ≤ cur.size)
    (hk : ∀ w' cs, Blk w' g e' cs → cs.size = cur.size → cs.toList.take o = cur.toList.take o → w.grownBy w' (some g) → wpList P ops Q rest (a.put op.dst (.tuple #[])) w') : wpList P ops Q (op :: rest) a w := by
  have hrun := run_clear1 (P := P) w he zs hzs hzl h1 op.type (c := c) hg hfit
  refine BigFrame.wpList_want hw fun K hK => ?_
  unfold Oper.wp execOp
  simp only [ho, resolve, invoke, builtin, Sem.run_bind, Sem.run_pure, Result.andThen_ok, List.map_toArray, List.map_cons, List.map_nil, hs, hrun]
  refine hK _ _ (hk _ _ (setRow_heap w g cur _ e' _ hg) ?_ ?_ ⟨rfl, rfl, rfl, by simp, fun k _ hk => setRow_other w g k _ (fun e => hk (by rw [e]))⟩)
  · simp only [List.size_toArray, List.length_append, List.length_take, hzl, List.length_drop, Array.length_toList]; omega
  · have hl : (cur.toList.take o).length = o := by rw [List.length_take, Array.length_toList]; omega
    show (cur.toList.take o ++ zs ++ cur.toList.drop (o + size)).take o = _
    rw [List.append_assoc, List.take_append_of_le_length (by omega), List.take_take, Nat.min_self]
end
theorem splice_del (cur : Array Value) (a d : List Value) (k2 : Nat) (ha : a.length = k2) (hcur : cur.toList.take k2 = a) (hsz : k2 + d.length ≤ cur.size) : (splice cur k2 d).toList.take (k2 + d.length) = a ++ d := by
  rw [splice_toList, hcur, List.take_append_of_le_length (by simp; omega)]
  exact List.take_of_length_le (by simp; omega)
theorem zero2 : (Builtin.zeroCells (Value.agg #[.int .i64 0, .int .i64 0]).cells 1).toList = [.int .i64 0, .int .i64 0] := by
  simp [Builtin.zeroCells, Value.cells]
  rfl
theorem zero2_one : ∀ u ∈ [Value.int .i64 0, Value.int .i64 0], u.oneCell' = true := by intro u hu; simp at hu; subst hu; rfl
set_option maxHeartbeats 4000000 in
set_option maxRecDepth 100000 in
theorem delete_calls (g c k j : Nat) (hj1 : j = k + 1) (l : List VL) (cur : Array Value) (w : World) (hg : Blk w g 30 cur) (hc : cur.size = c * 2) (hcm : c ≤ maxLen) (hcur : cur.toList.take (l.length * 2) = vals l) (hk : k < l.length) (hlc : l.length ≤ c) (hl : l.length ≤ 8796093022208) :
    Calls Try.prog 44 #[.slice (some ⟨g, 0, none⟩) l.length c, .int .i64 (k : Int), .int .i64 (j : Int)] w fun e w' => ∃ cs, e = .returned (.slice (some ⟨g, 0, none⟩) (l.length - 1) c) ∧ Blk w' g 30 cs ∧ cs.size = cur.size ∧ cs.toList.take ((l.length - 1) * 2) = vals (l.take k ++ l.drop (k + 1)) ∧ w.grownBy w' (some g) := by
  have e1 : ((k : Int) == (j : Int)) = false := by simp; omega
  have b1 : k ≤ j := by omega
  have b2 : j ≤ l.length := by omega
  have hl3 : (vals (l.take k)).length = k * 2 := by rw [vals_len, List.length_take, Nat.min_eq_left (by omega)]
  have hld : (vals (l.drop (k + 1))).length = (l.length - (k + 1)) * 2 := by rw [vals_len, List.length_drop]
  have htk : cur.toList.take (k * 2) = vals (l.take k) := by
    have e : vals l = vals (l.take k) ++ vals (l.drop k) := by rw [← vals_append, List.take_append_drop]
    have h2 : cur.toList.take (k * 2) = (cur.toList.take (l.length * 2)).take (k * 2) := by rw [List.take_take, Nat.min_eq_left (by omega)]
    rw [h2, hcur, e, ← hl3, List.take_left]
  have hcell : ∀ j u, (vals (l.drop (k + 1)))[j]? = some u → w.cell? ((⟨g, (k + 1) * 2, none⟩ : Addr).add j) = some u := hg.cells ((k + 1) * 2) _ (fun j u hu => by
    have hj := (List.getElem?_eq_some_iff.1 hu).1
    have e : vals l = vals (l.take (k + 1)) ++ vals (l.drop (k + 1)) := by rw [← vals_append, List.take_append_drop]
    have hl4 : (vals (l.take (k + 1))).length = (k + 1) * 2 := by rw [vals_len, List.length_take, Nat.min_eq_left (by omega)]
    have h2 : (vals l)[(k + 1) * 2 + j]? = some u := by rw [e, List.getElem?_append_right (by omega), hl4, Nat.add_sub_cancel_left]; exact hu
    rw [← hcur, List.getElem?_take_of_lt (by omega)] at h2
    simpa using h2)
  have hlt := hg.lt
  have hk1 : ¬ (c = k) := by omega
  have hk3 : ¬ (l.length = k) := by omega
  have HJ := Lib.hid hj1
  have hj2 : j - k = 1 := by omega
  clear hj1
  go_enter Try.func44, Try.ntmps44
  go_upto_region 5 with fail
  by_cases hcj : c = j
  · subst hcj
    refine T_begin2 No [6] [0, 1, 2, 3, 4, 5, 6, 7] [6] (by kernel_rfl) (by kernel_rfl) ?_
    simp only [pickOps, List.filterMap_cons, List.filterMap_nil, List.getElem?_cons_zero, List.getElem?_cons_succ, Act.put]
    repeat (first | (refine T_skip (by rfl) (by rfl) (fun _ _ _ h => h) ?_; try simp only [Act.put, List.setIfInBounds_toArray, List.set_cons_zero, List.set_cons_succ]) | (refine T_pass (by rfl) (by rfl) ?_; try simp only [Act.put, List.setIfInBounds_toArray, List.set_cons_zero, List.set_cons_succ]) | (refine T_load (by assumption) (by rfl) (by rfl) (fun _ _ _ _ h => h) rfl rfl (by assumption) (by first | exact (fun hn => hn) | assumption) ?_; try simp only [Act.put, List.setIfInBounds_toArray, List.set_cons_zero, List.set_cons_succ]) | (refine T_nil (by rfl) (by rfl) (fun _ _ _ _ h => h) rfl rfl ?_; try simp only [Act.put, List.setIfInBounds_toArray, List.set_cons_zero, List.set_cons_succ]) | (refine T_quietN (by rfl) (by rfl) (by rfl) (by rfl) (fun _ _ _ _ h => h) (fun K hK => ?_); go_big_quiet_op; refine hK _ ?_; clear hK K) | (refine T_two (by rfl) (by rfl) (by rfl) (by rfl) (fun _ _ _ _ h => h) (fun K hK => ?_); go_big_quiet_op; refine ⟨_, fun _ _ => rfl, ?_⟩; refine hK _ ?_; clear hK K; try simp only [Act.put, List.setIfInBounds_toArray, List.set_cons_zero, List.set_cons_succ]) | fail)
    refine T_turn No [] (by rfl) (by rfl) (by rfl) (fun K hK => ?_)
    refine wp_app_room so_val hg.drew (S := fun _ => True) (A := some ⟨g, 0, none⟩) (n := k) (m := 0) (news := vals (l.drop (k + 1))) (by rw [List.drop_eq_nil_of_le (by omega)]; exact ⟨by simp [vals], by omega, fun h => by omega⟩) (vals_one _) (by omega) (by omega) rfl rfl rfl ?_
    intro w2 hb2 hg2 hz2
    refine hK.out _ _ ?_
    clear hK K
    try simp only [Act.put, List.setIfInBounds_toArray, List.set_cons_zero, List.set_cons_succ]
    repeat (first | (refine T_skip (by rfl) (by rfl) (fun _ _ _ h => h) ?_; try simp only [Act.put, List.setIfInBounds_toArray, List.set_cons_zero, List.set_cons_succ]) | (refine T_pass (by rfl) (by rfl) ?_; try simp only [Act.put, List.setIfInBounds_toArray, List.set_cons_zero, List.set_cons_succ]) | (refine T_load (by assumption) (by rfl) (by rfl) (fun _ _ _ _ h => h) rfl rfl (by assumption) (by first | exact (fun hn => hn) | assumption) ?_; try simp only [Act.put, List.setIfInBounds_toArray, List.set_cons_zero, List.set_cons_succ]) | (refine T_nil (by rfl) (by rfl) (fun _ _ _ _ h => h) rfl rfl ?_; try simp only [Act.put, List.setIfInBounds_toArray, List.set_cons_zero, List.set_cons_succ]) | (refine T_quietN (by rfl) (by rfl) (by rfl) (by rfl) (fun _ _ _ _ h => h) (fun K hK => ?_); go_big_quiet_op; refine hK _ ?_; clear hK K) | (refine T_two (by rfl) (by rfl) (by rfl) (by rfl) (fun _ _ _ _ h => h) (fun K hK => ?_); go_big_quiet_op; refine ⟨_, fun _ _ => rfl, ?_⟩; refine hK _ ?_; clear hK K; try simp only [Act.put, List.setIfInBounds_toArray, List.set_cons_zero, List.set_cons_succ]) | fail)
    refine T_done ?_
    have hs2 : (splice cur (k * 2) (vals (l.drop (k + 1)))).size = cur.size := splice_size _ _ _ (by omega)
    have htk2 := splice_del cur (vals (l.take k)) (vals (l.drop (k + 1))) (k * 2) hl3 htk (by omega)
    rw [hld, ← vals_append] at htk2
    obtain ⟨n', hn'⟩ : ∃ n', n' = k + 0 := ⟨_, rfl⟩
    rw [← hn']
    have hn2 : n' + 1 = l.length := by omega
    have hn3 : l.length - 1 = n' := by omega
    rw [show k * 2 + (l.length - (k + 1)) * 2 = n' * 2 by omega] at htk2
    generalize hcur2 : splice cur (k * 2) (vals (l.drop (k + 1))) = cur2 at *
    have HN := Lib.hid hn2
    have HN3 := Lib.hid hn3
    have hln : l.length - n' = 1 := by omega
    have hcn : ¬ (c = n') := by omega
    have hcn2 : n' ≤ l.length := by omega
    have hcn3 : l.length ≤ c := by omega
    clear hn' hn2 hn3
    go_wp2_with (first
      | (refine wpList_clear1 so_val [.int .i64 0, .int .i64 0] zero2 rfl zero2_one rfl rfl (g := g) (o := n' * 2) rfl hb2 (by have := HN.out; omega) ?_; intro w3 cs3 hb3 hs3 ht3 hg3)
      | fail)
    go_ret
    exact ⟨cs3, by rw [HN3.out]; rfl, hb3, by omega, by rw [HN3.out, ht3]; exact htk2, ⟨hg3.os.trans hg2.os, hg3.tape.trans hg2.tape, hg3.output.trans hg2.output, Nat.le_trans hg2.size hg3.size, fun i hi hn => (hg3.block i (Nat.lt_of_lt_of_le hi hg2.size) hn).trans (hg2.block i hi hn)⟩⟩
  · have hcj2 : j ≤ c := by omega
    refine T_begin2 No [6] [0, 1, 2, 3, 4, 5, 6, 7] [6] (by kernel_rfl) (by kernel_rfl) ?_
    simp only [pickOps, List.filterMap_cons, List.filterMap_nil, List.getElem?_cons_zero, List.getElem?_cons_succ, Act.put]
    repeat (first | (refine T_skip (by rfl) (by rfl) (fun _ _ _ h => h) ?_; try simp only [Act.put, List.setIfInBounds_toArray, List.set_cons_zero, List.set_cons_succ]) | (refine T_pass (by rfl) (by rfl) ?_; try simp only [Act.put, List.setIfInBounds_toArray, List.set_cons_zero, List.set_cons_succ]) | (refine T_load (by assumption) (by rfl) (by rfl) (fun _ _ _ _ h => h) rfl rfl (by assumption) (by first | exact (fun hn => hn) | assumption) ?_; try simp only [Act.put, List.setIfInBounds_toArray, List.set_cons_zero, List.set_cons_succ]) | (refine T_nil (by rfl) (by rfl) (fun _ _ _ _ h => h) rfl rfl ?_; try simp only [Act.put, List.setIfInBounds_toArray, List.set_cons_zero, List.set_cons_succ]) | (refine T_quietN (by rfl) (by rfl) (by rfl) (by rfl) (fun _ _ _ _ h => h) (fun K hK => ?_); go_big_quiet_op; refine hK _ ?_; clear hK K) | (refine T_two (by rfl) (by rfl) (by rfl) (by rfl) (fun _ _ _ _ h => h) (fun K hK => ?_); go_big_quiet_op; refine ⟨_, fun _ _ => rfl, ?_⟩; refine hK _ ?_; clear hK K; try simp only [Act.put, List.setIfInBounds_toArray, List.set_cons_zero, List.set_cons_succ]) | fail)
    refine T_turn No [] (by rfl) (by rfl) (by rfl) (fun K hK => ?_)
    refine wp_app_room so_val hg.drew (S := fun _ => True) (A := some ⟨g, j * 2, none⟩) (n := k) (m := l.length - j) (news := vals (l.drop (k + 1))) (⟨by rw [hld]; omega, by omega, fun _ => ⟨_, rfl, trivial, by rw [HJ.out]; exact hcell⟩⟩) (vals_one _) (by omega) (by omega) rfl rfl rfl ?_
    intro w2 hb2 hg2 hz2
    refine hK.out _ _ ?_
    clear hK K
    try simp only [Act.put, List.setIfInBounds_toArray, List.set_cons_zero, List.set_cons_succ]
    repeat (first | (refine T_skip (by rfl) (by rfl) (fun _ _ _ h => h) ?_; try simp only [Act.put, List.setIfInBounds_toArray, List.set_cons_zero, List.set_cons_succ]) | (refine T_pass (by rfl) (by rfl) ?_; try simp only [Act.put, List.setIfInBounds_toArray, List.set_cons_zero, List.set_cons_succ]) | (refine T_load (by assumption) (by rfl) (by rfl) (fun _ _ _ _ h => h) rfl rfl (by assumption) (by first | exact (fun hn => hn) | assumption) ?_; try simp only [Act.put, List.setIfInBounds_toArray, List.set_cons_zero, List.set_cons_succ]) | (refine T_nil (by rfl) (by rfl) (fun _ _ _ _ h => h) rfl rfl ?_; try simp only [Act.put, List.setIfInBounds_toArray, List.set_cons_zero, List.set_cons_succ]) | (refine T_quietN (by rfl) (by rfl) (by rfl) (by rfl) (fun _ _ _ _ h => h) (fun K hK => ?_); go_big_quiet_op; refine hK _ ?_; clear hK K) | (refine T_two (by rfl) (by rfl) (by rfl) (by rfl) (fun _ _ _ _ h => h) (fun K hK => ?_); go_big_quiet_op; refine ⟨_, fun _ _ => rfl, ?_⟩; refine hK _ ?_; clear hK K; try simp only [Act.put, List.setIfInBounds_toArray, List.set_cons_zero, List.set_cons_succ]) | fail)
    refine T_done ?_
    have hs2 : (splice cur (k * 2) (vals (l.drop (k + 1)))).size = cur.size := splice_size _ _ _ (by omega)
    have htk2 := splice_del cur (vals (l.take k)) (vals (l.drop (k + 1))) (k * 2) hl3 htk (by omega)
    rw [hld, ← vals_append] at htk2
    obtain ⟨n', hn'⟩ : ∃ n', n' = k + (l.length - j) := ⟨_, rfl⟩
    rw [← hn']
    have hn2 : n' + 1 = l.length := by omega
    have hn3 : l.length - 1 = n' := by omega
    rw [show k * 2 + (l.length - (k + 1)) * 2 = n' * 2 by omega] at htk2
    generalize hcur2 : splice cur (k * 2) (vals (l.drop (k + 1))) = cur2 at *
    have HN := Lib.hid hn2
    have HN3 := Lib.hid hn3
    have hln : l.length - n' = 1 := by omega
    have hcn : ¬ (c = n') := by omega
    have hcn2 : n' ≤ l.length := by omega
    have hcn3 : l.length ≤ c := by omega
    clear hn' hn2 hn3
    go_wp2_with (first
      | (refine wpList_clear1 so_val [.int .i64 0, .int .i64 0] zero2 rfl zero2_one rfl rfl (g := g) (o := n' * 2) rfl hb2 (by have := HN.out; omega) ?_; intro w3 cs3 hb3 hs3 ht3 hg3)
      | fail)
    go_ret
    exact ⟨cs3, by rw [HN3.out]; rfl, hb3, by omega, by rw [HN3.out, ht3]; exact htk2, ⟨hg3.os.trans hg2.os, hg3.tape.trans hg2.tape, hg3.output.trans hg2.output, Nat.le_trans hg2.size hg3.size, fun i hi hn => (hg3.block i (Nat.lt_of_lt_of_le hi hg2.size) hn).trans (hg2.block i hi hn)⟩⟩
end Go.Proofs.Ytgchpfennbggoaa
namespace Go.Proofs.Ytgchpfennbggoaa
set_option linter.unusedVariables false
set_option linter.unusedSimpArgs false
open Go.RowKit

def delM (l : List VL) (v : VL) : Option (List VL) := if v ∈ l then some (l.erase v) else none
/-- What a value more, or less, comes to. -/
def putM (l : List VL) (p : OpM) : Option (List VL) :=
  if p.add = true then
    if p.v.k < 0 ∨ 3 < p.v.k ∨ 256 ≤ l.length then none
    else some (l.take (l.findIdx (gtV · p.v)) ++ p.v :: l.drop (l.findIdx (gtV · p.v)))
  else delM l p.v
theorem own_cells {w : World} {B n c : Nat} {A : Option Addr} {xs : List Value} (h : w.ownsRow B 30 2 (.slice A n c) n xs) (hn : 0 < xs.length) : ∃ g cur, A = some ⟨g, 0, none⟩ ∧ B ≤ g ∧ Blk w g 30 cur ∧ n ≤ c ∧ c ≤ maxLen ∧ cur.size = c * 2 ∧ cur.toList.take (n * 2) = xs := by
  rcases h.2 with ⟨hv, he⟩ | ⟨g', cap, cur, hv, h1, h2, h3, h4, h5, h6⟩
  · have := h.1
    injection hv with _ e2 _
    subst e2
    simp at this
    subst this
    simp at hn
  · injection hv with e1 e2 e3
    subst e1 e3
    exact ⟨g', cur, rfl, h1, h2, h3, h4, h5, h6⟩
theorem insert_calls (B : Nat) (A : Option Addr) (c gv k : Nat) (l : List VL) (x : VL) (w : World) (h : w.ownsRow B 30 2 (.slice A l.length c) l.length (vals l)) (hB : B ≤ w.heap.size) (hk : k ≤ l.length) (hl : l.length ≤ 1048576) (hbv : Blk w gv 30 (vcells x).toArray) (hne : ∀ b, A.map (·.block) = some b → gv ≠ b) :
    Calls Try.prog 48 #[.slice A l.length c, .int .i64 (k : Int), .slice (some ⟨gv, 0, none⟩) 1 1] w fun e w' => ∃ A' c', e = .returned (.slice A' (l.length + 1) c') ∧ w'.ownsRow B 30 2 (.slice A' (l.length + 1) c') (l.length + 1) (vals (l.take k ++ x :: l.drop k)) ∧ w.grownBy w' (A.map (·.block)) ∧ (A'.map (·.block) = A.map (·.block) ∨ A'.map (·.block) = some w.heap.size) := by
  have eo : ∀ (A : Option Addr) n c, (Value.slice A n c).ownBlock = A.map (·.block) := by intros A _ _; cases A <;> rfl
  by_cases hkl : k = l.length
  · subst hkl
    refine (insert_end (fun _ => True) B A c gv l x w h hB hl ((hbv.rd (size := 2) (n := 1) (by rfl) (by decide)).mono (fun _ _ _ => trivial) (by decide))).mono ?_
    rintro e w' ⟨v', rfl, h1, h2, h3⟩
    obtain ⟨A', c', rfl, _, _, _⟩ := own_form h1
    rw [eo] at h3
    refine ⟨A', c', rfl, ?_, h2, h3⟩
    rw [List.take_length, List.drop_length]
    exact h1
  · have hlen : (vals (l.take k ++ x :: l.drop k)).length = (l.length + 1) * 2 := by rw [vals_len]; simp; omega
    obtain ⟨g, cur, rfl, hBg, hb, hlc, hcm, hsz, htk⟩ := own_cells h (by rw [vals_len]; omega)
    have hgl := hb.lt
    have hgv := hne g rfl
    by_cases hroom : l.length + 1 ≤ c
    · refine (insert_room (fun _ => True) B g c gv k l x cur w hb hsz hcm htk hroom (by omega) hl hbv hgv).mono ?_
      rintro e w' ⟨cs, rfl, h1, h2, h3, h4⟩
      exact ⟨_, c, rfl, ⟨hlen, .inr ⟨g, c, cs, rfl, hBg, h1, hroom, hcm, by omega, h3⟩⟩, h4, .inl rfl⟩
    · refine (insert_grow B g c gv k l x cur w hb hsz hcm htk (by omega) (by omega) hl hbv hgv).mono ?_
      rintro e w' ⟨cs, c2, rfl, h1, h2, h3, h4, h5, h6⟩
      exact ⟨_, c2, rfl, ⟨hlen, .inr ⟨w.heap.size, c2, cs, rfl, hB, h1, h3, h4, by omega, h5⟩⟩, ⟨h6.os, h6.tape, h6.output, h6.size, fun i hi _ => h6.block i hi (fun hn => hn)⟩, .inr rfl⟩
theorem erase_at : ∀ {l : List VL} {k : Nat} {v : VL} (hk : k < l.length), l[k] = v → (∀ i, ∀ hi : i < k, l[i] ≠ v) → l.take k ++ l.drop (k + 1) = l.erase v
  | [], _, _, hk, _, _ => by simp at hk
  | x :: l, 0, v, _, hv, _ => by
    have hv : x = v := hv
    subst hv
    simp
  | x :: l, k + 1, v, hk, hv, hn => by
    have h0 : x ≠ v := hn 0 (by omega)
    have := erase_at (l := l) (k := k) (v := v) (by simpa using hk) (by simpa using hv) (fun i hi => by have := hn (i + 1) (by omega); simpa using this)
    rw [List.erase_cons_tail (by simpa using h0), ← this]
    simp
theorem box_make {w w' : World} {g B : Nat} {o : ObjM} {A A' D : Option Addr} {c c' c2 : Nat} {l' : List VL} (hd : RdB w (fun b => (b ≠ g ∧ (Value.slice A o.slots.length c).ownBlock ≠ some b) ∧ B ≤ b) D o.bytes) (hgw : g < w.heap.size)
    (hb' : Blk w' g 25 #[.int .i64 o.cls, .slice A' l'.length c', .slice D o.bytes.length c2]) (hown : w'.ownsRow B 30 2 (.slice A' l'.length c') l'.length (vals l'))
    (hne : ∀ b, A.map (·.block) = some b → b ≠ g) (hA : A'.map (·.block) = A.map (·.block) ∨ ∃ b, A'.map (·.block) = some b ∧ w.heap.size ≤ b) (hf : Fr (fun b => b = g ∨ A.map (·.block) = some b) w w') : BoxAt w' g B { o with slots := l' } := by
  have eo : ∀ (A : Option Addr) n c, (Value.slice A n c).ownBlock = A.map (·.block) := by intros A _ _; cases A <;> rfl
  refine ⟨A', c', D, c2, hb', hown, fun b hb => ?_, ?_⟩
  · rw [eo] at hb
    rcases hA with h | ⟨b', h, h2⟩
    · rw [h] at hb; exact hne b hb
    · rw [h] at hb; injection hb with hb; omega
  · have h1 := Rd.fr (Rd.lt hd (by decide)) hf (fun b hb hT => by
      rcases hT with h | h
      · exact hb.1.1.1 h
      · exact hb.1.1.2 (by rw [eo]; exact h))
    refine Rd.mono h1 (fun b _ hb => ⟨⟨hb.1.1.1, fun h => ?_⟩, hb.1.2⟩) (by decide)
    rw [eo] at h
    rcases hA with h3 | ⟨b', h3, h4⟩
    · rw [h3] at h; exact hb.1.1.2 (by rw [eo]; exact h)
    · rw [h3] at h; injection h with h; have := hb.2; omega
set_option maxHeartbeats 4000000 in
set_option maxRecDepth 100000 in
theorem put_del (w : World) (g B : Nat) (o : ObjM) (oop : Int) (v : VL) (h : BoxAt w g B o) (hlen : o.slots.length ≤ 8796093022208) :
    Calls Try.prog 26 #[.pointer (some ⟨g, 0, none⟩), .agg #[.int .i64 oop, .bool false, .int .i64 v.k, .int .i64 v.n]] w (DoneR w g B o (delM o.slots v)) := by
  have hB0 := h
  obtain ⟨A, c, D, c2, hb, hown, hgB, hd⟩ := h
  have HB := Lib.hid hgB
  clear hgB
  obtain ⟨cls, l, bytes⟩ := o
  simp only at hb hown hd hlen HB ⊢
  have g2 := plain_lval
  have q1 := hb.cell 1
  simp only [List.getElem?_toArray, List.getElem?_cons_zero, List.getElem?_cons_succ] at q1
  have hgl := hb.lt
  have hrv : RdV w _ A l := own_rd hown (show l.length ≤ 211106232532992 by omega)
  have hf0 : Fr No w ((w.alloc (.cells #[.int .i64 oop, .bool false, .int .i64 v.k, .int .i64 v.n] 41)).alloc (.cells #[.int .i64 v.k, .int .i64 v.n] 30)) := ((Fr.refl No w).alloc _).alloc _
  have hbv : Blk ((w.alloc (.cells #[.int .i64 oop, .bool false, .int .i64 v.k, .int .i64 v.n] 41)).alloc (.cells #[.int .i64 v.k, .int .i64 v.n] 30)) (w.heap.size + 1) 30 #[.int .i64 v.k, .int .i64 v.n] := Blk.newAt (by simp)
  go_enter Try.func26, Try.ntmps26
  go_wp2_with fail
  generalize hw1 : ((w.alloc (.cells #[.int .i64 oop, .bool false, .int .i64 v.k, .int .i64 v.n] 41)).alloc (.cells #[.int .i64 v.k, .int .i64 v.n] 30)) = w1 at *
  clear hw1
  have q2 := (hb.fr0 hf0).cell 1
  simp only [List.getElem?_toArray, List.getElem?_cons_zero, List.getElem?_cons_succ] at q2
  have hv := hbv.all
  (refine T_begin No [0, 1, 2, 3, 4, 5, 6] [5] (by kernel_rfl) (by kernel_rfl) ?_; simp only [pickOps, List.filterMap_cons, List.filterMap_nil, List.getElem?_cons_zero, List.getElem?_cons_succ, Act.put])
  repeat (first | (refine T_skip (by rfl) (by rfl) (fun _ _ _ h => h) ?_; try simp only [Act.put, List.setIfInBounds_toArray, List.set_cons_zero, List.set_cons_succ]) | (refine T_pass (by rfl) (by rfl) ?_; try simp only [Act.put, List.setIfInBounds_toArray, List.set_cons_zero, List.set_cons_succ]) | (refine T_load (by assumption) (by rfl) (by rfl) (fun _ _ _ _ h => h) rfl rfl (by assumption) (by first | exact (fun hn => hn) | assumption) ?_; try simp only [Act.put, List.setIfInBounds_toArray, List.set_cons_zero, List.set_cons_succ]) | (refine T_nil (by rfl) (by rfl) (fun _ _ _ _ h => h) rfl rfl ?_; try simp only [Act.put, List.setIfInBounds_toArray, List.set_cons_zero, List.set_cons_succ]) | (refine T_quietN (by rfl) (by rfl) (by rfl) (by rfl) (fun _ _ _ _ h => h) (fun K hK => ?_); go_big_quiet_op; refine hK _ ?_; clear hK K) | (refine T_two (by rfl) (by rfl) (by rfl) (by rfl) (fun _ _ _ _ h => h) (fun K hK => ?_); go_big_quiet_op; refine ⟨_, fun _ _ => rfl, ?_⟩; refine hK _ ?_; clear hK K; try simp only [Act.put, List.setIfInBounds_toArray, List.set_cons_zero, List.set_cons_succ]) | fail)
  refine T_loadA (cs := vcells v) ag_val (by rfl) (by rfl) (fun _ _ _ _ h => h) rfl rfl rfl hv (fun hn => hn) ?_
  try simp only [Act.put, List.setIfInBounds_toArray, List.set_cons_zero, List.set_cons_succ]
  unfold vcells
  repeat (first | (refine T_skip (by rfl) (by rfl) (fun _ _ _ h => h) ?_; try simp only [Act.put, List.setIfInBounds_toArray, List.set_cons_zero, List.set_cons_succ]) | (refine T_pass (by rfl) (by rfl) ?_; try simp only [Act.put, List.setIfInBounds_toArray, List.set_cons_zero, List.set_cons_succ]) | (refine T_load (by assumption) (by rfl) (by rfl) (fun _ _ _ _ h => h) rfl rfl (by assumption) (by first | exact (fun hn => hn) | assumption) ?_; try simp only [Act.put, List.setIfInBounds_toArray, List.set_cons_zero, List.set_cons_succ]) | (refine T_nil (by rfl) (by rfl) (fun _ _ _ _ h => h) rfl rfl ?_; try simp only [Act.put, List.setIfInBounds_toArray, List.set_cons_zero, List.set_cons_succ]) | (refine T_quietN (by rfl) (by rfl) (by rfl) (by rfl) (fun _ _ _ _ h => h) (fun K hK => ?_); go_big_quiet_op; refine hK _ ?_; clear hK K) | (refine T_two (by rfl) (by rfl) (by rfl) (by rfl) (fun _ _ _ _ h => h) (fun K hK => ?_); go_big_quiet_op; refine ⟨_, fun _ _ => rfl, ?_⟩; refine hK _ ?_; clear hK K; try simp only [Act.put, List.setIfInBounds_toArray, List.set_cons_zero, List.set_cons_succ]) | fail)
  (refine T_call (by rfl) (by rfl) (fun K hK => ?_); go_wp2_with fail)
  refine (index_calls _ A c l v _ (Rd.fr0 hrv hf0.drew)).mono ?_
  rintro e w2 ⟨hf2, (⟨k, hk, hkv, hkn, rfl⟩ | ⟨hno, rfl⟩)⟩
  · have HE := Lib.hid (erase_at hk hkv hkn)
    have HM := Lib.hid (show v ∈ l from hkv ▸ List.getElem_mem hk)
    clear hkv hkn
    have hF2 := hf0.drew.tr hf2
    obtain ⟨ga, cur, rfl, hBg, hbg, hlc, hcm, hsz, htk⟩ := own_cells (own_fr0 hown hF2) (by rw [vals_len]; omega)
    have ek : decide (0 ≤ (k : Int)) = true := by simp
    go_wp2_with fail
    (refine hK.out _ _ (hf2) ?_; clear hK K; try simp only [Act.put, List.setIfInBounds_toArray, List.set_cons_zero, List.set_cons_succ])
    repeat (first | (refine T_skip (by rfl) (by rfl) (fun _ _ _ h => h) ?_; try simp only [Act.put, List.setIfInBounds_toArray, List.set_cons_zero, List.set_cons_succ]) | (refine T_pass (by rfl) (by rfl) ?_; try simp only [Act.put, List.setIfInBounds_toArray, List.set_cons_zero, List.set_cons_succ]) | (refine T_load (by assumption) (by rfl) (by rfl) (fun _ _ _ _ h => h) rfl rfl (by assumption) (by first | exact (fun hn => hn) | assumption) ?_; try simp only [Act.put, List.setIfInBounds_toArray, List.set_cons_zero, List.set_cons_succ]) | (refine T_nil (by rfl) (by rfl) (fun _ _ _ _ h => h) rfl rfl ?_; try simp only [Act.put, List.setIfInBounds_toArray, List.set_cons_zero, List.set_cons_succ]) | (refine T_quietN (by rfl) (by rfl) (by rfl) (by rfl) (fun _ _ _ _ h => h) (fun K hK => ?_); go_big_quiet_op; refine hK _ ?_; clear hK K) | (refine T_two (by rfl) (by rfl) (by rfl) (by rfl) (fun _ _ _ _ h => h) (fun K hK => ?_); go_big_quiet_op; refine ⟨_, fun _ _ => rfl, ?_⟩; refine hK _ ?_; clear hK K; try simp only [Act.put, List.setIfInBounds_toArray, List.set_cons_zero, List.set_cons_succ]) | fail)
    refine T_done ?_
    have hb2 := hb.fr0 hF2
    (have y0 := hb2.cell 0; have y1 := hb2.cell 1; have y2 := hb2.cell 2; have yf0 := hb2.frozen 0; have yf1 := hb2.frozen 1; have yf2 := hb2.frozen 2; simp only [List.getElem?_toArray, List.getElem?_cons_zero, List.getElem?_cons_succ] at y0 y1 y2)
    go_wp2_with fail
    refine (delete_calls ga c k (k + 1) rfl l cur w2 hbg hsz hcm htk hk hlc hlen).mono ?_
    rintro e w3 ⟨cs, rfl, hb3, hs3, ht3, hg3⟩
    have hgne : ga ≠ g := HB.out ga rfl
    have hbo3 := Blk.grown hb2 hg3 (fun e => hgne (by injection e with e; exact e.symm))
    have q3 := hbo3.cell 1
    simp only [List.getElem?_toArray, List.getElem?_cons_zero, List.getElem?_cons_succ] at q3
    have hfr3 := hbo3.frozen 1
    go_wp2_with fail
    go_ret
    have hel : (l.erase v).length = l.length - 1 := by rw [← HE.out]; simp; omega
    have hF3 : Fr (fun b => b = ga) w w3 := (hF2.mono (fun _ _ hn => hn.elim)).trans ((Fr.refl _ w2).grown hg3 (fun q hq => by injection hq with hq; exact .inr hq.symm)) (fun _ _ e => e)
    have hFS : Fr (fun b => b = g) w3 (w3.setCell ⟨g, 1, none⟩ (.slice (some ⟨ga, 0, none⟩) (l.length - 1) c)) := (Fr.refl (fun b => b = g) w3).set (p := ⟨g, 1, none⟩) (.inr rfl) _
    have hF4 : Fr (fun b => b = g ∨ b = ga) w (w3.setCell ⟨g, 1, none⟩ (.slice (some ⟨ga, 0, none⟩) (l.length - 1) c)) := (hF3.mono (fun _ _ e => .inr e)).trans (hFS.mono (fun _ _ e => .inl e)) (fun _ _ e => e)
    have hb4 := hbo3.put 1 (.slice (some ⟨ga, 0, none⟩) (l.length - 1) c)
    have hb5 := hb3.fr hFS (fun e => hgne e)
    refine .inr ⟨l.erase v, by unfold delM; rw [if_pos HM.out], rfl, box_make (w := w) (A := some ⟨ga, 0, none⟩) (A' := some ⟨ga, 0, none⟩) (c := c) (c' := c) (c2 := c2) hd hgl ?_ ?_ (fun b hb => HB.out b hb) (.inl rfl) (hF4.mono (fun b _ e => ?_)), hF4.mono (fun b _ e => ?_)⟩
    · rw [hel]; exact hb4
    · rw [hel]
      refine ⟨by rw [vals_len, hel], .inr ⟨ga, c, cs, rfl, hBg, hb5, by omega, hcm, by omega, ?_⟩⟩
      rw [ht3, HE.out]
    · rcases e with e | e
      · exact .inl e
      · exact .inr (by rw [e]; rfl)
    · rcases e with e | e
      · exact .inl e
      · exact .inr (by rw [e]; exact hBg)
  · have HN := Lib.hid hno
    clear hno
    have ek : decide ((0 : Int) ≤ -1) = false := by decide
    go_wp2_with fail
    (refine hK.out _ _ (hf2) ?_; clear hK K; try simp only [Act.put, List.setIfInBounds_toArray, List.set_cons_zero, List.set_cons_succ])
    repeat (first | (refine T_skip (by rfl) (by rfl) (fun _ _ _ h => h) ?_; try simp only [Act.put, List.setIfInBounds_toArray, List.set_cons_zero, List.set_cons_succ]) | (refine T_pass (by rfl) (by rfl) ?_; try simp only [Act.put, List.setIfInBounds_toArray, List.set_cons_zero, List.set_cons_succ]) | (refine T_load (by assumption) (by rfl) (by rfl) (fun _ _ _ _ h => h) rfl rfl (by assumption) (by first | exact (fun hn => hn) | assumption) ?_; try simp only [Act.put, List.setIfInBounds_toArray, List.set_cons_zero, List.set_cons_succ]) | (refine T_nil (by rfl) (by rfl) (fun _ _ _ _ h => h) rfl rfl ?_; try simp only [Act.put, List.setIfInBounds_toArray, List.set_cons_zero, List.set_cons_succ]) | (refine T_quietN (by rfl) (by rfl) (by rfl) (by rfl) (fun _ _ _ _ h => h) (fun K hK => ?_); go_big_quiet_op; refine hK _ ?_; clear hK K) | (refine T_two (by rfl) (by rfl) (by rfl) (by rfl) (fun _ _ _ _ h => h) (fun K hK => ?_); go_big_quiet_op; refine ⟨_, fun _ _ => rfl, ?_⟩; refine hK _ ?_; clear hK K; try simp only [Act.put, List.setIfInBounds_toArray, List.set_cons_zero, List.set_cons_succ]) | fail)
    refine T_done ?_
    go_wp2_with fail
    go_ret
    refine .inl ⟨by unfold delM; rw [if_neg HN.out], rfl, BoxAt.fr0 hB0 (hf0.drew.tr hf2), hf0.drew.tr hf2⟩
def addM (l : List VL) (v : VL) : List VL := l.take (l.findIdx (gtV · v)) ++ v :: l.drop (l.findIdx (gtV · v))
theorem addM_end {l : List VL} {v : VL} (h : placeZ l v = -1) : l.take l.length ++ v :: l.drop l.length = addM l v := by
  have h1 : ¬ l.findIdx (gtV · v) < l.length := by
    intro hlt
    unfold placeZ at h
    rw [if_pos hlt] at h
    omega
  have h2 : l.findIdx (gtV · v) = l.length := Nat.le_antisymm List.findIdx_le_length (by omega)
  unfold addM
  rw [h2]
set_option maxHeartbeats 4000000 in
set_option maxRecDepth 100000 in
theorem put_add (w : World) (g B : Nat) (o : ObjM) (oop : Int) (v : VL) (h : BoxAt w g B o) (hB : B ≤ w.heap.size) (hlen : o.slots.length < 256) (h1 : 0 ≤ v.k) (h2 : v.k ≤ 3) :
    Calls Try.prog 26 #[.pointer (some ⟨g, 0, none⟩), .agg #[.int .i64 oop, .bool true, .int .i64 v.k, .int .i64 v.n]] w (DoneR w g B o (some (addM o.slots v))) := by
  have hB0 := h
  obtain ⟨A, c, D, c2, hb, hown, hgB, hd⟩ := h
  have HB := Lib.hid hgB
  clear hgB
  obtain ⟨cls, l, bytes⟩ := o
  simp only at hb hown hd hlen HB ⊢
  have g2 := plain_lval
  have e1 : decide (v.k < 0) = false := by simp; omega
  have e2 : decide (3 < v.k) = false := by simp; omega
  have e3 : decide (256 ≤ (l.length : Int)) = false := by simp; omega
  have hgl := hb.lt
  have hrv : RdV w _ A l := own_rd hown (show l.length ≤ 211106232532992 by omega)
  have hf0 : Fr No w ((w.alloc (.cells #[.int .i64 oop, .bool true, .int .i64 v.k, .int .i64 v.n] 41)).alloc (.cells #[.int .i64 v.k, .int .i64 v.n] 30)) := ((Fr.refl No w).alloc _).alloc _
  have hbv : Blk ((w.alloc (.cells #[.int .i64 oop, .bool true, .int .i64 v.k, .int .i64 v.n] 41)).alloc (.cells #[.int .i64 v.k, .int .i64 v.n] 30)) (w.heap.size + 1) 30 #[.int .i64 v.k, .int .i64 v.n] := Blk.newAt (by simp)
  go_enter Try.func26, Try.ntmps26
  go_upto_region 7 with fail
  generalize hw1 : ((w.alloc (.cells #[.int .i64 oop, .bool true, .int .i64 v.k, .int .i64 v.n] 41)).alloc (.cells #[.int .i64 v.k, .int .i64 v.n] 30)) = w1 at *
  clear hw1
  have hb1 := hb.fr0 hf0
  (have y0 := hb1.cell 0; have y1 := hb1.cell 1; have y2 := hb1.cell 2; have yf0 := hb1.frozen 0; have yf1 := hb1.frozen 1; have yf2 := hb1.frozen 2; simp only [List.getElem?_toArray, List.getElem?_cons_zero, List.getElem?_cons_succ] at y0 y1 y2)
  (have z0 := hbv.cell 0; have z1 := hbv.cell 1; have zf0 := hbv.frozen 0; have zf1 := hbv.frozen 1; simp only [List.getElem?_toArray, List.getElem?_cons_zero, List.getElem?_cons_succ] at z0 z1)
  go_wp2_with fail
  refine (find_calls _ A c _ l v w1 (Rd.fr0 hrv hf0) hbv).mono ?_
  rintro e w2 ⟨rfl, hf2⟩
  have eo : ∀ (A : Option Addr) n c, (Value.slice A n c).ownBlock = A.map (·.block) := by intros A _ _; cases A <;> rfl
  have EO := Lib.hid eo
  clear eo
  have hF2 := hf0.tr hf2
  have hb2 := hb.fr0 hF2
  have hbv2 := hbv.fr0 hf2
  have hv2 : ∀ j u, (vcells v)[j]? = some u → w2.drew.cell? ((⟨w.heap.size + 1, 0, none⟩ : Addr).add j) = some u := hbv2.all
  have hSG : ¬ (A.map (·.block) = some g) := fun h => HB.out g (by rw [EO.out]; exact h) rfl
  have hSV : ¬ (A.map (·.block) = some (w.heap.size + 1)) := fun h => by have := (hown.lt _ (by rw [EO.out]; exact h)).2; omega
  clear y0 y1 y2 yf0 yf1 yf2 z0 z1 zf0 zf1 e1 e2 e3
  (have x0 := hb2.cell 0; have x1 := hb2.cell 1; have x2 := hb2.cell 2; have xf0 := hb2.frozen 0; have xf1 := hb2.frozen 1; have xf2 := hb2.frozen 2; simp only [List.getElem?_toArray, List.getElem?_cons_zero, List.getElem?_cons_succ] at x0 x1 x2)
  by_cases hlt : l.findIdx (gtV · v) < l.length
  · have hpz : placeZ l v = ((l.findIdx (gtV · v) : Nat) : Int) := by unfold placeZ; rw [if_pos hlt]
    rw [hpz]
    clear hpz
    have HA := Lib.hid (show l.take (l.findIdx (gtV · v)) ++ v :: l.drop (l.findIdx (gtV · v)) = addM l v from rfl)
    generalize l.findIdx (gtV · v) = k at *
    have ek : decide ((k : Int) < 0) = false := by simp
    go_wp2_with fail
    refine T_begin2 (fun b => A.map (·.block) = some b) [11] [0, 1, 2, 3, 4, 5, 6, 7, 8, 9, 10, 11] [7, 8, 11] (by kernel_rfl) (by kernel_rfl) ?_
    simp only [pickOps, List.filterMap_cons, List.filterMap_nil, List.getElem?_cons_zero, List.getElem?_cons_succ, Act.put]
    repeat (first | (refine T_skip (by rfl) (by rfl) (fun _ _ _ h => h) ?_; try simp only [Act.put, List.setIfInBounds_toArray, List.set_cons_zero, List.set_cons_succ]) | (refine T_pass (by rfl) (by rfl) ?_; try simp only [Act.put, List.setIfInBounds_toArray, List.set_cons_zero, List.set_cons_succ]) | (refine T_load (by assumption) (by rfl) (by rfl) (fun _ _ _ _ h => h) rfl rfl (by assumption) (by first | exact (fun hn => hn) | assumption) ?_; try simp only [Act.put, List.setIfInBounds_toArray, List.set_cons_zero, List.set_cons_succ]) | (refine T_nil (by rfl) (by rfl) (fun _ _ _ _ h => h) rfl rfl ?_; try simp only [Act.put, List.setIfInBounds_toArray, List.set_cons_zero, List.set_cons_succ]) | (refine T_quietN (by rfl) (by rfl) (by rfl) (by rfl) (fun _ _ _ _ h => h) (fun K hK => ?_); go_big_quiet_op; refine hK _ ?_; clear hK K) | (refine T_two (by rfl) (by rfl) (by rfl) (by rfl) (fun _ _ _ _ h => h) (fun K hK => ?_); go_big_quiet_op; refine ⟨_, fun _ _ => rfl, ?_⟩; refine hK _ ?_; clear hK K; try simp only [Act.put, List.setIfInBounds_toArray, List.set_cons_zero, List.set_cons_succ]) | fail)
    refine T_loadA (cs := vcells v) ag_val (by rfl) (by rfl) (fun _ _ _ _ h => h) rfl rfl rfl hv2 hSV ?_
    try simp only [Act.put, List.setIfInBounds_toArray, List.set_cons_zero, List.set_cons_succ]
    unfold vcells
    repeat (first | (refine T_skip (by rfl) (by rfl) (fun _ _ _ h => h) ?_; try simp only [Act.put, List.setIfInBounds_toArray, List.set_cons_zero, List.set_cons_succ]) | (refine T_pass (by rfl) (by rfl) ?_; try simp only [Act.put, List.setIfInBounds_toArray, List.set_cons_zero, List.set_cons_succ]) | (refine T_load (by assumption) (by rfl) (by rfl) (fun _ _ _ _ h => h) rfl rfl (by assumption) (by first | exact (fun hn => hn) | assumption) ?_; try simp only [Act.put, List.setIfInBounds_toArray, List.set_cons_zero, List.set_cons_succ]) | (refine T_nil (by rfl) (by rfl) (fun _ _ _ _ h => h) rfl rfl ?_; try simp only [Act.put, List.setIfInBounds_toArray, List.set_cons_zero, List.set_cons_succ]) | (refine T_quietN (by rfl) (by rfl) (by rfl) (by rfl) (fun _ _ _ _ h => h) (fun K hK => ?_); go_big_quiet_op; refine hK _ ?_; clear hK K) | (refine T_two (by rfl) (by rfl) (by rfl) (by rfl) (fun _ _ _ _ h => h) (fun K hK => ?_); go_big_quiet_op; refine ⟨_, fun _ _ => rfl, ?_⟩; refine hK _ ?_; clear hK K; try simp only [Act.put, List.setIfInBounds_toArray, List.set_cons_zero, List.set_cons_succ]) | fail)
    refine T_call (by rfl) (by rfl) (fun K hK => ?_)
    refine wp_buildOne so_val (by decide) [.int .i64 v.k, .int .i64 v.n] rfl rfl rfl ?_
    (refine hK.out _ _ (((Fr.refl _ _).alloc _)) ?_; clear hK K; try simp only [Act.put, List.setIfInBounds_toArray, List.set_cons_zero, List.set_cons_succ])
    have hfA : Fr No w2 (w2.drew.alloc (.cells [Value.int .i64 v.k, .int .i64 v.n].toArray 30)) := (Fr.refl No w2).drew.alloc _
    have hbx : Blk (w2.drew.alloc (.cells [Value.int .i64 v.k, .int .i64 v.n].toArray 30)) w2.heap.size 30 (vcells v).toArray := Blk.newAt rfl
    have hown2 := own_fr0 hown (hF2.tr hfA)
    have hzw2 := hF2.size
    have hzA := hfA.size
    have hownlt := hown.lt
    have hbo2 := hb2.fr0 hfA
    generalize hw3 : w2.drew.alloc (.cells [Value.int .i64 v.k, .int .i64 v.n].toArray 30) = w3 at *
    clear hw3
    refine T_call (by rfl) (by rfl) (fun K hK => ?_)
    go_wp2_with fail
    refine (insert_calls B A c w2.heap.size k l v w3 hown2 (by omega) (by omega) (by omega) hbx (fun b hb e => by have := (hownlt b (by rw [EO.out]; exact hb)).2; omega)).mono ?_
    rintro e w4 ⟨A4, c4, rfl, hown4, hg4, hA4⟩
    have hbo4 := Blk.grown hbo2 hg4 (fun e => HB.out g (by rw [EO.out]; exact e.symm) rfl)
    have q4 := hbo4.cell 1
    simp only [List.getElem?_toArray, List.getElem?_cons_zero, List.getElem?_cons_succ] at q4
    have qf4 := hbo4.frozen 1
    go_wp2_with fail
    (refine hK.out _ _ (((Fr.refl _ _).grown hg4 (fun q hq => .inr hq))) ?_; clear hK K; try simp only [Act.put, List.setIfInBounds_toArray, List.set_cons_zero, List.set_cons_succ])
    repeat (first | (refine T_skip (by rfl) (by rfl) (fun _ _ _ h => h) ?_; try simp only [Act.put, List.setIfInBounds_toArray, List.set_cons_zero, List.set_cons_succ]) | (refine T_pass (by rfl) (by rfl) ?_; try simp only [Act.put, List.setIfInBounds_toArray, List.set_cons_zero, List.set_cons_succ]) | (refine T_load (by assumption) (by rfl) (by rfl) (fun _ _ _ _ h => h) rfl rfl (by assumption) (by first | exact (fun hn => hn) | assumption) ?_; try simp only [Act.put, List.setIfInBounds_toArray, List.set_cons_zero, List.set_cons_succ]) | (refine T_nil (by rfl) (by rfl) (fun _ _ _ _ h => h) rfl rfl ?_; try simp only [Act.put, List.setIfInBounds_toArray, List.set_cons_zero, List.set_cons_succ]) | (refine T_quietN (by rfl) (by rfl) (by rfl) (by rfl) (fun _ _ _ _ h => h) (fun K hK => ?_); go_big_quiet_op; refine hK _ ?_; clear hK K) | (refine T_two (by rfl) (by rfl) (by rfl) (by rfl) (fun _ _ _ _ h => h) (fun K hK => ?_); go_big_quiet_op; refine ⟨_, fun _ _ => rfl, ?_⟩; refine hK _ ?_; clear hK K; try simp only [Act.put, List.setIfInBounds_toArray, List.set_cons_zero, List.set_cons_succ]) | fail)
    refine T_turn No [] (by rfl) (by rfl) (by rfl) (fun K hK => ?_)
    go_wp2_with fail
    refine hK.out _ _ ?_
    clear hK K
    refine T_done ?_
    go_wp2_with fail
    go_ret
    have hel : (addM l v).length = l.length + 1 := by rw [← HA.out]; simp <;> omega
    have hF3 := hF2.tr hfA
    have hF4 : Fr (fun b => A.map (·.block) = some b) w w4 := (hF3.mono (fun _ _ hn => hn.elim)).trans ((Fr.refl _ w3).grown hg4 (fun q hq => .inr hq)) (fun _ _ e => e)
    have hFS : Fr (fun b => b = g) w4 (w4.setCell ⟨g, 1, none⟩ (.slice A4 (l.length + 1) c4)) := (Fr.refl (fun b => b = g) w4).set (p := ⟨g, 1, none⟩) (.inr rfl) _
    have hF5 : Fr (fun b => b = g ∨ A.map (·.block) = some b) w (w4.setCell ⟨g, 1, none⟩ (.slice A4 (l.length + 1) c4)) := (hF4.mono (fun _ _ e => .inr e)).trans (hFS.mono (fun _ _ e => .inl e)) (fun _ _ e => e)
    have hb5 := hbo4.put 1 (.slice A4 (l.length + 1) c4)
    have hnew : A4.map (·.block) = A.map (·.block) ∨ ∃ b, A4.map (·.block) = some b ∧ w.heap.size ≤ b := by
      rcases hA4 with h | h
      · exact .inl h
      · exact .inr ⟨_, h, by omega⟩
    have hown5 := own_fr hown4 hFS (fun b hb e => by
      rw [EO.out] at hb
      rcases hA4 with h | h
      · rw [h] at hb; exact HB.out b (by rw [EO.out]; exact hb) e
      · rw [h] at hb; injection hb with hb; omega)
    refine .inr ⟨addM l v, rfl, rfl, box_make (w := w) (A := A) (A' := A4) (c := c) (c' := c4) (c2 := c2) hd hgl ?_ ?_ (fun b hb => HB.out b (by rw [EO.out]; exact hb)) hnew hF5, hF5.mono (fun b _ e => ?_)⟩
    · rw [hel]; exact hb5
    · rw [hel, ← HA.out]
      exact hown5
    · rcases e with e | e
      · exact .inl e
      · exact .inr (hownlt b (by rw [EO.out]; exact e)).1
  · have hpz : placeZ l v = -1 := by unfold placeZ; rw [if_neg hlt]
    have HA := Lib.hid (addM_end hpz)
    rw [hpz]
    clear hpz hlt
    have ek : decide ((-1 : Int) < 0) = true := by decide
    go_wp2_with fail
    refine T_begin2 (fun b => A.map (·.block) = some b) [11] [0, 1, 2, 3, 4, 5, 6, 7, 8, 9, 10, 11] [7, 8, 11] (by kernel_rfl) (by kernel_rfl) ?_
    simp only [pickOps, List.filterMap_cons, List.filterMap_nil, List.getElem?_cons_zero, List.getElem?_cons_succ, Act.put]
    repeat (first | (refine T_skip (by rfl) (by rfl) (fun _ _ _ h => h) ?_; try simp only [Act.put, List.setIfInBounds_toArray, List.set_cons_zero, List.set_cons_succ]) | (refine T_pass (by rfl) (by rfl) ?_; try simp only [Act.put, List.setIfInBounds_toArray, List.set_cons_zero, List.set_cons_succ]) | (refine T_load (by assumption) (by rfl) (by rfl) (fun _ _ _ _ h => h) rfl rfl (by assumption) (by first | exact (fun hn => hn) | assumption) ?_; try simp only [Act.put, List.setIfInBounds_toArray, List.set_cons_zero, List.set_cons_succ]) | (refine T_nil (by rfl) (by rfl) (fun _ _ _ _ h => h) rfl rfl ?_; try simp only [Act.put, List.setIfInBounds_toArray, List.set_cons_zero, List.set_cons_succ]) | (refine T_quietN (by rfl) (by rfl) (by rfl) (by rfl) (fun _ _ _ _ h => h) (fun K hK => ?_); go_big_quiet_op; refine hK _ ?_; clear hK K) | (refine T_two (by rfl) (by rfl) (by rfl) (by rfl) (fun _ _ _ _ h => h) (fun K hK => ?_); go_big_quiet_op; refine ⟨_, fun _ _ => rfl, ?_⟩; refine hK _ ?_; clear hK K; try simp only [Act.put, List.setIfInBounds_toArray, List.set_cons_zero, List.set_cons_succ]) | fail)
    refine T_loadA (cs := vcells v) ag_val (by rfl) (by rfl) (fun _ _ _ _ h => h) rfl rfl rfl hv2 hSV ?_
    try simp only [Act.put, List.setIfInBounds_toArray, List.set_cons_zero, List.set_cons_succ]
    unfold vcells
    repeat (first | (refine T_skip (by rfl) (by rfl) (fun _ _ _ h => h) ?_; try simp only [Act.put, List.setIfInBounds_toArray, List.set_cons_zero, List.set_cons_succ]) | (refine T_pass (by rfl) (by rfl) ?_; try simp only [Act.put, List.setIfInBounds_toArray, List.set_cons_zero, List.set_cons_succ]) | (refine T_load (by assumption) (by rfl) (by rfl) (fun _ _ _ _ h => h) rfl rfl (by assumption) (by first | exact (fun hn => hn) | assumption) ?_; try simp only [Act.put, List.setIfInBounds_toArray, List.set_cons_zero, List.set_cons_succ]) | (refine T_nil (by rfl) (by rfl) (fun _ _ _ _ h => h) rfl rfl ?_; try simp only [Act.put, List.setIfInBounds_toArray, List.set_cons_zero, List.set_cons_succ]) | (refine T_quietN (by rfl) (by rfl) (by rfl) (by rfl) (fun _ _ _ _ h => h) (fun K hK => ?_); go_big_quiet_op; refine hK _ ?_; clear hK K) | (refine T_two (by rfl) (by rfl) (by rfl) (by rfl) (fun _ _ _ _ h => h) (fun K hK => ?_); go_big_quiet_op; refine ⟨_, fun _ _ => rfl, ?_⟩; refine hK _ ?_; clear hK K; try simp only [Act.put, List.setIfInBounds_toArray, List.set_cons_zero, List.set_cons_succ]) | fail)
    refine T_call (by rfl) (by rfl) (fun K hK => ?_)
    refine wp_buildOne so_val (by decide) [.int .i64 v.k, .int .i64 v.n] rfl rfl rfl ?_
    (refine hK.out _ _ (((Fr.refl _ _).alloc _)) ?_; clear hK K; try simp only [Act.put, List.setIfInBounds_toArray, List.set_cons_zero, List.set_cons_succ])
    have hfA : Fr No w2 (w2.drew.alloc (.cells [Value.int .i64 v.k, .int .i64 v.n].toArray 30)) := (Fr.refl No w2).drew.alloc _
    have hbx : Blk (w2.drew.alloc (.cells [Value.int .i64 v.k, .int .i64 v.n].toArray 30)) w2.heap.size 30 (vcells v).toArray := Blk.newAt rfl
    have hown2 := own_fr0 hown (hF2.tr hfA)
    have hzw2 := hF2.size
    have hzA := hfA.size
    have hownlt := hown.lt
    have hbo2 := hb2.fr0 hfA
    generalize hw3 : w2.drew.alloc (.cells [Value.int .i64 v.k, .int .i64 v.n].toArray 30) = w3 at *
    clear hw3
    refine T_call (by rfl) (by rfl) (fun K hK => ?_)
    go_wp2_with fail
    refine (insert_calls B A c w2.heap.size l.length l v w3 hown2 (by omega) (by omega) (by omega) hbx (fun b hb e => by have := (hownlt b (by rw [EO.out]; exact hb)).2; omega)).mono ?_
    rintro e w4 ⟨A4, c4, rfl, hown4, hg4, hA4⟩
    have hbo4 := Blk.grown hbo2 hg4 (fun e => HB.out g (by rw [EO.out]; exact e.symm) rfl)
    have q4 := hbo4.cell 1
    simp only [List.getElem?_toArray, List.getElem?_cons_zero, List.getElem?_cons_succ] at q4
    have qf4 := hbo4.frozen 1
    go_wp2_with fail
    (refine hK.out _ _ (((Fr.refl _ _).grown hg4 (fun q hq => .inr hq))) ?_; clear hK K; try simp only [Act.put, List.setIfInBounds_toArray, List.set_cons_zero, List.set_cons_succ])
    repeat (first | (refine T_skip (by rfl) (by rfl) (fun _ _ _ h => h) ?_; try simp only [Act.put, List.setIfInBounds_toArray, List.set_cons_zero, List.set_cons_succ]) | (refine T_pass (by rfl) (by rfl) ?_; try simp only [Act.put, List.setIfInBounds_toArray, List.set_cons_zero, List.set_cons_succ]) | (refine T_load (by assumption) (by rfl) (by rfl) (fun _ _ _ _ h => h) rfl rfl (by assumption) (by first | exact (fun hn => hn) | assumption) ?_; try simp only [Act.put, List.setIfInBounds_toArray, List.set_cons_zero, List.set_cons_succ]) | (refine T_nil (by rfl) (by rfl) (fun _ _ _ _ h => h) rfl rfl ?_; try simp only [Act.put, List.setIfInBounds_toArray, List.set_cons_zero, List.set_cons_succ]) | (refine T_quietN (by rfl) (by rfl) (by rfl) (by rfl) (fun _ _ _ _ h => h) (fun K hK => ?_); go_big_quiet_op; refine hK _ ?_; clear hK K) | (refine T_two (by rfl) (by rfl) (by rfl) (by rfl) (fun _ _ _ _ h => h) (fun K hK => ?_); go_big_quiet_op; refine ⟨_, fun _ _ => rfl, ?_⟩; refine hK _ ?_; clear hK K; try simp only [Act.put, List.setIfInBounds_toArray, List.set_cons_zero, List.set_cons_succ]) | fail)
    refine T_turn No [] (by rfl) (by rfl) (by rfl) (fun K hK => ?_)
    go_wp2_with fail
    refine hK.out _ _ ?_
    clear hK K
    refine T_done ?_
    go_wp2_with fail
    go_ret
    have hel : (addM l v).length = l.length + 1 := by rw [← HA.out]; simp <;> omega
    have hF3 := hF2.tr hfA
    have hF4 : Fr (fun b => A.map (·.block) = some b) w w4 := (hF3.mono (fun _ _ hn => hn.elim)).trans ((Fr.refl _ w3).grown hg4 (fun q hq => .inr hq)) (fun _ _ e => e)
    have hFS : Fr (fun b => b = g) w4 (w4.setCell ⟨g, 1, none⟩ (.slice A4 (l.length + 1) c4)) := (Fr.refl (fun b => b = g) w4).set (p := ⟨g, 1, none⟩) (.inr rfl) _
    have hF5 : Fr (fun b => b = g ∨ A.map (·.block) = some b) w (w4.setCell ⟨g, 1, none⟩ (.slice A4 (l.length + 1) c4)) := (hF4.mono (fun _ _ e => .inr e)).trans (hFS.mono (fun _ _ e => .inl e)) (fun _ _ e => e)
    have hb5 := hbo4.put 1 (.slice A4 (l.length + 1) c4)
    have hnew : A4.map (·.block) = A.map (·.block) ∨ ∃ b, A4.map (·.block) = some b ∧ w.heap.size ≤ b := by
      rcases hA4 with h | h
      · exact .inl h
      · exact .inr ⟨_, h, by omega⟩
    have hown5 := own_fr hown4 hFS (fun b hb e => by
      rw [EO.out] at hb
      rcases hA4 with h | h
      · rw [h] at hb; exact HB.out b (by rw [EO.out]; exact hb) e
      · rw [h] at hb; injection hb with hb; omega)
    refine .inr ⟨addM l v, rfl, rfl, box_make (w := w) (A := A) (A' := A4) (c := c) (c' := c4) (c2 := c2) hd hgl ?_ ?_ (fun b hb => HB.out b (by rw [EO.out]; exact hb)) hnew hF5, hF5.mono (fun b _ e => ?_)⟩
    · rw [hel]; exact hb5
    · rw [hel, ← HA.out]
      exact hown5
    · rcases e with e | e
      · exact .inl e
      · exact .inr (hownlt b (by rw [EO.out]; exact e)).1
set_option maxHeartbeats 2000000 in
set_option maxRecDepth 100000 in
theorem put_no (w : World) (g B : Nat) (o : ObjM) (oop : Int) (v : VL) (h : BoxAt w g B o) (hlen : o.slots.length ≤ 8796093022208) (hno : v.k < 0 ∨ 3 < v.k ∨ 256 ≤ o.slots.length) :
    Calls Try.prog 26 #[.pointer (some ⟨g, 0, none⟩), .agg #[.int .i64 oop, .bool true, .int .i64 v.k, .int .i64 v.n]] w (DoneR w g B o none) := by
  have hB0 := h
  obtain ⟨A, c, D, c2, hb, hown, hgB, hd⟩ := h
  obtain ⟨cls, l, bytes⟩ := o
  simp only at hb hown hd hlen hno ⊢
  have g2 := plain_lval
  have hf0 : Fr No w ((w.alloc (.cells #[.int .i64 oop, .bool true, .int .i64 v.k, .int .i64 v.n] 41)).alloc (.cells #[.int .i64 v.k, .int .i64 v.n] 30)) := ((Fr.refl No w).alloc _).alloc _
  have hb1 := hb.fr0 hf0
  (have y0 := hb1.cell 0; have y1 := hb1.cell 1; have y2 := hb1.cell 2; have yf0 := hb1.frozen 0; have yf1 := hb1.frozen 1; have yf2 := hb1.frozen 2; simp only [List.getElem?_toArray, List.getElem?_cons_zero, List.getElem?_cons_succ] at y0 y1 y2)
  have hno : v.k < 0 ∨ (¬ v.k < 0 ∧ 3 < v.k) ∨ (¬ v.k < 0 ∧ ¬ 3 < v.k ∧ 256 ≤ l.length) := by omega
  rcases hno with h | ⟨h, h'⟩ | ⟨h, h', h''⟩
  · have e1 : decide (v.k < 0) = true := by simpa using h
    clear h
    go_enter Try.func26, Try.ntmps26
    go_wp2_with fail
    go_ret
    exact .inl ⟨rfl, rfl, BoxAt.fr0 hB0 hf0, hf0⟩
  · have e1 : decide (v.k < 0) = false := by simpa using h
    have e2 : decide (3 < v.k) = true := by simpa using h'
    clear h h'
    go_enter Try.func26, Try.ntmps26
    go_wp2_with fail
    go_ret
    exact .inl ⟨rfl, rfl, BoxAt.fr0 hB0 hf0, hf0⟩
  · have e1 : decide (v.k < 0) = false := by simpa using h
    have e2 : decide (3 < v.k) = false := by simpa using h'
    have e3 : decide (256 ≤ (l.length : Int)) = true := by simp; omega
    clear h h' h''
    go_enter Try.func26, Try.ntmps26
    go_wp2_with fail
    go_ret
    exact .inl ⟨rfl, rfl, BoxAt.fr0 hB0 hf0, hf0⟩
theorem put_calls (w : World) (g B : Nat) (o : ObjM) (p : OpM) (h : BoxAt w g B o) (hB : B ≤ w.heap.size) (hlen : o.slots.length ≤ 8796093022208) :
    Calls Try.prog 26 #[.pointer (some ⟨g, 0, none⟩), .agg (opcells p).toArray] w (DoneR w g B o (putM o.slots p)) := by
  obtain ⟨oop, add, v⟩ := p
  unfold putM opcells
  cases add with
  | false => exact put_del w g B o oop v h hlen
  | true =>
    by_cases hno : v.k < 0 ∨ 3 < v.k ∨ 256 ≤ o.slots.length
    · simp only [if_true]
      rw [if_pos hno]
      exact put_no w g B o oop v h hlen hno
    · simp only [if_true]
      rw [if_neg hno]
      exact put_add w g B o oop v h hB (by omega) (by omega) (by omega)
theorem putM_len {l l' : List VL} {p : OpM} (h : putM l p = some l') : l'.length ≤ max l.length 256 := by
  unfold putM at h
  split at h
  · split at h
    · cases h
    · rename_i hn
      injection h with h
      rw [← h]
      simp
      omega
  · unfold delM at h
    split at h
    · injection h with h
      rw [← h]
      have := List.length_erase_le (a := p.v) (l := l)
      omega
    · cases h
end Go.Proofs.Ytgchpfennbggoaa
namespace Go.Proofs.Ytgchpfennbggoaa
set_option linter.unusedVariables false
set_option linter.unusedSimpArgs false
open Go.RowKit

set_option maxHeartbeats 4000000 in
set_option maxRecDepth 100000 in
theorem replay14_calls (S : Nat → Prop) (cs : List Value) (o : ObjM) (w : World) (A0 : Option Addr) (c0 : Nat) (ops : List OpM) (h : ObjC w S cs o) (hc : o.cls = 14) (h1 : o.slots.length ≤ 8796093022208) (hops : RdO w (fun b => b < w.heap.size) A0 ops) :
    Calls Try.prog 8 #[.agg cs.toArray, .slice A0 ops.length c0] w (ReplR w o (runM putM o.slots ops)) := by
  have hle := hops.2.1
  have ho := h
  obtain ⟨A, c, D, c2, rfl, hs, hbt⟩ := h
  obtain ⟨cls, slots, bytes⟩ := o
  simp only at hc h1 hs hbt
  subst hc
  simp only
  go_enter Try.func8, Try.ntmps8
  go_wp2_with (first
    | (refine wpList_ldA ag_obj rfl _ rfl ⟨w.heap.size, 0, none⟩ [.int .i64 14, .slice A slots.length c, .slice D bytes.length c2] rfl rfl (show ∀ j u, _ → ((w.alloc (.cells #[.int .i64 14, .slice A slots.length c, .slice D bytes.length c2] 25)).alloc (.cells #[.int .i64 0, .slice none 0 0, .slice none 0 0] 25)).cell? _ = some u from Blk.all (Blk.alloc (Blk.new w _ _) _)) ?_)
    | fail)
  -- the walk's rest
  have hf1 : Fr No w ((w.alloc (.cells #[.int .i64 14, .slice A slots.length c, .slice D bytes.length c2] 25)).alloc (.cells #[.int .i64 0, .slice none 0 0, .slice none 0 0] 25)) := ((Fr.refl No w).alloc _).alloc _
  have hbR1 : Blk ((w.alloc (.cells #[.int .i64 14, .slice A slots.length c, .slice D bytes.length c2] 25)).alloc (.cells #[.int .i64 0, .slice none 0 0, .slice none 0 0] 25)) (w.heap.size + 1) 25 #[.int .i64 0, .slice none 0 0, .slice none 0 0] := Blk.newAt (by simp)
  have hbX1 : Blk ((w.alloc (.cells #[.int .i64 14, .slice A slots.length c, .slice D bytes.length c2] 25)).alloc (.cells #[.int .i64 0, .slice none 0 0, .slice none 0 0] 25)) w.heap.size 25 #[.int .i64 14, .slice A slots.length c, .slice D bytes.length c2] := (Blk.new w _ _).alloc _
  have hs1 : ((w.alloc (.cells #[.int .i64 14, .slice A slots.length c, .slice D bytes.length c2] 25)).alloc (.cells #[.int .i64 0, .slice none 0 0, .slice none 0 0] 25)).heap.size = w.heap.size + 1 + 1 := by simp
  refine (ocopy_calls S [.int .i64 14, .slice A slots.length c, .slice D bytes.length c2] ⟨14, slots, bytes⟩ _ (ho.fr0 hf1) (by simp only; omega)).mono ?_
  rintro e w2 ⟨cs', rfl, hown, hf2⟩
  rw [hs1] at hown
  obtain ⟨A2, c2', D2, d2, M, rfl, hso, hMl, hbo, hBM⟩ := hown
  simp only at hso hMl hbo
  have hbR2 := hbR1.fr0 hf2
  have hbX2 := hbX1.fr0 hf2
  have hF2 := hf1.tr hf2
  have hsz2 : w.heap.size + 1 + 1 ≤ w2.heap.size := by have := hf2.size; omega
  have q0 := hbX2.cell 0
  simp only [List.getElem?_toArray, List.getElem?_cons_zero, List.getElem?_cons_succ] at q0
  clear hbR1 hbX1 hf1 hf2 hs1
  have hle2 := RdB.le hbt
  obtain ⟨_, _, e9, _, _, hD2⟩ := own_form hbo
  injection e9 with e91 e92 e93
  subst e91 e93
  have hbox : BoxAt (w2.alloc (.cells #[.int .i64 14, .slice A2 slots.length c2', .slice D2 bytes.length d2] 25)) w2.heap.size (w.heap.size + 1 + 1) ⟨14, slots, bytes⟩ := by
    refine ⟨A2, c2', D2, d2, Blk.new w2 _ _, own_fr0 hso ((Fr.refl No w2).alloc _), fun b hb => by have := (hso.lt b hb).2; omega, ?_⟩
    refine Rd.mono (Rd.fr0 (own_rd hbo hle2) ((Fr.refl No w2).alloc _)) (fun b _ hb => ⟨⟨?_, fun h3 => ?_⟩, ?_⟩) (by decide)
    · have := (hbo.lt b ((hD2 b).2 hb)).2; omega
    · have := (hbo.lt b ((hD2 b).2 hb)).1; have := hMl b h3; omega
    · have := (hbo.lt b ((hD2 b).2 hb)).1; omega
  have hfB : Fr No w2 (w2.alloc (.cells #[.int .i64 14, .slice A2 slots.length c2', .slice D2 bytes.length d2] 25)) := (Fr.refl No w2).alloc _
  have q0a := (hbX2.fr0 hfB).cell 0
  simp only [List.getElem?_toArray, List.getElem?_cons_zero, List.getElem?_cons_succ] at q0a
  go_wp2_with fail
  generalize hw3 : w2.alloc (.cells #[.int .i64 14, .slice A2 slots.length c2', .slice D2 bytes.length d2] 25) = w3 at *
  clear hw3
  obtain ⟨g, hg⟩ : ∃ g, g = w2.heap.size := ⟨_, rfl⟩
  have hsz3 := hfB.size
  have hF3 := hF2.tr hfB
  have hbR3 := hbR2.fr0 hfB
  have hgl : w.heap.size + 1 + 1 ≤ g := by omega
  rw [← hg] at hbox ⊢
  clear hg hbX2 q0 q0a hbR2 hfB hso hMl hbo hD2 hF2
  go_loopw [20] (fun i wr => ∃ (k : Nat) (l : List VL), k ≤ ops.length ∧ i = .int .i64 (k : Int) ∧ BoxAt wr g (w.heap.size + 1 + 1) ⟨14, l, bytes⟩ ∧ l.length ≤ 8796093022208 ∧ Hid (runM putM slots ops = runM putM l (ops.drop k)) ∧ Fr (fun b => w.heap.size + 1 + 1 ≤ b) w3 wr) (fun i _ => ops.length - (intOf i).toNat)
  case atStart => exact ⟨0, slots, by omega, rfl, hbox, h1, Lib.hid rfl, Fr.refl _ _⟩
  case round =>
    obtain ⟨k, l, hk, rfl, hbox, hl, HR, hf⟩ := hrel
    have hszr := hf.size
    have hfW : Fr No w wr := hF3.trans hf (fun b hb hT => by omega)
    have hbR := hbR3.fr hf (fun hT => by omega)
    by_cases hlt : k < ops.length
    · have ek : decide ((k : Int) < ops.length) = true := by simpa using (by omega : (k : Int) < ops.length)
      obtain ⟨go, of, rfl, _, hco⟩ := RdO.at_ (w := wr) (S := fun b => b < w.heap.size) (A := A0) (l := ops) (Rd.fr hops hfW (fun _ _ hn => hn)) hlt
      have hdr := runM_drop putM l ops hlt
      have HD := Lib.hid (HR.out.trans hdr)
      clear hdr
      generalize ops[k] = p at *
      have hbo := Blk.new wr 41 (opcells p).toArray
      have hfo : Fr No wr (wr.alloc (.cells (opcells p).toArray 41)) := (Fr.refl No wr).alloc _
      unfold opcells at hco hbo hfo
      go_wp2_with (first
        | (refine wpList_ldA ag_op rfl _ rfl ⟨go, of + k * 4, none⟩ [.int .i64 p.oop, .bool p.add, .int .i64 p.v.k, .int .i64 p.v.n] rfl rfl hco ?_)
        | (refine wpList_ldA ag_op rfl _ rfl ⟨wr.heap.size, 0, none⟩ [.int .i64 p.oop, .bool p.add, .int .i64 p.v.k, .int .i64 p.v.n] rfl rfl hbo.all ?_)
        | fail)
      refine (put_calls _ g (w.heap.size + 1 + 1) ⟨14, l, bytes⟩ p (hbox.fr0 hfo) (by have := hfo.size; omega) hl).mono ?_
      rintro e w4 (⟨hn, rfl, hbox4, hf4⟩ | ⟨l', hsome, rfl, hbox4, hf4⟩)
      · have HN := Lib.hid (show runM putM slots ops = none by rw [HD.out]; simp only at hn; rw [hn])
        have hbR4 := (hbR.fr0 hfo).fr0 hf4
        clear hn
        go_wp2_with (first
          | (refine wpList_stA ag_obj.info rfl _ _ rfl (w.heap.size + 1) 0 _ _ [.int .i64 0, .slice none 0 0, .slice none 0 0] _ rfl rfl rfl rfl (by intro u hu; simp at hu; rcases hu with rfl | rfl | rfl <;> rfl) hbR4 (by decide) ?_; intro w5 hb5 hg5 hz5)
          | fail)
        rw [splice_all _ _ (by rfl)] at hb5
        refine bodyPost_ret (results_blk2 ag_obj rfl _ _ _ _ _ _ rfl rfl hb5 rfl) rfl ?_
        rw [HN.out]
        exact ⟨((hfW.tr hfo).tr hf4).grown hg5 (fun q hq => by injection hq with hq; exact .inl (by omega)), .inl ⟨rfl, rfl⟩⟩
      · simp only at hsome hbox4
        have HN := Lib.hid (show runM putM slots ops = runM putM l' (ops.drop (k + 1)) by rw [HD.out, hsome])
        have hl' := putM_len hsome
        clear hsome
        go_wp2
        go_roundw
        case rel => exact ⟨k + 1, l', by omega, by go_num, hbox4, by omega, HN, (hf.trans (hfo.mono (fun _ _ hn => hn.elim)) (fun _ _ hb => hb)).trans hf4 (fun b hb hT => hT.elim (fun h => by omega) id)⟩
        case measure => simp [intOf]; omega
    · obtain rfl : k = ops.length := by omega
      have ek : decide ((ops.length : Int) < ops.length) = false := by simp
      have HN := Lib.hid (show runM putM slots ops = some l by have := HR.out; rw [List.drop_length] at this; exact this)
      obtain ⟨Al, cl, Dl, dl, hbg, hol, hgol, hdl⟩ := id hbox
      have HGO := Lib.hid hgol
      clear hgol
      simp only at hbg hol hdl
      go_wp2_with (first
        | (refine wpList_ldA ag_obj rfl _ rfl ⟨g, 0, none⟩ [.int .i64 14, .slice Al l.length cl, .slice Dl bytes.length dl] rfl rfl hbg.all ?_)
        | (refine wpList_stA ag_obj.info rfl _ _ rfl (w.heap.size + 1) 0 _ _ [.int .i64 14, .slice Al l.length cl, .slice Dl bytes.length dl] _ rfl rfl rfl rfl (by intro u hu; simp at hu; rcases hu with rfl | rfl | rfl <;> rfl) hbR (by decide) ?_; intro w5 hb5 hg5 hz5)
        | fail)
      rw [splice_all _ _ (by rfl)] at hb5
      refine bodyPost_ret (results_blk2 ag_obj rfl _ _ _ _ _ _ rfl rfl hb5 rfl) rfl ?_
      rw [HN.out]
      have hFw := hfW.grown hg5 (fun q hq => by injection hq with hq; exact .inl (by omega))
      obtain ⟨_, _, e9, _, _, hDl⟩ := own_form hol
      injection e9 with e91 e92 e93
      subst e91
      refine ⟨hFw, .inr ⟨l, _, rfl, rfl, Al, cl, Dl, dl, rfl, ?_, ?_⟩⟩
      · refine Rd.mono (Rd.grown (own_rd hol (show l.length ≤ 211106232532992 by omega)) hg5 (fun q hq hb => ?_)) (fun b _ hb => ?_) (by decide)
        · injection hq with hq; have := (hol.lt q ((hDl q).2 hb)).1; omega
        · have := (hol.lt b ((hDl b).2 hb)).1; omega
      · refine Rd.mono (Rd.grown hdl hg5 (fun q hq hb => ?_)) (fun b _ hb => ?_) (by decide)
        · injection hq with hq; have := hb.2; omega
        · have := hb.2; omega
set_option maxHeartbeats 2000000 in
set_option maxRecDepth 100000 in
theorem replay_else (S : Nat → Prop) (cs : List Value) (o : ObjM) (w : World) (A0 : Option Addr) (c0 n0 : Nat) (h : ObjC w S cs o) (hc : ¬ o.cls = 13) (hc2 : ¬ o.cls = 14) (h1 : o.slots.length ≤ 8796093022208) :
    Calls Try.prog 8 #[.agg cs.toArray, .slice A0 n0 c0] w (ReplR w o none) := by
  have ho := h
  obtain ⟨A, c, D, c2, rfl, hs, hbt⟩ := h
  obtain ⟨cls, slots, bytes⟩ := o
  simp only at hc hc2 h1 hs hbt
  have e13 : (cls == 13) = false := by simpa using hc
  have e14 : (cls == 14) = false := by simpa using hc2
  clear hc hc2
  go_enter Try.func8, Try.ntmps8
  go_wp2_with (first
    | (refine wpList_ldA ag_obj rfl _ rfl ⟨w.heap.size, 0, none⟩ [.int .i64 cls, .slice A slots.length c, .slice D bytes.length c2] rfl rfl (show ∀ j u, _ → ((w.alloc (.cells #[.int .i64 cls, .slice A slots.length c, .slice D bytes.length c2] 25)).alloc (.cells #[.int .i64 0, .slice none 0 0, .slice none 0 0] 25)).cell? _ = some u from Blk.all (Blk.alloc (Blk.new w _ _) _)) ?_)
    | fail)
  have hf1 : Fr No w ((w.alloc (.cells #[.int .i64 cls, .slice A slots.length c, .slice D bytes.length c2] 25)).alloc (.cells #[.int .i64 0, .slice none 0 0, .slice none 0 0] 25)) := ((Fr.refl No w).alloc _).alloc _
  have hbR1 : Blk ((w.alloc (.cells #[.int .i64 cls, .slice A slots.length c, .slice D bytes.length c2] 25)).alloc (.cells #[.int .i64 0, .slice none 0 0, .slice none 0 0] 25)) (w.heap.size + 1) 25 #[.int .i64 0, .slice none 0 0, .slice none 0 0] := Blk.newAt (by simp)
  have hbX1 : Blk ((w.alloc (.cells #[.int .i64 cls, .slice A slots.length c, .slice D bytes.length c2] 25)).alloc (.cells #[.int .i64 0, .slice none 0 0, .slice none 0 0] 25)) w.heap.size 25 #[.int .i64 cls, .slice A slots.length c, .slice D bytes.length c2] := (Blk.new w _ _).alloc _
  have hs1 : ((w.alloc (.cells #[.int .i64 cls, .slice A slots.length c, .slice D bytes.length c2] 25)).alloc (.cells #[.int .i64 0, .slice none 0 0, .slice none 0 0] 25)).heap.size = w.heap.size + 1 + 1 := by simp
  refine (ocopy_calls S [.int .i64 cls, .slice A slots.length c, .slice D bytes.length c2] ⟨cls, slots, bytes⟩ _ (ho.fr0 hf1) (by simp only; omega)).mono ?_
  rintro e w2 ⟨cs', rfl, hown, hf2⟩
  obtain ⟨A2, c2', D2, d2, M, rfl, hso, hMl, hbo, hBM⟩ := hown
  have hbX2 := hbX1.fr0 hf2
  have hF2 := hf1.tr hf2
  have hfB : Fr No w2 (w2.alloc (.cells #[.int .i64 cls, .slice A2 slots.length c2', .slice D2 bytes.length d2] 25)) := (Fr.refl No w2).alloc _
  have hbX3 := hbX2.fr0 hfB
  have q0 := hbX3.cell 0
  simp only [List.getElem?_toArray, List.getElem?_cons_zero, List.getElem?_cons_succ] at q0
  have hbR4 := (hbR1.fr0 hf2).fr0 hfB
  go_wp2_with (first
    | (refine wpList_stA ag_obj.info rfl _ _ rfl (w.heap.size + 1) 0 _ _ [.int .i64 0, .slice none 0 0, .slice none 0 0] _ rfl rfl rfl rfl (by intro u hu; simp at hu; rcases hu with rfl | rfl | rfl <;> rfl) hbR4 (by decide) ?_; intro w5 hb5 hg5 hz5)
    | fail)
  rw [splice_all _ _ (by rfl)] at hb5
  refine bodyPost_ret (results_blk2 ag_obj rfl _ _ _ _ _ _ rfl rfl hb5 rfl) rfl ?_
  exact ⟨(hF2.tr hfB).grown hg5 (fun q hq => by injection hq with hq; exact .inl (by omega)), .inl ⟨rfl, rfl⟩⟩
/-- All that was done to an object. -/
def replM (o : ObjM) (ops : List OpM) : Option (List VL) :=
  if o.cls = 13 then runM countM o.slots ops else if o.cls = 14 then runM putM o.slots ops else none
theorem replay_calls (S : Nat → Prop) (cs : List Value) (o : ObjM) (w : World) (A0 : Option Addr) (c0 : Nat) (ops : List OpM) (h : ObjC w S cs o) (h1 : o.slots.length ≤ 8796093022208) (hops : RdO w (fun b => b < w.heap.size) A0 ops) (hb : ∀ p ∈ ops, -9223372036854775808 ≤ p.v.n ∧ p.v.n ≤ 9223372036854775807) :
    Calls Try.prog 8 #[.agg cs.toArray, .slice A0 ops.length c0] w (ReplR w o (replM o ops)) := by
  unfold replM
  by_cases hc : o.cls = 13
  · rw [if_pos hc]; exact replay13_calls S cs o w A0 c0 ops h hc h1 hops hb
  · rw [if_neg hc]
    by_cases hc2 : o.cls = 14
    · rw [if_pos hc2]; exact replay14_calls S cs o w A0 c0 ops h hc2 h1 hops
    · rw [if_neg hc2]; exact replay_else S cs o w A0 c0 ops.length h hc hc2 h1
end Go.Proofs.Ytgchpfennbggoaa
namespace Go.Proofs.Ytgchpfennbggoaa
set_option linter.unusedVariables false
set_option linter.unusedSimpArgs false
open Go.RowKit

def hitV (n : Int) (v : VL) : Bool := (v.k == 3) && (v.n == n)
def cntM (n : Int) (l : List VL) : Nat := l.countP (hitV n)
theorem cntM_add (n : Int) (l : List VL) (v : VL) : cntM n (addM l v) = cntM n l + (if hitV n v = true then 1 else 0) := by
  unfold cntM addM
  have e : l.countP (hitV n) = (l.take (l.findIdx (gtV · v))).countP (hitV n) + (l.drop (l.findIdx (gtV · v))).countP (hitV n) := by rw [← List.countP_append, List.take_append_drop]
  rw [List.countP_append, List.countP_cons, e]
  omega
theorem cntM_del (n : Int) {l : List VL} {v : VL} (h : v ∈ l) : cntM n l = cntM n (l.erase v) + (if hitV n v = true then 1 else 0) := by
  unfold cntM
  rw [(List.perm_cons_erase h).countP_eq, List.countP_cons]
theorem cntM_mem {n : Int} {l : List VL} : 0 < cntM n l ↔ (⟨3, n⟩ : VL) ∈ l := by
  unfold cntM
  rw [List.countP_pos_iff]
  constructor
  · rintro ⟨v, hv, hh⟩
    obtain ⟨k, m⟩ := v
    unfold hitV at hh
    simp only [Bool.and_eq_true, beq_iff_eq] at hh
    obtain ⟨rfl, rfl⟩ := hh
    exact hv
  · intro h
    exact ⟨_, h, by simp [hitV]⟩
theorem runM_snoc (f : List VL → OpM → Option (List VL)) (p : OpM) : ∀ (ops : List OpM) (l s : List VL), runM f l ops = some s → runM f l (ops ++ [p]) = f s p
  | [], l, s, h => by
    simp only [runM, Option.some.injEq] at h
    subst h
    simp only [List.nil_append, runM]
    cases f l p <;> rfl
  | q :: ops, l, s, h => by
    simp only [runM, List.cons_append] at h ⊢
    cases hq : f l q with
    | none => rw [hq] at h; cases h
    | some l' =>
      rw [hq] at h
      exact runM_snoc f p ops l' s h
def bagOp (add : Bool) (x : Int) : OpM := ⟨0, add, ⟨3, x⟩⟩
/-- What stands in a Bag behind all. -/
structure BagR (all : List OpM) (s : List VL) : Prop where
  run : runM putM [] all = some s
  len : s.length ≤ all.length
theorem putM_bagadd {s : List VL} (h : s.length < 256) (x : Int) : putM s (bagOp true x) = some (addM s ⟨3, x⟩) := by
  unfold putM bagOp
  rw [if_pos rfl, if_neg (by simp; omega)]
  rfl
theorem putM_bagdel (s : List VL) (x : Int) : putM s (bagOp false x) = delM s ⟨3, x⟩ := by
  unfold putM bagOp
  rw [if_neg (by simp)]
theorem addM_len (l : List VL) (v : VL) : (addM l v).length = l.length + 1 := by
  have := List.findIdx_le_length (xs := l) (p := (gtV · v))
  unfold addM
  simp
  omega
theorem BagR.add {all : List OpM} {s : List VL} (h : BagR all s) (hl : s.length < 256) (x : Int) : BagR (all ++ [bagOp true x]) (addM s ⟨3, x⟩) := by
  refine ⟨by rw [runM_snoc _ _ _ _ _ h.run, putM_bagadd hl], ?_⟩
  have := h.len
  rw [addM_len]
  simp
  omega
theorem BagR.del {all : List OpM} {s : List VL} (h : BagR all s) {x : Int} (hx : (⟨3, x⟩ : VL) ∈ s) : BagR (all ++ [bagOp false x]) (s.erase ⟨3, x⟩) := by
  refine ⟨by rw [runM_snoc _ _ _ _ _ h.run, putM_bagdel]; unfold delM; rw [if_pos hx], ?_⟩
  have := h.len
  have := List.length_erase_le (a := (⟨3, x⟩ : VL)) (l := s)
  simp
  omega
theorem BagR.next {all : List OpM} {s : List VL} (h : BagR all s) (p : OpM) : runM putM [] (all ++ [p]) = putM s p := runM_snoc _ _ _ _ _ h.run
set_option maxHeartbeats 2000000 in
set_option maxRecDepth 100000 in
theorem count16_calls (S : Nat → Prop) (cs : List Value) (o : ObjM) (n : Int) (w : World) (h : ObjC w S cs o) (hl : o.slots.length ≤ 1048576) :
    Calls Try.prog 13 #[.agg cs.toArray, .int .i64 n] w fun e w' => e = .returned (.int .i64 (cntM n o.slots : Nat)) ∧ Fr No w w' := by
  obtain ⟨A, c, D, c2, rfl, hs, hbt⟩ := h
  obtain ⟨cls, l, bytes⟩ := o
  simp only at hs hbt hl ⊢
  have g2 := plain_lval
  have g1 := plain_int
  have g4 := plain_i64
  have hf0 : Fr No w (w.alloc (.cells #[.int .i64 cls, .slice A l.length c, .slice D bytes.length c2] 25)) := (Fr.refl No w).alloc _
  have hbx : Blk (w.alloc (.cells #[.int .i64 cls, .slice A l.length c, .slice D bytes.length c2] 25)) w.heap.size 25 #[.int .i64 cls, .slice A l.length c, .slice D bytes.length c2] := Blk.new w _ _
  go_enter Try.func13, Try.ntmps13
  go_upto_region 1 with fail
  generalize hw1 : w.alloc (.cells #[.int .i64 cls, .slice A l.length c, .slice D bytes.length c2] 25) = w1 at *
  clear hw1
  go_wp2_with fail
  go_loopw [5, 6] (fun s5 s6 wr => ∃ k : Nat, k ≤ l.length ∧ s6 = .int .i64 (k : Int) ∧ s5 = .int .i64 (cntM n (l.take k) : Nat) ∧ Fr No w1 wr) (fun _ i _ => l.length - (intOf i).toNat)
  case atStart => exact ⟨0, by omega, rfl, rfl, Fr.refl _ _⟩
  case round =>
    obtain ⟨k, hk, rfl, rfl, hf⟩ := hrel
    have hbr := hbx.fr0 hf
    (have y0 := hbr.cell 0; have y1 := hbr.cell 1; have y2 := hbr.cell 2; have yf0 := hbr.frozen 0; have yf1 := hbr.frozen 1; have yf2 := hbr.frozen 2; simp only [List.getElem?_toArray, List.getElem?_cons_zero, List.getElem?_cons_succ] at y0 y1 y2)
    by_cases hlt : k < l.length
    · have ek : decide ((k : Int) < l.length) = true := by simpa using (by omega : (k : Int) < l.length)
      obtain ⟨g, of, rfl, _, c0, c1, _⟩ := RdV.at_ (Rd.fr0 hs (hf0.tr hf)) hlt
      have HT := Lib.hid (show cntM n (l.take (k + 1)) = cntM n (l.take k) + (if hitV n l[k] = true then 1 else 0) by
        unfold cntM
        rw [← List.take_append_getElem hlt, List.countP_append, List.countP_cons]
        simp)
      have hcl : cntM n (l.take k) ≤ 1048576 := by
        have h1 : cntM n (l.take k) ≤ (l.take k).length := List.countP_le_length
        rw [List.length_take] at h1
        omega
      generalize l[k] = x at *
      generalize cntM n (l.take k) = cn at *
      obtain ⟨xk, xn⟩ := x
      simp only at c0 c1
      unfold hitV at HT
      simp only at HT
      by_cases h3 : xk = 3
      · subst h3
        by_cases hn : xn = n
        · have e1 : (xn == n) = true := by simpa using hn
          have HT := Lib.hid (HT.out.trans (show cn + _ = cn + 1 by rw [if_pos (by simpa using hn)]))
          clear hn
          go_wp2_with fail
          go_roundw
          case rel => exact ⟨k + 1, by omega, by go_num, by rw [HT.out]; go_num, hf⟩
          case measure => simp [intOf]; omega
        · have e1 : (xn == n) = false := by simpa using hn
          have HT := Lib.hid (HT.out.trans (show cn + _ = cn by rw [if_neg (by simpa using hn)]; rfl))
          clear hn
          go_wp2_with fail
          go_roundw
          case rel => exact ⟨k + 1, by omega, by go_num, by rw [HT.out], hf⟩
          case measure => simp [intOf]; omega
      · have e1 : (xk == 3) = false := by simpa using h3
        have HT := Lib.hid (HT.out.trans (show cn + _ = cn by rw [if_neg (by simp [h3])]; rfl))
        clear h3
        go_wp2_with fail
        go_roundw
        case rel => exact ⟨k + 1, by omega, by go_num, by rw [HT.out], hf⟩
        case measure => simp [intOf]; omega
    · obtain rfl : k = l.length := by omega
      have ek : decide ((l.length : Int) < l.length) = false := by simp
      rw [List.take_length]
      go_wp2_with fail
      go_ret
      exact ⟨rfl, hf0.tr hf⟩
end Go.Proofs.Ytgchpfennbggoaa
