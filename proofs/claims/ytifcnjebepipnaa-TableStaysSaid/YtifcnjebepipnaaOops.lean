/- table.Oops: all objects behind a commit, rising. No condition but size. -/
import Derived.Test.YtifcnjebepipnaaIter
import Derived.Test.YtifcnjebepipnaaInts
import Derived.Test.YtifcnjebepipnaaLaysS
import Derived.Shelf.SortM.SortNone
import Derived.Lib.SlKeysI
namespace Go.Proofs.Ytifcnjebepipnaa
set_option linter.unusedVariables false
set_option linter.unusedSimpArgs false
open Go.RowKit Go.Maps Go.Shelf Go.Sort
attribute [local go_sem] Oper.semAt_some

theorem tall_calls (w : World) (p : Option Addr) (c : Int) :
    Calls Try.prog 29 #[.pointer p, .int .i64 c] w fun e w' => e = .returned (.func (.func 43) #[] #[.pointer (some ⟨w.heap.size, 0, none⟩), .pointer (some ⟨w.heap.size + 1, 0, none⟩)]) ∧ w' = (w.alloc (.cells #[.pointer p] 23)).alloc (.cells #[.int .i64 c] 2) := by
  go_enter Try.func29, Try.ntmps29
  go_wp2
  go_ret
  exact ⟨rfl, rfl⟩
/-- What Oops answers. -/
def OopsL (t : TabM) (c : Int) (l : List Int) : Prop :=
  if (decide (t.first ≤ c) && decide (c ≤ t.last)) = true then l.Pairwise (· < ·) ∧ (∀ x ∈ l, W64 x) ∧ ∀ x, W64 x → (x ∈ l ↔ liveV t c x = true) else l = []
theorem OopsL.unique {t : TabM} {c : Int} {l m : List Int} (h1 : OopsL t c l) (h2 : OopsL t c m) : l = m := by
  unfold OopsL at h1 h2
  split at h1
  · rename_i ha
    rw [if_pos ha] at h2
    refine rising_ext h1.1 h2.1 (fun x => ?_)
    constructor
    · intro hx
      have hw := h1.2.1 x hx
      exact (h2.2.2 x hw).2 ((h1.2.2 x hw).1 hx)
    · intro hx
      have hw := h2.2.1 x hx
      exact (h1.2.2 x hw).2 ((h2.2.2 x hw).1 hx)
  · rename_i ha
    rw [if_neg ha] at h2
    rw [h1, h2]
theorem sorted_rising2 {l : List Int} (h : l.Nodup) : (l.mergeSort (fun x y => decide (x ≤ y))).Pairwise (· < ·) := by
  have h1 : (l.mergeSort (fun x y => decide (x ≤ y))).Pairwise (fun a b => decide (a ≤ b) = true) := List.pairwise_mergeSort (le := fun x y : Int => decide (x ≤ y)) (fun a b c h1 h2 => by simp only [decide_eq_true_eq] at *; omega) (fun a b => by simp only [Bool.or_eq_true, decide_eq_true_eq]; omega) l
  have h2 : (l.mergeSort (fun x y => decide (x ≤ y))).Nodup := (List.mergeSort_perm l _).nodup_iff.2 h
  exact (h1.and h2).imp (fun {a b} ⟨x, y⟩ => by simp only [decide_eq_true_eq] at x; omega)
theorem live_sorted {t : TabM} {c : Int} {ks : List Int} (h : LiveKeys t c ks) (ha : (decide (t.first ≤ c) && decide (c ≤ t.last)) = true) : OopsL t c (ks.mergeSort (fun x y => decide (x ≤ y))) := by
  unfold OopsL
  rw [if_pos ha]
  obtain ⟨h1, h2, h3⟩ := h
  refine ⟨sorted_rising2 h1, fun x hx => h2 x (List.mem_mergeSort.1 hx), fun x hx => ?_⟩
  rw [List.mem_mergeSort]
  exact h3 x hx
theorem all_stops (w : World) (n : Nat) (hn : 3 ≤ n) (bt bc n₀ : Nat) (p mb wb : Nat) (T O : Nat → Prop) (f g : Int → Option Value) (t : TabM) (c : Int) (hbt : w.cell? ⟨bt, 0, none⟩ = some (.pointer (some ⟨p, 0, none⟩))) (hbc : w.cell? ⟨bc, 0, none⟩ = some (.int .i64 c)) (hP : TabP w T O p mb wb f g t) (ok : TabOk t) (htn : t.n ≤ 1000000)
    (hT0 : ∀ b, T b → b < n₀) (hO0 : ∀ b, O b → b < n₀) (hbn : n₀ ≤ bc) :
    SeqStopsK Fence.wide n Try.prog 43 #[.pointer (some ⟨bt, 0, none⟩), .pointer (some ⟨bc, 0, none⟩)] encA (KpA n₀ bc) (fun xs => LiveKeys t c (xs.map (·.1))) (fun _ => True) t.n w := fun l J Jx W hW hJ _ hY h0 =>
  all1_in n hn l bt bc n₀ p mb wb T O f g t c J Jx hY W hJ ((hW.cell (p := ⟨bt, 0, none⟩) (World.block_lt_of_cell? w _ hbt)).trans hbt) ((hW.cell (p := ⟨bc, 0, none⟩) (World.block_lt_of_cell? w _ hbc)).trans hbc) (hP.fr (Fr.of_below (S := No) hW) (fun _ _ hn => hn) (fun _ _ hn => hn)) ok htn hT0 hO0 hbn h0
set_option maxRecDepth 100000 in
set_option maxHeartbeats 4000000 in
theorem oops_calls (w : World) (T O : Nat → Prop) (p : Nat) (t : TabM) (c : Int) (h : TabAt w T O p t) (ok : TabOk t) (htn : t.n ≤ 1000000) :
    Calls Try.prog 13 #[.pointer (some ⟨p, 0, none⟩), .int .i64 c] w fun e w' => ∃ v l, e = .returned v ∧ OopsL t c l ∧ IRow w' w.heap.size v l ∧ Fr No w w' ∧ l.length ≤ t.n := by
  obtain ⟨mb, wb, f, g, hP⟩ := h
  have hbk := hP.blk
  have hask := asked_calls w p t.first t.last c _ _ hbk
  cases ha : (decide (t.first ≤ c) && decide (c ≤ t.last)) with
  | false =>
    rw [ha] at hask
    have HL : Hid (OopsL t c []) := Lib.hid (by unfold OopsL; rw [if_neg (by rw [ha]; decide)])
    clear ha
    go_enter Try.func13, Try.ntmps13
    go_wp2_with fail
    refine hask.mono ?_
    rintro e w1 ⟨rfl, hw1⟩
    have hw1 := hw1.symm
    subst hw1
    go_wp2
    go_ret
    exact ⟨_, [], rfl, HL.out, World.ownsRow_nil _ _ _ _, Fr.refl _ _, Nat.zero_le _⟩
  | true =>
    rw [ha] at hask
    have HA := Lib.hid ha
    clear ha
    refine (callsIn_wide (n := 8)).1 ?_
    refine callsIn_of_wp_marks Try.func13 rfl trivial ?_ rfl
    simp only [Try.ntmps13, List.size_toArray, List.length_cons, List.length_nil, Nat.reduceAdd, Nat.reduceSub, Array.replicate_succ, Array.replicate_zero, List.push_toArray, List.append_toArray, List.nil_append, List.cons_append]
    gi_wp2_with fail
    refine ⟨trivial, (callsIn_wide.2 hask).mono ?_⟩
    rintro e w1 ⟨rfl, hw1⟩
    have hw1 := hw1.symm
    subst hw1
    gi_wp2_with fail
    refine ⟨trivial, (callsIn_wide.2 (tall_calls _ _ c)).mono ?_⟩
    rintro e w2 ⟨rfl, hw2⟩
    have hw2 := hw2.symm
    subst hw2
    gi_wp2_with fail
    have hf3 : Fr No w (((w.alloc (.cells #[.slice none 0 0] 41)).alloc (.cells #[.pointer (some ⟨p, 0, none⟩)] 23)).alloc (.cells #[.int .i64 c] 2)) := (((Fr.refl No w).alloc _).alloc _).alloc _
    have hbl : Blk (((w.alloc (.cells #[.slice none 0 0] 41)).alloc (.cells #[.pointer (some ⟨p, 0, none⟩)] 23)).alloc (.cells #[.int .i64 c] 2)) w.heap.size 41 #[.slice none 0 0] := ((Blk.new w _ _).alloc _).alloc _
    have hbt : Blk (((w.alloc (.cells #[.slice none 0 0] 41)).alloc (.cells #[.pointer (some ⟨p, 0, none⟩)] 23)).alloc (.cells #[.int .i64 c] 2)) (w.heap.size + 1) 23 #[.pointer (some ⟨p, 0, none⟩)] := (Blk.newAt (by simp)).alloc _
    have hbc : Blk (((w.alloc (.cells #[.slice none 0 0] 41)).alloc (.cells #[.pointer (some ⟨p, 0, none⟩)] 23)).alloc (.cells #[.int .i64 c] 2)) (w.heap.size + 1 + 1) 2 #[.int .i64 c] := Blk.newAt (by simp)
    have hz3 : (((w.alloc (.cells #[.slice none 0 0] 41)).alloc (.cells #[.pointer (some ⟨p, 0, none⟩)] 23)).alloc (.cells #[.int .i64 c] 2)).heap.size = w.heap.size + 1 + 1 + 1 := by simp
    generalize hw3 : (((w.alloc (.cells #[.slice none 0 0] 41)).alloc (.cells #[.pointer (some ⟨p, 0, none⟩)] 23)).alloc (.cells #[.int .i64 c] 2)) = w3 at *
    clear hw3
    have hz3a : w.heap.size + 1 + 1 + 1 ≤ w3.heap.size := by omega
    have hz3b : w3.heap.size ≤ w.heap.size + 1 + 1 + 1 := by omega
    clear hz3
    have hP3 := hP.fr hf3 (fun _ _ hn => hn) (fun _ _ hn => hn)
    have hTw : ∀ b, T b → b < w.heap.size := fun b hb => (hP.off b hb).1
    have hOw : ∀ b, O b → b < w.heap.size := hP.offO
    have hct := hbt.cell 0
    have hcc := hbc.cell 0
    simp only [List.getElem?_toArray, List.getElem?_cons_zero] at hct hcc
    refine wpIn_rangeFunc_ownF (F := Fence.wide) (n := 8) rfl (by omega) (gf := 43) (lb := #[.pointer (some ⟨w.heap.size + 1, 0, none⟩), .pointer (some ⟨w.heap.size + 1 + 1, 0, none⟩)]) rfl trivial (enters_of Try.func43 (by kernel_rfl) rfl)
      (all_stops w3 7 (by omega) (w.heap.size + 1) (w.heap.size + 1 + 1) w.heap.size p mb wb T O f g t c hct hcc hP3 ok htn hTw hOw (by omega))
      (fun {A B C} h k => ⟨h.1.trans k.1, h.2.1.trans k.2.1, k.2.2.trans h.2.2⟩)
      (fun W l o o' hl h ho hw => ⟨KeepsWalks.putObj _ h hw, (Below.refl _ W).grown (grownBy_putObj' W l o') (by have := (Array.getElem?_eq_some_iff.1 h).1; omega) (fun k e => by cases e; omega), World.putObj_heap_other (by omega)⟩)
      (Below.refl _ _) (fun _ => rfl)
      (fun pre W => (∃ v, Blk W w.heap.size 41 #[v] ∧ W.ownsRow w3.heap.size 2 1 v pre.length (I64 (pre.map (·.1)))) ∧ Below w.heap.size w W ∧ w3.heap.size ≤ W.heap.size ∧ pre.length ≤ t.n)
      (fun _ _ _ => False)
      (fun s A B row hs hg hr => by
        obtain ⟨⟨v, hb, hrow⟩, hB, hsz, hn⟩ := hs
        refine ⟨⟨v, hb.grown hg (fun e => ?_), hrow.kept hg ?_⟩, hB.grown hg hB.size (fun k e => by have := (hr k e).1; omega), Nat.le_trans hsz hg.size, hn⟩
        · obtain ⟨_, o, ho, hc⟩ := hr _ e.symm
          rw [show A.heap[w.heap.size]? = _ from hb] at ho
          injection ho with ho
          subst ho
          cases hc
        · rcases hown : v.ownBlock with _ | q
          · exact .inl rfl
          · refine .inr (fun e => ?_)
            obtain ⟨_, o, ho, hc⟩ := hr q e.symm
            rcases hrow.2 with ⟨e2, _⟩ | ⟨g2, cap2, cur2, e2, _, hg2, _⟩
            · subst e2; cases hown
            · subst e2
              simp only [Value.ownBlock] at hown
              injection hown with hown
              subst hown
              rw [hg2] at ho
              injection ho with ho
              subst ho
              cases hc)
      (fun _ _ _ _ _ hs _ _ => hs)
      ⟨⟨_, hbl, World.ownsRow_nil _ _ _ _⟩, hf3.below, Nat.le_refl _, Nat.zero_le _⟩
      (fun x => { tmps := #[.pointer (some ⟨p, 0, none⟩), .int .i64 c, undef, undef, .slice none 0 0, .pointer (some ⟨w.heap.size, 0, none⟩), .int .i64 x.1, .pointer (some ⟨p, 0, none⟩), .bool false, .bool false, .pointer (some ⟨p, 0, none⟩), .int .i64 c, .bool true, .bool false, .bool false, .pointer (some ⟨p, 0, none⟩), .int .i64 c, .func (.func 43) #[] #[.pointer (some ⟨w.heap.size + 1, 0, none⟩), .pointer (some ⟨w.heap.size + 1 + 1, 0, none⟩)], .int .i64 x.1, x.2, undef, undef, undef, undef, undef, undef, undef], defers := [] }) ?assign ?body ?done ?stop
    case assign =>
      intro l x W K hK
      gi_wp2
      exact hK
    case body =>
      rintro l pre x W ⟨⟨v, hb, hrow⟩, hB, hsz, hn⟩ hlt
      have hc := hb.cell 0
      have hfz := hb.frozen 0
      simp only [List.getElem?_toArray, List.getElem?_cons_zero] at hc
      have hbW := hb.lt
      gi_wp2_with (first
        | (refine wpListIn_app so_i64 rfl (hrow.alloc _) (rd_new1 (by simp)) (by intro u hu; simp at hu; subst hu; rfl) (by omega) (by simp; omega) rfl rfl rfl ?_; intro v5 w5 hown5 hg5 hat5; have hb5 := (hb.alloc (.cells #[.int .i64 x.1] 2)).grown hg5 (fun e => by have := (hrow.lt _ e.symm).1; omega); have hc5 := hb5.cell 0; have hfz5 := hb5.frozen 0; simp only [List.getElem?_toArray, List.getElem?_cons_zero] at hc5; obtain ⟨A5, c5, rfl, hc5a, hc5b, hA5⟩ := own_form hown5)
        | gi_in)
      have hcr : ∀ (j : Nat) (o : Obj), v.ownBlock = some j → (W.alloc (.cells #[.int .i64 x.1] 2)).heap[j]? = some o → o.isCells = true := fun j o hj ho => by
        rcases (hrow.alloc (.cells #[.int .i64 x.1] 2)).2 with ⟨e2, _⟩ | ⟨g2, cap2, cur2, e2, _, hg2, _⟩
        · subst e2; cases hj
        · subst e2
          simp only [Value.ownBlock] at hj
          injection hj with hj
          subst hj
          rw [hg2] at ho
          injection ho with ho
          subst ho
          rfl
      have hKO : KeepsOthers W (w5.setCell ⟨w.heap.size, 0, none⟩ (.slice A5 (pre.length + 1) c5)) := ((KeepsOthers.alloc W _).trans (KeepsOthers.of_grownBy hg5 hcr)).trans (KeepsOthers.setCell _ _ _)
      have hF : Fr (fun b => b = w.heap.size ∨ w3.heap.size ≤ b) W (w5.setCell ⟨w.heap.size, 0, none⟩ (.slice A5 (pre.length + 1) c5)) := Fr.set (S := fun b => b = w.heap.size ∨ w3.heap.size ≤ b) (((Fr.refl _ W).alloc _).grown hg5 (fun q hq => .inr (.inr (hrow.lt q hq).1))) (p := ⟨w.heap.size, 0, none⟩) (.inr (.inl rfl)) _
      have hBW : Below w.heap.size W (w5.setCell ⟨w.heap.size, 0, none⟩ (.slice A5 (pre.length + 1) c5)) := ⟨hF.os, hF.tape, hF.output, hF.size, fun k hk => hF.block k (by omega) (by omega)⟩
      have hfS : Fr (fun b => b = w.heap.size) w5 (w5.setCell ⟨w.heap.size, 0, none⟩ (.slice A5 (pre.length + 1) c5)) := Fr.set (S := fun b => b = w.heap.size) (Fr.refl _ w5) (p := ⟨w.heap.size, 0, none⟩) (.inr rfl) _
      refine ⟨hKO, ⟨hKO.walks, hBW, hF.block _ (by omega) (by omega)⟩, ⟨⟨_, hb5.put 0 _, ?_⟩, hB.trans hBW, Nat.le_trans hsz hF.size, by simp; omega⟩⟩
      have h9 := own_fr hown5 hfS (fun b hb e => by have := (hown5.lt b hb).1; omega)
      rw [List.length_append, List.map_append, I64_append]
      exact h9
    case done =>
      rintro D xs W hD hL ⟨⟨v, hb, hrow⟩, hB, hsz, hn⟩ hK
      have hc := hb.cell 0
      simp only [List.getElem?_toArray, List.getElem?_cons_zero] at hc
      have hml : (xs.map (·.1)).length = xs.length := by simp
      have HS := live_sorted hL HA.out
      rcases hrow.2 with ⟨rfl, hz⟩ | ⟨gb, cap, cur, rfl, hbase, hgb, r1, r2, r3, r4⟩
      · have hxs : xs = [] := List.eq_nil_of_length_eq_zero hz
        subst hxs
        have cS : ∀ W, CallsIn Fence.wide 7 Try.prog 30 #[.slice none 0 0] W fun e w' => e = .returned (.tuple #[]) ∧ w' = W := fun W => callsIn_wide.2 (AnyM.slices_Sort_int_none sortL none 0 W)
        gi_wp2_with fail
        refine ⟨trivial, (cS W).mono ?_⟩
        rintro e w5 ⟨rfl, hw5⟩
        have hw5 := hw5.symm
        subst hw5
        gi_wp2
        refine ⟨by simp, .inl ⟨_, _, rfl, run_takeDeferred hK, ?_⟩⟩
        exact ⟨_, results_tmp rfl _ _ _, .slice none 0 0, [], rfl, by simpa using HS, (show IRow _ _ (.slice none 0 0) [] from World.ownsRow_nil _ _ _ _), Fr.of_below (hB.trans ((Below.refl _ W).grown (grownBy_putObj' W D _) hB.size (fun k e => by cases e; omega))), Nat.zero_le _⟩
      · have hH : Sort.Holds encZ W gb 0 (xs.map (·.1)).toArray := holds_of_block_i hgb (by rw [hml]; rw [Nat.mul_one] at r4; exact r4)
        have hgl : gb < W.heap.size := (Array.getElem?_eq_some_iff.1 hgb).1
        have cS := AnyM.slices_Sort_int sortL gb 0 cap (xs.map (·.1)) W hH hgl (by rw [hml]; omega)
        change Calls Try.prog 30 _ _ _ at cS
        have cS := (callsIn_wide (n := 7)).2 cS
        rw [hml] at cS
        gi_wp2_with fail
        refine ⟨trivial, cS.mono ?_⟩
        rintro e w5 ⟨rfl, nn, os, hw5⟩
        have hgr : W.grownBy w5 (some gb) := by rw [hw5]; exact grownBy_sorted_i _
        have hown5 : w5.ownsRow w3.heap.size 2 1 (.slice (some ⟨gb, 0, none⟩) xs.length cap) xs.length (((xs.map (·.1)).mergeSort fun x y => decide (x ≤ y)).map encZ) := by
          rw [hw5]
          have := ownsRow_sorted_i (w := W) (base := w3.heap.size) (n := nn) (e := 2) (os := os) (ss := xs.map (·.1)) (ts := (xs.map (·.1)).mergeSort fun x y => decide (x ≤ y)) (by simp) hbase hgb (by rw [hml]; exact r1) r2 r3
          rwa [hml] at this
        clear hw5
        have hb5 := hb.grown hgr (fun e => by injection e with e; omega)
        have hc5 := hb5.cell 0
        simp only [List.getElem?_toArray, List.getElem?_cons_zero] at hc5
        have hK5 : w5.heap[D]? = some (.deferred (some [])) := (hgr.block D (Array.getElem?_eq_some_iff.1 hK).1 (fun e => by
          injection e with e
          subst e
          rw [hgb] at hK
          cases hK)).trans hK
        gi_wp2
        refine ⟨by simp, .inl ⟨_, _, rfl, run_takeDeferred hK5, ?_⟩⟩
        have hB5 : Below w.heap.size w w5 := hB.trans ((Below.refl _ W).grown hgr hB.size (fun k e => by cases e; omega))
        have h9 := ownsRow_putObj hown5 (.deferred none) hK5 rfl
        refine ⟨_, results_tmp rfl _ _ _, _, _, rfl, HS, ?_, Fr.of_below (hB5.trans ((Below.refl _ w5).grown (grownBy_putObj' w5 D _) hB5.size (fun k e => by cases e; omega))), by simp; exact hn⟩
        have hlen : ((xs.map (·.1)).mergeSort fun x y => decide (x ≤ y)).length = xs.length := by simp
        unfold IRow
        rw [hlen]
        exact own_down h9 hf3.size
    case stop =>
      rintro D c pre W _ _ h _
      exact h.elim
end Go.Proofs.Ytifcnjebepipnaa
