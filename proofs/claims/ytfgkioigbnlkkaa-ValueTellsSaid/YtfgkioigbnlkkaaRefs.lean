/- Whom an object names: Refs of value and of its reference; lists of numbers that are alike. No condition but size. -/
import Derived.Test.YtfgkioigbnlkkaaRefCopy
namespace Go.Proofs.Ytfgkioigbnlkkaa
set_option linter.unusedVariables false
set_option linter.unusedSimpArgs false
open Go.RowKit

theorem so_i64 : SliceOf Try.prog 42 2 (.int .i64 0) 1 8 := ⟨Try.underlying42, by kernel_rfl, rfl, by decide, by decide, by decide⟩
def refsV (l : List VL) : List Int := (l.filter (fun v => v.k == 4)).map (·.n)
theorem refsV_snoc (l : List VL) (k : Nat) (h : k < l.length) : refsV (l.take (k + 1)) = refsV (l.take k) ++ refsV [l[k]] := by
  rw [List.take_succ_eq_append_getElem h]; unfold refsV; rw [List.filter_append, List.map_append]
/-- Whom an object names. -/
def refsM (o : ObjM) : List Int := (if 0 < o.cls then [o.cls] else []) ++ refsV o.slots
theorem refsV_len (l : List VL) : (refsV l).length ≤ l.length := by unfold refsV; rw [List.length_map]; exact List.length_filter_le _ _
theorem refsM_len (o : ObjM) : (refsM o).length ≤ o.slots.length + 1 := by
  have := refsV_len o.slots
  unfold refsM
  rw [List.length_append]
  split <;> simp <;> omega

set_option maxHeartbeats 2000000 in
set_option maxRecDepth 100000 in
theorem vrefs_calls (S : Nat → Prop) (cs : List Value) (o : ObjM) (w : World) (h : ObjC w S cs o) (h1 : o.slots.length * 16 ≤ 140737488351232) :
    Calls Try.prog 21 #[.agg cs.toArray] w fun e w' => ∃ v, e = .returned v ∧ w'.ownsRow w.heap.size 2 1 v (refsM o).length ((refsM o).map (Value.int .i64)) ∧ Fr No w w' := by
  obtain ⟨oc, os, ob⟩ := o
  obtain ⟨A, c, D, c2, rfl, hs, hb⟩ := h
  simp only at hs hb h1
  have g1 := plain_i64
  have g2 := plain_lval
  have g4 := plain_int
  have hle1 := hs.le
  have hf1 : Fr No w (w.alloc (.cells #[.int .i64 oc, .slice A os.length c, .slice D ob.length c2] 25)) := (Fr.refl No w).alloc _
  have hbx := Blk.new w 25 #[.int .i64 oc, .slice A os.length c, .slice D ob.length c2]
  go_enter Try.func21, Try.ntmps21
  go_upto_region 2 with fail
  generalize hw1 : w.alloc (.cells #[.int .i64 oc, .slice A os.length c, .slice D ob.length c2] 25) = w1 at *
  clear hw1
  have hs1 := hf1.size
  (have p0 := hbx.cell 0; have p1 := hbx.cell 1; have p2 := hbx.cell 2; have pf0 := hbx.frozen 0; have pf1 := hbx.frozen 1; have pf2 := hbx.frozen 2; simp only [List.getElem?_toArray, List.getElem?_cons_zero, List.getElem?_cons_succ] at p0 p1 p2)
  have hstart : ∀ (l0 : List Int) (v0 : Value) (w2 : World), Hid (l0 = (if 0 < oc then [oc] else [])) → l0.length ≤ 1 → w2.ownsRow w.heap.size 2 1 v0 l0.length (l0.map (Value.int .i64)) → (∀ b, v0.ownBlock = some b → w1.heap.size ≤ b) → Fr No w1 w2 → ∃ L : List Int, Hid (L = (if 0 < oc then [oc] else []) ++ refsV (os.take 0)) ∧ L.length ≤ 1 + 0 ∧ w2.ownsRow w.heap.size 2 1 v0 L.length (L.map (Value.int .i64)) ∧ (∀ b, v0.ownBlock = some b → w1.heap.size ≤ b) ∧ Fr No w1 w2 :=
    fun l0 v0 w2 hh hl ho hlo hf => ⟨l0, Lib.hid (by rw [hh.out]; simp [refsV]), by omega, ho, hlo, hf⟩
  have HSt := Lib.hid hstart
  clear hstart
  by_cases h0 : 0 < oc
  · have e0 : decide (0 < oc) = true := by simpa using h0
    have HL0 := Lib.hid (show [oc] = (if 0 < oc then [oc] else []) by rw [if_pos h0])
    have hb1 := (Blk.new w1 2 #[.int .i64 oc]).rd (size := 1) (n := 1) rfl (by decide)
    go_upto_region 4 with (first
      | (refine wpList_app_hid so_i64 rfl (World.ownsRow_nil _ w.heap.size _ _) hb1 (by intro u hu; simp at hu; subst hu; rfl) (by decide) (by simp; omega) rfl rfl rfl ?_; intro v2 w2 hown2 hg2 hat2)
      | fail)
    have hlo2 : ∀ b, v2.ownBlock = some b → w1.heap.size ≤ b := fun b hb => by
      rcases hat2.out with h5 | h5
      · rw [h5] at hb; cases hb
      · rw [h5] at hb; injection hb with hb; subst hb; simp
    obtain ⟨L0, HL, hL, hown, hlo, hf⟩ := HSt.out [oc] v2 w2 HL0 (by simp) hown2 hlo2 (((Fr.refl No w1).alloc _).grown hg2 (fun q hq => by cases hq))
    clear hg2 hown2 hlo2 hat2 HL0 h0 e0 p0 p1 p2 pf0 pf1 pf2
    have hbx2 := hbx.fr0 hf
    (have p0 := hbx2.cell 0; have p1 := hbx2.cell 1; have p2 := hbx2.cell 2; have pf0 := hbx2.frozen 0; have pf1 := hbx2.frozen 1; have pf2 := hbx2.frozen 2; simp only [List.getElem?_toArray, List.getElem?_cons_zero, List.getElem?_cons_succ] at p0 p1 p2)
    go_wp2_with fail
    go_loopw [3, 17] (fun v i wr => ∃ (k : Nat) (L : List Int), k ≤ os.length ∧ i = .int .i64 (k : Int) ∧ L.length ≤ 1 + k ∧ Hid (L = (if 0 < oc then [oc] else []) ++ refsV (os.take k)) ∧ wr.ownsRow w.heap.size 2 1 v L.length (L.map (Value.int .i64)) ∧ Hid (∀ b, v.ownBlock = some b → w1.heap.size ≤ b) ∧ Fr No w1 wr) (fun _ i _ => os.length - (intOf i).toNat)
    case atStart => exact ⟨0, L0, by omega, rfl, by omega, HL, hown, Lib.hid hlo, hf⟩
    case round =>
      clear hown hf hbx2 p0 p1 p2 pf0 pf1 pf2
      clear hlo
      obtain ⟨k, L, hk, rfl, hLk, HLk, hown, HLO, hf⟩ := hrel
      have hbx2 := hbx.fr0 hf
      (have p0 := hbx2.cell 0; have p1 := hbx2.cell 1; have p2 := hbx2.cell 2; have pf0 := hbx2.frozen 0; have pf1 := hbx2.frozen 1; have pf2 := hbx2.frozen 2; simp only [List.getElem?_toArray, List.getElem?_cons_zero, List.getElem?_cons_succ] at p0 p1 p2)
      by_cases hlt : k < os.length
      · have ek : decide ((k : Int) < os.length) = true := by simpa using (by omega : (k : Int) < os.length)
        obtain ⟨ga, of, rfl, hSg, hk0, hk1, hv'⟩ := RdV.at_ (Rd.fr0 hs (hf1.tr hf)) hlt
        have HT := Lib.hid (refsV_snoc os k hlt)
        generalize os[k] = x at *
        obtain ⟨xk, xn⟩ := x
        unfold vcells at hv'
        simp only at hv' hk0 hk1
        by_cases h4 : xk = 4
        · subst h4
          have HT' := Lib.hid (show refsV (os.take (k + 1)) = refsV (os.take k) ++ [xn] by rw [HT.out]; rfl)
          have hownA := (hown.alloc (.cells #[.int .i64 4, .int .i64 xn] 41)).alloc (.cells #[.int .i64 xn] 2)
          have hfA := (hf.alloc (.cells #[.int .i64 4, .int .i64 xn] 41)).alloc (.cells #[.int .i64 xn] 2)
          go_wp2_with (first
            | (refine wpList_app_hid so_i64 rfl hownA (rd_oneAt (by simp)) (by intro u hu; simp at hu; subst hu; rfl) (by omega) (by have := hf.size; simp; omega) rfl rfl rfl ?_; intro v5 w5 hown5 hg5 hat5)
            | fail)
          have hlow := HLO.out
          go_roundw
          case rel =>
            refine ⟨k + 1, L ++ [xn], by omega, by go_num, by simp; omega, Lib.hid ?_, ?_, Lib.hid (fun b hb => ?_), hfA.grown hg5 (fun q hq => .inl (hlow q hq))⟩
            · rw [HT'.out, HLk.out]; simp
            · simp only [List.map_append, List.length_append]; exact hown5
            · have hz := hf.size
              rcases hat5.out with h5 | h5
              · exact hlow b (h5 ▸ hb)
              · rw [h5] at hb; injection hb with hb; subst hb; simp; omega
          case measure => simp [intOf]; omega
        · have e4 : (xk == 4) = false := by simpa using h4
          have HT' := Lib.hid (show refsV (os.take (k + 1)) = refsV (os.take k) by rw [HT.out]; simp [refsV, h4])
          clear h4
          go_wp2
          go_roundw
          case rel =>
            refine ⟨k + 1, L, by omega, by go_num, by omega, Lib.hid (by rw [HT'.out, HLk.out]), hown.alloc _, HLO, hf.alloc _⟩
          case measure => simp [intOf]; omega
      · obtain rfl : k = os.length := by omega
        have ek : decide ((os.length : Int) < os.length) = false := by simp
        rw [List.take_length] at HLk
        go_wp2
        go_ret
        refine ⟨_, rfl, ?_, hf1.tr hf⟩
        have e9 : refsM ⟨oc, os, ob⟩ = L := by rw [HLk.out]; rfl
        rw [e9]; exact hown
  · have e0 : decide (0 < oc) = false := by simpa using h0
    have HL0 := Lib.hid (show [] = (if 0 < oc then [oc] else []) by rw [if_neg h0])
    go_upto_region 4 with fail
    obtain ⟨L0, HL, hL, hown, hlo, hf⟩ := HSt.out [] _ w1 HL0 (by simp) (World.ownsRow_nil _ _ _ _) (fun b hb => by cases hb) (Fr.refl No w1)
    clear HL0 h0 e0 p0 p1 p2 pf0 pf1 pf2
    have hbx2 := hbx.fr0 hf
    (have p0 := hbx2.cell 0; have p1 := hbx2.cell 1; have p2 := hbx2.cell 2; have pf0 := hbx2.frozen 0; have pf1 := hbx2.frozen 1; have pf2 := hbx2.frozen 2; simp only [List.getElem?_toArray, List.getElem?_cons_zero, List.getElem?_cons_succ] at p0 p1 p2)
    go_wp2_with fail
    go_loopw [3, 17] (fun v i wr => ∃ (k : Nat) (L : List Int), k ≤ os.length ∧ i = .int .i64 (k : Int) ∧ L.length ≤ 1 + k ∧ Hid (L = (if 0 < oc then [oc] else []) ++ refsV (os.take k)) ∧ wr.ownsRow w.heap.size 2 1 v L.length (L.map (Value.int .i64)) ∧ Hid (∀ b, v.ownBlock = some b → w1.heap.size ≤ b) ∧ Fr No w1 wr) (fun _ i _ => os.length - (intOf i).toNat)
    case atStart => exact ⟨0, L0, by omega, rfl, by omega, HL, hown, Lib.hid hlo, hf⟩
    case round =>
      clear hown hf hbx2 p0 p1 p2 pf0 pf1 pf2
      clear hlo
      obtain ⟨k, L, hk, rfl, hLk, HLk, hown, HLO, hf⟩ := hrel
      have hbx2 := hbx.fr0 hf
      (have p0 := hbx2.cell 0; have p1 := hbx2.cell 1; have p2 := hbx2.cell 2; have pf0 := hbx2.frozen 0; have pf1 := hbx2.frozen 1; have pf2 := hbx2.frozen 2; simp only [List.getElem?_toArray, List.getElem?_cons_zero, List.getElem?_cons_succ] at p0 p1 p2)
      by_cases hlt : k < os.length
      · have ek : decide ((k : Int) < os.length) = true := by simpa using (by omega : (k : Int) < os.length)
        obtain ⟨ga, of, rfl, hSg, hk0, hk1, hv'⟩ := RdV.at_ (Rd.fr0 hs (hf1.tr hf)) hlt
        have HT := Lib.hid (refsV_snoc os k hlt)
        generalize os[k] = x at *
        obtain ⟨xk, xn⟩ := x
        unfold vcells at hv'
        simp only at hv' hk0 hk1
        by_cases h4 : xk = 4
        · subst h4
          have HT' := Lib.hid (show refsV (os.take (k + 1)) = refsV (os.take k) ++ [xn] by rw [HT.out]; rfl)
          have hownA := (hown.alloc (.cells #[.int .i64 4, .int .i64 xn] 41)).alloc (.cells #[.int .i64 xn] 2)
          have hfA := (hf.alloc (.cells #[.int .i64 4, .int .i64 xn] 41)).alloc (.cells #[.int .i64 xn] 2)
          go_wp2_with (first
            | (refine wpList_app_hid so_i64 rfl hownA (rd_oneAt (by simp)) (by intro u hu; simp at hu; subst hu; rfl) (by omega) (by have := hf.size; simp; omega) rfl rfl rfl ?_; intro v5 w5 hown5 hg5 hat5)
            | fail)
          have hlow := HLO.out
          go_roundw
          case rel =>
            refine ⟨k + 1, L ++ [xn], by omega, by go_num, by simp; omega, Lib.hid ?_, ?_, Lib.hid (fun b hb => ?_), hfA.grown hg5 (fun q hq => .inl (hlow q hq))⟩
            · rw [HT'.out, HLk.out]; simp
            · simp only [List.map_append, List.length_append]; exact hown5
            · have hz := hf.size
              rcases hat5.out with h5 | h5
              · exact hlow b (h5 ▸ hb)
              · rw [h5] at hb; injection hb with hb; subst hb; simp; omega
          case measure => simp [intOf]; omega
        · have e4 : (xk == 4) = false := by simpa using h4
          have HT' := Lib.hid (show refsV (os.take (k + 1)) = refsV (os.take k) by rw [HT.out]; simp [refsV, h4])
          clear h4
          go_wp2
          go_roundw
          case rel =>
            refine ⟨k + 1, L, by omega, by go_num, by omega, Lib.hid (by rw [HT'.out, HLk.out]), hown.alloc _, HLO, hf.alloc _⟩
          case measure => simp [intOf]; omega
      · obtain rfl : k = os.length := by omega
        have ek : decide ((os.length : Int) < os.length) = false := by simp
        rw [List.take_length] at HLk
        go_wp2
        go_ret
        refine ⟨_, rfl, ?_, hf1.tr hf⟩
        have e9 : refsM ⟨oc, os, ob⟩ = L := by rw [HLk.out]; rfl
        rw [e9]; exact hown

set_option maxHeartbeats 2000000 in
set_option maxRecDepth 100000 in
theorem refrefs_calls (S : Nat → Prop) (cs : List Value) (o : ObjM) (w : World) (h : ObjC w S cs o) (h1 : o.slots.length * 16 ≤ 140737488351232) :
    Calls Try.prog 28 #[.agg cs.toArray] w fun e w' => ∃ v, e = .returned v ∧ w'.ownsRow w.heap.size 2 1 v (refsM o).length ((refsM o).map (Value.int .i64)) ∧ Fr No w w' := by
  obtain ⟨oc, os, ob⟩ := o
  obtain ⟨A, c, D, c2, rfl, hs, hb⟩ := h
  simp only at hs hb h1
  have g1 := plain_i64
  have g2 := plain_lval
  have g4 := plain_int
  have hle1 := hs.le
  have hf1 : Fr No w (w.alloc (.cells #[.int .i64 oc, .slice A os.length c, .slice D ob.length c2] 25)) := (Fr.refl No w).alloc _
  have hbx := Blk.new w 25 #[.int .i64 oc, .slice A os.length c, .slice D ob.length c2]
  go_enter Try.func28, Try.ntmps28
  go_upto_region 2 with fail
  generalize hw1 : w.alloc (.cells #[.int .i64 oc, .slice A os.length c, .slice D ob.length c2] 25) = w1 at *
  clear hw1
  have hs1 := hf1.size
  (have p0 := hbx.cell 0; have p1 := hbx.cell 1; have p2 := hbx.cell 2; have pf0 := hbx.frozen 0; have pf1 := hbx.frozen 1; have pf2 := hbx.frozen 2; simp only [List.getElem?_toArray, List.getElem?_cons_zero, List.getElem?_cons_succ] at p0 p1 p2)
  have hstart : ∀ (l0 : List Int) (v0 : Value) (w2 : World), Hid (l0 = (if 0 < oc then [oc] else [])) → l0.length ≤ 1 → w2.ownsRow w.heap.size 2 1 v0 l0.length (l0.map (Value.int .i64)) → (∀ b, v0.ownBlock = some b → w1.heap.size ≤ b) → Fr No w1 w2 → ∃ L : List Int, Hid (L = (if 0 < oc then [oc] else []) ++ refsV (os.take 0)) ∧ L.length ≤ 1 + 0 ∧ w2.ownsRow w.heap.size 2 1 v0 L.length (L.map (Value.int .i64)) ∧ (∀ b, v0.ownBlock = some b → w1.heap.size ≤ b) ∧ Fr No w1 w2 :=
    fun l0 v0 w2 hh hl ho hlo hf => ⟨l0, Lib.hid (by rw [hh.out]; simp [refsV]), by omega, ho, hlo, hf⟩
  have HSt := Lib.hid hstart
  clear hstart
  by_cases h0 : 0 < oc
  · have e0 : decide (0 < oc) = true := by simpa using h0
    have HL0 := Lib.hid (show [oc] = (if 0 < oc then [oc] else []) by rw [if_pos h0])
    have hb1 := (Blk.new w1 2 #[.int .i64 oc]).rd (size := 1) (n := 1) rfl (by decide)
    go_upto_region 4 with (first
      | (refine wpList_app_hid so_i64 rfl (World.ownsRow_nil _ w.heap.size _ _) hb1 (by intro u hu; simp at hu; subst hu; rfl) (by decide) (by simp; omega) rfl rfl rfl ?_; intro v2 w2 hown2 hg2 hat2)
      | fail)
    have hlo2 : ∀ b, v2.ownBlock = some b → w1.heap.size ≤ b := fun b hb => by
      rcases hat2.out with h5 | h5
      · rw [h5] at hb; cases hb
      · rw [h5] at hb; injection hb with hb; subst hb; simp
    obtain ⟨L0, HL, hL, hown, hlo, hf⟩ := HSt.out [oc] v2 w2 HL0 (by simp) hown2 hlo2 (((Fr.refl No w1).alloc _).grown hg2 (fun q hq => by cases hq))
    clear hg2 hown2 hlo2 hat2 HL0 h0 e0 p0 p1 p2 pf0 pf1 pf2
    have hbx2 := hbx.fr0 hf
    (have p0 := hbx2.cell 0; have p1 := hbx2.cell 1; have p2 := hbx2.cell 2; have pf0 := hbx2.frozen 0; have pf1 := hbx2.frozen 1; have pf2 := hbx2.frozen 2; simp only [List.getElem?_toArray, List.getElem?_cons_zero, List.getElem?_cons_succ] at p0 p1 p2)
    go_wp2_with fail
    go_loopw [3, 4] (fun v i wr => ∃ (k : Nat) (L : List Int), k ≤ os.length ∧ i = .int .i64 (k : Int) ∧ L.length ≤ 1 + k ∧ Hid (L = (if 0 < oc then [oc] else []) ++ refsV (os.take k)) ∧ wr.ownsRow w.heap.size 2 1 v L.length (L.map (Value.int .i64)) ∧ Hid (∀ b, v.ownBlock = some b → w1.heap.size ≤ b) ∧ Fr No w1 wr) (fun _ i _ => os.length - (intOf i).toNat)
    case atStart => exact ⟨0, L0, by omega, rfl, by omega, HL, hown, Lib.hid hlo, hf⟩
    case round =>
      clear hown hf hbx2 p0 p1 p2 pf0 pf1 pf2
      clear hlo
      obtain ⟨k, L, hk, rfl, hLk, HLk, hown, HLO, hf⟩ := hrel
      have hbx2 := hbx.fr0 hf
      (have p0 := hbx2.cell 0; have p1 := hbx2.cell 1; have p2 := hbx2.cell 2; have pf0 := hbx2.frozen 0; have pf1 := hbx2.frozen 1; have pf2 := hbx2.frozen 2; simp only [List.getElem?_toArray, List.getElem?_cons_zero, List.getElem?_cons_succ] at p0 p1 p2)
      by_cases hlt : k < os.length
      · have ek : decide ((k : Int) < os.length) = true := by simpa using (by omega : (k : Int) < os.length)
        obtain ⟨ga, of, rfl, hSg, hk0, hk1, hv'⟩ := RdV.at_ (Rd.fr0 hs (hf1.tr hf)) hlt
        have HT := Lib.hid (refsV_snoc os k hlt)
        generalize os[k] = x at *
        obtain ⟨xk, xn⟩ := x
        unfold vcells at hv'
        simp only at hv' hk0 hk1
        by_cases h4 : xk = 4
        · subst h4
          have HT' := Lib.hid (show refsV (os.take (k + 1)) = refsV (os.take k) ++ [xn] by rw [HT.out]; rfl)
          have hownA := hown.alloc (.cells #[.int .i64 xn] 2)
          have hfA := hf.alloc (.cells #[.int .i64 xn] 2)
          go_wp2_with (first
            | (refine wpList_app_hid so_i64 rfl hownA (rd_oneAt rfl) (by intro u hu; simp at hu; subst hu; rfl) (by omega) (by have := hf.size; simp; omega) rfl rfl rfl ?_; intro v5 w5 hown5 hg5 hat5)
            | fail)
          have hlow := HLO.out
          go_roundw
          case rel =>
            refine ⟨k + 1, L ++ [xn], by omega, by go_num, by simp; omega, Lib.hid ?_, ?_, Lib.hid (fun b hb => ?_), hfA.grown hg5 (fun q hq => .inl (hlow q hq))⟩
            · rw [HT'.out, HLk.out]; simp
            · simp only [List.map_append, List.length_append]; exact hown5
            · have hz := hf.size
              rcases hat5.out with h5 | h5
              · exact hlow b (h5 ▸ hb)
              · rw [h5] at hb; injection hb with hb; subst hb; simp; omega
          case measure => simp [intOf]; omega
        · have e4 : (xk == 4) = false := by simpa using h4
          have HT' := Lib.hid (show refsV (os.take (k + 1)) = refsV (os.take k) by rw [HT.out]; simp [refsV, h4])
          clear h4
          go_wp2
          go_roundw
          case rel =>
            refine ⟨k + 1, L, by omega, by go_num, by omega, Lib.hid (by rw [HT'.out, HLk.out]), hown, HLO, hf⟩
          case measure => simp [intOf]; omega
      · obtain rfl : k = os.length := by omega
        have ek : decide ((os.length : Int) < os.length) = false := by simp
        rw [List.take_length] at HLk
        go_wp2
        go_ret
        refine ⟨_, rfl, ?_, hf1.tr hf⟩
        have e9 : refsM ⟨oc, os, ob⟩ = L := by rw [HLk.out]; rfl
        rw [e9]; exact hown
  · have e0 : decide (0 < oc) = false := by simpa using h0
    have HL0 := Lib.hid (show [] = (if 0 < oc then [oc] else []) by rw [if_neg h0])
    go_upto_region 4 with fail
    obtain ⟨L0, HL, hL, hown, hlo, hf⟩ := HSt.out [] _ w1 HL0 (by simp) (World.ownsRow_nil _ _ _ _) (fun b hb => by cases hb) (Fr.refl No w1)
    clear HL0 h0 e0 p0 p1 p2 pf0 pf1 pf2
    have hbx2 := hbx.fr0 hf
    (have p0 := hbx2.cell 0; have p1 := hbx2.cell 1; have p2 := hbx2.cell 2; have pf0 := hbx2.frozen 0; have pf1 := hbx2.frozen 1; have pf2 := hbx2.frozen 2; simp only [List.getElem?_toArray, List.getElem?_cons_zero, List.getElem?_cons_succ] at p0 p1 p2)
    go_wp2_with fail
    go_loopw [3, 4] (fun v i wr => ∃ (k : Nat) (L : List Int), k ≤ os.length ∧ i = .int .i64 (k : Int) ∧ L.length ≤ 1 + k ∧ Hid (L = (if 0 < oc then [oc] else []) ++ refsV (os.take k)) ∧ wr.ownsRow w.heap.size 2 1 v L.length (L.map (Value.int .i64)) ∧ Hid (∀ b, v.ownBlock = some b → w1.heap.size ≤ b) ∧ Fr No w1 wr) (fun _ i _ => os.length - (intOf i).toNat)
    case atStart => exact ⟨0, L0, by omega, rfl, by omega, HL, hown, Lib.hid hlo, hf⟩
    case round =>
      clear hown hf hbx2 p0 p1 p2 pf0 pf1 pf2
      clear hlo
      obtain ⟨k, L, hk, rfl, hLk, HLk, hown, HLO, hf⟩ := hrel
      have hbx2 := hbx.fr0 hf
      (have p0 := hbx2.cell 0; have p1 := hbx2.cell 1; have p2 := hbx2.cell 2; have pf0 := hbx2.frozen 0; have pf1 := hbx2.frozen 1; have pf2 := hbx2.frozen 2; simp only [List.getElem?_toArray, List.getElem?_cons_zero, List.getElem?_cons_succ] at p0 p1 p2)
      by_cases hlt : k < os.length
      · have ek : decide ((k : Int) < os.length) = true := by simpa using (by omega : (k : Int) < os.length)
        obtain ⟨ga, of, rfl, hSg, hk0, hk1, hv'⟩ := RdV.at_ (Rd.fr0 hs (hf1.tr hf)) hlt
        have HT := Lib.hid (refsV_snoc os k hlt)
        generalize os[k] = x at *
        obtain ⟨xk, xn⟩ := x
        unfold vcells at hv'
        simp only at hv' hk0 hk1
        by_cases h4 : xk = 4
        · subst h4
          have HT' := Lib.hid (show refsV (os.take (k + 1)) = refsV (os.take k) ++ [xn] by rw [HT.out]; rfl)
          have hownA := hown.alloc (.cells #[.int .i64 xn] 2)
          have hfA := hf.alloc (.cells #[.int .i64 xn] 2)
          go_wp2_with (first
            | (refine wpList_app_hid so_i64 rfl hownA (rd_oneAt rfl) (by intro u hu; simp at hu; subst hu; rfl) (by omega) (by have := hf.size; simp; omega) rfl rfl rfl ?_; intro v5 w5 hown5 hg5 hat5)
            | fail)
          have hlow := HLO.out
          go_roundw
          case rel =>
            refine ⟨k + 1, L ++ [xn], by omega, by go_num, by simp; omega, Lib.hid ?_, ?_, Lib.hid (fun b hb => ?_), hfA.grown hg5 (fun q hq => .inl (hlow q hq))⟩
            · rw [HT'.out, HLk.out]; simp
            · simp only [List.map_append, List.length_append]; exact hown5
            · have hz := hf.size
              rcases hat5.out with h5 | h5
              · exact hlow b (h5 ▸ hb)
              · rw [h5] at hb; injection hb with hb; subst hb; simp; omega
          case measure => simp [intOf]; omega
        · have e4 : (xk == 4) = false := by simpa using h4
          have HT' := Lib.hid (show refsV (os.take (k + 1)) = refsV (os.take k) by rw [HT.out]; simp [refsV, h4])
          clear h4
          go_wp2
          go_roundw
          case rel =>
            refine ⟨k + 1, L, by omega, by go_num, by omega, Lib.hid (by rw [HT'.out, HLk.out]), hown, HLO, hf⟩
          case measure => simp [intOf]; omega
      · obtain rfl : k = os.length := by omega
        have ek : decide ((os.length : Int) < os.length) = false := by simp
        rw [List.take_length] at HLk
        go_wp2
        go_ret
        refine ⟨_, rfl, ?_, hf1.tr hf⟩
        have e9 : refsM ⟨oc, os, ob⟩ = L := by rw [HLk.out]; rfl
        rw [e9]; exact hown

set_option maxHeartbeats 2000000 in
set_option maxRecDepth 100000 in
theorem samei_calls (S T : Nat → Prop) (A D : Option Addr) (c d : Nat) (l : List Int) (w : World) (h : Rd w S 1 A l.length (l.map (Value.int .i64))) (h2 : Rd w T 1 D l.length (l.map (Value.int .i64))) :
    Calls Try.prog 27 #[.slice A l.length c, .slice D l.length d] w fun e w' => e = .returned (.bool true) ∧ Fr No w w' := by
  have hle1 := h.le
  have g1 := plain_i64
  go_enter Try.func27, Try.ntmps27
  go_wp2_with fail
  go_loopw [5] (fun i wr => ∃ k : Nat, k ≤ l.length ∧ i = .int .i64 (k : Int) ∧ Fr No w wr) (fun i _ => l.length - (intOf i).toNat)
  case atStart => exact ⟨0, by omega, rfl, Fr.refl _ _⟩
  case round =>
    obtain ⟨k, hk, rfl, hf⟩ := hrel
    by_cases hlt : k < l.length
    · have ek : decide ((k : Int) < l.length) = true := by simpa using (by omega : (k : Int) < l.length)
      obtain ⟨g, o, rfl, _, hc⟩ := Rd.plain (Rd.fr0 h hf) (by omega) (by decide)
      obtain ⟨g', o', rfl, _, hc'⟩ := Rd.plain (Rd.fr0 h2 hf) (by omega) (by decide)
      have p1 := hc k (.int .i64 l[k]) (by simp [hlt])
      have p2 := hc' k (.int .i64 l[k]) (by simp [hlt])
      generalize l[k] = x at *
      clear hc hc'
      go_wp2_with fail
      (refine T_begin No [0, 1, 2, 3, 4, 5, 6, 7, 8] [] (by kernel_rfl) (by kernel_rfl) ?_; simp only [pickOps, List.filterMap_cons, List.filterMap_nil, List.getElem?_cons_zero, List.getElem?_cons_succ, Act.put])
      repeat (first | (refine T_skip (by rfl) (by rfl) (fun _ _ _ h => h) ?_; try simp only [Act.put, List.setIfInBounds_toArray, List.set_cons_zero, List.set_cons_succ]) | (refine T_pass (by rfl) (by rfl) ?_; try simp only [Act.put, List.setIfInBounds_toArray, List.set_cons_zero, List.set_cons_succ]) | (refine T_load (by assumption) (by rfl) (by rfl) (fun _ _ _ _ h => h) rfl rfl (by assumption) (by first | exact (fun hn => hn) | assumption) ?_; try simp only [Act.put, List.setIfInBounds_toArray, List.set_cons_zero, List.set_cons_succ]) | (refine T_nil (by rfl) (by rfl) (fun _ _ _ _ h => h) rfl rfl ?_; try simp only [Act.put, List.setIfInBounds_toArray, List.set_cons_zero, List.set_cons_succ]) | (refine T_quietN (by rfl) (by rfl) (by rfl) (by rfl) (fun _ _ _ _ h => h) (fun K hK => ?_); go_big_quiet_op; refine hK _ ?_; clear hK K) | (refine T_two (by rfl) (by rfl) (by rfl) (by rfl) (fun _ _ _ _ h => h) (fun K hK => ?_); go_big_quiet_op; refine ⟨_, fun _ _ => rfl, ?_⟩; refine hK _ ?_; clear hK K; try simp only [Act.put, List.setIfInBounds_toArray, List.set_cons_zero, List.set_cons_succ]) | fail)
      refine T_done ?_
      go_wp2
      go_roundw
      case rel => exact ⟨k + 1, by omega, by go_num, hf.drew⟩
      case measure => simp [intOf]; omega
    · obtain rfl : k = l.length := by omega
      have ek : decide ((l.length : Int) < l.length) = false := by simp
      go_wp2
      go_ret
      exact ⟨rfl, hf⟩
end Go.Proofs.Ytfgkioigbnlkkaa
