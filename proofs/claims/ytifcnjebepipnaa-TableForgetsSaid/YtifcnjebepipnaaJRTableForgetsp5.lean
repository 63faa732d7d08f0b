/- table.Copy. No condition but size. What is forgotten, plainly: what may still be asked is as it was. No condition. lapidarylaw11.same of two lists of numbers, in full. No condition. lapidarylaw11.TableForgets: what is forgotten changes nothing that may be asked. -/
import Derived.Test.YtifcnjebepipnaaJRTableForgetsp4
import Derived.Deep.CutBlock
import Derived.Deep.DeepCutAuto
import Derived.Test.YtifcnjebepipnaaJRTableForgetsp1
import Derived.Test.YtifcnjebepipnaaJRTableForgetsp0
import Derived.Deep.LoopGhost
namespace Go.Proofs.Ytifcnjebepipnaa
set_option linter.unusedVariables false
set_option linter.unusedSimpArgs false
open Go.RowKit Go.Shelf

theorem cloneW_calls (w : World) (b n : Nat) (f : Int → Option Value) (h : MapV w b n f) :
    Calls Try.prog 31 #[.map (some b)] w fun e w' => e = .returned (.map (some w.heap.size)) ∧ MapV w' w.heap.size n f ∧ Fr No w w' := by
  obtain ⟨D, ho, hf⟩ := h
  refine (AnyW.maps_Clone_owns cloneW 2 hR b n D w ho).mono ?_
  rintro e w' ⟨he, h1, _, hb⟩
  exact ⟨he, ⟨D, h1, hf⟩, Fr.of_below hb⟩
theorem wpList_rangeV2 {w : World} {ops : Array Oper} {rest : List Oper} {o : Oper} {a : Act} {Q : Exit → Act → World → Prop} (hg : o.guard = none) (m : Operand) (t e : TypeId) (hop : o.op = Op.range t m) (ht : Try.prog.underlying t = some (.map 2 e)) (b n : Nat) (f : Int → Option Value)
    (hm : a.eval m = .map (some b)) (h : MapV w b n f)
    (hK : ∀ w' cnt, RangeV w' b w.heap.size n f (fun x => (f x).isSome) cnt → cnt ≤ n → Fr No w w' → wpList Try.prog ops Q rest (a.put o.dst (.pointer (some ⟨w.heap.size, 0, none⟩))) w') :
    wpList Try.prog ops Q (o :: rest) a w := by
  obtain ⟨D, ho, hf⟩ := h
  refine wpList_range_own w hg m t hop 2 e keyed64 ht hR b n D hm ho ?_
  intro w' h1 h2 h3
  exact hK w' _ ⟨D, _, h1, hf, fun x hx => (hf x hx).1⟩ ho.size_le ((Fr.refl No w).grown h2 (fun q hq => by cases hq))
/-- Where the copy stands: nothing but its two maps and its struct. -/
structure CopyAt (w w' : World) (q mc wc n : Nat) (first last : Int) (g : Int → Option Value) : Prop where
  blk : Blk w' q 59 #[.int .i64 first, .int .i64 last, .map (some mc), .map (some wc)]
  vers : MapV w' mc 0 (fun _ => none)
  when : MapV w' wc n g
  new : w.heap.size ≤ q ∧ w.heap.size ≤ mc ∧ w.heap.size ≤ wc ∧ q ≠ mc ∧ q ≠ wc ∧ mc ≠ wc
  fr : Fr No w w'
theorem copy_round {O : Nat → Prop} {w w0 wr w1 w3 w4 : World} {mc r : Nat} {f fc : Int → Option Value} {left : Int → Bool} {x : Int} {v3 : Value} {t : TabM} {l : List ChM} {xs : List Value}
    (hx : W64 x) (hl : t.vs x = l) (hnil : l ≠ [])
    (HN : Hid (∀ x, W64 x → left x = true → fc x = none))
    (HD : Hid (∀ x, W64 x → left x = false → (f x = none ∧ fc x = none) ∨ ∃ v, fc x = some v ∧ t.vs x ≠ [] ∧ CutAt wr O w0.heap.size v (t.vs x)))
    (HA : Hid (∀ x y v u b, W64 x → W64 y → x ≠ y → left x = false → left y = false → fc x = some v → fc y = some u → v.ownBlock = some b → ¬ u.ownBlock = some b))
    (hz : w0.heap.size ≤ wr.heap.size) (hr0 : w.heap.size ≤ r) (hr1 : r < w0.heap.size) (hmc : w.heap.size ≤ mc) (hmc0 : mc < w0.heap.size) (hOw : ∀ b, O b → b < w.heap.size)
    (hf1 : Fr (fun q => q = r) wr w1) (hz1 : w1.heap.size = wr.heap.size) (hf13 : Fr No w1 w3) (hg4 : w3.grownBy w4 (some mc))
    (hown3 : w3.ownsRow w1.heap.size tVer 5 v3 l.length xs) (hch : ChsC w1 O xs l) :
    Hid (∀ y, W64 y → (left y && !decide (y = x)) = true → fput fc x v3 y = none) ∧ Hid (∀ y, W64 y → (left y && !decide (y = x)) = false → (f y = none ∧ fput fc x v3 y = none) ∨ ∃ v, fput fc x v3 y = some v ∧ t.vs y ≠ [] ∧ CutAt w4 O w0.heap.size v (t.vs y)) ∧
      Hid (∀ y z a u b, W64 y → W64 z → y ≠ z → (left y && !decide (y = x)) = false → (left z && !decide (z = x)) = false → fput fc x v3 y = some a → fput fc x v3 z = some u → a.ownBlock = some b → ¬ u.ownBlock = some b) := by
  have hf4 : Fr (fun q => q = mc) w3 w4 := (Fr.refl _ w3).grown hg4 (fun q hq => by injection hq with hq; exact .inr hq.symm)
  have hz3 := hf13.size
  have hz4 := hf4.size
  have hold : ∀ y u, W64 y → left y = false → fc y = some u → CutAt wr O w0.heap.size u (t.vs y) := fun y u hy h1 h2 => by
    rcases HD.out y hy h1 with ⟨_, h3⟩ | ⟨u', h3, _, h4⟩
    · rw [h3] at h2; cases h2
    · rw [h3] at h2; injection h2 with h2; subst h2; exact h4
  have hblk : ∀ y u b, W64 y → left y = false → fc y = some u → u.ownBlock = some b → b < wr.heap.size := fun y u b hy h1 h2 h3 => by
    obtain ⟨xs', h4, _⟩ := hold y u hy h1 h2
    exact (h4.lt b h3).2
  have hnl : ∀ y, (left y && !decide (y = x)) = false → y = x ∨ (y ≠ x ∧ left y = false) := fun y h => by
    by_cases hyx : y = x
    · exact .inl hyx
    · refine .inr ⟨hyx, ?_⟩
      simpa [hyx] using h
  refine ⟨Lib.hid (fun y hy h => ?_), Lib.hid (fun y hy h => ?_), Lib.hid (fun y z a u b hy hz' hne h1 h2 h3 h4 h5 h6 => ?_)⟩
  · simp only [Bool.and_eq_true, Bool.not_eq_true', decide_eq_false_iff_not] at h
    rw [fput_other _ _ h.2]
    exact HN.out y hy h.1
  · rcases hnl y h with rfl | ⟨hyx, hly⟩
    · refine .inr ⟨v3, fput_same _ _ _, by rw [hl]; exact hnil, ?_⟩
      rw [hl]
      exact ⟨xs, own_down (own_fr hown3 hf4 (fun b hb e => by have := (hown3.lt b hb).1; omega)) (by omega), (hch.keep hf13 (fun _ _ hn => hn)).keep hf4 (fun b hb e => by have := hOw b hb; omega)⟩
    · rw [fput_other _ _ hyx]
      rcases HD.out y hy hly with h3 | ⟨u, h3, h5, h4⟩
      · exact .inl h3
      · exact .inr ⟨u, h3, h5, ((h4.fr hf1 (fun b hb e => by omega) (fun b hb e => by have := hOw b hb; omega)).fr hf13 (fun _ _ hn => hn) (fun _ _ hn => hn)).fr hf4 (fun b hb e => by omega) (fun b hb e => by have := hOw b hb; omega)⟩
  · have hv3 : ∀ b, v3.ownBlock = some b → w1.heap.size ≤ b := fun b hb => (hown3.lt b hb).1
    rcases hnl y h1 with rfl | ⟨hyx, hly⟩
    · rcases hnl z h2 with rfl | ⟨hzx, hlz⟩
      · exact hne rfl
      · rw [fput_same] at h3
        rw [fput_other _ _ hzx] at h4
        injection h3 with h3
        subst h3
        have := hv3 b h5
        have := hblk z u b hz' hlz h4 h6
        omega
    · rw [fput_other _ _ hyx] at h3
      rcases hnl z h2 with rfl | ⟨hzx, hlz⟩
      · rw [fput_same] at h4
        injection h4 with h4
        subst h4
        have := hv3 b h6
        have := hblk y a b hy hly h3 h5
        omega
      · rw [fput_other _ _ hzx] at h4
        exact HA.out y z a u b hy hz' hne hly hlz h3 h4 h5 h6
set_option maxHeartbeats 4000000 in
set_option maxRecDepth 100000 in
theorem tcopy_calls (w : World) (T O : Nat → Prop) (p : Nat) (t : TabM) (h : TabAt w T O p t) (hn : t.n ≤ 1000000) :
    Calls Try.prog 20 #[.pointer (some ⟨p, 0, none⟩)] w fun e w' => ∃ q, e = .returned (.pointer (some ⟨q, 0, none⟩)) ∧ TabAt w' (fun b => w.heap.size ≤ b ∧ b < w'.heap.size) O q t ∧ Fr No w w' := by
  obtain ⟨mb, wb, f, g, hP⟩ := h
  have hbk := hP.blk
  (have p0 := hbk.cell 0; have p1 := hbk.cell 1; have p2 := hbk.cell 2; have p3 := hbk.cell 3; have pf0 := hbk.frozen 0; have pf1 := hbk.frozen 1; have pf2 := hbk.frozen 2; have pf3 := hbk.frozen 3; simp only [List.getElem?_toArray, List.getElem?_cons_zero, List.getElem?_cons_succ] at p0 p1 p2 p3)
  have g1 := plain_i64
  have g2 := plain_mver
  have g3 := plain_mi64
  have hmm := @run_makeMap Try.prog
  have hpw := hbk.lt
  go_enter Try.func20, Try.ntmps20
  go_upto_region 3 with fail
  go_cut [3] (fun s3 wx => ∃ q mc wc', s3 = .pointer (some ⟨q, 0, none⟩) ∧ CopyAt w wx q mc wc' t.n t.first t.last g)
  case first =>
    refine T_begin No [0, 1, 2, 3, 4, 5, 6, 7, 9, 10, 11, 12, 8, 13, 14, 15, 16] [8, 13, 15, 1008] (by kernel_rfl) (by kernel_rfl) ?_
    simp only [pickOps, List.filterMap_cons, List.filterMap_nil, List.getElem?_cons_zero, List.getElem?_cons_succ, Act.put]
    repeat (first | (refine T_skip (by rfl) (by rfl) (fun _ _ _ h => h) ?_; try simp only [Act.put, List.setIfInBounds_toArray, List.set_cons_zero, List.set_cons_succ]) | (refine T_pass (by rfl) (by rfl) ?_; try simp only [Act.put, List.setIfInBounds_toArray, List.set_cons_zero, List.set_cons_succ]) | (refine T_load (by assumption) (by rfl) (by rfl) (fun _ _ _ _ h => h) rfl rfl (by assumption) (by first | exact (fun hn => hn) | assumption) ?_; try simp only [Act.put, List.setIfInBounds_toArray, List.set_cons_zero, List.set_cons_succ]) | (refine T_nil (by rfl) (by rfl) (fun _ _ _ _ h => h) rfl rfl ?_; try simp only [Act.put, List.setIfInBounds_toArray, List.set_cons_zero, List.set_cons_succ]) | (refine T_quietN (by rfl) (by rfl) (by rfl) (by rfl) (fun _ _ _ _ h => h) (fun K hK => ?_); go_big_quiet_op; refine hK _ ?_; clear hK K) | (refine T_two (by rfl) (by rfl) (by rfl) (by rfl) (fun _ _ _ _ h => h) (fun K hK => ?_); go_big_quiet_op; refine ⟨_, fun _ _ => rfl, ?_⟩; refine hK _ ?_; clear hK K; try simp only [Act.put, List.setIfInBounds_toArray, List.set_cons_zero, List.set_cons_succ]) | fail)
    refine T_fork (ord2 := [0, 1, 2, 3, 4, 5, 6, 7, 9, 10, 11, 12, 13, 8, 14, 15, 16]) (calls2 := [8, 13, 15, 1013]) (i := 8) (j := 13) (by kernel_rfl) rfl rfl rfl (by kernel_rfl) rfl rfl rfl (by rfl) (by rfl) (fun K hK => ?_) (fun K hK => ?_)
    · go_wp2_with fail
      (refine hK.out _ _ (((Fr.refl _ _).alloc _)) ?_; clear hK K; try simp only [Act.put, List.setIfInBounds_toArray, List.set_cons_zero, List.set_cons_succ])
      have hfa : Fr No w (w.drew.alloc (.map #[] 0)) := ((Fr.refl No w).drew).alloc _
      have hma : MapV (w.drew.alloc (.map #[] 0)) w.heap.size 0 (fun _ => none) := MapV.made w.drew
      refine T_call (by rfl) (by rfl) (fun K hK => ?_)
      go_wp2_with fail
      refine (cloneW_calls _ wb t.n g (hP.when.fr0 hfa)).mono ?_
      rintro e w2 ⟨rfl, hm2, hf2⟩
      go_wp2_with fail
      (refine hK.out _ _ (hf2) ?_; clear hK K; try simp only [Act.put, List.setIfInBounds_toArray, List.set_cons_zero, List.set_cons_succ])
      repeat (first | (refine T_skip (by rfl) (by rfl) (fun _ _ _ h => h) ?_; try simp only [Act.put, List.setIfInBounds_toArray, List.set_cons_zero, List.set_cons_succ]) | (refine T_pass (by rfl) (by rfl) ?_; try simp only [Act.put, List.setIfInBounds_toArray, List.set_cons_zero, List.set_cons_succ]) | (refine T_load (by assumption) (by rfl) (by rfl) (fun _ _ _ _ h => h) rfl rfl (by assumption) (by first | exact (fun hn => hn) | assumption) ?_; try simp only [Act.put, List.setIfInBounds_toArray, List.set_cons_zero, List.set_cons_succ]) | (refine T_nil (by rfl) (by rfl) (fun _ _ _ _ h => h) rfl rfl ?_; try simp only [Act.put, List.setIfInBounds_toArray, List.set_cons_zero, List.set_cons_succ]) | (refine T_quietN (by rfl) (by rfl) (by rfl) (by rfl) (fun _ _ _ _ h => h) (fun K hK => ?_); go_big_quiet_op; refine hK _ ?_; clear hK K) | (refine T_two (by rfl) (by rfl) (by rfl) (by rfl) (fun _ _ _ _ h => h) (fun K hK => ?_); go_big_quiet_op; refine ⟨_, fun _ _ => rfl, ?_⟩; refine hK _ ?_; clear hK K; try simp only [Act.put, List.setIfInBounds_toArray, List.set_cons_zero, List.set_cons_succ]) | fail)
      (refine T_call (by rfl) (by rfl) (fun K hK => ?_); go_wp2_with fail)
      (refine hK.out _ _ (((Fr.refl _ _).alloc _)) ?_; clear hK K; try simp only [Act.put, List.setIfInBounds_toArray, List.set_cons_zero, List.set_cons_succ])
      repeat (first | (refine T_skip (by rfl) (by rfl) (fun _ _ _ h => h) ?_; try simp only [Act.put, List.setIfInBounds_toArray, List.set_cons_zero, List.set_cons_succ]) | (refine T_pass (by rfl) (by rfl) ?_; try simp only [Act.put, List.setIfInBounds_toArray, List.set_cons_zero, List.set_cons_succ]) | (refine T_load (by assumption) (by rfl) (by rfl) (fun _ _ _ _ h => h) rfl rfl (by assumption) (by first | exact (fun hn => hn) | assumption) ?_; try simp only [Act.put, List.setIfInBounds_toArray, List.set_cons_zero, List.set_cons_succ]) | (refine T_nil (by rfl) (by rfl) (fun _ _ _ _ h => h) rfl rfl ?_; try simp only [Act.put, List.setIfInBounds_toArray, List.set_cons_zero, List.set_cons_succ]) | (refine T_quietN (by rfl) (by rfl) (by rfl) (by rfl) (fun _ _ _ _ h => h) (fun K hK => ?_); go_big_quiet_op; refine hK _ ?_; clear hK K) | (refine T_two (by rfl) (by rfl) (by rfl) (by rfl) (fun _ _ _ _ h => h) (fun K hK => ?_); go_big_quiet_op; refine ⟨_, fun _ _ => rfl, ?_⟩; refine hK _ ?_; clear hK K; try simp only [Act.put, List.setIfInBounds_toArray, List.set_cons_zero, List.set_cons_succ]) | fail)
      refine T_done ?_
      have hm2l := hm2.lt
      have hz2 : w.heap.size < (w.drew.alloc (.map #[] 0)).heap.size := hma.lt
      have hz3 := hf2.size
      go_wp2_with fail
      go_meet
      case rel =>
        refine ⟨w2.heap.size, w.heap.size, w.heap.size + 1, rfl, ?_⟩
        have esz : (w.drew.alloc (.map #[] 0)).heap.size = w.heap.size + 1 := by simp
        rw [esz] at hm2 hm2l hz2 hz3
        exact { blk := Blk.newAt rfl
                vers := (hma.fr0 hf2).alloc _
                when := hm2.alloc _
                new := by omega
                fr := (hfa.tr hf2).alloc _ }
    · go_wp2_with fail
      have hfa : Fr No w w.drew := (Fr.refl No w).drew
      refine (cloneW_calls _ wb t.n g (hP.when.fr0 hfa)).mono ?_
      rintro e w2 ⟨rfl, hm2, hf2⟩
      go_wp2_with fail
      (refine hK.out _ _ (hf2) ?_; clear hK K; try simp only [Act.put, List.setIfInBounds_toArray, List.set_cons_zero, List.set_cons_succ])
      refine T_call (by rfl) (by rfl) (fun K hK => ?_)
      go_wp2_with fail
      (refine hK.out _ _ (((Fr.refl _ _).alloc _)) ?_; clear hK K; try simp only [Act.put, List.setIfInBounds_toArray, List.set_cons_zero, List.set_cons_succ])
      repeat (first | (refine T_skip (by rfl) (by rfl) (fun _ _ _ h => h) ?_; try simp only [Act.put, List.setIfInBounds_toArray, List.set_cons_zero, List.set_cons_succ]) | (refine T_pass (by rfl) (by rfl) ?_; try simp only [Act.put, List.setIfInBounds_toArray, List.set_cons_zero, List.set_cons_succ]) | (refine T_load (by assumption) (by rfl) (by rfl) (fun _ _ _ _ h => h) rfl rfl (by assumption) (by first | exact (fun hn => hn) | assumption) ?_; try simp only [Act.put, List.setIfInBounds_toArray, List.set_cons_zero, List.set_cons_succ]) | (refine T_nil (by rfl) (by rfl) (fun _ _ _ _ h => h) rfl rfl ?_; try simp only [Act.put, List.setIfInBounds_toArray, List.set_cons_zero, List.set_cons_succ]) | (refine T_quietN (by rfl) (by rfl) (by rfl) (by rfl) (fun _ _ _ _ h => h) (fun K hK => ?_); go_big_quiet_op; refine hK _ ?_; clear hK K) | (refine T_two (by rfl) (by rfl) (by rfl) (by rfl) (fun _ _ _ _ h => h) (fun K hK => ?_); go_big_quiet_op; refine ⟨_, fun _ _ => rfl, ?_⟩; refine hK _ ?_; clear hK K; try simp only [Act.put, List.setIfInBounds_toArray, List.set_cons_zero, List.set_cons_succ]) | fail)
      (refine T_call (by rfl) (by rfl) (fun K hK => ?_); go_wp2_with fail)
      (refine hK.out _ _ (((Fr.refl _ _).alloc _)) ?_; clear hK K; try simp only [Act.put, List.setIfInBounds_toArray, List.set_cons_zero, List.set_cons_succ])
      repeat (first | (refine T_skip (by rfl) (by rfl) (fun _ _ _ h => h) ?_; try simp only [Act.put, List.setIfInBounds_toArray, List.set_cons_zero, List.set_cons_succ]) | (refine T_pass (by rfl) (by rfl) ?_; try simp only [Act.put, List.setIfInBounds_toArray, List.set_cons_zero, List.set_cons_succ]) | (refine T_load (by assumption) (by rfl) (by rfl) (fun _ _ _ _ h => h) rfl rfl (by assumption) (by first | exact (fun hn => hn) | assumption) ?_; try simp only [Act.put, List.setIfInBounds_toArray, List.set_cons_zero, List.set_cons_succ]) | (refine T_nil (by rfl) (by rfl) (fun _ _ _ _ h => h) rfl rfl ?_; try simp only [Act.put, List.setIfInBounds_toArray, List.set_cons_zero, List.set_cons_succ]) | (refine T_quietN (by rfl) (by rfl) (by rfl) (by rfl) (fun _ _ _ _ h => h) (fun K hK => ?_); go_big_quiet_op; refine hK _ ?_; clear hK K) | (refine T_two (by rfl) (by rfl) (by rfl) (by rfl) (fun _ _ _ _ h => h) (fun K hK => ?_); go_big_quiet_op; refine ⟨_, fun _ _ => rfl, ?_⟩; refine hK _ ?_; clear hK K; try simp only [Act.put, List.setIfInBounds_toArray, List.set_cons_zero, List.set_cons_succ]) | fail)
      refine T_done ?_
      have hma : MapV (w2.alloc (.map #[] 0)) w2.heap.size 0 (fun _ => none) := MapV.made w2
      have hm2l := hm2.lt
      have hdz : w.drew.heap.size = w.heap.size := rfl
      have hml := hma.lt
      go_wp2_with fail
      go_meet
      case rel =>
        refine ⟨(w2.alloc (.map #[] 0)).heap.size, w2.heap.size, w.heap.size, by simp, ?_⟩
        exact { blk := Blk.newAt rfl
                vers := hma.alloc _
                when := (hm2.alloc _).alloc _
                new := by omega
                fr := ((hfa.tr hf2).alloc _).alloc _ }
  case rest =>
    obtain ⟨w0, hw0⟩ : ∃ w0, w0 = wc := ⟨_, rfl⟩
    subst hw0
    obtain ⟨q, mc, wc', rfl, hC⟩ := hcut
    obtain ⟨hCb, hCv, hCw, hnew, hF0⟩ := hC
    have hP0 := hP.fr hF0 (fun _ _ hn => hn) (fun _ _ hn => hn)
    have hb0 := hP0.blk
    (have y0 := hb0.cell 0; have y1 := hb0.cell 1; have y2 := hb0.cell 2; have y3 := hb0.cell 3; have yf0 := hb0.frozen 0; have yf1 := hb0.frozen 1; have yf2 := hb0.frozen 2; have yf3 := hb0.frozen 3; simp only [List.getElem?_toArray, List.getElem?_cons_zero, List.getElem?_cons_succ] at y0 y1 y2 y3)
    (have z0 := hCb.cell 0; have z1 := hCb.cell 1; have z2 := hCb.cell 2; have z3 := hCb.cell 3; have zf0 := hCb.frozen 0; have zf1 := hCb.frozen 1; have zf2 := hCb.frozen 2; have zf3 := hCb.frozen 3; simp only [List.getElem?_toArray, List.getElem?_cons_zero, List.getElem?_cons_succ] at z0 z1 z2 z3)
    go_wp2_with (first
      | (refine wpList_rangeV2 rfl _ _ _ rfl Try.underlying56 mb t.n f rfl hP0.vers ?_; intro w1 cnt0 hR1 hc0 hf1)
      | fail)
    have hz1 := hf1.size
    have hr1 := hR1.lt
    have hCl := hCb.lt
    have hml := hCv.lt
    have hwl := hCw.lt
    have hzF0 := hF0.size
    have hmbw : mb < w.heap.size := (hP.off mb hP.inT.2.1).1
    have hOw := hP.offO
    go_frame
    have HROW := Lib.hid hP0.row
    go_loopw [4] (fun s wr => ∃ (fc : Int → Option Value) (left : Int → Bool) (cnt nn : Nat), RangeV wr mb w0.heap.size t.n f left cnt ∧ MapV wr mc nn fc ∧ nn + cnt ≤ t.n ∧ Hid (∀ x, W64 x → left x = true → fc x = none) ∧ Hid (∀ x, W64 x → left x = false → (f x = none ∧ fc x = none) ∨ ∃ v, fc x = some v ∧ t.vs x ≠ [] ∧ CutAt wr O w1.heap.size v (t.vs x)) ∧
      Hid (∀ x y v u b, W64 x → W64 y → x ≠ y → left x = false → left y = false → fc x = some v → fc y = some u → v.ownBlock = some b → ¬ u.ownBlock = some b) ∧ Fr (fun b => b = mc) w0 wr ∧ w1.heap.size ≤ wr.heap.size) (fun _ wr => wr.rangeLeft mb w0.heap.size)
    case atStart =>
      refine ⟨_, _, cnt0, 0, hR1, hCv.fr0 hf1, by omega, Lib.hid (fun _ _ _ => rfl), Lib.hid (fun x _ hl => ?_), Lib.hid (fun x y v u b _ _ _ _ _ hv _ => by cases hv), hf1.mono (fun _ _ hn => hn.elim), Nat.le_refl _⟩
      cases hfx : f x with
      | none => exact .inl ⟨rfl, rfl⟩
      | some v => rw [hfx] at hl; cases hl
    case round =>
      obtain ⟨fc, left, cnt, nn, hR, hM, hnc, HN, HD, HA, hf, hz⟩ := hrel
      have hcnt := hR.left_eq
      go_wp2_with (first
        | (refine wpList_nextV rfl _ rfl mb w0.heap.size t.n f left cnt rfl hR ?_ ?_)
        | fail)
      · intro hdone
        have HDONE := Lib.hid hdone
        clear hdone hR
        go_wp2
        go_ret
        have hF : Fr No w wr := hF0.trans hf (fun b hb e => by omega)
        refine ⟨q, rfl, ⟨mc, wc', fc, g, ?_⟩, hF⟩
        have hPr := hP.fr hF (fun _ _ hn => hn) (fun _ _ hn => hn)
        exact { blk := hCb.fr hf (by omega)
                vers := hM.mono (by omega)
                when := hCw.fr hf (by omega)
                row := fun x hx => by
                  rcases HD.out x hx (HDONE.out x hx) with ⟨h1, h2⟩ | ⟨v, h1, hnil, xs, h3, h4⟩
                  · have := hP.row x hx
                    rw [h1] at this
                    exact .inl ⟨h2, this.nil_⟩
                  · refine .inr ⟨v, xs, h1, hnil, own_down h3 (Nat.zero_le _), h4, fun b hb => ?_⟩
                    have hlt := h3.lt b hb
                    exact ⟨⟨by omega, hlt.2⟩, by omega, by omega, by omega⟩
                at_ := hP.at_
                apart := fun x y v u b hx hy hne hv hu hb hub => HA.out x y v u b hx hy hne (HDONE.out x hx) (HDONE.out y hy) hv hu hb hub
                inT := by have := hf.size; omega
                off := fun b hb => ⟨hb.2, fun hO => by have := hOw b hO; omega⟩
                offO := fun b hb => Nat.lt_of_lt_of_le (hOw b hb) hF.size
                small := hP.small }
      · intro x v w2 cnt1 hx hlx hfx hR2 hlt2 hf2 hz2 hen
        have hF2 : Fr (fun b => b = mc) w0 w2 := hf.trans hf2 (fun b hb e => by omega)
        rcases HROW.out x hx with ⟨h1, _⟩ | ⟨v', xs, h1, hne, hown, hchs, hbT⟩
        · rw [hfx] at h1; cases h1
        rw [hfx] at h1
        injection h1 with h1
        subst h1
        have hown2 := own_fr hown hF2 (fun b hb e => by have := (hP.off b (hbT b hb).1).1; omega)
        have hchs2 := hchs.keep hF2 (fun b hb e => by have := hOw b hb; omega)
        have hxs1 := ChsC.one hchs
        have hsmall := hP.small x
        generalize hl : t.vs x = l at *
        obtain ⟨A, cap, rfl, hlc, hcm, _⟩ := own_form hown2
        have hrd := own_rd hown2 (by omega)
        have hM2 := hM.fr hf2 (by omega)
        have hb2 := hCb.fr hF2 (by omega)
        (have u0 := hb2.cell 0; have u1 := hb2.cell 1; have u2 := hb2.cell 2; have u3 := hb2.cell 3; have uf0 := hb2.frozen 0; have uf1 := hb2.frozen 1; have uf2 := hb2.frozen 2; have uf3 := hb2.frozen 3; simp only [List.getElem?_toArray, List.getElem?_cons_zero, List.getElem?_cons_succ] at u0 u1 u2 u3)
        clear hR hown hchs
        go_wp2_with fail
        refine T_begin2 No [7] [0, 1, 2, 3, 4, 5, 6, 7] [6, 7] (by kernel_rfl) (by kernel_rfl) ?_
        simp only [pickOps, List.filterMap_cons, List.filterMap_nil, List.getElem?_cons_zero, List.getElem?_cons_succ, Act.put]
        repeat (first | (refine T_skip (by rfl) (by rfl) (fun _ _ _ h => h) ?_; try simp only [Act.put, List.setIfInBounds_toArray, List.set_cons_zero, List.set_cons_succ]) | (refine T_pass (by rfl) (by rfl) ?_; try simp only [Act.put, List.setIfInBounds_toArray, List.set_cons_zero, List.set_cons_succ]) | (refine T_load (by assumption) (by rfl) (by rfl) (fun _ _ _ _ h => h) rfl rfl (by assumption) (by first | exact (fun hn => hn) | assumption) ?_; try simp only [Act.put, List.setIfInBounds_toArray, List.set_cons_zero, List.set_cons_succ]) | (refine T_nil (by rfl) (by rfl) (fun _ _ _ _ h => h) rfl rfl ?_; try simp only [Act.put, List.setIfInBounds_toArray, List.set_cons_zero, List.set_cons_succ]) | (refine T_quietN (by rfl) (by rfl) (by rfl) (by rfl) (fun _ _ _ _ h => h) (fun K hK => ?_); go_big_quiet_op; refine hK _ ?_; clear hK K) | (refine T_two (by rfl) (by rfl) (by rfl) (by rfl) (fun _ _ _ _ h => h) (fun K hK => ?_); go_big_quiet_op; refine ⟨_, fun _ _ => rfl, ?_⟩; refine hK _ ?_; clear hK K; try simp only [Act.put, List.setIfInBounds_toArray, List.set_cons_zero, List.set_cons_succ]) | fail)
        refine T_call (by rfl) (by rfl) (fun K hK => ?_)
        go_wp2_with fail
        refine (vclone_calls _ A cap l.length xs _ hrd.drew hxs1 (by omega)).mono ?_
        rintro e w3 ⟨v3, rfl, hown3, hf3⟩
        go_wp2_with fail
        (refine hK.out _ _ (hf3) ?_; clear hK K; try simp only [Act.put, List.setIfInBounds_toArray, List.set_cons_zero, List.set_cons_succ])
        have hfd : Fr No w2 w2.drew := (Fr.refl No w2).drew
        have hf23 := hfd.tr hf3
        have hd2 : w2.drew.heap.size = w2.heap.size := rfl
        rw [hd2] at hown3
        refine T_turn No [] (by rfl) (by rfl) (by rfl) (fun K hK => ?_)
        refine wp_putM rfl Try.underlying56 (hM2.fr0 hf23) rfl (by simp only [maxLen]; omega) rfl hx rfl ?_
        intro w4 hM4 hg4
        refine hK.out _ _ ?_
        clear hK K
        try simp only [Act.put, List.setIfInBounds_toArray, List.set_cons_zero, List.set_cons_succ]
        refine T_done ?_
        obtain ⟨q1, q2, q3⟩ := copy_round (O := O) (f := f) hx hl hne HN HD HA hz (by omega) hr1.1 hnew.2.1 (by omega) hOw hf2 hz2 hf23 hg4 hown3 hchs2
        have hf4 : Fr (fun b => b = mc) w3 w4 := (Fr.refl _ w3).grown hg4 (fun q hq => by injection hq with hq; exact .inr hq.symm)
        have hR4 := (hR2.fr0 hf23).fr hf4 (by omega) (by omega)
        have hz3 := hf23.size
        have hz4 := hf4.size
        have hfin : Fr (fun b => b = mc) w0 w4 := (hF2.trans hf23 (fun _ _ hn => hn.elim)).trans hf4 (fun _ _ e => e)
        go_wp2_with fail
        go_roundw
        case rel => first | exact ⟨_, _, cnt1, nn + 1, hR4, hM4, by omega, q1, q2, q3, hfin, by omega⟩ | ((repeat apply Exists.intro); exact ⟨⟨_, _, cnt1, nn + 1, hR4, hM4, by omega, q1, q2, q3, hfin, by omega⟩, rfl⟩)
        case measure => rw [hR4.left_eq]; omega
end Go.Proofs.Ytifcnjebepipnaa
namespace Go.Proofs.Ytifcnjebepipnaa
set_option linter.unusedVariables false
set_option linter.unusedSimpArgs false
open Go.RowKit

theorem beh_lt {l : List ChM} (hs : l.Pairwise (fun a b => a.oop < b.oop)) {c : Int} {i : Nat} (hi : i < l.length) (h : i < behM l c) : l[i].oop ≤ c := by
  refine Decidable.byContradiction fun hn => ?_
  have e : l = l.take i ++ l.drop i := (List.take_append_drop i l).symm
  have a1 : (l.take i).countP (fun v => decide (v.oop ≤ c)) ≤ i := by
    refine Nat.le_trans List.countP_le_length ?_
    rw [List.length_take]; omega
  have a2 : (l.drop i).countP (fun v => decide (v.oop ≤ c)) = 0 := by
    rw [List.countP_eq_zero]
    intro v hv
    obtain ⟨k, hk, rfl⟩ := List.mem_iff_getElem.1 hv
    have hk' : k < l.length - i := by simpa using hk
    rw [List.getElem_drop]
    have := rise_le hs (i := i) (j := i + k) (by omega) (by omega)
    simp only [decide_eq_true_eq]
    omega
  have : behM l c ≤ i := by
    unfold behM
    rw [e, List.countP_append, a2]
    exact a1
  omega
theorem cutK_beh {l : List ChM} (hs : l.Pairwise (fun a b => a.oop < b.oop)) (c : Int) : cutK l c ≤ behM l c ∧ (cutK l c = behM l c → behM l c ≠ 0 → ∃ v, l[behM l c - 1]? = some v ∧ v.gone = true) := by
  unfold cutK
  cases hv : l[behM l c - 1]? with
  | none => exact ⟨Nat.sub_le _ _, fun h1 h2 => by simp only at h1; omega⟩
  | some v =>
    simp only
    split
    · rename_i hg
      simp only [Bool.and_eq_true, decide_eq_true_eq] at hg
      refine ⟨?_, fun _ _ => ⟨v, rfl, hg.1⟩⟩
      rcases Nat.eq_zero_or_pos (behM l c) with h0 | h0
      · exfalso
        rw [h0] at hv
        have hm := List.mem_of_getElem? hv
        unfold behM at h0
        have := List.countP_eq_zero.1 h0 v hm
        simp only [decide_eq_true_eq] at this
        exact this hg.2
      · omega
    · exact ⟨Nat.sub_le _ _, fun h1 h2 => by omega⟩
def liveO (o : Option ChM) : Option ObjM := match o with | some v => if v.gone = true then none else some v.obj | none => none
theorem forget_ver {l : List ChM} (hs : l.Pairwise (fun a b => a.oop < b.oop)) {c d : Int} (hcd : c ≤ d) :
    liveO (if behM (cutL l c) d = 0 then none else (cutL l c)[behM (cutL l c) d - 1]?) = liveO (if behM l d = 0 then none else l[behM l d - 1]?) := by
  obtain ⟨h1, h2⟩ := cutK_beh hs c
  have hle := behM_le l c
  have hmono : behM l c ≤ behM l d := by
    unfold behM
    refine List.countP_mono_left (fun v _ h => ?_)
    simp only [decide_eq_true_eq] at *
    omega
  have hK : behM l d = cutK l c + behM (cutL l c) d := by
    have e : l = l.take (cutK l c) ++ l.drop (cutK l c) := (List.take_append_drop _ l).symm
    have a1 : (l.take (cutK l c)).countP (fun v => decide (v.oop ≤ d)) = cutK l c := by
      have e1 : (l.take (cutK l c)).length = cutK l c := by rw [List.length_take]; omega
      have e2 : (l.take (cutK l c)).countP (fun v => decide (v.oop ≤ d)) = (l.take (cutK l c)).length := by
        rw [List.countP_eq_length]
        intro v hv
        obtain ⟨k, hk, rfl⟩ := List.mem_iff_getElem.1 hv
        rw [e1] at hk
        rw [List.getElem_take]
        have := beh_lt hs (c := c) (i := k) (by omega) (by omega)
        simp only [decide_eq_true_eq]
        omega
      rw [e2, e1]
    have : l.countP (fun v => decide (v.oop ≤ d)) = (l.take (cutK l c)).countP (fun v => decide (v.oop ≤ d)) + (l.drop (cutK l c)).countP (fun v => decide (v.oop ≤ d)) := by rw [← List.countP_append, List.take_append_drop]
    rw [a1] at this
    exact this
  rw [hK]
  generalize hm : behM (cutL l c) d = m at *
  by_cases h0 : m = 0
  · subst h0
    rw [if_pos rfl]
    by_cases hk : cutK l c + 0 = 0
    · rw [if_pos hk]
    · rw [if_neg hk]
      obtain ⟨v, hv, hg⟩ := h2 (by omega) (by omega)
      rw [show cutK l c + 0 - 1 = behM l c - 1 by omega, hv]
      show none = if v.gone = true then none else some v.obj
      rw [if_pos hg]
  · rw [if_neg h0, if_neg (by omega)]
    unfold cutL
    rw [List.getElem?_drop, show cutK l c + (m - 1) = cutK l c + m - 1 by omega]
theorem atM_live (t : TabM) (c x : Int) : atM t c x = if (decide (t.first ≤ c) && decide (c ≤ t.last)) = true then (match liveO (verM t c x) with | some o => (o, (0 : Int)) | none => (noObj, 25)) else (noObj, 13) := by
  unfold atM
  split
  · cases hv : verM t c x with
    | none => rfl
    | some v =>
      unfold liveO
      simp only
      cases v.gone <;> rfl
  · rfl
theorem liveV_live (t : TabM) (c x : Int) : liveV t c x = (liveO (verM t c x)).isSome := by
  unfold liveV
  cases hv : verM t c x with
  | none => rfl
  | some v =>
    show (!v.gone) = (if v.gone = true then none else some v.obj).isSome
    cases v.gone <;> rfl
theorem forget_live {t : TabM} (ok : TabOk t) {c d : Int} (ha : (decide (t.first ≤ c) && decide (c ≤ t.last)) = true) (hcd : c ≤ d) (x : Int) : liveO (verM (forgetM t c).1 d x) = liveO (verM t d x) := by
  rw [forgetM_yes ha]
  exact forget_ver (ok x).1 hcd
theorem forget_asked {t : TabM} {c d : Int} (ha : (decide (t.first ≤ c) && decide (c ≤ t.last)) = true) (hcd : c ≤ d ∨ d < t.first) : (decide ((forgetM t c).1.first ≤ d) && decide (d ≤ (forgetM t c).1.last)) = (decide (t.first ≤ d) && decide (d ≤ t.last)) := by
  rw [forgetM_yes ha]
  simp only [Bool.and_eq_true, decide_eq_true_eq] at ha
  show (decide (c ≤ d) && decide (d ≤ t.last)) = _
  congr 1
  rw [decide_eq_decide]
  omega
theorem forget_at {t : TabM} (ok : TabOk t) {c d : Int} (ha : (decide (t.first ≤ c) && decide (c ≤ t.last)) = true) (hcd : c ≤ d ∨ d < t.first) (x : Int) : atM (forgetM t c).1 d x = atM t d x := by
  rw [atM_live, atM_live, forget_asked ha hcd]
  rcases hcd with h | h
  · rw [forget_live ok ha h]
  · rw [if_neg (by simp; omega), if_neg (by simp; omega)]
theorem forget_at_old {t : TabM} {c d : Int} (ha : (decide (t.first ≤ c) && decide (c ≤ t.last)) = true) (hcd : d < c) (x : Int) : atM (forgetM t c).1 d x = (noObj, 13) := by
  rw [atM_live, forgetM_yes ha]
  exact if_neg (by simp; omega)
theorem forget_oops {t : TabM} (ok : TabOk t) {c d : Int} (ha : (decide (t.first ≤ c) && decide (c ≤ t.last)) = true) (hcd : c ≤ d ∨ d < t.first) {ks : List Int} (h : OopsL (forgetM t c).1 d ks) : OopsL t d ks := by
  unfold OopsL at h ⊢
  rw [forget_asked ha hcd] at h
  split at h
  · rename_i hd
    rw [if_pos hd]
    refine ⟨h.1, h.2.1, fun x hx => ?_⟩
    rw [h.2.2 x hx, liveV_live, liveV_live]
    rcases hcd with h1 | h1
    · rw [forget_live ok ha h1]
    · simp only [Bool.and_eq_true, decide_eq_true_eq] at hd
      omega
  · rename_i hd
    rw [if_neg hd]
    exact h
theorem forget_changed {t : TabM} {c : Int} (x : Int) (ha : (decide (t.first ≤ c) && decide (c ≤ t.last)) = true) : changedM (forgetM t c).1 x = changedM t x := by rw [forgetM_yes ha]; rfl
end Go.Proofs.Ytifcnjebepipnaa
namespace Go.Proofs.Ytifcnjebepipnaa
set_option linter.unusedVariables false
set_option linter.unusedSimpArgs false
open Go.RowKit

theorem take_eq_succ {a b : List Int} {k : Nat} (h : a.take k = b.take k) (h1 : k < a.length) (h2 : k < b.length) (e : a[k] = b[k]) : a.take (k + 1) = b.take (k + 1) := by
  rw [← List.take_append_getElem h1, ← List.take_append_getElem h2, h, e]
set_option maxHeartbeats 1000000 in
theorem isame_calls (S T : Nat → Prop) (A D : Option Addr) (c d : Nat) (a b : List Int) (w : World) (h : RdI w S A a) (h2 : RdI w T D b) :
    Calls Try.prog 15 #[.slice A a.length c, .slice D b.length d] w fun e w' => e = .returned (.bool (decide (a = b))) ∧ Fr No w w' := by
  have hle := h.le
  have hle2 := h2.le
  have g1 := plain_i64
  by_cases hab : a.length = b.length
  · have HAB := Lib.hid hab
    have el : ((b.length : Int) == b.length) = true := by simp
    go_enter Try.func15, Try.ntmps15
    rw [hab]
    rw [hab] at hle
    clear hab
    go_wp2
    go_loopw [5] (fun i wr => ∃ k : Nat, k ≤ b.length ∧ i = .int .i64 (k : Int) ∧ Hid (a.take k = b.take k) ∧ Fr No w wr) (fun i _ => b.length - (intOf i).toNat)
    case atStart => exact ⟨0, by omega, rfl, Lib.hid (by simp), Fr.refl _ _⟩
    case round =>
      obtain ⟨k, hk, rfl, HK, hf⟩ := hrel
      by_cases hlt : k < b.length
      · have ek : decide ((k : Int) < b.length) = true := by simpa using (by omega : (k : Int) < b.length)
        have hka : k < a.length := by have := HAB.out; omega
        obtain ⟨ad, rfl, _, hc1⟩ := (h.fr0 hf).at_ hka
        obtain ⟨ae, rfl, _, hc2⟩ := (h2.fr0 hf).at_ hlt
        have HS := Lib.hid (take_eq_succ HK.out hka hlt)
        have HN := Lib.hid (show ¬ a[k] = b[k] → decide (a = b) = false from fun hne => by
          simp only [decide_eq_false_iff_not]
          rintro rfl
          exact hne rfl)
        generalize a[k] = x at *
        generalize b[k] = y at *
        go_wp2_with fail
        (refine T_begin No [0, 1, 2, 3, 4, 5, 6, 7, 8] [] (by kernel_rfl) (by kernel_rfl) ?_; simp only [pickOps, List.filterMap_cons, List.filterMap_nil, List.getElem?_cons_zero, List.getElem?_cons_succ, Act.put])
        repeat (first | (refine T_skip (by rfl) (by rfl) (fun _ _ _ h => h) ?_; try simp only [Act.put, List.setIfInBounds_toArray, List.set_cons_zero, List.set_cons_succ]) | (refine T_pass (by rfl) (by rfl) ?_; try simp only [Act.put, List.setIfInBounds_toArray, List.set_cons_zero, List.set_cons_succ]) | (refine T_load (by assumption) (by rfl) (by rfl) (fun _ _ _ _ h => h) rfl rfl (by assumption) (by first | exact (fun hn => hn) | assumption) ?_; try simp only [Act.put, List.setIfInBounds_toArray, List.set_cons_zero, List.set_cons_succ]) | (refine T_nil (by rfl) (by rfl) (fun _ _ _ _ h => h) rfl rfl ?_; try simp only [Act.put, List.setIfInBounds_toArray, List.set_cons_zero, List.set_cons_succ]) | (refine T_quietN (by rfl) (by rfl) (by rfl) (by rfl) (fun _ _ _ _ h => h) (fun K hK => ?_); go_big_quiet_op; refine hK _ ?_; clear hK K) | (refine T_two (by rfl) (by rfl) (by rfl) (by rfl) (fun _ _ _ _ h => h) (fun K hK => ?_); go_big_quiet_op; refine ⟨_, fun _ _ => rfl, ?_⟩; refine hK _ ?_; clear hK K; try simp only [Act.put, List.setIfInBounds_toArray, List.set_cons_zero, List.set_cons_succ]) | fail)
        refine T_done ?_
        by_cases hxy : x = y
        · have HS' := Lib.hid (HS.out hxy)
          subst hxy
          go_wp2
          go_roundw
          case rel => exact ⟨k + 1, by omega, by go_num, HS', hf.drew⟩
          case measure => simp [intOf]; omega
        · have e1 : (x == y) = false := by simpa using hxy
          have HN' := Lib.hid (HN.out hxy)
          clear hxy
          go_wp2
          go_ret
          exact ⟨by rw [HN'.out]; rfl, hf.drew⟩
      · obtain rfl : k = b.length := by omega
        have ek : decide ((b.length : Int) < b.length) = false := by simp
        have HE : Hid (decide (a = b) = true) := Lib.hid (by
          have := HK.out
          rw [List.take_length, ← HAB.out, List.take_length] at this
          simpa using this)
        go_wp2
        go_ret
        exact ⟨by rw [HE.out]; rfl, hf⟩
  · have el : ((a.length : Int) == (b.length : Int)) = false := by simp; omega
    have HE : Hid (decide (a = b) = false) := Lib.hid (by simp only [decide_eq_false_iff_not]; rintro rfl; exact hab rfl)
    clear hab
    go_enter Try.func15, Try.ntmps15
    go_wp2
    go_ret
    exact ⟨by rw [HE.out]; rfl, Fr.refl _ _⟩
theorem isame_self (S T : Nat → Prop) (A D : Option Addr) (c d : Nat) (a : List Int) (w : World) (h : RdI w S A a) (h2 : RdI w T D a) :
    Calls Try.prog 15 #[.slice A a.length c, .slice D a.length d] w fun e w' => e = .returned (.bool true) ∧ Fr No w w' := by
  refine (isame_calls S T A D c d a a w h h2).mono ?_
  rintro e w' ⟨rfl, hf⟩
  exact ⟨by simp, hf⟩
end Go.Proofs.Ytifcnjebepipnaa
namespace Go.Proofs.Ytifcnjebepipnaa
set_option linter.unusedVariables false
set_option linter.unusedSimpArgs false
open Go.RowKit

set_option maxHeartbeats 8000000 in
set_option maxRecDepth 100000 in
theorem law_TableForgets (W : World) (a0 : Option Addr) (cap0 : Nat) (l : List RecM) (hl : RdRec W (fun b => b < W.heap.size) a0 l) (ok : ∀ r ∈ l, RecOk r) (xc : Int) (wk : (Lit.int .i64 xc).wf = true) (xd : Int) (wd : (Lit.int .i64 xd).wf = true) (xo : Int) (wo : (Lit.int .i64 xo).wf = true) :
    Calls Try.prog 5 #[.slice a0 l.length cap0, .int .i64 xc, .int .i64 xd, .int .i64 xo] W fun e w' => e = .returned (.bool true) ∧ Fr No W w' := by
  have hll := hl.le
  have HOKL := Lib.hid ok
  clear ok
  go_enter Try.func5, Try.ntmps5
  go_wp2_with fail
  refine (tnew_calls W).mono ?_
  rintro e w1 ⟨p, rfl, hT1, hf1⟩
  have hz1 := hf1.size
  generalize hTT : (fun b => W.heap.size ≤ b ∧ b < w1.heap.size) = T1 at *
  have hTd1 : ∀ b, T1 b → W.heap.size ≤ b := fun b hb => by rw [← hTT] at hb; exact hb.1
  clear hTT
  go_upto_block 0 with fail
  go_cut [10] (fun s13 wx => ∃ (T' O' : Nat → Prop), TabAt wx T' O' p (applyAll tab0 (l.take 20)) ∧ (∀ b, T' b → T1 b ∨ w1.heap.size ≤ b) ∧ (∀ b, O' b → No b ∨ w1.heap.size ≤ b) ∧ Fr T1 w1 wx)
  case first =>
    go_wp2_with fail
    go_loopw [10] (fun i wr => ∃ (k : Nat) (T' O' : Nat → Prop), k ≤ l.length ∧ k ≤ 20 ∧ i = .int .i64 (k : Int) ∧ TabAt wr T' O' p (applyAll tab0 (l.take k)) ∧ (∀ b, T' b → T1 b ∨ w1.heap.size ≤ b) ∧ (∀ b, O' b → No b ∨ w1.heap.size ≤ b) ∧ Fr T1 w1 wr) (fun i _ => l.length - (intOf i).toNat)
    case atStart => exact ⟨0, T1, No, by omega, by omega, rfl, hT1, fun b hb => .inl hb, fun b hb => .inl hb, Fr.refl _ _⟩
    case round =>
      obtain ⟨k, T', O', hk, hk2, rfl, hT, hTd, hOd, hf⟩ := hrel
      have hFW : Fr No W wr := hf1.trans hf (fun b hb hT => by have := hTd1 b hT; omega)
      by_cases hlt : k < l.length
      · have ek : decide ((k : Int) < l.length) = true := by simpa using (by omega : (k : Int) < l.length)
        by_cases h20 : k < 20
        · have ek2 : decide ((k : Int) < 20) = true := by simpa using (by omega : (k : Int) < 20)
          have hok := HOKL.out _ (List.getElem_mem hlt)
          obtain ⟨g, o, cs, rfl, hcs, hcell, hcl⟩ := (hl.fr0 hFW).at_ hlt
          have HT := Lib.hid (show applyAll tab0 (l.take (k + 1)) = (applyM (applyAll tab0 (l.take k)) l[k]).1 by rw [take_snocR l k hlt, applyAll_snoc])
          have hnk := applyAll_n (l.take k) tab0
          have hn0 : tab0.n ≤ 81920 := (Nat.zero_le _)
          have hlk : (l.take k).length ≤ k := by rw [List.length_take]; omega
          generalize l[k] = r at *
          generalize applyAll tab0 (l.take k) = tk at *
          have hzr := hf.size
          have hzF := hf1.size
          go_wp2_with (first
            | (refine wpList_ldA ag_recr rfl _ rfl ⟨g, o + k * 2, none⟩ cs rfl hcl hcell ?_)
            | fail)
          refine (given11_calls (fun b => b < W.heap.size) cs r _ hcs hok).mono ?_
          rintro e w3 ⟨cs3, rfl, hr3, hf3⟩
          have hT3 := hT.fr0 hf3
          have hTl := hT.lt
          have hz3 := hf3.size
          go_wp2_with fail
          refine (tapply_calls w3 T' O' _ p tk cs3 r hT3 hr3 (fun b hb hTb => by have := hTl.1 b hTb; omega) (by omega)).mono ?_
          rintro e w4 ⟨rfl, T4, O4, hT4, hq4, ho4, hf4⟩
          go_wp2_with fail
          go_roundw
          case rel =>
            refine ⟨k + 1, T4, O4, by omega, by omega, by go_num, by rw [HT.out]; exact hT4, fun b hb => ?_, fun b hb => ?_, (hf.trans hf3 (fun _ _ hn => hn.elim)).trans hf4 (fun b hb hT => ?_)⟩
            · rcases hq4 b hb with h | h
              · exact hTd b h
              · exact .inr (by omega)
            · rcases ho4 b hb with h | h
              · exact hOd b h
              · exact .inr (by omega)
            · rcases hTd b hT with h | h
              · exact h
              · omega
          case measure => simp [intOf]; omega
        · have ek2 : decide ((k : Int) < 20) = false := by simp; omega
          obtain rfl : k = 20 := by omega
          go_wp2_with fail
          go_meet
          case rel => exact ⟨T', O', hT, hTd, hOd, hf⟩
      · obtain rfl : k = l.length := by omega
        have ek : decide ((l.length : Int) < l.length) = false := by simp
        have hTk : TabAt wr T' O' p (applyAll tab0 (l.take 20)) := by
          rw [List.take_of_length_le (by omega)]
          rw [List.take_length] at hT
          exact hT
        go_wp2_with fail
        go_meet
        case rel => exact ⟨T', O', hTk, hTd, hOd, hf⟩
  case rest =>
    obtain ⟨Ta, Oa, hTa, hqa, hoa, hfa⟩ := hcut
    obtain ⟨wa, hwa⟩ : ∃ wa, wa = wc := ⟨_, rfl⟩
    subst hwa
    have hna : (applyAll tab0 (l.take 20)).n ≤ 81920 := by
      have h1 := applyAll_n (l.take 20) tab0
      have h2 : (l.take 20).length ≤ 20 := by rw [List.length_take]; omega
      have h3 : tab0.n = 0 := rfl
      omega
    have hoka : TabOk (applyAll tab0 (l.take 20)) := applyAll_ok _ _ tab0_ok0
    have hfl : (applyAll tab0 (l.take 20)).first ≤ (applyAll tab0 (l.take 20)).last := by
      obtain ⟨h1, h2⟩ := applyAll_first (l.take 20) tab0
      rw [h1]; exact h2
    have HF0 := Lib.hid (show (applyAll tab0 (l.take 20)).first = 0 from (applyAll_first (l.take 20) tab0).1)
    generalize applyAll tab0 (l.take 20) = t at *
    have hlowa : ∀ b, Ta b → W.heap.size ≤ b := fun b hb => by
      rcases hqa b hb with h | h
      · exact hTd1 b h
      · omega
    have hFa : Fr No W wa := hf1.trans hfa (fun b hb hT => by have := hTd1 b hT; omega)
    have hTla := hTa.lt
    have hza := hFa.size
    clear hfa hqa hoa
    have hf0 : t.first = 0 := HF0.out
    have hna1 : t.n ≤ 1000000 := by omega
    go_wp2_with fail
    refine (tcopy_calls wa Ta Oa p t hTa hna1).mono ?_
    rintro e wb ⟨q, rfl, hTq, hfb⟩
    generalize hTQ : (fun b => wa.heap.size ≤ b ∧ b < wb.heap.size) = Tq at *
    have hTqd : ∀ b, Tq b → wa.heap.size ≤ b := fun b hb => by rw [← hTQ] at hb; exact hb.1
    clear hTQ
    have hTb := hTa.fr0 hfb
    have hFb := hFa.tr hfb
    have hzb := hfb.size
    go_wp2_with fail
    refine (tforget_calls wb Tq Oa q t xc hTq hoka hna1).mono ?_
    rintro e wc2 ⟨rfl, Tu, hTu, hqu, hfc⟩
    have hTc := hTb.fr hfc (fun b hb hq => by have := hTqd b hq; have := hTla.1 b hb; omega) (fun b hb hq => by have := hTqd b hq; have := hTla.2.1 b hb; omega)
    have hFc : Fr No W wc2 := hFb.trans hfc (fun b hb hq => by have := hTqd b hq; omega)
    have hzc := hfc.size
    clear hTa hTb hTq hfb hfc hFb hqu
    obtain ⟨mb, wb0, hbk⟩ := hTc.blk
    cases ha : (decide (t.first ≤ xc) && decide (xc ≤ t.last)) with
    | false =>
      rw [forgetM_no ha] at hTu ⊢
      simp only at hTu
      obtain ⟨mu, wu0, hbu⟩ := hTu.blk
      clear ha
      go_wp2_with fail
      refine (tfirst_calls wc2 q t.first t.last _ _ hbu).mono ?_
      rintro e w2 ⟨rfl, hw2⟩
      have hw2 := hw2.symm
      subst hw2
      go_wp2_with fail
      refine (tfirst_calls wc2 p t.first t.last _ _ hbk).mono ?_
      rintro e w2 ⟨rfl, hw2⟩
      have hw2 := hw2.symm
      subst hw2
      have efi : (t.first == t.first) = true := by simp
      go_wp2_with fail
      refine (known11_calls _).mono ?_
      rintro e wz ⟨rfl, hfz⟩
      go_wp2
      go_ret
      exact ⟨rfl, hFc.tr hfz⟩
    | true =>
      have HOO := Lib.hid (fun (h : xc ≤ xd ∨ xd < t.first) ks (h1 : OopsL (forgetM t xc).1 xd ks) => forget_oops hoka ha h h1)
      have HAT := Lib.hid (fun (h : xc ≤ xd ∨ xd < t.first) => forget_at hoka ha h xo)
      have HAO := Lib.hid (fun (h : xd < xc) => forget_at_old ha h xo)
      have HCH := Lib.hid (forget_changed xo ha)
      have hoku : TabOk (forgetM t xc).1 := forgetM_ok hoka
      have ef : (forgetM t xc).1.first = xc ∧ (forgetM t xc).1.last = t.last ∧ (forgetM t xc).1.n = t.n ∧ (forgetM t xc).2 = 0 := by rw [forgetM_yes ha]; exact ⟨rfl, rfl, rfl, rfl⟩
      obtain ⟨ef1, ef2, ef3, ef4⟩ := ef
      rw [ef4]
      generalize (forgetM t xc).1 = u at *
      clear ha ef4
      have hnu : u.n ≤ 1000000 := by omega
      obtain ⟨mu, wu0, hbu⟩ := hTu.blk
      rw [ef1, ef2] at hbu
      go_wp2_with fail
      refine (tfirst_calls wc2 q xc t.last _ _ hbu).mono ?_
      rintro e w2 ⟨rfl, hw2⟩
      have hw2 := hw2.symm
      subst hw2
      have ebn : (xc != xc) = false := by simp
      go_wp2_with fail
      refine (tlast_calls wc2 q xc t.last _ _ hbu).mono ?_
      rintro e w2 ⟨rfl, hw2⟩
      have hw2 := hw2.symm
      subst hw2
      go_wp2_with fail
      refine (tlast_calls wc2 p t.first t.last _ _ hbk).mono ?_
      rintro e w2 ⟨rfl, hw2⟩
      have hw2 := hw2.symm
      subst hw2
      have ebl : (t.last != t.last) = false := by simp
      by_cases h0 : 0 ≤ xd
      · have e0 : decide (0 ≤ xd) = true := by simpa using h0
        by_cases h1 : xd < xc
        · have e1 : decide (xd < xc) = true := by simpa using h1
          have HAO := Lib.hid (HAO.out h1)
          clear HAT HOO h0 h1
          go_wp2_with fail
          refine (tat_calls wc2 Ta Oa p t xd xo hTc hoka (by omega) wo).mono ?_
          rintro e w4 ⟨cs4, rfl, hown4, hf4⟩
          obtain ⟨A4, c4, D4, d4, rfl⟩ := hown4.lit6
          obtain ⟨R4, hR4⟩ : ∃ R4, R4 = atM t xd xo := ⟨_, rfl⟩
          have hsm := atM_small0 hoka xd xo
          rw [← hR4] at hown4 hsm ⊢
          have HR4 := Lib.hid hR4
          clear hR4
          have hf45 : Fr No w4 (w4.alloc (.cells #[.int .i64 R4.1.cls, .slice A4 R4.1.slots.length c4, .slice D4 R4.1.bytes.length d4] tObj)) := (Fr.refl No w4).alloc _
          have hb5 := Blk.new w4 tObj #[.int .i64 R4.1.cls, .slice A4 R4.1.slots.length c4, .slice D4 R4.1.bytes.length d4]
          have hz4 := hf4.size
          have hz5 := hf45.size
          have hown5 := hown4.fr hf45 (fun _ _ hn => hn)
          have hg45 := hf4.tr hf45
          go_wp2_with fail
          refine (tat_calls _ Tu Oa q u xd xo (hTu.fr0 hg45) hoku (by omega) wo).mono ?_
          rw [HAO.out]
          rintro e wA ⟨csA, rfl, hownA, hfA⟩
          obtain ⟨AA, cA, DA, dA, rfl⟩ := hownA.lit6
          have hFA := (hFc.tr hg45).tr hfA
          have hFB : Fr No W (wA.alloc (.cells #[.int .i64 noObj.cls, .slice AA noObj.slots.length cA, .slice DA noObj.bytes.length dA] tObj)) := hFA.alloc _
          go_wp2_with fail
          refine (known11_calls _).mono ?_
          rintro e wz ⟨rfl, hfz⟩
          go_wp2
          go_ret
          exact ⟨rfl, hFB.tr hfz⟩
        · have e1 : decide (xd < xc) = false := by simpa using h1
          have HAT := Lib.hid (HAT.out (.inl (by omega)))
          have HOO := Lib.hid (HOO.out (.inl (by omega)))
          clear HAO h0 h1
          go_wp2_with fail
          refine (tat_calls wc2 Ta Oa p t xd xo hTc hoka (by omega) wo).mono ?_
          rintro e w4 ⟨cs4, rfl, hown4, hf4⟩
          obtain ⟨A4, c4, D4, d4, rfl⟩ := hown4.lit6
          obtain ⟨R4, hR4⟩ : ∃ R4, R4 = atM t xd xo := ⟨_, rfl⟩
          have hsm := atM_small0 hoka xd xo
          rw [← hR4] at hown4 hsm ⊢
          have HR4 := Lib.hid hR4
          clear hR4
          have hf45 : Fr No w4 (w4.alloc (.cells #[.int .i64 R4.1.cls, .slice A4 R4.1.slots.length c4, .slice D4 R4.1.bytes.length d4] tObj)) := (Fr.refl No w4).alloc _
          have hb5 := Blk.new w4 tObj #[.int .i64 R4.1.cls, .slice A4 R4.1.slots.length c4, .slice D4 R4.1.bytes.length d4]
          have hz4 := hf4.size
          have hz5 := hf45.size
          have hown5 := hown4.fr hf45 (fun _ _ hn => hn)
          have hg45 := hf4.tr hf45
          go_wp2_with fail
          refine (tat_calls _ Tu Oa q u xd xo (hTu.fr0 hg45) hoku (by omega) wo).mono ?_
          rw [HAT.out, ← HR4.out]
          rintro e wA ⟨csA, rfl, hownA, hfA⟩
          obtain ⟨AA, cA, DA, dA, rfl⟩ := hownA.lit6
          have hfAB : Fr No wA (wA.alloc (.cells #[.int .i64 R4.1.cls, .slice AA R4.1.slots.length cA, .slice DA R4.1.bytes.length dA] tObj)) := (Fr.refl No wA).alloc _
          have hbB := Blk.new wA tObj #[.int .i64 R4.1.cls, .slice AA R4.1.slots.length cA, .slice DA R4.1.bytes.length dA]
          have hownB := hownA.fr hfAB (fun _ _ hn => hn)
          have hgB := hfA.tr hfAB
          have hb5 := hb5.fr0 hgB
          have hown5 := hown5.fr hgB (fun _ _ hn => hn)
          have hTb := hTc.fr0 (hg45.tr hgB)
          have hTu := hTu.fr0 (hg45.tr hgB)
          have hzA := hfA.size
          have hFB := hFc.tr (hg45.tr hgB)
          have HSO := Lib.hid (sameO_self R4.1)
          have ebe : (R4.2 == R4.2) = true := by simp
          have k1 := hb5.all
          have k2 := hbB.all
          have hc1 := (hown5.rd (by omega) (by omega))
          have hc2 := (hownB.rd (by omega) (by omega))
          go_wp2_with (first
            | (refine wpList_ldA ag_obj rfl _ rfl ⟨w4.heap.size, 0, none⟩ [.int .i64 R4.1.cls, .slice A4 R4.1.slots.length c4, .slice D4 R4.1.bytes.length d4] rfl rfl k1 ?_)
            | (refine wpList_ldA ag_obj rfl _ rfl ⟨wA.heap.size, 0, none⟩ [.int .i64 R4.1.cls, .slice AA R4.1.slots.length cA, .slice DA R4.1.bytes.length dA] rfl rfl k2 ?_)
            | fail)
          refine (refsame_calls _ _ _ _ R4.1 R4.1 _ hc1 hc2).mono ?_
          rw [HSO.out]
          rintro e wE ⟨rfl, hfE⟩
          go_wp2_with fail
          refine (oops_calls wE Ta Oa p t xd (hTb.fr0 hfE) hoka (by omega)).mono ?_
          rintro e wG ⟨x3, ks3, rfl, ho3, hr3, hfG, _⟩
          have HO3 := Lib.hid ho3
          clear ho3
          obtain ⟨B3, e3, rfl, _⟩ := hr3.rd (by omega)
          go_wp2_with fail
          refine (oops_calls wG Tu Oa q u xd ((hTu.fr0 hfE).fr0 hfG) hoku (by omega)).mono ?_
          rintro e wH ⟨x4, ks4, rfl, ho4, hr4, hfH, _⟩
          have eks := (HOO.out ks4 ho4).unique HO3.out
          subst eks
          obtain ⟨B4, e4, rfl, hd4⟩ := hr4.rd (by omega)
          obtain ⟨B3', e3', hq1, hd3⟩ := (hr3.fr0 hfH).rd (by omega)
          injection hq1 with hq1 _ hq2
          subst hq1 hq2
          go_wp2_with fail
          refine (isame_self _ _ B3 B4 e3 e4 ks4 wH hd3 hd4).mono ?_
          rintro e wI ⟨rfl, hfI⟩
          have hgI := ((hfE.tr hfG).tr hfH).tr hfI
          have hTt := hTb.fr0 hgI
          have hTv := hTu.fr0 hgI
          go_wp2_with fail
          refine (changed_calls wI Ta Oa p t xo hTt wo).mono ?_
          rintro e w2 ⟨rfl, hw2⟩
          have hw2 := hw2.symm
          subst hw2
          go_wp2_with fail
          refine (changed_calls wI Tu Oa q u xo hTv wo).mono ?_
          rw [HCH.out]
          rintro e w2 ⟨rfl, hw2⟩
          have hw2 := hw2.symm
          subst hw2
          have ech : (changedM t xo == changedM t xo) = true := by simp
          go_wp2_with fail
          refine (known11_calls _).mono ?_
          rintro e wz ⟨rfl, hfz⟩
          go_wp2
          go_ret
          exact ⟨rfl, (hFB.tr hgI).tr hfz⟩
      · have e0 : decide (0 ≤ xd) = false := by simpa using h0
        have HAT := Lib.hid (HAT.out (.inr (by omega)))
        have HOO := Lib.hid (HOO.out (.inr (by omega)))
        clear HAO h0
        go_wp2_with fail
        refine (tat_calls wc2 Ta Oa p t xd xo hTc hoka (by omega) wo).mono ?_
        rintro e w4 ⟨cs4, rfl, hown4, hf4⟩
        obtain ⟨A4, c4, D4, d4, rfl⟩ := hown4.lit6
        obtain ⟨R4, hR4⟩ : ∃ R4, R4 = atM t xd xo := ⟨_, rfl⟩
        have hsm := atM_small0 hoka xd xo
        rw [← hR4] at hown4 hsm ⊢
        have HR4 := Lib.hid hR4
        clear hR4
        have hf45 : Fr No w4 (w4.alloc (.cells #[.int .i64 R4.1.cls, .slice A4 R4.1.slots.length c4, .slice D4 R4.1.bytes.length d4] tObj)) := (Fr.refl No w4).alloc _
        have hb5 := Blk.new w4 tObj #[.int .i64 R4.1.cls, .slice A4 R4.1.slots.length c4, .slice D4 R4.1.bytes.length d4]
        have hz4 := hf4.size
        have hz5 := hf45.size
        have hown5 := hown4.fr hf45 (fun _ _ hn => hn)
        have hg45 := hf4.tr hf45
        go_wp2_with fail
        refine (tat_calls _ Tu Oa q u xd xo (hTu.fr0 hg45) hoku (by omega) wo).mono ?_
        rw [HAT.out, ← HR4.out]
        rintro e wA ⟨csA, rfl, hownA, hfA⟩
        obtain ⟨AA, cA, DA, dA, rfl⟩ := hownA.lit6
        have hfAB : Fr No wA (wA.alloc (.cells #[.int .i64 R4.1.cls, .slice AA R4.1.slots.length cA, .slice DA R4.1.bytes.length dA] tObj)) := (Fr.refl No wA).alloc _
        have hbB := Blk.new wA tObj #[.int .i64 R4.1.cls, .slice AA R4.1.slots.length cA, .slice DA R4.1.bytes.length dA]
        have hownB := hownA.fr hfAB (fun _ _ hn => hn)
        have hgB := hfA.tr hfAB
        have hb5 := hb5.fr0 hgB
        have hown5 := hown5.fr hgB (fun _ _ hn => hn)
        have hTb := hTc.fr0 (hg45.tr hgB)
        have hTu := hTu.fr0 (hg45.tr hgB)
        have hzA := hfA.size
        have hFB := hFc.tr (hg45.tr hgB)
        have HSO := Lib.hid (sameO_self R4.1)
        have ebe : (R4.2 == R4.2) = true := by simp
        have k1 := hb5.all
        have k2 := hbB.all
        have hc1 := (hown5.rd (by omega) (by omega))
        have hc2 := (hownB.rd (by omega) (by omega))
        go_wp2_with (first
          | (refine wpList_ldA ag_obj rfl _ rfl ⟨w4.heap.size, 0, none⟩ [.int .i64 R4.1.cls, .slice A4 R4.1.slots.length c4, .slice D4 R4.1.bytes.length d4] rfl rfl k1 ?_)
          | (refine wpList_ldA ag_obj rfl _ rfl ⟨wA.heap.size, 0, none⟩ [.int .i64 R4.1.cls, .slice AA R4.1.slots.length cA, .slice DA R4.1.bytes.length dA] rfl rfl k2 ?_)
          | fail)
        refine (refsame_calls _ _ _ _ R4.1 R4.1 _ hc1 hc2).mono ?_
        rw [HSO.out]
        rintro e wE ⟨rfl, hfE⟩
        go_wp2_with fail
        refine (oops_calls wE Ta Oa p t xd (hTb.fr0 hfE) hoka (by omega)).mono ?_
        rintro e wG ⟨x3, ks3, rfl, ho3, hr3, hfG, _⟩
        have HO3 := Lib.hid ho3
        clear ho3
        obtain ⟨B3, e3, rfl, _⟩ := hr3.rd (by omega)
        go_wp2_with fail
        refine (oops_calls wG Tu Oa q u xd ((hTu.fr0 hfE).fr0 hfG) hoku (by omega)).mono ?_
        rintro e wH ⟨x4, ks4, rfl, ho4, hr4, hfH, _⟩
        have eks := (HOO.out ks4 ho4).unique HO3.out
        subst eks
        obtain ⟨B4, e4, rfl, hd4⟩ := hr4.rd (by omega)
        obtain ⟨B3', e3', hq1, hd3⟩ := (hr3.fr0 hfH).rd (by omega)
        injection hq1 with hq1 _ hq2
        subst hq1 hq2
        go_wp2_with fail
        refine (isame_self _ _ B3 B4 e3 e4 ks4 wH hd3 hd4).mono ?_
        rintro e wI ⟨rfl, hfI⟩
        have hgI := ((hfE.tr hfG).tr hfH).tr hfI
        have hTt := hTb.fr0 hgI
        have hTv := hTu.fr0 hgI
        go_wp2_with fail
        refine (changed_calls wI Ta Oa p t xo hTt wo).mono ?_
        rintro e w2 ⟨rfl, hw2⟩
        have hw2 := hw2.symm
        subst hw2
        go_wp2_with fail
        refine (changed_calls wI Tu Oa q u xo hTv wo).mono ?_
        rw [HCH.out]
        rintro e w2 ⟨rfl, hw2⟩
        have hw2 := hw2.symm
        subst hw2
        have ech : (changedM t xo == changedM t xo) = true := by simp
        go_wp2_with fail
        refine (known11_calls _).mono ?_
        rintro e wz ⟨rfl, hfz⟩
        go_wp2
        go_ret
        exact ⟨rfl, (hFB.tr hgI).tr hfz⟩
end Go.Proofs.Ytifcnjebepipnaa
