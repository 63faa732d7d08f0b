/- table.At. No condition but size. -/
import Derived.Test.YtifcnjebepipnaaTabAt
namespace Go.Proofs.Ytifcnjebepipnaa
set_option linter.unusedVariables false
set_option linter.unusedSimpArgs false
open Go.RowKit

theorem zero_vers (w : World) : (zeroValue tVers).run Try.prog w = .ok (.slice none 0 0) w := by kernel_rfl
/-- The version that is asked for; its index is k - 1. -/
def verM (t : TabM) (c x : Int) : Option ChM := if behM (t.vs x) c = 0 then none else (t.vs x)[behM (t.vs x) c - 1]?
def atM (t : TabM) (c x : Int) : ObjM × Int :=
  if (decide (t.first ≤ c) && decide (c ≤ t.last)) = true then
    match verM t c x with
    | some v => if v.gone = true then (noObj, 25) else (v.obj, 0)
    | none => (noObj, 25)
  else (noObj, 13)
theorem atM_no {t : TabM} {c x : Int} (h : (decide (t.first ≤ c) && decide (c ≤ t.last)) = false) : atM t c x = (noObj, 13) := by unfold atM; rw [if_neg (by rw [h]; decide)]
theorem atM_none {t : TabM} {c x : Int} (h : (decide (t.first ≤ c) && decide (c ≤ t.last)) = true) (h0 : behM (t.vs x) c = 0) : atM t c x = (noObj, 25) := by unfold atM verM; rw [if_pos h, if_pos h0]
theorem behM_le (l : List ChM) (t : Int) : behM l t ≤ l.length := List.countP_le_length
theorem atM_some {t : TabM} {c x : Int} (h : (decide (t.first ≤ c) && decide (c ≤ t.last)) = true) {j : Nat} (h0 : behM (t.vs x) c = j + 1) (hj : j < (t.vs x).length) : atM t c x = if (t.vs x)[j].gone = true then (noObj, 25) else ((t.vs x)[j].obj, 0) := by
  unfold atM verM
  rw [if_pos h, if_neg (by omega), h0, show j + 1 - 1 = j by omega, List.getElem?_eq_getElem hj]
theorem ObjOwn.none_ (w : World) (B : Nat) (hB : B ≤ w.heap.size) : ObjOwn w B [.int .i64 0, .slice none 0 0, .slice none 0 0] noObj :=
  ⟨none, 0, none, 0, B, rfl, World.ownsRow_nil _ _ _ _, by simp [Value.ownBlock], World.ownsRow_nil _ _ _ _, Nat.le_refl _⟩
theorem ObjOwn.lit3 {w : World} {B : Nat} {cs : List Value} {o : ObjM} (h : ObjOwn w B cs o) : ∃ A c D d, cs = [.int .i64 o.cls, .slice A o.slots.length c, .slice D o.bytes.length d] := by
  obtain ⟨A, c, D, d, M, e, _⟩ := h; exact ⟨A, c, D, d, e⟩
theorem ObjOwn.fr {w w' : World} {S : Nat → Prop} {B : Nat} {cs : List Value} {o : ObjM} (h : ObjOwn w B cs o) (hf : Fr S w w') (hS : ∀ b, B ≤ b → ¬ S b) : ObjOwn w' B cs o := by
  obtain ⟨A, c, D, d, M, e, r1, r2, r3, r4⟩ := h
  exact ⟨A, c, D, d, M, e, own_fr r1 hf (fun b hb => hS b (r1.lt b hb).1), r2, own_fr r3 hf (fun b hb => hS b (by have := (r3.lt b hb).1; omega)), r4⟩
theorem ObjOwn.down {w : World} {B B' : Nat} {cs : List Value} {o : ObjM} (h : ObjOwn w B cs o) (hB : B' ≤ B) : ObjOwn w B' cs o := by
  obtain ⟨A, c, D, d, M, e, r1, r2, r3, r4⟩ := h
  exact ⟨A, c, D, d, M, e, own_down r1 hB, r2, r3, by omega⟩
def RetO (w w' : World) (e : Ending) (r : ObjM × Int) : Prop :=
  ∃ cs : List Value, e = .returned (.tuple #[.agg cs.toArray, .int .i64 r.2]) ∧ ObjOwn w' w.heap.size cs r.1 ∧ Fr No w w'
theorem RowAt.slice {w : World} {T O : Nat → Prop} {v : Value} {l : List ChM} (h : RowAt w T O (some v) l) (hl : l.length ≤ 100000000) : ∃ A c, v = .slice A l.length c ∧ RdCh w (fun b => T b ∨ O b) A l := by
  rcases h with ⟨h1, _⟩ | ⟨v', xs, e, _, hown, hc, hb⟩
  · cases h1
  · injection e with e
    subst e
    obtain ⟨A, c, rfl, _, _, hA⟩ := own_form hown
    exact ⟨A, c, rfl, xs, (own_rd hown (by omega)).mono (fun b _ hb' => .inl (hb b ((hA b).2 hb'))) (by decide), hc.mono (fun b _ hb' => .inr hb')⟩
theorem RowAt.nil_ {w : World} {T O : Nat → Prop} {l : List ChM} (h : RowAt w T O none l) : l = [] := by
  rcases h with ⟨_, h1⟩ | ⟨v', xs, e, _⟩
  · exact h1
  · cases e
set_option maxHeartbeats 4000000 in
set_option maxRecDepth 100000 in
theorem tat_calls (w : World) (T O : Nat → Prop) (p : Nat) (t : TabM) (c x : Int) (h : TabAt w T O p t) (ok : TabOk t) (hn : t.n ≤ 1000000) (hx : W64 x) :
    Calls Try.prog 12 #[.pointer (some ⟨p, 0, none⟩), .int .i64 c, .int .i64 x] w fun e w' => RetO w w' e (atM t c x) := by
  obtain ⟨mb, wb, f, g, hP⟩ := h
  obtain ⟨first, last, vs, wh, n⟩ := t
  have hf1 : Fr No w (w.alloc (.cells #[.int .i64 0, .slice none 0 0, .slice none 0 0] 38)) := (Fr.refl No w).alloc _
  have hb0 : Blk (w.alloc (.cells #[.int .i64 0, .slice none 0 0, .slice none 0 0] 38)) w.heap.size 38 #[.int .i64 0, .slice none 0 0, .slice none 0 0] := Blk.new w _ _
  have hP1 := hP.fr hf1 (fun _ _ hn => hn) (fun _ _ hn => hn)
  have hbk := hP1.blk
  have hz1 : w.heap.size ≤ (w.alloc (.cells #[.int .i64 0, .slice none 0 0, .slice none 0 0] 38)).heap.size := hf1.size
  simp only at hbk hn
  have hlk := hP1.vers.look Try.underlying56 (zero_vers _) hx
  obtain ⟨hsort, _, hlen, hobj⟩ := ok x
  simp only at hsort hlen hobj
  have hrow := hP1.row x hx
  simp only at hrow
  generalize hvl : vs x = l at *
  (have p0 := hbk.cell 0; have p1 := hbk.cell 1; have p2 := hbk.cell 2; have p3 := hbk.cell 3; have pf0 := hbk.frozen 0; have pf1 := hbk.frozen 1; have pf2 := hbk.frozen 2; have pf3 := hbk.frozen 3; simp only [List.getElem?_toArray, List.getElem?_cons_zero, List.getElem?_cons_succ] at p0 p1 p2 p3)
  cases ha : (decide (first ≤ c) && decide (c ≤ last)) with
  | false =>
    have HM := Lib.hid (atM_no (t := ⟨first, last, vs, wh, n⟩) (c := c) (x := x) ha)
    have hask := asked_calls _ p first last c _ _ hbk
    rw [ha] at hask
    clear ha hlk hP hP1
    go_enter Try.func12, Try.ntmps12
    go_wp2_with fail
    refine hask.mono ?_
    rintro e _ ⟨rfl, rfl⟩
    go_wp2_with (first
      | (refine wpList_stA ag_obj.info rfl _ _ rfl w.heap.size 0 _ _ [.int .i64 0, .slice none 0 0, .slice none 0 0] _ rfl rfl rfl rfl (by intro u hu; simp at hu; rcases hu with rfl | rfl | rfl <;> rfl) hb0 (by decide) ?_; intro w5 hb5 hg5 hz5)
      | fail)
    rw [splice_all _ _ (by rfl)] at hb5
    refine bodyPost_ret (results_blk2 ag_obj rfl _ _ _ _ _ _ rfl rfl hb5 rfl) rfl ?_
    rw [HM.out]
    have hf5 := hf1.grown hg5 (fun q hq => by injection hq with hq; exact .inl (by omega))
    exact ⟨_, rfl, ObjOwn.none_ _ _ hf5.size, hf5⟩
  | true =>
    have hask := asked_calls _ p first last c _ _ hbk
    rw [ha] at hask
    have H0 : Hid (behM l c = 0 → atM ⟨first, last, vs, wh, n⟩ c x = (noObj, 25)) := Lib.hid (fun h0 => atM_none (t := ⟨first, last, vs, wh, n⟩) ha (by show behM (vs x) c = 0; rw [hvl]; exact h0))
    have H1 : Hid (∀ j, behM l c = j + 1 → ∀ hj : j < l.length, atM ⟨first, last, vs, wh, n⟩ c x = if l[j].gone = true then (noObj, 25) else (l[j].obj, 0)) := Lib.hid (fun j h0 hj => by
      subst hvl
      exact atM_some (t := ⟨first, last, vs, wh, n⟩) ha h0 hj)
    generalize hM : atM ⟨first, last, vs, wh, n⟩ c x = M at *
    have HO := Lib.hid hobj
    clear ha hM hP hvl hobj
    -- what the map holds
    obtain ⟨A, cap, hlk', hrd⟩ : ∃ A cap, (Instr.lookup 56 (.map (some mb)) (.int .i64 x) false).run Try.prog (w.alloc (.cells #[.int .i64 0, .slice none 0 0, .slice none 0 0] 38)) = .ok (.slice A l.length cap) (w.alloc (.cells #[.int .i64 0, .slice none 0 0, .slice none 0 0] 38)) ∧ RdCh (w.alloc (.cells #[.int .i64 0, .slice none 0 0, .slice none 0 0] 38)) (fun _ => True) A l := by
      cases hfx : f x with
      | none =>
        rw [hfx] at hlk hrow
        have := hrow.nil_
        subst this
        exact ⟨none, 0, hlk, RdCh.nil_⟩
      | some v =>
        rw [hfx] at hlk hrow
        obtain ⟨A, cap, rfl, hr⟩ := hrow.slice (by omega)
        exact ⟨A, cap, hlk, hr.mono (fun _ _ _ => trivial)⟩
    have hle : l.length ≤ 100000000 := by omega
    have HS := Lib.hid hsort
    clear hlk hrow hsort hlen hP1
    generalize hw1 : w.alloc (.cells #[.int .i64 0, .slice none 0 0, .slice none 0 0] 38) = w1 at *
    go_enter Try.func12, Try.ntmps12
    go_wp2_with fail
    clear hw1
    refine hask.mono ?_
    rintro e _ ⟨rfl, rfl⟩
    go_wp2_with fail
    refine (behind_calls _ A cap l c _ hrd HS.out hle).mono ?_
    rintro e w2 ⟨rfl, hf2⟩
    have hF2 := hf1.tr hf2
    have hz0 : w.heap.size < w2.heap.size := by have := hb0.lt; have := hf2.size; omega
    have hb2 := hb0.fr0 hf2
    have hrd2 := hrd.fr0 hf2
    have hzB : w.heap.size ≤ w2.heap.size := hF2.size
    have hkl := behM_le l c
    cases hk : behM l c with
    | zero =>
      have HM := Lib.hid (H0.out hk)
      clear hk H0 H1
      simp only [Int.natCast_zero]
      go_wp2_with (first
        | (refine wpList_stA ag_obj.info rfl _ _ rfl w.heap.size 0 _ _ [.int .i64 0, .slice none 0 0, .slice none 0 0] _ rfl rfl rfl rfl (by intro u hu; simp at hu; rcases hu with rfl | rfl | rfl <;> rfl) hb2 (by decide) ?_; intro w5 hb5 hg5 hz5)
        | fail)
      rw [splice_all _ _ (by rfl)] at hb5
      refine bodyPost_ret (results_blk2 ag_obj rfl _ _ _ _ _ _ rfl rfl hb5 rfl) rfl ?_
      rw [HM.out]
      have hf5 := hF2.grown hg5 (fun q hq => by injection hq with hq; exact .inl (by omega))
      exact ⟨_, rfl, ObjOwn.none_ _ _ hf5.size, hf5⟩
    | succ j =>
      have hjl : j < l.length := by omega
      have HM := H1.out j hk hjl
      have hov := HO.out _ (List.getElem_mem hjl)
      obtain ⟨ga, of, Av, nn, D, mm, rfl, _, hcell, hsl, hby⟩ := hrd2.at_ hjl
      have ekj : ((j + 1 : Nat) : Int) = (j : Int) + 1 := by omega
      have ek0 : ((j : Int) + 1 == 0) = false := by simp; omega
      have ek1 : (j : Int) + 1 - 1 = j := by omega
      rw [ekj]
      clear hk H0 H1 ekj
      generalize l[j] = v at *
      have hcell' := addr5 _ _ _ hcell
      have ekl : decide ((j : Int) < l.length) = true := by simpa using (by omega : (j : Int) < l.length)
      have hc1 := hcell 1 _ rfl
      cases hg : v.gone with
      | true =>
        rw [hg] at hc1
        rw [if_pos hg] at HM
        have HM' := Lib.hid HM
        clear HM
        go_wp2_with (first
          | (refine wpList_stA ag_obj.info rfl _ _ rfl w.heap.size 0 _ _ [.int .i64 0, .slice none 0 0, .slice none 0 0] _ rfl rfl rfl rfl (by intro u hu; simp at hu; rcases hu with rfl | rfl | rfl <;> rfl) hb2 (by decide) ?_; intro w5 hb5 hg5 hz5)
          | fail)
        rw [splice_all _ _ (by rfl)] at hb5
        refine bodyPost_ret (results_blk2 ag_obj rfl _ _ _ _ _ _ rfl rfl hb5 rfl) rfl ?_
        rw [HM'.out]
        have hf5 := hF2.grown hg5 (fun q hq => by injection hq with hq; exact .inl (by omega))
        exact ⟨_, rfl, ObjOwn.none_ _ _ hf5.size, hf5⟩
      | false =>
        rw [hg] at hc1
        rw [if_neg (by rw [hg]; decide)] at HM
        have HM' := Lib.hid HM
        clear HM
        have hobc : ∀ j_1 u, [Value.int .i64 v.obj.cls, .slice Av v.obj.slots.length nn, .slice D v.obj.bytes.length mm][j_1]? = some u → w2.cell? ((⟨ga, of + j * 5 + 2, none⟩ : Addr).add j_1) = some u := addr5 _ _ _ (fun j_1 u hu => by
          have := hcell (j_1 + 2) u (by simpa using hu)
          rwa [show of + j * 5 + (j_1 + 2) = of + j * 5 + 2 + j_1 by omega] at this)
        go_wp2_with (first
          | (refine wpList_ldA ag_obj rfl _ rfl ⟨ga, of + j * 5 + 2, none⟩ _ rfl rfl hobc ?_)
          | fail)
        refine (ocopy_calls (fun _ => True) _ v.obj _ ⟨Av, nn, D, mm, rfl, hsl, hby⟩ (by have := hov.1; omega)).mono ?_
        rintro e w3 ⟨cs', rfl, hown, hf3⟩
        obtain ⟨A3, c3, D3, d3, M3, rfl, r1, r2, r3, r4⟩ := hown
        have hb3 := hb2.fr0 hf3
        go_wp2_with (first
          | (refine wpList_stA ag_obj.info rfl _ _ rfl w.heap.size 0 _ _ [.int .i64 v.obj.cls, .slice A3 v.obj.slots.length c3, .slice D3 v.obj.bytes.length d3] _ rfl rfl rfl rfl (by intro u hu; simp at hu; rcases hu with rfl | rfl | rfl <;> rfl) hb3 (by decide) ?_; intro w5 hb5 hg5 hz5)
          | fail)
        rw [splice_all _ _ (by rfl)] at hb5
        refine bodyPost_ret (results_blk2 ag_obj rfl _ _ _ _ _ _ rfl rfl hb5 rfl) rfl ?_
        rw [HM'.out]
        have hf5 := (hF2.tr hf3).grown hg5 (fun q hq => by injection hq with hq; exact .inl (by omega))
        have hf35 : Fr (fun b => b = w.heap.size) w3 w5 := (Fr.refl _ w3).grown hg5 (fun q hq => by injection hq with hq; exact .inr hq.symm)
        refine ⟨_, rfl, ⟨A3, c3, D3, d3, M3, rfl, own_down (own_fr r1 hf35 (fun b hb hT => by have := (r1.lt b hb).1; omega)) hzB, r2, own_fr r3 hf35 (fun b hb hT => by have := (r3.lt b hb).1; omega), by omega⟩, hf5⟩
end Go.Proofs.Ytifcnjebepipnaa
