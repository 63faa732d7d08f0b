/- Get: value's, and the reference's. No condition. -/
import Derived.Test.YtfgkioigbnlkkaaRefObj
namespace Go.Proofs.Ytfgkioigbnlkkaa
set_option linter.unusedVariables false
set_option linter.unusedSimpArgs false
open Go.RowKit

/-- What Get hands back: an object of its own, or none and an error. -/
def RetO (w w' : World) (e : Ending) (r : Option ObjM) : Prop :=
  ∃ cs : List Value, e = .returned (.tuple #[.agg cs.toArray, .int .i64 (if r.isSome = true then 0 else 11)]) ∧ ObjOwn w' w.heap.size cs (r.getD ⟨0, [], []⟩) ∧ Fr No w w'
theorem getM_none {l : List UInt8} {o : ObjM} (h : objO (some l) = (o, none)) : getM l = none := by unfold getM; rw [h]
theorem getM_more {l : List UInt8} {o : ObjM} {x : UInt8} {t : List UInt8} (h : objO (some l) = (o, some (x :: t))) : getM l = none := by unfold getM; rw [h]
theorem getM_ok {l : List UInt8} {o : ObjM} (h : objO (some l) = (o, some [])) : getM l = some o := by unfold getM; rw [h]
theorem objOwn_nil (w : World) (B : Nat) : ObjOwn w B [.int .i64 0, .slice none 0 0, .slice none 0 0] ⟨0, [], []⟩ :=
  ⟨none, 0, none, 0, B, rfl, World.ownsRow_nil _ _ _ _, (fun b hb => by cases hb), World.ownsRow_nil _ _ _ _, Nat.le_refl _⟩
theorem ObjOwn.fr {S : Nat → Prop} {w w' : World} {B : Nat} {cs : List Value} {o : ObjM} (h : ObjOwn w B cs o) (hf : Fr S w w') (hS : ∀ b, B ≤ b → b < w.heap.size → ¬ S b) : ObjOwn w' B cs o := by
  obtain ⟨A, c, D, c2, M, e, h1, h2, h3, h4⟩ := h
  exact ⟨A, c, D, c2, M, e, own_fr h1 hf (fun b hb => hS b (h1.lt b hb).1 (h1.lt b hb).2), h2, own_fr h3 hf (fun b hb => hS b (by have := (h3.lt b hb).1; omega) (h3.lt b hb).2), h4⟩
theorem ObjOwn.fr0 {w w' : World} {B : Nat} {cs : List Value} {o : ObjM} (h : ObjOwn w B cs o) (hf : Fr No w w') : ObjOwn w' B cs o := h.fr hf (fun _ _ _ hn => hn)
theorem ObjOwn.down {w : World} {B B' : Nat} {cs : List Value} {o : ObjM} (h : ObjOwn w B cs o) (hb : B' ≤ B) : ObjOwn w B' cs o := by
  obtain ⟨A, c, D, c2, M, e, h1, h2, h3, h4⟩ := h
  exact ⟨A, c, D, c2, M, e, own_down h1 hb, h2, h3, by omega⟩

set_option maxHeartbeats 2000000 in
set_option maxRecDepth 100000 in
theorem valueget_calls (S : Nat → Prop) (A : Option Addr) (c : Nat) (l : List UInt8) (w : World) (h : RdB w S A l) (hc : l.length ≤ c) (hcm : c ≤ maxLen) :
    Calls Try.prog 15 #[.slice A l.length c] w fun e w' => RetO w w' e (getM l) := by
  have hlen := h.le
  replace h : RdB w (fun b => S b ∧ b < w.heap.size) A l := Rd.lt h (by decide)
  have g1 := plain_int
  have g2 := plain_i64
  have g4 := plain_lval
  have g5 := plain_lu8
  have g6 := plain_bool
  go_enter Try.func15, Try.ntmps15
  go_wp2_with fail
  have hs0 : ScanAt 68 ((w.alloc (.cells #[.int .i64 0, .slice none 0 0, .slice none 0 0] 25)).alloc (.cells #[.slice A l.length c, .bool false] 68)) (fun b => S b ∧ b < w.heap.size) (w.heap.size + 1) (some l) :=
    ⟨A, l, c, Blk.newAt (by simp), Rd.alloc (Rd.alloc h _) _, hc, hcm, (fun l' h => by injection h with h; exact h.symm), fun hh => by have := hh.2; omega⟩
  have hbr : Blk ((w.alloc (.cells #[.int .i64 0, .slice none 0 0, .slice none 0 0] 25)).alloc (.cells #[.slice A l.length c, .bool false] 68)) w.heap.size 25 #[.int .i64 0, .slice none 0 0, .slice none 0 0] := (Blk.new w _ _).alloc _
  have hf0 : Fr No w ((w.alloc (.cells #[.int .i64 0, .slice none 0 0, .slice none 0 0] 25)).alloc (.cells #[.slice A l.length c, .bool false] 68)) := ((Fr.refl No w).alloc _).alloc _
  have hz0 : ((w.alloc (.cells #[.int .i64 0, .slice none 0 0, .slice none 0 0] 25)).alloc (.cells #[.slice A l.length c, .bool false] 68)).heap.size = w.heap.size + 2 := by simp
  refine (obj_calls _ (w.heap.size + 1) (some l) _ hs0).mono ?_
  rintro e w1 ⟨cs, rfl, hret, hs1, hf1⟩
  rw [hz0] at hret
  have hb0 := hbr.fr hf1 (by omega)
  have hF1 : Fr No w w1 := hf0.trans hf1 (fun b hb hT => by omega)
  have hW2 := hF1.size
  obtain ⟨⟨n, A2, L2, c2, D2, m2, d2, rfl⟩, hown1⟩ := hret
  obtain ⟨⟨o, s⟩, hq⟩ : ∃ p, objO (some l) = p := ⟨_, rfl⟩
  simp only [hq] at hown1 hs1
  obtain ⟨Ag, lg, cg, hbg, hrg, hcg, hcmg, hhg, hSg⟩ := hs1
  have hbgA := hbg.alloc (.cells #[.int .i64 n, .slice A2 L2 c2, .slice D2 m2 d2] 25)
  have hb5A := Blk.new w1 25 #[.int .i64 n, .slice A2 L2 c2, .slice D2 m2 d2]
  have hb0A := hb0.alloc (.cells #[.int .i64 n, .slice A2 L2 c2, .slice D2 m2 d2] 25)
  have hFA := hF1.alloc (.cells #[.int .i64 n, .slice A2 L2 c2, .slice D2 m2 d2] 25)
  have hownA : (s.isSome = true → ObjOwn (w1.alloc (.cells #[.int .i64 n, .slice A2 L2 c2, .slice D2 m2 d2] 25)) (w.heap.size + 2) [.int .i64 n, .slice A2 L2 c2, .slice D2 m2 d2] o) := fun hh => (hown1 hh).fr0 ((Fr.refl No w1).alloc _)
  have HOW := Lib.hid hownA
  have hl1 := hb0.lt
  have HW2 := Lib.hid hW2
  clear hown1 hbg hb0 hF1 hownA hW2 hrg
  go_upto_region 3 with fail
  generalize hw2 : w1.alloc (.cells #[.int .i64 n, .slice A2 L2 c2, .slice D2 m2 d2] 25) = w2 at *
  clear hw2
  (have p0 := hbgA.cell 0; have p1 := hbgA.cell 1; have pf0 := hbgA.frozen 0; have pf1 := hbgA.frozen 1; simp only [List.getElem?_toArray, List.getElem?_cons_zero, List.getElem?_cons_succ] at p0 p1)
  (have q0 := hb0A.cell 0; have q1 := hb0A.cell 1; have q2 := hb0A.cell 2; have qf0 := hb0A.frozen 0; have qf1 := hb0A.frozen 1; have qf2 := hb0A.frozen 2; simp only [List.getElem?_toArray, List.getElem?_cons_zero, List.getElem?_cons_succ] at q0 q1 q2)
  have h5all := hb5A.all
  have hl0 := hb0A.lt
  cases s with
  | none =>
    simp only [Option.isNone_none] at p1
    have HG := Lib.hid (getM_none hq)
    clear hq
    go_wp2_with (first
      | (refine wpList_stA ag_obj.info rfl _ _ rfl w.heap.size 0 _ _ [.int .i64 0, .slice none 0 0, .slice none 0 0] _ rfl rfl rfl rfl (by intro u hu; simp at hu; rcases hu with rfl | rfl | rfl <;> rfl) hb0A (by decide) ?_; intro w5 hb5 hg5 hz5)
      | fail)
    rw [splice_all _ _ (by rfl)] at hb5
    refine bodyPost_ret (results_blk2 ag_obj rfl _ _ _ _ _ _ rfl rfl hb5 rfl) rfl ?_
    rw [HG.out]
    exact ⟨_, rfl, objOwn_nil _ _, hFA.grown hg5 (fun q hq => by injection hq with hq; exact .inl (by omega))⟩
  | some l' =>
    obtain rfl : lg = l' := (hhg l' rfl).symm
    simp only [Option.isNone_some] at p1
    clear hhg
    cases lg with
    | cons x t =>
      have HG := Lib.hid (getM_more hq)
      clear hq
      simp only [List.length_cons] at p0
      have e1 : decide ((0 : Int) < (t.length : Int) + 1) = true := by first | (simp; done) | (simp; omega)
      go_wp2_with (first
        | (refine wpList_stA ag_obj.info rfl _ _ rfl w.heap.size 0 _ _ [.int .i64 0, .slice none 0 0, .slice none 0 0] _ rfl rfl rfl rfl (by intro u hu; simp at hu; rcases hu with rfl | rfl | rfl <;> rfl) hb0A (by decide) ?_; intro w5 hb5 hg5 hz5)
        | fail)
      rw [splice_all _ _ (by rfl)] at hb5
      refine bodyPost_ret (results_blk2 ag_obj rfl _ _ _ _ _ _ rfl rfl hb5 rfl) rfl ?_
      rw [HG.out]
      exact ⟨_, rfl, objOwn_nil _ _, hFA.grown hg5 (fun q hq => by injection hq with hq; exact .inl (by omega))⟩
    | nil =>
      have HG := Lib.hid (getM_ok hq)
      clear hq
      simp only [List.length_nil] at p0
      have hown2 := HOW.out rfl
      go_wp2_with (first
        | (refine wpList_ldA ag_obj rfl _ rfl ⟨w1.heap.size, 0, none⟩ [.int .i64 n, .slice A2 L2 c2, .slice D2 m2 d2] rfl rfl h5all ?_)
        | (refine wpList_stA ag_obj.info rfl _ _ rfl w.heap.size 0 _ _ [.int .i64 n, .slice A2 L2 c2, .slice D2 m2 d2] _ rfl rfl rfl rfl (by intro u hu; simp at hu; rcases hu with rfl | rfl | rfl <;> rfl) hb0A (by decide) ?_; intro w5 hb5 hg5 hz5)
        | fail)
      rw [splice_all _ _ (by rfl)] at hb5
      refine bodyPost_ret (results_blk2 ag_obj rfl _ _ _ _ _ _ rfl rfl hb5 rfl) rfl ?_
      rw [HG.out]
      refine ⟨_, rfl, ObjOwn.down (B := w.heap.size + 2) ?_ (Nat.le_add_right _ _), hFA.grown hg5 (fun q hq => by injection hq with hq; exact .inl (by omega))⟩
      exact hown2.fr ((Fr.refl (fun b => b = w.heap.size) w2).grown hg5 (fun q hq => by injection hq with hq; exact .inr hq.symm)) (fun b hb _ hT => by omega)

set_option maxHeartbeats 2000000 in
set_option maxRecDepth 100000 in
theorem refget_calls (S : Nat → Prop) (A : Option Addr) (c : Nat) (l : List UInt8) (w : World) (h : RdB w S A l) (hc : l.length ≤ c) (hcm : c ≤ maxLen) :
    Calls Try.prog 17 #[.slice A l.length c] w fun e w' => RetO w w' e (getM l) := by
  have hlen := h.le
  replace h : RdB w (fun b => S b ∧ b < w.heap.size) A l := Rd.lt h (by decide)
  have g1 := plain_int
  have g2 := plain_i64
  have g4 := plain_lval
  have g5 := plain_lu8
  have g6 := plain_bool
  go_enter Try.func17, Try.ntmps17
  go_wp2_with (first
    | (refine wpList_app so_u8 (World.ownsRow_nil _ (w.heap.size + 2) _ _) (Rd.alloc (Rd.alloc h _) _) (U8_one _) (by omega) (by simp) rfl rfl rfl rfl ?_; intro v5 w5 hown5 hg5 hat5; obtain ⟨A5, c5, rfl, hc5, hc5m, hA5⟩ := own_form hown5; have hb15 : Blk w5 (w.heap.size + 1) 72 #[.slice none 0 0, .bool false] := (Blk.newAt (by simp)).grown hg5 (fun hh => by cases hh); (have z0 := hb15.cell 0; have z1 := hb15.cell 1; have zf0 := hb15.frozen 0; have zf1 := hb15.frozen 1; simp only [List.getElem?_toArray, List.getElem?_cons_zero, List.getElem?_cons_succ] at z0 z1))
    | fail)
  have hbr : Blk ((w.alloc (.cells #[.int .i64 0, .slice none 0 0, .slice none 0 0] 25)).alloc (.cells #[.slice none 0 0, .bool false] 72)) w.heap.size 25 #[.int .i64 0, .slice none 0 0, .slice none 0 0] := (Blk.new w _ _).alloc _
  have hz0 : ((w.alloc (.cells #[.int .i64 0, .slice none 0 0, .slice none 0 0] 25)).alloc (.cells #[.slice none 0 0, .bool false] 72)).heap.size = w.heap.size + 2 := by simp
  have hf0 : Fr No w w5 := ((((Fr.refl No w).alloc _).alloc _).grown hg5 (fun q hq => by cases hq))
  have hbr5 := hbr.grown hg5 (fun hh => by cases hh)
  have hsz5 := hg5.size
  rw [hz0] at hsz5
  simp only [Nat.zero_add, List.nil_append] at hown5
  have hb16 : Blk (w5.setCell ⟨w.heap.size + 1, 0, none⟩ (.slice A5 l.length c5)) (w.heap.size + 1) 72 #[.slice A5 l.length c5, .bool false] := hb15.put 0 _
  have hf56 : Fr (fun b => b = w.heap.size + 1) w5 (w5.setCell ⟨w.heap.size + 1, 0, none⟩ (.slice A5 l.length c5)) := (Fr.refl _ w5).set1 0 _
  have hfW6 : Fr No w (w5.setCell ⟨w.heap.size + 1, 0, none⟩ (.slice A5 l.length c5)) := hf0.trans hf56 (fun b hb hT => by omega)
  have hbr6 := hbr5.fr hf56 (by omega)
  obtain ⟨A5', c5', e9, _, _, hA9⟩ := own_form hown5
  injection e9 with e91 e92 e93
  subst e91 e93
  have hr6 := Rd.fr (own_rd hown5 (by omega)) hf56 (fun b hb hT => by have := (hown5.lt b ((hA9 b).2 hb)).1; omega)
  have hr6' := Rd.mono hr6 (T := fun b => w.heap.size + 2 ≤ b) (fun b hl hb => (hown5.lt b ((hA9 b).2 hb)).1) (by decide)
  have hzc := hf56.size
  clear e92
  generalize hw6 : w5.setCell ⟨w.heap.size + 1, 0, none⟩ (.slice A5 l.length c5) = w6 at *
  clear hw6 hA9
  have hs0 : ScanAt 72 w6 (fun b => w.heap.size + 2 ≤ b) (w.heap.size + 1) (some l) :=
    ⟨A5, l, c5, hb16, hr6', by omega, hc5m, (fun l' h => by injection h with h; exact h.symm), fun hh => by omega⟩
  refine (refobj_calls _ (w.heap.size + 1) (some l) _ hs0).mono ?_
  rintro e w1 ⟨cs, rfl, hret0, hs1, hf1⟩
  have hret : ObjRet w1 (w.heap.size + 2) cs (objO (some l)) := ⟨hret0.1, fun hh => (hret0.2 hh).down (by omega)⟩
  have hb0 := hbr6.fr hf1 (by omega)
  have hF1 : Fr No w w1 := hfW6.trans hf1 (fun b hb hT => by omega)
  have hW2 := hF1.size
  obtain ⟨⟨n, A2, L2, c2, D2, m2, d2, rfl⟩, hown1⟩ := hret
  obtain ⟨⟨o, s⟩, hq⟩ : ∃ p, objO (some l) = p := ⟨_, rfl⟩
  simp only [hq] at hown1 hs1
  obtain ⟨Ag, lg, cg, hbg, hrg, hcg, hcmg, hhg, hSg⟩ := hs1
  have hbgA := hbg.alloc (.cells #[.int .i64 n, .slice A2 L2 c2, .slice D2 m2 d2] 25)
  have hb5A := Blk.new w1 25 #[.int .i64 n, .slice A2 L2 c2, .slice D2 m2 d2]
  have hb0A := hb0.alloc (.cells #[.int .i64 n, .slice A2 L2 c2, .slice D2 m2 d2] 25)
  have hFA := hF1.alloc (.cells #[.int .i64 n, .slice A2 L2 c2, .slice D2 m2 d2] 25)
  have hownA : (s.isSome = true → ObjOwn (w1.alloc (.cells #[.int .i64 n, .slice A2 L2 c2, .slice D2 m2 d2] 25)) (w.heap.size + 2) [.int .i64 n, .slice A2 L2 c2, .slice D2 m2 d2] o) := fun hh => (hown1 hh).fr0 ((Fr.refl No w1).alloc _)
  have HOW := Lib.hid hownA
  have hl1 := hb0.lt
  have HW2 := Lib.hid hW2
  clear hown1 hbg hb0 hF1 hownA hW2 hrg
  go_upto_region 4 with fail
  generalize hw2 : w1.alloc (.cells #[.int .i64 n, .slice A2 L2 c2, .slice D2 m2 d2] 25) = w2 at *
  clear hw2
  (have p0 := hbgA.cell 0; have p1 := hbgA.cell 1; have pf0 := hbgA.frozen 0; have pf1 := hbgA.frozen 1; simp only [List.getElem?_toArray, List.getElem?_cons_zero, List.getElem?_cons_succ] at p0 p1)
  (have q0 := hb0A.cell 0; have q1 := hb0A.cell 1; have q2 := hb0A.cell 2; have qf0 := hb0A.frozen 0; have qf1 := hb0A.frozen 1; have qf2 := hb0A.frozen 2; simp only [List.getElem?_toArray, List.getElem?_cons_zero, List.getElem?_cons_succ] at q0 q1 q2)
  have h5all := hb5A.all
  have hl0 := hb0A.lt
  cases s with
  | none =>
    simp only [Option.isNone_none] at p1
    have HG := Lib.hid (getM_none hq)
    clear hq
    go_wp2_with (first
      | (refine wpList_stA ag_obj.info rfl _ _ rfl w.heap.size 0 _ _ [.int .i64 0, .slice none 0 0, .slice none 0 0] _ rfl rfl rfl rfl (by intro u hu; simp at hu; rcases hu with rfl | rfl | rfl <;> rfl) hb0A (by decide) ?_; intro w5 hb5 hg5 hz5)
      | fail)
    rw [splice_all _ _ (by rfl)] at hb5
    refine bodyPost_ret (results_blk2 ag_obj rfl _ _ _ _ _ _ rfl rfl hb5 rfl) rfl ?_
    rw [HG.out]
    exact ⟨_, rfl, objOwn_nil _ _, hFA.grown hg5 (fun q hq => by injection hq with hq; exact .inl (by omega))⟩
  | some l' =>
    obtain rfl : lg = l' := (hhg l' rfl).symm
    simp only [Option.isNone_some] at p1
    clear hhg
    cases lg with
    | cons x t =>
      have HG := Lib.hid (getM_more hq)
      clear hq
      simp only [List.length_cons] at p0
      have e1 : decide ((0 : Int) < (t.length : Int) + 1) = true := by first | (simp; done) | (simp; omega)
      go_wp2_with (first
        | (refine wpList_stA ag_obj.info rfl _ _ rfl w.heap.size 0 _ _ [.int .i64 0, .slice none 0 0, .slice none 0 0] _ rfl rfl rfl rfl (by intro u hu; simp at hu; rcases hu with rfl | rfl | rfl <;> rfl) hb0A (by decide) ?_; intro w5 hb5 hg5 hz5)
        | fail)
      rw [splice_all _ _ (by rfl)] at hb5
      refine bodyPost_ret (results_blk2 ag_obj rfl _ _ _ _ _ _ rfl rfl hb5 rfl) rfl ?_
      rw [HG.out]
      exact ⟨_, rfl, objOwn_nil _ _, hFA.grown hg5 (fun q hq => by injection hq with hq; exact .inl (by omega))⟩
    | nil =>
      have HG := Lib.hid (getM_ok hq)
      clear hq
      simp only [List.length_nil] at p0
      have hown2 := HOW.out rfl
      go_wp2_with (first
        | (refine wpList_ldA ag_obj rfl _ rfl ⟨w1.heap.size, 0, none⟩ [.int .i64 n, .slice A2 L2 c2, .slice D2 m2 d2] rfl rfl h5all ?_)
        | (refine wpList_stA ag_obj.info rfl _ _ rfl w.heap.size 0 _ _ [.int .i64 n, .slice A2 L2 c2, .slice D2 m2 d2] _ rfl rfl rfl rfl (by intro u hu; simp at hu; rcases hu with rfl | rfl | rfl <;> rfl) hb0A (by decide) ?_; intro w5 hb5 hg5 hz5)
        | fail)
      rw [splice_all _ _ (by rfl)] at hb5
      refine bodyPost_ret (results_blk2 ag_obj rfl _ _ _ _ _ _ rfl rfl hb5 rfl) rfl ?_
      rw [HG.out]
      refine ⟨_, rfl, ObjOwn.down (B := w.heap.size + 2) ?_ (Nat.le_add_right _ _), hFA.grown hg5 (fun q hq => by injection hq with hq; exact .inl (by omega))⟩
      exact hown2.fr ((Fr.refl (fun b => b = w.heap.size) w2).grown hg5 (fun q hq => by injection hq with hq; exact .inr hq.symm)) (fun b hb _ hT => by omega)
end Go.Proofs.Ytfgkioigbnlkkaa
