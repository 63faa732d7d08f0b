/- table.First, Changed; lapidarylaw11.known. No condition. -/
import Derived.Test.YtifcnjebepipnaaForget
namespace Go.Proofs.Ytifcnjebepipnaa
set_option linter.unusedVariables false
set_option linter.unusedSimpArgs false
open Go.RowKit

theorem tfirst_calls (w : World) (p : Nat) (first last : Int) (m1 m2 : Value) (h : Blk w p 59 #[.int .i64 first, .int .i64 last, m1, m2]) :
    Calls Try.prog 11 #[.pointer (some ⟨p, 0, none⟩)] w fun e w' => e = .returned (.int .i64 first) ∧ w' = w := by
  (have p0 := h.cell 0; have p1 := h.cell 1; have p2 := h.cell 2; have p3 := h.cell 3; have pf0 := h.frozen 0; have pf1 := h.frozen 1; have pf2 := h.frozen 2; have pf3 := h.frozen 3; simp only [List.getElem?_toArray, List.getElem?_cons_zero, List.getElem?_cons_succ] at p0 p1 p2 p3)
  go_enter Try.func11, Try.ntmps11
  go_wp2
  go_ret
  exact ⟨rfl, rfl⟩
theorem zero_i64 (w : World) : (zeroValue 2).run Try.prog w = .ok (.int .i64 0) w := by kernel_rfl
def changedM (t : TabM) (x : Int) : Int := (t.wh x).getD 0
theorem changed_calls (w : World) (T O : Nat → Prop) (p : Nat) (t : TabM) (x : Int) (h : TabAt w T O p t) (hx : W64 x) :
    Calls Try.prog 22 #[.pointer (some ⟨p, 0, none⟩), .int .i64 x] w fun e w' => e = .returned (.int .i64 (changedM t x)) ∧ w' = w := by
  obtain ⟨mb, wb, f, g, hP⟩ := h
  have hbk := hP.blk
  (have p0 := hbk.cell 0; have p1 := hbk.cell 1; have p2 := hbk.cell 2; have p3 := hbk.cell 3; have pf0 := hbk.frozen 0; have pf1 := hbk.frozen 1; have pf2 := hbk.frozen 2; have pf3 := hbk.frozen 3; simp only [List.getElem?_toArray, List.getElem?_cons_zero, List.getElem?_cons_succ] at p0 p1 p2 p3)
  have hlk := hP.when.look Try.underlying57 (zero_i64 _) hx
  rw [hP.at_ x hx] at hlk
  have e1 : ((t.wh x).map (Value.int .i64)).getD (.int .i64 0) = .int .i64 (changedM t x) := by
    unfold changedM
    cases t.wh x <;> rfl
  rw [e1] at hlk
  clear e1
  go_enter Try.func22, Try.ntmps22
  go_wp2
  go_ret
  exact ⟨rfl, rfl⟩
def kr1 : RecM := ⟨1, [⟨5, false, ⟨1, [], []⟩⟩]⟩
def kr2 : RecM := ⟨2, [⟨5, false, ⟨2, [], []⟩⟩]⟩
def kk1 : TabM := (applyM tab0 kr1).1
def kk2 : TabM := (applyM kk1 kr2).1
def kk3 : TabM := (forgetM kk2 2).1
theorem kt1 : (applyM tab0 kr1).2 = 0 := by rfl
theorem kt2 : (applyM kk1 kr2).2 = 0 := by rfl
theorem kt3 : (forgetM kk2 2).2 = 0 := by rfl
theorem kt4 : atM kk2 1 5 = (⟨1, [], []⟩, 0) := by rfl
theorem kt5 : atM kk2 2 5 = (⟨2, [], []⟩, 0) := by rfl
theorem kt6 : atM kk3 1 5 = (noObj, 13) := by rfl
theorem kt7 : changedM kk3 5 = 2 := by rfl
theorem tab0_ok0 : TabOk tab0 := by
  intro x
  exact ⟨List.Pairwise.nil, (fun v hv => by cases hv), Nat.le_refl _, (fun v hv => by cases hv)⟩
theorem kk2_ok : TabOk kk2 := applyM_ok (applyM_ok tab0_ok0)
theorem kk3_ok : TabOk kk3 := forgetM_ok kk2_ok
theorem kk_n : kk1.n = 1 ∧ kk2.n = 2 ∧ kk3.n = 2 := ⟨by rfl, by rfl, by rfl⟩
/-- A record of one change in memory. -/
theorem k_rec {w : World} {g : Nat} {com cl : Int} (h1 : Blk w g 62 #[.int .i64 5, .bool false, .int .i64 cl, .slice none 0 0, .slice none 0 0]) :
    RecC w (fun b => b = g) [.int .i64 com, .slice (some ⟨g, 0, none⟩) 1 1] ⟨com, [⟨5, false, ⟨cl, [], []⟩⟩]⟩ := by
  have r1 := h1.rd (size := 5) (n := 1) (by rfl) (by decide)
  exact ⟨some ⟨g, 0, none⟩, 1, rfl, ⟨_, r1, [.int .i64 5, .bool false, .int .i64 cl, .slice none 0 0, .slice none 0 0], [], rfl, ⟨none, 0, none, 0, rfl, Rd.nil_, Rd.nil_⟩, rfl⟩⟩
abbrev tObj : TypeId := 38
theorem ObjOwn.lit6 {w : World} {B : Nat} {cs : List Value} {o : ObjM} (h : ObjOwn w B cs o) : ∃ A c D d, cs = [.int .i64 o.cls, .slice A o.slots.length c, .slice D o.bytes.length d] := by
  obtain ⟨A, c, D, d, M, e, _⟩ := h; exact ⟨A, c, D, d, e⟩
set_option maxHeartbeats 4000000 in
set_option maxRecDepth 100000 in
theorem known11_calls (w : World) :
    Calls Try.prog 16 #[] w fun e w' => e = .returned (.bool true) ∧ Fr No w w' := by
  go_enter Try.func16, Try.ntmps16
  go_wp2_with fail
  refine (tnew_calls w).mono ?_
  rintro e w1 ⟨p, rfl, hT1, hf1⟩
  have hz1 := hf1.size
  have hTl1 := hT1.lt
  go_wp2_with fail
  have hfA : Fr No w1 (((w1.alloc (.cells #[.int .i64 1, .slice none 0 0, .slice none 0 0] tObj)).alloc (.cells #[.int .i64 2, .slice none 0 0, .slice none 0 0] tObj)).alloc (.cells #[.int .i64 5, .bool false, .int .i64 1, .slice none 0 0, .slice none 0 0] 62)) := (((Fr.refl No w1).alloc _).alloc _).alloc _
  have hcA : Blk (((w1.alloc (.cells #[.int .i64 1, .slice none 0 0, .slice none 0 0] tObj)).alloc (.cells #[.int .i64 2, .slice none 0 0, .slice none 0 0] tObj)).alloc (.cells #[.int .i64 5, .bool false, .int .i64 1, .slice none 0 0, .slice none 0 0] 62)) (w1.heap.size + 1 + 1) 62 #[.int .i64 5, .bool false, .int .i64 1, .slice none 0 0, .slice none 0 0] := Blk.newAt (by simp)
  have hbA : Blk (((w1.alloc (.cells #[.int .i64 1, .slice none 0 0, .slice none 0 0] tObj)).alloc (.cells #[.int .i64 2, .slice none 0 0, .slice none 0 0] tObj)).alloc (.cells #[.int .i64 5, .bool false, .int .i64 1, .slice none 0 0, .slice none 0 0] 62)) (w1.heap.size + 1) tObj #[.int .i64 2, .slice none 0 0, .slice none 0 0] := (Blk.newAt (by simp)).alloc _
  have hzA := hcA.lt
  generalize hwA : (((w1.alloc (.cells #[.int .i64 1, .slice none 0 0, .slice none 0 0] tObj)).alloc (.cells #[.int .i64 2, .slice none 0 0, .slice none 0 0] tObj)).alloc (.cells #[.int .i64 5, .bool false, .int .i64 1, .slice none 0 0, .slice none 0 0] 62)) = wA at *
  clear hwA
  have hTA := hT1.fr0 hfA
  have hFA := hf1.tr hfA
  generalize hTT : (fun b => w.heap.size ≤ b ∧ b < w1.heap.size) = T1 at *
  have hTd : ∀ b, T1 b → w.heap.size ≤ b ∧ b < w1.heap.size := fun b hb => by rw [← hTT] at hb; exact hb
  clear hTT
  refine (tapply_calls wA T1 No _ p tab0 [.int .i64 1, .slice (some ⟨w1.heap.size + 1 + 1, 0, none⟩) 1 1] kr1 hTA (k_rec hcA) (fun b hb hT => by have := hTd b hT; omega) (by decide)).mono ?_
  rintro e w2 ⟨rfl, T2, O2, hT2, hq2, ho2, hf2⟩
  rw [kt1]
  have hT2 : TabAt w2 T2 O2 p kk1 := hT2
  have hF2 : Fr No w w2 := hFA.trans hf2 (fun b hb hT => by have := hTd b hT; omega)
  have hzw := hFA.size
  have hbA2 := hbA.fr hf2 (fun hT => by have := hTd _ hT; omega)
  have hT2d : ∀ b, T2 b → w.heap.size ≤ b ∧ b ≠ w1.heap.size + 1 := fun b hb => by
    rcases hq2 b hb with h | h
    · have := hTd b h; omega
    · omega
  have hO2d : ∀ b, O2 b → w.heap.size ≤ b := fun b hb => by
    rcases ho2 b hb with h | h
    · exact h.elim
    · omega
  (have y0 := hbA2.cell 0; have y1 := hbA2.cell 1; have y2 := hbA2.cell 2; have yf0 := hbA2.frozen 0; have yf1 := hbA2.frozen 1; have yf2 := hbA2.frozen 2; simp only [List.getElem?_toArray, List.getElem?_cons_zero, List.getElem?_cons_succ] at y0 y1 y2)
  have hlA := hbA2.all
  have hT2l := hT2.lt
  go_wp2_with (first
    | (refine wpList_ldA ag_obj rfl _ rfl ⟨w1.heap.size + 1, 0, none⟩ [.int .i64 2, .slice none 0 0, .slice none 0 0] rfl rfl hlA ?_)
    | fail)
  have hfB : Fr No w2 (w2.alloc (.cells #[.int .i64 5, .bool false, .int .i64 2, .slice none 0 0, .slice none 0 0] 62)) := (Fr.refl No w2).alloc _
  have hcB := Blk.new w2 62 #[.int .i64 5, .bool false, .int .i64 2, .slice none 0 0, .slice none 0 0]
  refine (tapply_calls _ T2 O2 _ p kk1 [.int .i64 2, .slice (some ⟨w2.heap.size, 0, none⟩) 1 1] kr2 (hT2.fr0 hfB) (k_rec hcB) (fun b hb hT => by have := hT2l.1 b hT; omega) (by rw [kk_n.1]; decide)).mono ?_
  rintro e w3 ⟨rfl, T3, O3, hT3, hq3, ho3, hf3⟩
  rw [kt2]
  have hT3 : TabAt w3 T3 O3 p kk2 := hT3
  have hF3 : Fr No w w3 := (hF2.tr hfB).trans hf3 (fun b hb hT => by have := hT2d b hT; omega)
  have hzB := (hF2.tr hfB).size
  have hT3d : ∀ b, T3 b → w.heap.size ≤ b := fun b hb => by
    rcases hq3 b hb with h | h
    · exact (hT2d b h).1
    · omega
  have hn2 : kk2.n ≤ 1000000 := by rw [kk_n.2.1]; decide
  have hn3 : kk3.n ≤ 1000000 := by rw [kk_n.2.2]; decide
  go_wp2_with fail
  refine (tat_calls w3 T3 O3 p kk2 1 5 hT3 kk2_ok hn2 (by decide)).mono ?_
  rw [kt4]
  rintro e w4 ⟨cs4, rfl, hown4, hf4⟩
  obtain ⟨A4, c4, D4, d4, rfl⟩ := hown4.lit6
  have hb5 := Blk.new w4 tObj #[.int .i64 1, .slice A4 0 c4, .slice D4 0 d4]
  have hf45 : Fr No w4 (w4.alloc (.cells #[.int .i64 1, .slice A4 0 c4, .slice D4 0 d4] tObj)) := (Fr.refl No w4).alloc _
  have hT5 := hT3.fr0 (hf4.tr hf45)
  go_wp2_with fail
  refine (tat_calls _ T3 O3 p kk2 2 5 hT5 kk2_ok hn2 (by decide)).mono ?_
  rw [kt5]
  rintro e w6 ⟨cs6, rfl, hown6, hf6⟩
  obtain ⟨A6, c6, D6, d6, rfl⟩ := hown6.lit6
  have hb7 := Blk.new w6 tObj #[.int .i64 2, .slice A6 0 c6, .slice D6 0 d6]
  have hf67 : Fr No w6 (w6.alloc (.cells #[.int .i64 2, .slice A6 0 c6, .slice D6 0 d6] tObj)) := (Fr.refl No w6).alloc _
  have hT7 := hT5.fr0 (hf6.tr hf67)
  have hb57 := hb5.fr0 (hf6.tr hf67)
  have hF7 := ((hF3.tr hf4).tr hf45).tr (hf6.tr hf67)
  have hz3 := hf3.size
  have hz4 := hf4.size
  have hz67 := hf67.size
  have hz6 := hf6.size
  have hz45 := hf45.size
  have hT3l := hT3.lt
  go_wp2_with fail
  refine (tforget_calls _ T3 O3 p kk2 2 hT7 kk2_ok hn2).mono ?_
  rw [kt3]
  rintro e w8 ⟨rfl, T8, hT8, hq8, hf8⟩
  have hT8 : TabAt w8 T8 O3 p kk3 := hT8
  have hF8 : Fr No w w8 := hF7.trans hf8 (fun b hb hT => by have := hT3d b hT; omega)
  have k5 := hb57.fr hf8 (fun hT => by have := hT3l.1 _ hT; omega)
  have k7 := hb7.fr hf8 (fun hT => by have := hT3l.1 _ hT; omega)
  go_wp2_with fail
  refine (tat_calls w8 T8 O3 p kk3 1 5 hT8 kk3_ok hn3 (by decide)).mono ?_
  rw [kt6]
  rintro e w9 ⟨cs9, rfl, hown9, hf9⟩
  obtain ⟨A9, c9, D9, d9, rfl⟩ := hown9.lit6
  have hf9A : Fr No w9 (w9.alloc (.cells #[.int .i64 noObj.cls, .slice A9 noObj.slots.length c9, .slice D9 noObj.bytes.length d9] tObj)) := (Fr.refl No w9).alloc _
  have hTA' := hT8.fr0 (hf9.tr hf9A)
  have k5' := (k5.fr0 (hf9.tr hf9A)).cell 0
  have k7' := (k7.fr0 (hf9.tr hf9A)).cell 0
  simp only [List.getElem?_toArray, List.getElem?_cons_zero] at k5' k7'
  go_wp2_with fail
  refine (changed_calls _ T8 O3 p kk3 5 hTA' (by decide)).mono ?_
  rw [kt7]
  rintro e wB ⟨rfl, hwB⟩
  have hwB := hwB.symm
  subst hwB
  obtain ⟨mb, wb, hbk⟩ := hTA'.blk
  go_wp2_with fail
  refine (tlast_calls _ p _ _ _ _ hbk).mono ?_
  rw [show kk3.last = 2 from rfl]
  rintro e wC ⟨rfl, hwC⟩
  have hwC := hwC.symm
  subst hwC
  go_wp2
  go_ret
  exact ⟨rfl, (hF8.tr hf9).tr hf9A⟩
end Go.Proofs.Ytifcnjebepipnaa
