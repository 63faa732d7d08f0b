/- Tables in memory: versions of objects by their oops. table.New, Last, asked, behind, At. No condition but size. table.behind (a binary search), At. No condition but size. table.At. No condition but size. maps.DeleteFunc of a table's versions, by Forget's closure; slices.Clone of versions. No condition but size. One change that comes to a table, plainly and in memory. No condition. table.Apply. No condition but size. -/
import Derived.Test.YtifcnjebepipnaaJRTableAllp2
import Derived.Test.YtifcnjebepipnaaJRTableAllp1
import Derived.Deep.CutBlock
import Derived.Deep.DeepCutAuto
import Derived.Deep.DeepAppendWide
namespace Go.Proofs.Ytifcnjebepipnaa
set_option linter.unusedVariables false
set_option linter.unusedSimpArgs false
open Go.RowKit

/-- A table: a version is a change whose oop is the commit. n: how often something was stored. -/
structure TabM where
  first : Int
  last : Int
  vs : Int → List ChM
  wh : Int → Option Int
  n : Nat
def tab0 : TabM := ⟨0, 0, fun _ => [], fun _ => none, 0⟩
/-- What a table keeps to: versions rise. -/
def TabOk (t : TabM) : Prop := ∀ x, (t.vs x).Pairwise (fun a b => a.oop < b.oop) ∧ (∀ v ∈ t.vs x, v.oop ≤ t.last) ∧ (t.vs x).length ≤ t.n ∧ ∀ v ∈ t.vs x, v.obj.slots.length ≤ 256 ∧ v.obj.bytes.length ≤ 1024
abbrev tVer : TypeId := 66
abbrev tVers : TypeId := 63
theorem so_ver : SliceOf Try.prog tVers tVer (.agg #[.int .i64 0, .bool false, .int .i64 0, .slice none 0 0, .slice none 0 0]) 5 72 := ⟨Try.underlying63, by kernel_rfl, rfl, by decide, by decide, by decide⟩
theorem ag_ver : AggOf Try.prog tVer 5 := ⟨⟨_, Try.underlying66, rfl⟩, by kernel_rfl⟩
theorem plain_lver : ∀ w, (isAgg tVers).run Try.prog w = .ok false w := plain_of Try.underlying63 rfl
theorem plain_mver : ∀ w, (isAgg 56).run Try.prog w = .ok false w := plain_of Try.underlying56 rfl
theorem plain_mi64 : ∀ w, (isAgg 57).run Try.prog w = .ok false w := plain_of Try.underlying57 rfl
/-- One oop's entry: nothing, or a row of the table's own. -/
def RowAt (w : World) (T O : Nat → Prop) (o : Option Value) (l : List ChM) : Prop :=
  (o = none ∧ l = []) ∨ ∃ v xs, o = some v ∧ l ≠ [] ∧ w.ownsRow 0 tVer 5 v l.length xs ∧ ChsC w O xs l ∧ ∀ b, v.ownBlock = some b → T b
structure TabP (w : World) (T O : Nat → Prop) (p mb wb : Nat) (f g : Int → Option Value) (t : TabM) : Prop where
  blk : Blk w p 59 #[.int .i64 t.first, .int .i64 t.last, .map (some mb), .map (some wb)]
  vers : MapV w mb t.n f
  when : MapV w wb t.n g
  row : ∀ x, W64 x → RowAt w (fun b => T b ∧ b ≠ p ∧ b ≠ mb ∧ b ≠ wb) O (f x) (t.vs x)
  at_ : ∀ x, W64 x → g x = (t.wh x).map (.int .i64)
  apart : ∀ x y v u b, W64 x → W64 y → x ≠ y → f x = some v → f y = some u → v.ownBlock = some b → ¬ u.ownBlock = some b
  inT : T p ∧ T mb ∧ T wb ∧ p ≠ mb ∧ p ≠ wb ∧ mb ≠ wb
  off : ∀ b, T b → b < w.heap.size ∧ ¬ O b
  offO : ∀ b, O b → b < w.heap.size
  small : ∀ x, (t.vs x).length ≤ t.n
/-- A table at p: T its own blocks, O those that its objects lie in. -/
def TabAt (w : World) (T O : Nat → Prop) (p : Nat) (t : TabM) : Prop := ∃ mb wb f g, TabP w T O p mb wb f g t
theorem RowAt.fr {w w' : World} {S T O : Nat → Prop} {o : Option Value} {l : List ChM} (h : RowAt w T O o l) (hf : Fr S w w') (h1 : ∀ b, T b → ¬ S b) (h2 : ∀ b, O b → ¬ S b) : RowAt w' T O o l := by
  rcases h with h | ⟨v, xs, e, hl, hown, hc, hb⟩
  · exact .inl h
  · exact .inr ⟨v, xs, e, hl, own_fr hown hf (fun b hb' => h1 b (hb b hb')), hc.keep hf h2, hb⟩
theorem TabP.fr {w w' : World} {S T O : Nat → Prop} {p mb wb : Nat} {f g : Int → Option Value} {t : TabM} (h : TabP w T O p mb wb f g t) (hf : Fr S w w') (h1 : ∀ b, T b → ¬ S b) (h2 : ∀ b, O b → ¬ S b) : TabP w' T O p mb wb f g t where
  blk := h.blk.fr hf (h1 _ h.inT.1)
  vers := h.vers.fr hf (h1 _ h.inT.2.1)
  when := h.when.fr hf (h1 _ h.inT.2.2.1)
  row := fun x hx => (h.row x hx).fr hf (fun b hb => h1 b hb.1) h2
  at_ := h.at_
  apart := h.apart
  inT := h.inT
  off := fun b hb => ⟨Nat.lt_of_lt_of_le (h.off b hb).1 hf.size, (h.off b hb).2⟩
  offO := fun b hb => Nat.lt_of_lt_of_le (h.offO b hb) hf.size
  small := h.small
theorem TabAt.fr {w w' : World} {S T O : Nat → Prop} {p : Nat} {t : TabM} (h : TabAt w T O p t) (hf : Fr S w w') (h1 : ∀ b, T b → ¬ S b) (h2 : ∀ b, O b → ¬ S b) : TabAt w' T O p t := by
  obtain ⟨mb, wb, f, g, hP⟩ := h
  exact ⟨mb, wb, f, g, hP.fr hf h1 h2⟩
theorem TabAt.fr0 {w w' : World} {T O : Nat → Prop} {p : Nat} {t : TabM} (h : TabAt w T O p t) (hf : Fr No w w') : TabAt w' T O p t := h.fr hf (fun _ _ hn => hn) (fun _ _ hn => hn)
theorem TabAt.lt {w : World} {T O : Nat → Prop} {p : Nat} {t : TabM} (h : TabAt w T O p t) : (∀ b, T b → b < w.heap.size) ∧ (∀ b, O b → b < w.heap.size) ∧ T p := by
  obtain ⟨mb, wb, f, g, hP⟩ := h
  exact ⟨fun b hb => (hP.off b hb).1, hP.offO, hP.inT.1⟩

theorem tnew_calls (w : World) :
    Calls Try.prog 7 #[] w fun e w' => ∃ p, e = .returned (.pointer (some ⟨p, 0, none⟩)) ∧ TabAt w' (fun b => w.heap.size ≤ b ∧ b < w'.heap.size) No p tab0 ∧ Fr No w w' := by
  have hmm := @run_makeMap Try.prog
  have hf1 : Fr No w ((w.alloc (.map #[] 0)).alloc (.map #[] 0)) := ((Fr.refl No w).alloc _).alloc _
  have hm1 : MapV ((w.alloc (.map #[] 0)).alloc (.map #[] 0)) w.heap.size 0 (fun _ => none) := (MapV.made w).alloc _
  have hm2 : MapV ((w.alloc (.map #[] 0)).alloc (.map #[] 0)) (w.heap.size + 1) 0 (fun _ => none) := by have := MapV.made (w.alloc (.map #[] 0)); simpa using this
  go_enter Try.func7, Try.ntmps7
  go_wp2
  go_ret
  refine ⟨_, rfl, ⟨w.heap.size, w.heap.size + 1, fun _ => none, fun _ => none, ?_⟩, hf1.alloc _⟩
  exact { blk := Blk.newAt (by simp)
          vers := hm1.alloc _
          when := hm2.alloc _
          row := fun x _ => .inl ⟨rfl, rfl⟩
          at_ := fun x _ => rfl
          apart := fun x y v u b _ _ _ h => by cases h
          inT := by simp; omega
          off := fun b hb => ⟨hb.2, fun hn => hn⟩
          offO := fun b hb => hb.elim
          small := fun x => Nat.le_refl _ }
theorem tlast_calls (w : World) (p : Nat) (first last : Int) (m1 m2 : Value) (h : Blk w p 59 #[.int .i64 first, .int .i64 last, m1, m2]) :
    Calls Try.prog 10 #[.pointer (some ⟨p, 0, none⟩)] w fun e w' => e = .returned (.int .i64 last) ∧ w' = w := by
  (have p0 := h.cell 0; have p1 := h.cell 1; have p2 := h.cell 2; have p3 := h.cell 3; have pf0 := h.frozen 0; have pf1 := h.frozen 1; have pf2 := h.frozen 2; have pf3 := h.frozen 3; simp only [List.getElem?_toArray, List.getElem?_cons_zero, List.getElem?_cons_succ] at p0 p1 p2 p3)
  go_enter Try.func10, Try.ntmps10
  go_wp2
  go_ret
  exact ⟨rfl, rfl⟩
theorem asked_calls (w : World) (p : Nat) (first last c : Int) (m1 m2 : Value) (h : Blk w p 59 #[.int .i64 first, .int .i64 last, m1, m2]) :
    Calls Try.prog 27 #[.pointer (some ⟨p, 0, none⟩), .int .i64 c] w fun e w' => e = .returned (.bool (decide (first ≤ c) && decide (c ≤ last))) ∧ w' = w := by
  (have p0 := h.cell 0; have p1 := h.cell 1; have p2 := h.cell 2; have p3 := h.cell 3; have pf0 := h.frozen 0; have pf1 := h.frozen 1; have pf2 := h.frozen 2; have pf3 := h.frozen 3; simp only [List.getElem?_toArray, List.getElem?_cons_zero, List.getElem?_cons_succ] at p0 p1 p2 p3)
  by_cases h1 : first ≤ c
  · have e1 : decide (first ≤ c) = true := by simpa using h1
    have H : Hid ((decide (first ≤ c) && decide (c ≤ last)) = decide (c ≤ last)) := Lib.hid (by rw [e1, Bool.true_and])
    clear h1
    go_enter Try.func27, Try.ntmps27
    go_wp2
    go_ret
    exact ⟨ret_bool H.out.symm, rfl⟩
  · have e1 : decide (first ≤ c) = false := by simpa using h1
    have H : Hid ((decide (first ≤ c) && decide (c ≤ last)) = false) := Lib.hid (by rw [e1, Bool.false_and])
    clear h1
    go_enter Try.func27, Try.ntmps27
    go_wp2
    go_ret
    exact ⟨ret_bool H.out.symm, rfl⟩
end Go.Proofs.Ytifcnjebepipnaa
namespace Go.Proofs.Ytifcnjebepipnaa
set_option linter.unusedVariables false
set_option linter.unusedSimpArgs false
open Go.RowKit

/-- How many versions are up to a commit. -/
def behM (l : List ChM) (t : Int) : Nat := l.countP (fun v => decide (v.oop ≤ t))
abbrev closB : Value := .func (.func 42) #[] #[]
theorem beh_eq {l : List ChM} {t : Int} {i : Nat} (hi : i ≤ l.length) (h1 : ∀ k, ∀ h : k < l.length, k < i → l[k].oop ≤ t) (h2 : ∀ k, ∀ h : k < l.length, i ≤ k → t < l[k].oop) : behM l t = i := by
  unfold behM
  have e : l = l.take i ++ l.drop i := (List.take_append_drop i l).symm
  have a1 : (l.take i).countP (fun v => decide (v.oop ≤ t)) = (l.take i).length := by
    rw [List.countP_eq_length]
    intro v hv
    obtain ⟨k, hk, rfl⟩ := List.mem_iff_getElem.1 hv
    have hk' : k < i ∧ k < l.length := by have : k < min i l.length := by simpa using hk
                                          omega
    rw [List.getElem_take]
    exact decide_eq_true (h1 k hk'.2 hk'.1)
  have a2 : (l.drop i).countP (fun v => decide (v.oop ≤ t)) = 0 := by
    rw [List.countP_eq_zero]
    intro v hv
    obtain ⟨k, hk, rfl⟩ := List.mem_iff_getElem.1 hv
    have hk' : k < l.length - i := by simpa using hk
    rw [List.getElem_drop]
    have := h2 (i + k) (by omega) (by omega)
    simpa using this
  rw [e, List.countP_append, a1, a2, List.length_take]
  omega
theorem rise_le {l : List ChM} (hs : l.Pairwise (fun a b => a.oop < b.oop)) {i j : Nat} (hj : j < l.length) (h : i ≤ j) : l[i].oop ≤ l[j].oop := by
  rcases Nat.lt_or_ge i j with h1 | h1
  · exact Int.le_of_lt (List.pairwise_iff_getElem.1 hs i j (by omega) hj h1)
  · obtain rfl : i = j := by omega
    exact Int.le_refl _
def cmpZ (com t : Int) : Int := if com ≤ t then -1 else 1
theorem ret_i64 {a b : Int} (h : a = b) : Ending.returned (.int .i64 a) = .returned (.int .i64 b) := by rw [h]
theorem cmp_calls (com : Int) (r1 r2 r3 r4 : Value) (t : Int) (w : World) :
    Calls Try.prog 42 #[.agg #[.int .i64 com, r1, r2, r3, r4], .int .i64 t] w fun e w' => e = .returned (.int .i64 (cmpZ com t)) ∧ Fr No w w' := by
  have hf : Fr No w (w.alloc (.cells #[.int .i64 com, r1, r2, r3, r4] tVer)) := (Fr.refl No w).alloc _
  by_cases h : com ≤ t
  · have H : Hid (cmpZ com t = -1) := Lib.hid (if_pos h)
    have e1 : decide (com ≤ t) = true := by simpa using h
    clear h
    go_enter Try.func42, Try.ntmps42
    go_wp2
    go_ret
    exact ⟨ret_i64 H.out.symm, hf⟩
  · have H : Hid (cmpZ com t = 1) := Lib.hid (if_neg h)
    have e1 : decide (com ≤ t) = false := by simpa using h
    clear h
    go_enter Try.func42, Try.ntmps42
    go_wp2
    go_ret
    exact ⟨ret_i64 H.out.symm, hf⟩
theorem cmpZ_le {com t : Int} (h : com ≤ t) : cmpZ com t = -1 := if_pos h
theorem cmpZ_gt {com t : Int} (h : ¬ com ≤ t) : cmpZ com t = 1 := if_neg h
set_option maxHeartbeats 2000000 in
set_option maxRecDepth 100000 in
theorem bsearch_calls (S : Nat → Prop) (A : Option Addr) (c : Nat) (l : List ChM) (t : Int) (w : World) (h : RdCh w S A l) (hs : l.Pairwise (fun a b => a.oop < b.oop)) (hl : l.length ≤ 100000000) :
    Calls Try.prog 41 #[.slice A l.length c, .int .i64 t, closB] w fun e w' => ∃ b, e = .returned (.tuple #[.int .i64 (behM l t : Nat), .bool b]) ∧ Fr No w w' := by
  have HS := Lib.hid hs
  clear hs
  go_enter Try.func41, Try.ntmps41
  go_wp2_with fail
  go_loopw [9, 10] (fun u v wr => ∃ i j : Nat, i ≤ j ∧ j ≤ l.length ∧ u = .int .i64 (i : Int) ∧ v = .int .i64 (j : Int) ∧ Hid (∀ k, ∀ h : k < l.length, k < i → l[k].oop ≤ t) ∧ Hid (∀ k, ∀ h : k < l.length, j ≤ k → t < l[k].oop) ∧ Fr No w wr) (fun u v _ => (intOf v).toNat - (intOf u).toNat)
  case atStart => exact ⟨0, l.length, by omega, by omega, rfl, rfl, Lib.hid (fun k _ h => by omega), Lib.hid (fun k _ h => by omega), Fr.refl _ _⟩
  case round =>
    obtain ⟨i, j, hij, hj, rfl, rfl, H1, H2, hf⟩ := hrel
    by_cases hlt : i < j
    · have ek : decide ((i : Int) < j) = true := by simpa using (by omega : (i : Int) < j)
      have hml : (i + j) / 2 < l.length := by omega
      obtain ⟨ga, of, Av, nn, D, mm, rfl, _, hcell, _, _⟩ := (h.fr0 hf).at_ hml
      have HL := Lib.hid (show l[(i + j) / 2].oop ≤ t → ∀ k, ∀ h : k < l.length, k < (i + j) / 2 + 1 → l[k].oop ≤ t from fun h1 k hk hkm => Int.le_trans (rise_le HS.out hml (by omega)) h1)
      have HG := Lib.hid (show t < l[(i + j) / 2].oop → ∀ k, ∀ h : k < l.length, (i + j) / 2 ≤ k → t < l[k].oop from fun h1 k hk hkm => Int.lt_of_lt_of_le h1 (rise_le HS.out hk hkm))
      generalize l[(i + j) / 2] = x at *
      have hcell' := addr5 _ _ _ hcell
      have hm0 : (i + j) / 2 < j := by omega
      have hm1 : i ≤ (i + j) / 2 := by omega
      go_wp2_with (first
        | (refine wpList_ldA ag_ver rfl _ rfl ⟨ga, of + (i + j) / 2 * 5, none⟩ _ rfl rfl hcell' ?_)
        | fail)
      refine (cmp_calls x.oop _ _ _ _ t _).mono ?_
      rintro e w2 ⟨rfl, hf2⟩
      by_cases hx : x.oop ≤ t
      · have HC := cmpZ_le hx
        rw [HC]
        have H1' := Lib.hid (HL.out hx)
        clear HC hx
        go_wp2
        go_roundw
        case rel => exact ⟨(i + j) / 2 + 1, j, by omega, hj, by go_num, rfl, H1', H2, hf.tr hf2⟩
        case measure => simp [intOf]; omega
      · have HC := cmpZ_gt hx
        rw [HC]
        have H2' := Lib.hid (HG.out (Int.not_le.1 hx))
        clear HC hx
        go_wp2
        go_roundw
        case rel => exact ⟨i, (i + j) / 2, by omega, by omega, rfl, by go_num, H1, H2', hf.tr hf2⟩
        case measure => simp [intOf]; omega
    · obtain rfl : i = j := by omega
      have ek : decide ((i : Int) < i) = false := by simp
      have HB := Lib.hid (beh_eq hj H1.out H2.out)
      by_cases hl2 : i < l.length
      · have ek2 : decide ((i : Int) < l.length) = true := by simpa using (by omega : (i : Int) < l.length)
        obtain ⟨ga, of, Av, nn, D, mm, rfl, _, hcell, _, _⟩ := (h.fr0 hf).at_ hl2
        have hcell' := addr5 _ _ _ hcell
        generalize l[i] = x at *
        go_wp2_with (first
          | (refine wpList_ldA ag_ver rfl _ rfl ⟨ga, of + i * 5, none⟩ _ rfl rfl hcell' ?_)
          | fail)
        refine (cmp_calls x.oop _ _ _ _ t _).mono ?_
        rintro e w2 ⟨rfl, hf2⟩
        go_wp2
        go_ret2
        exact ⟨_, by rw [HB.out]; rfl, hf.tr hf2⟩
      · have ek2 : decide ((i : Int) < l.length) = false := by simpa using (by omega : ¬ (i : Int) < l.length)
        go_wp2
        go_ret2
        exact ⟨_, by rw [HB.out]; rfl, hf⟩
theorem behind_calls (S : Nat → Prop) (A : Option Addr) (c : Nat) (l : List ChM) (t : Int) (w : World) (h : RdCh w S A l) (hs : l.Pairwise (fun a b => a.oop < b.oop)) (hl : l.length ≤ 100000000) :
    Calls Try.prog 28 #[.slice A l.length c, .int .i64 t] w fun e w' => e = .returned (.int .i64 (behM l t : Nat)) ∧ Fr No w w' := by
  have HS := Lib.hid hs
  clear hs
  go_enter Try.func28, Try.ntmps28
  go_wp2_with fail
  refine (bsearch_calls S A c l t _ h HS.out hl).mono ?_
  rintro e w2 ⟨b, rfl, hf2⟩
  go_wp2
  go_ret
  exact ⟨rfl, hf2⟩
end Go.Proofs.Ytifcnjebepipnaa
namespace Go.Proofs.Ytifcnjebepipnaa
set_option linter.unusedVariables false
set_option linter.unusedSimpArgs false
open Go.RowKit

theorem zero_vers (w : World) : (zeroValue tVers).run Try.prog w = .ok (.slice none 0 0) w := by kernel_rfl
/-- The version that is asked for; its index is k - 1. -/
def verM (t : TabM) (c x : Int) : Option ChM := if behM (t.vs x) c = 0 then none else (t.vs x)[behM (t.vs x) c - 1]?
def atM (t : TabM) (c x : Int) : ObjM × Int :=
  if (decide (t.first ≤ c) && decide (c ≤ t.last)) = true then
    match verM t c x with
    | some v => if v.gone = true then (noObj, 25) else (v.obj, 0)
    | none => (noObj, 25)
  else (noObj, 13)
theorem atM_no {t : TabM} {c x : Int} (h : (decide (t.first ≤ c) && decide (c ≤ t.last)) = false) : atM t c x = (noObj, 13) := by unfold atM; rw [if_neg (by rw [h]; decide)]
theorem atM_none {t : TabM} {c x : Int} (h : (decide (t.first ≤ c) && decide (c ≤ t.last)) = true) (h0 : behM (t.vs x) c = 0) : atM t c x = (noObj, 25) := by unfold atM verM; rw [if_pos h, if_pos h0]
theorem behM_le (l : List ChM) (t : Int) : behM l t ≤ l.length := List.countP_le_length
theorem atM_some {t : TabM} {c x : Int} (h : (decide (t.first ≤ c) && decide (c ≤ t.last)) = true) {j : Nat} (h0 : behM (t.vs x) c = j + 1) (hj : j < (t.vs x).length) : atM t c x = if (t.vs x)[j].gone = true then (noObj, 25) else ((t.vs x)[j].obj, 0) := by
  unfold atM verM
  rw [if_pos h, if_neg (by omega), h0, show j + 1 - 1 = j by omega, List.getElem?_eq_getElem hj]
theorem ObjOwn.none_ (w : World) (B : Nat) (hB : B ≤ w.heap.size) : ObjOwn w B [.int .i64 0, .slice none 0 0, .slice none 0 0] noObj :=
  ⟨none, 0, none, 0, B, rfl, World.ownsRow_nil _ _ _ _, by simp [Value.ownBlock], World.ownsRow_nil _ _ _ _, Nat.le_refl _⟩
theorem ObjOwn.lit3 {w : World} {B : Nat} {cs : List Value} {o : ObjM} (h : ObjOwn w B cs o) : ∃ A c D d, cs = [.int .i64 o.cls, .slice A o.slots.length c, .slice D o.bytes.length d] := by
  obtain ⟨A, c, D, d, M, e, _⟩ := h; exact ⟨A, c, D, d, e⟩
theorem ObjOwn.fr {w w' : World} {S : Nat → Prop} {B : Nat} {cs : List Value} {o : ObjM} (h : ObjOwn w B cs o) (hf : Fr S w w') (hS : ∀ b, B ≤ b → ¬ S b) : ObjOwn w' B cs o := by
  obtain ⟨A, c, D, d, M, e, r1, r2, r3, r4⟩ := h
  exact ⟨A, c, D, d, M, e, own_fr r1 hf (fun b hb => hS b (r1.lt b hb).1), r2, own_fr r3 hf (fun b hb => hS b (by have := (r3.lt b hb).1; omega)), r4⟩
theorem ObjOwn.down {w : World} {B B' : Nat} {cs : List Value} {o : ObjM} (h : ObjOwn w B cs o) (hB : B' ≤ B) : ObjOwn w B' cs o := by
  obtain ⟨A, c, D, d, M, e, r1, r2, r3, r4⟩ := h
  exact ⟨A, c, D, d, M, e, own_down r1 hB, r2, r3, by omega⟩
def RetO (w w' : World) (e : Ending) (r : ObjM × Int) : Prop :=
  ∃ cs : List Value, e = .returned (.tuple #[.agg cs.toArray, .int .i64 r.2]) ∧ ObjOwn w' w.heap.size cs r.1 ∧ Fr No w w'
theorem RowAt.slice {w : World} {T O : Nat → Prop} {v : Value} {l : List ChM} (h : RowAt w T O (some v) l) (hl : l.length ≤ 100000000) : ∃ A c, v = .slice A l.length c ∧ RdCh w (fun b => T b ∨ O b) A l := by
  rcases h with ⟨h1, _⟩ | ⟨v', xs, e, _, hown, hc, hb⟩
  · cases h1
  · injection e with e
    subst e
    obtain ⟨A, c, rfl, _, _, hA⟩ := own_form hown
    exact ⟨A, c, rfl, xs, (own_rd hown (by omega)).mono (fun b _ hb' => .inl (hb b ((hA b).2 hb'))) (by decide), hc.mono (fun b _ hb' => .inr hb')⟩
theorem RowAt.nil_ {w : World} {T O : Nat → Prop} {l : List ChM} (h : RowAt w T O none l) : l = [] := by
  rcases h with ⟨_, h1⟩ | ⟨v', xs, e, _⟩
  · exact h1
  · cases e
set_option maxHeartbeats 4000000 in
set_option maxRecDepth 100000 in
theorem tat_calls (w : World) (T O : Nat → Prop) (p : Nat) (t : TabM) (c x : Int) (h : TabAt w T O p t) (ok : TabOk t) (hn : t.n ≤ 1000000) (hx : W64 x) :
    Calls Try.prog 12 #[.pointer (some ⟨p, 0, none⟩), .int .i64 c, .int .i64 x] w fun e w' => RetO w w' e (atM t c x) := by
  obtain ⟨mb, wb, f, g, hP⟩ := h
  obtain ⟨first, last, vs, wh, n⟩ := t
  have hf1 : Fr No w (w.alloc (.cells #[.int .i64 0, .slice none 0 0, .slice none 0 0] 38)) := (Fr.refl No w).alloc _
  have hb0 : Blk (w.alloc (.cells #[.int .i64 0, .slice none 0 0, .slice none 0 0] 38)) w.heap.size 38 #[.int .i64 0, .slice none 0 0, .slice none 0 0] := Blk.new w _ _
  have hP1 := hP.fr hf1 (fun _ _ hn => hn) (fun _ _ hn => hn)
  have hbk := hP1.blk
  have hz1 : w.heap.size ≤ (w.alloc (.cells #[.int .i64 0, .slice none 0 0, .slice none 0 0] 38)).heap.size := hf1.size
  simp only at hbk hn
  have hlk := hP1.vers.look Try.underlying56 (zero_vers _) hx
  obtain ⟨hsort, _, hlen, hobj⟩ := ok x
  simp only at hsort hlen hobj
  have hrow := hP1.row x hx
  simp only at hrow
  generalize hvl : vs x = l at *
  (have p0 := hbk.cell 0; have p1 := hbk.cell 1; have p2 := hbk.cell 2; have p3 := hbk.cell 3; have pf0 := hbk.frozen 0; have pf1 := hbk.frozen 1; have pf2 := hbk.frozen 2; have pf3 := hbk.frozen 3; simp only [List.getElem?_toArray, List.getElem?_cons_zero, List.getElem?_cons_succ] at p0 p1 p2 p3)
  cases ha : (decide (first ≤ c) && decide (c ≤ last)) with
  | false =>
    have HM := Lib.hid (atM_no (t := ⟨first, last, vs, wh, n⟩) (c := c) (x := x) ha)
    have hask := asked_calls _ p first last c _ _ hbk
    rw [ha] at hask
    clear ha hlk hP hP1
    go_enter Try.func12, Try.ntmps12
    go_wp2_with fail
    refine hask.mono ?_
    rintro e _ ⟨rfl, rfl⟩
    go_wp2_with (first
      | (refine wpList_stA ag_obj.info rfl _ _ rfl w.heap.size 0 _ _ [.int .i64 0, .slice none 0 0, .slice none 0 0] _ rfl rfl rfl rfl (by intro u hu; simp at hu; rcases hu with rfl | rfl | rfl <;> rfl) hb0 (by decide) ?_; intro w5 hb5 hg5 hz5)
      | fail)
    rw [splice_all _ _ (by rfl)] at hb5
    refine bodyPost_ret (results_blk2 ag_obj rfl _ _ _ _ _ _ rfl rfl hb5 rfl) rfl ?_
    rw [HM.out]
    have hf5 := hf1.grown hg5 (fun q hq => by injection hq with hq; exact .inl (by omega))
    exact ⟨_, rfl, ObjOwn.none_ _ _ hf5.size, hf5⟩
  | true =>
    have hask := asked_calls _ p first last c _ _ hbk
    rw [ha] at hask
    have H0 : Hid (behM l c = 0 → atM ⟨first, last, vs, wh, n⟩ c x = (noObj, 25)) := Lib.hid (fun h0 => atM_none (t := ⟨first, last, vs, wh, n⟩) ha (by show behM (vs x) c = 0; rw [hvl]; exact h0))
    have H1 : Hid (∀ j, behM l c = j + 1 → ∀ hj : j < l.length, atM ⟨first, last, vs, wh, n⟩ c x = if l[j].gone = true then (noObj, 25) else (l[j].obj, 0)) := Lib.hid (fun j h0 hj => by
      subst hvl
      exact atM_some (t := ⟨first, last, vs, wh, n⟩) ha h0 hj)
    generalize hM : atM ⟨first, last, vs, wh, n⟩ c x = M at *
    have HO := Lib.hid hobj
    clear ha hM hP hvl hobj
    -- what the map holds
    obtain ⟨A, cap, hlk', hrd⟩ : ∃ A cap, (Instr.lookup 56 (.map (some mb)) (.int .i64 x) false).run Try.prog (w.alloc (.cells #[.int .i64 0, .slice none 0 0, .slice none 0 0] 38)) = .ok (.slice A l.length cap) (w.alloc (.cells #[.int .i64 0, .slice none 0 0, .slice none 0 0] 38)) ∧ RdCh (w.alloc (.cells #[.int .i64 0, .slice none 0 0, .slice none 0 0] 38)) (fun _ => True) A l := by
      cases hfx : f x with
      | none =>
        rw [hfx] at hlk hrow
        have := hrow.nil_
        subst this
        exact ⟨none, 0, hlk, RdCh.nil_⟩
      | some v =>
        rw [hfx] at hlk hrow
        obtain ⟨A, cap, rfl, hr⟩ := hrow.slice (by omega)
        exact ⟨A, cap, hlk, hr.mono (fun _ _ _ => trivial)⟩
    have hle : l.length ≤ 100000000 := by omega
    have HS := Lib.hid hsort
    clear hlk hrow hsort hlen hP1
    generalize hw1 : w.alloc (.cells #[.int .i64 0, .slice none 0 0, .slice none 0 0] 38) = w1 at *
    go_enter Try.func12, Try.ntmps12
    go_wp2_with fail
    clear hw1
    refine hask.mono ?_
    rintro e _ ⟨rfl, rfl⟩
    go_wp2_with fail
    refine (behind_calls _ A cap l c _ hrd HS.out hle).mono ?_
    rintro e w2 ⟨rfl, hf2⟩
    have hF2 := hf1.tr hf2
    have hz0 : w.heap.size < w2.heap.size := by have := hb0.lt; have := hf2.size; omega
    have hb2 := hb0.fr0 hf2
    have hrd2 := hrd.fr0 hf2
    have hzB : w.heap.size ≤ w2.heap.size := hF2.size
    have hkl := behM_le l c
    cases hk : behM l c with
    | zero =>
      have HM := Lib.hid (H0.out hk)
      clear hk H0 H1
      simp only [Int.natCast_zero]
      go_wp2_with (first
        | (refine wpList_stA ag_obj.info rfl _ _ rfl w.heap.size 0 _ _ [.int .i64 0, .slice none 0 0, .slice none 0 0] _ rfl rfl rfl rfl (by intro u hu; simp at hu; rcases hu with rfl | rfl | rfl <;> rfl) hb2 (by decide) ?_; intro w5 hb5 hg5 hz5)
        | fail)
      rw [splice_all _ _ (by rfl)] at hb5
      refine bodyPost_ret (results_blk2 ag_obj rfl _ _ _ _ _ _ rfl rfl hb5 rfl) rfl ?_
      rw [HM.out]
      have hf5 := hF2.grown hg5 (fun q hq => by injection hq with hq; exact .inl (by omega))
      exact ⟨_, rfl, ObjOwn.none_ _ _ hf5.size, hf5⟩
    | succ j =>
      have hjl : j < l.length := by omega
      have HM := H1.out j hk hjl
      have hov := HO.out _ (List.getElem_mem hjl)
      obtain ⟨ga, of, Av, nn, D, mm, rfl, _, hcell, hsl, hby⟩ := hrd2.at_ hjl
      have ekj : ((j + 1 : Nat) : Int) = (j : Int) + 1 := by omega
      have ek0 : ((j : Int) + 1 == 0) = false := by simp; omega
      have ek1 : (j : Int) + 1 - 1 = j := by omega
      rw [ekj]
      clear hk H0 H1 ekj
      generalize l[j] = v at *
      have hcell' := addr5 _ _ _ hcell
      have ekl : decide ((j : Int) < l.length) = true := by simpa using (by omega : (j : Int) < l.length)
      have hc1 := hcell 1 _ rfl
      cases hg : v.gone with
      | true =>
        rw [hg] at hc1
        rw [if_pos hg] at HM
        have HM' := Lib.hid HM
        clear HM
        go_wp2_with (first
          | (refine wpList_stA ag_obj.info rfl _ _ rfl w.heap.size 0 _ _ [.int .i64 0, .slice none 0 0, .slice none 0 0] _ rfl rfl rfl rfl (by intro u hu; simp at hu; rcases hu with rfl | rfl | rfl <;> rfl) hb2 (by decide) ?_; intro w5 hb5 hg5 hz5)
          | fail)
        rw [splice_all _ _ (by rfl)] at hb5
        refine bodyPost_ret (results_blk2 ag_obj rfl _ _ _ _ _ _ rfl rfl hb5 rfl) rfl ?_
        rw [HM'.out]
        have hf5 := hF2.grown hg5 (fun q hq => by injection hq with hq; exact .inl (by omega))
        exact ⟨_, rfl, ObjOwn.none_ _ _ hf5.size, hf5⟩
      | false =>
        rw [hg] at hc1
        rw [if_neg (by rw [hg]; decide)] at HM
        have HM' := Lib.hid HM
        clear HM
        have hobc : ∀ j_1 u, [Value.int .i64 v.obj.cls, .slice Av v.obj.slots.length nn, .slice D v.obj.bytes.length mm][j_1]? = some u → w2.cell? ((⟨ga, of + j * 5 + 2, none⟩ : Addr).add j_1) = some u := addr5 _ _ _ (fun j_1 u hu => by
          have := hcell (j_1 + 2) u (by simpa using hu)
          rwa [show of + j * 5 + (j_1 + 2) = of + j * 5 + 2 + j_1 by omega] at this)
        go_wp2_with (first
          | (refine wpList_ldA ag_obj rfl _ rfl ⟨ga, of + j * 5 + 2, none⟩ _ rfl rfl hobc ?_)
          | fail)
        refine (ocopy_calls (fun _ => True) _ v.obj _ ⟨Av, nn, D, mm, rfl, hsl, hby⟩ (by have := hov.1; omega)).mono ?_
        rintro e w3 ⟨cs', rfl, hown, hf3⟩
        obtain ⟨A3, c3, D3, d3, M3, rfl, r1, r2, r3, r4⟩ := hown
        have hb3 := hb2.fr0 hf3
        go_wp2_with (first
          | (refine wpList_stA ag_obj.info rfl _ _ rfl w.heap.size 0 _ _ [.int .i64 v.obj.cls, .slice A3 v.obj.slots.length c3, .slice D3 v.obj.bytes.length d3] _ rfl rfl rfl rfl (by intro u hu; simp at hu; rcases hu with rfl | rfl | rfl <;> rfl) hb3 (by decide) ?_; intro w5 hb5 hg5 hz5)
          | fail)
        rw [splice_all _ _ (by rfl)] at hb5
        refine bodyPost_ret (results_blk2 ag_obj rfl _ _ _ _ _ _ rfl rfl hb5 rfl) rfl ?_
        rw [HM'.out]
        have hf5 := (hF2.tr hf3).grown hg5 (fun q hq => by injection hq with hq; exact .inl (by omega))
        have hf35 : Fr (fun b => b = w.heap.size) w3 w5 := (Fr.refl _ w3).grown hg5 (fun q hq => by injection hq with hq; exact .inr hq.symm)
        refine ⟨_, rfl, ⟨A3, c3, D3, d3, M3, rfl, own_down (own_fr r1 hf35 (fun b hb hT => by have := (r1.lt b hb).1; omega)) hzB, r2, own_fr r3 hf35 (fun b hb hT => by have := (r3.lt b hb).1; omega), by omega⟩, hf5⟩
end Go.Proofs.Ytifcnjebepipnaa
namespace Go.Proofs.Ytifcnjebepipnaa
set_option linter.unusedVariables false
set_option linter.unusedSimpArgs false
open Go.RowKit Go.Maps

theorem MapV.congr {w : World} {b n : Nat} {f g : Int → Option Value} (h : MapV w b n f) (hfg : ∀ x, W64 x → g x = f x) : MapV w b n g := by
  obtain ⟨D, ho, hf⟩ := h
  exact ⟨D, ho, fun x hx => by rw [hfg x hx]; exact hf x hx⟩
def emptyV (v : Value) : Bool := match v with | .slice _ n _ => decide (n = 0) | _ => false
def sweepV (f : Int → Option Value) : Int → Option Value := fun x => (f x).filter (fun v => !emptyV v)
abbrev closF : Value := .func (.func 34) #[] #[]
theorem forget1_calls (x : Int) (A : Option Addr) (n c : Nat) (w : World) :
    Calls Try.prog 34 #[.int .i64 x, .slice A n c] w fun e w' => e = .returned (.bool (decide (n = 0))) ∧ w' = w := by
  have e1 : decide (n = 0) = ((n : Int) == 0) := by
    by_cases h : n = 0
    · subst h; rfl
    · simp [h]
  rw [e1]
  go_enter Try.func34, Try.ntmps34
  go_wp2
  go_ret
  exact ⟨rfl, rfl⟩
set_option maxHeartbeats 1000000 in
set_option maxRecDepth 100000 in
theorem sweep_calls (w : World) (b n : Nat) (f : Int → Option Value) (h : MapV w b n f) (hsl : ∀ x, W64 x → ∀ v, f x = some v → ∃ A m c, v = .slice A m c) :
    Calls Try.prog 33 #[.map (some b), closF] w fun e w' => e = .returned (.tuple #[]) ∧ MapV w' b n (sweepV f) ∧ Fr (fun q => q = b) w w' := by
  have hlt := h.lt
  have HSL := Lib.hid hsl
  clear hsl
  go_enter Try.func33, Try.ntmps33
  go_wp2_with (first
    | (refine wpList_rangeV rfl _ _ _ rfl Try.underlying56 b n f rfl h ?_; intro w0 cnt0 hR0 hf0)
    | fail)
  have hz0 := hf0.size
  have hr0 := hR0.lt
  go_frame
  go_loopw [4] (fun s wr => ∃ (fc : Int → Option Value) (left : Int → Bool) (cnt : Nat), RangeV wr b w.heap.size n fc left cnt ∧ Hid (∀ x, W64 x → fc x = if left x = true then f x else sweepV f x) ∧ Fr (fun q => q = b) w wr) (fun _ wr => wr.rangeLeft b w.heap.size)
  case atStart => exact ⟨f, _, cnt0, hR0, Lib.hid (fun x hx => by
    split
    · rfl
    · rename_i hh
      unfold sweepV
      cases hfx : f x with
      | none => rfl
      | some v => rw [hfx] at hh; simp at hh), hf0.mono (fun _ _ hn => hn.elim)⟩
  case round =>
    obtain ⟨fc, left, cnt, hR, HF, hf⟩ := hrel
    go_wp2_with (first
      | (refine wpList_nextV rfl _ rfl b w.heap.size n fc left cnt rfl hR ?_ ?_)
      | fail)
    · intro hdone
      have hM : MapV wr b n (sweepV f) := hR.map.congr (fun x hx => by rw [HF.out x hx, hdone x hx]; rfl)
      clear hR
      have HD := Lib.hid hdone
      clear hdone
      go_wp2
      go_end0
      exact ⟨rfl, hM, hf⟩
    · intro x v w1 cnt1 hx hlx hfx hR1 hlt1 hf1 hz1 hen
      have hfx' : f x = some v := by rw [← hfx, HF.out x hx, if_pos hlx]
      obtain ⟨A, m, c, rfl⟩ := HSL.out x hx v hfx'
      have hF1 : Fr (fun q => q = b) w w1 := hf.trans hf1 (fun q hq hT => by omega)
      have hcnt := hR.left_eq
      clear hR
      go_wp2_with fail
      refine (forget1_calls x A m c w1).mono ?_
      rintro e w2 ⟨rfl, hw2⟩
      have hw2 := hw2.symm
      subst hw2
      by_cases hm : m = 0
      · subst hm
        go_wp2_with (first
          | (refine wpList_deleteV rfl _ _ _ _ rfl Try.underlying56 b w.heap.size n fc _ cnt1 rfl hR1 rfl hx (by simp) ?_; intro w3 cnt3 hR3 hlt3 hf3)
          | fail)
        have hnew : ∃ (fc : Int → Option Value) (left : Int → Bool) (cnt : Nat), RangeV w3 b w.heap.size n fc left cnt ∧ Hid (∀ x, W64 x → fc x = if left x = true then f x else sweepV f x) ∧ Fr (fun q => q = b) w w3 := by
          refine ⟨_, _, cnt3, hR3, Lib.hid (fun y hy => ?_), hF1.trans hf3 (fun q _ hq => hq)⟩
          unfold fdel
          by_cases hyx : y = x
          · subst hyx
            rw [if_pos rfl]
            simp [sweepV, hfx', Option.filter, emptyV]
          · rw [if_neg hyx, HF.out y hy]
            simp [hyx]
        go_roundw
        case rel => (repeat apply Exists.intro); exact ⟨hnew, rfl⟩
        case measure => rw [hR3.left_eq]; omega
      · have em : decide (m = 0) = false := by simpa using hm
        rw [em]
        go_wp2_with fail
        go_roundw
        case rel =>
          refine ⟨_, _, cnt1, hR1, Lib.hid (fun y hy => ?_), hF1⟩
          by_cases hyx : y = x
          · subst hyx
            simp [hfx, sweepV, hfx', Option.filter, emptyV, hm]
          · rw [HF.out y hy]
            simp [hyx]
        case measure => rw [hR1.left_eq]; omega
end Go.Proofs.Ytifcnjebepipnaa
namespace Go.Proofs.Ytifcnjebepipnaa
set_option linter.unusedVariables false
set_option linter.unusedSimpArgs false
open Go.RowKit

def stepT (com : Int) (t : TabM) (c : ChM) : TabM :=
  ⟨t.first, t.last, fun x => if x = c.oop then t.vs x ++ [⟨com, c.gone, c.obj⟩] else t.vs x, fun x => if x = c.oop then some com else t.wh x, t.n + 1⟩
def applyM (t : TabM) (r : RecM) : TabM × Int :=
  if rightR r = true then
    if r.commit ≤ t.last then (t, 5)
    else ({ r.chs.foldl (stepT r.commit) t with last := r.commit }, 0)
  else (t, 1)
theorem applyM_bad {t : TabM} {r : RecM} (h : rightR r = false) : applyM t r = (t, 1) := by unfold applyM; rw [if_neg (by rw [h]; decide)]
theorem applyM_old {t : TabM} {r : RecM} (h : rightR r = true) (h2 : r.commit ≤ t.last) : applyM t r = (t, 5) := by unfold applyM; rw [if_pos h, if_pos h2]
theorem applyM_yes {t : TabM} {r : RecM} (h : rightR r = true) (h2 : ¬ r.commit ≤ t.last) : applyM t r = ({ r.chs.foldl (stepT r.commit) t with last := r.commit }, 0) := by unfold applyM; rw [if_pos h, if_neg h2]
theorem fold_first (com : Int) : ∀ (l : List ChM) (t : TabM), (l.foldl (stepT com) t).first = t.first ∧ (l.foldl (stepT com) t).last = t.last ∧ (l.foldl (stepT com) t).n = t.n + l.length
  | [], t => ⟨rfl, rfl, rfl⟩
  | c :: l, t => by
    obtain ⟨h1, h2, h3⟩ := fold_first com l (stepT com t c)
    refine ⟨h1, h2, ?_⟩
    rw [List.foldl_cons, h3, List.length_cons]
    show t.n + 1 + l.length = _
    omega
/-- What holds while changes come: last: the oop that came last. -/
def Mid (com o : Int) (t : TabM) : Prop :=
  ∀ x, (t.vs x).Pairwise (fun a b => a.oop < b.oop) ∧ (∀ v ∈ t.vs x, v.oop ≤ com) ∧ (o < x → ∀ v ∈ t.vs x, v.oop < com) ∧ (t.vs x).length ≤ t.n ∧ ∀ v ∈ t.vs x, v.obj.slots.length ≤ 256 ∧ v.obj.bytes.length ≤ 1024
theorem rightC_small {c : ChM} (h : rightC c = true) : c.obj.slots.length ≤ 256 ∧ c.obj.bytes.length ≤ 1024 := by
  unfold rightC at h
  split at h
  · have := of_decide_eq_true h
    rw [this]
    exact ⟨by decide, by decide⟩
  · unfold rightO at h
    simp only [Bool.and_eq_true, decide_eq_true_eq] at h
    exact ⟨h.1.1.2, h.1.2⟩
theorem mid_step {com o : Int} {t : TabM} {c : ChM} (h : Mid com o t) (h1 : o < c.oop) (h2 : rightC c = true) : Mid com c.oop (stepT com t c) := by
  intro x
  obtain ⟨a1, a2, a3, a4, a5⟩ := h x
  by_cases hx : x = c.oop
  · have hv : (stepT com t c).vs x = t.vs x ++ [⟨com, c.gone, c.obj⟩] := by show (if x = c.oop then _ else _) = _; rw [if_pos hx]
    rw [hv]
    refine ⟨?_, ?_, fun h9 => by omega, ?_, ?_⟩
    · rw [List.pairwise_append]
      refine ⟨a1, by simp, ?_⟩
      intro a ha b hb
      rw [List.mem_singleton] at hb
      subst hb
      exact a3 (by omega) a ha
    · intro v hv
      rcases List.mem_append.1 hv with hv | hv
      · exact a2 v hv
      · rw [List.mem_singleton] at hv; subst hv; exact Int.le_refl _
    · rw [List.length_append]
      show _ ≤ t.n + 1
      simp only [List.length_singleton]
      omega
    · intro v hv
      rcases List.mem_append.1 hv with hv | hv
      · exact a5 v hv
      · rw [List.mem_singleton] at hv; subst hv; exact rightC_small h2
  · have hv : (stepT com t c).vs x = t.vs x := by show (if x = c.oop then _ else _) = _; rw [if_neg hx]
    rw [hv]
    exact ⟨a1, a2, fun h9 => a3 (by omega), Nat.le_trans a4 (Nat.le_succ _), a5⟩
theorem mid_fold {com : Int} : ∀ (l : List ChM) (o : Int) (t : TabM), Mid com o t → chsRight o l = true → ∃ o', Mid com o' (l.foldl (stepT com) t)
  | [], o, t, h, _ => ⟨o, h⟩
  | c :: l, o, t, h, hr => by
    rw [chsRight] at hr
    simp only [Bool.and_eq_true, decide_eq_true_eq] at hr
    exact mid_fold l c.oop _ (mid_step h hr.1 hr.2.2.1) hr.2.2.2
theorem rightR_four {r : RecM} (h : rightR r = true) : 1 ≤ r.commit ∧ r.commit ≤ 1099511627776 ∧ r.chs.length ≤ 4096 ∧ chsRight 0 r.chs = true := by
  unfold rightR at h
  simp only [Bool.and_eq_true, decide_eq_true_eq] at h
  exact ⟨h.1, h.2.1, h.2.2.1, h.2.2.2⟩
theorem chsRight_all : ∀ {l : List ChM} {o : Int}, chsRight o l = true → ∀ c ∈ l, oopB c.oop = true ∧ rightC c = true
  | [], _, _, c, hc => by cases hc
  | d :: l, o, h, c, hc => by
    rw [chsRight] at h
    simp only [Bool.and_eq_true, decide_eq_true_eq] at h
    rcases List.mem_cons.1 hc with rfl | hc
    · exact ⟨h.2.1, h.2.2.1⟩
    · exact chsRight_all h.2.2.2 c hc
theorem applyM_ok {t : TabM} {r : RecM} (h : TabOk t) : TabOk (applyM t r).1 := by
  cases hr : rightR r with
  | false => rw [applyM_bad hr]; exact h
  | true =>
    by_cases h2 : r.commit ≤ t.last
    · rw [applyM_old hr h2]; exact h
    · rw [applyM_yes hr h2]
      obtain ⟨_, _, _, h3⟩ := rightR_four hr
      have hm : Mid r.commit 0 t := fun x => by
        obtain ⟨a1, a2, a3, a4⟩ := h x
        exact ⟨a1, fun v hv => by have := a2 v hv; omega, fun _ v hv => by have := a2 v hv; omega, a3, a4⟩
      obtain ⟨o', hm'⟩ := mid_fold r.chs 0 t hm h3
      intro x
      obtain ⟨a1, a2, _, a4, a5⟩ := hm' x
      exact ⟨a1, a2, a4, a5⟩
theorem applyM_n (t : TabM) (r : RecM) : (applyM t r).1.n ≤ t.n + r.chs.length := by
  unfold applyM
  split
  · split
    · exact Nat.le_add_right _ _
    · exact Nat.le_of_eq (fold_first r.commit r.chs t).2.2
  · exact Nat.le_add_right _ _

theorem TabP.step {w w' : World} {T O : Nat → Prop} {p mb wb : Nat} {f g : Int → Option Value} {t : TabM} (h : TabP w T O p mb wb f g t) {com : Int} {c : ChM} {v' : Value} {xs' : List Value} {O' R : Nat → Prop} (hc : W64 c.oop)
    (hf : Fr (fun b => b = mb ∨ b = wb ∨ R b) w w') (hR : ∀ b, R b → ∃ v, f c.oop = some v ∧ v.ownBlock = some b)
    (hv : MapV w' mb (t.n + 1) (fput f c.oop v')) (hw : MapV w' wb (t.n + 1) (fput g c.oop (.int .i64 com)))
    (hown : w'.ownsRow 0 tVer 5 v' ((t.vs c.oop).length + 1) xs') (hxs : ChsC w' O' xs' (t.vs c.oop ++ [⟨com, c.gone, c.obj⟩]))
    (hv' : ∀ b, v'.ownBlock = some b → (∃ v, f c.oop = some v ∧ v.ownBlock = some b) ∨ w.heap.size ≤ b ∧ b < w'.heap.size)
    (hO' : ∀ b, O b → O' b) (hO2 : ∀ b, O' b → O b ∨ w.heap.size ≤ b ∧ b < w'.heap.size) (hO3 : ∀ b, O' b → ¬ v'.ownBlock = some b) :
    TabP w' (fun b => T b ∨ v'.ownBlock = some b) O' p mb wb (fput f c.oop v') (fput g c.oop (.int .i64 com)) (stepT com t c) := by
  have hrowc : ∀ v b, f c.oop = some v → v.ownBlock = some b → T b ∧ b ≠ p ∧ b ≠ mb ∧ b ≠ wb := by
    intro v b h1 h2
    rcases h.row c.oop hc with ⟨h3, _⟩ | ⟨u, xs, h3, _, _, _, h4⟩
    · rw [h1] at h3; cases h3
    · rw [h1] at h3; injection h3 with h3; subst h3; exact h4 b h2
  have hRT : ∀ b, R b → T b ∧ b ≠ p ∧ b ≠ mb ∧ b ≠ wb := fun b hb => by obtain ⟨v, h1, h2⟩ := hR b hb; exact hrowc v b h1 h2
  obtain ⟨i1, i2, i3, i4, i5, i6⟩ := h.inT
  have hlt : ∀ b, T b → b < w.heap.size := fun b hb => (h.off b hb).1
  have hv2 : ∀ b, v'.ownBlock = some b → b < w'.heap.size ∧ b ≠ p ∧ b ≠ mb ∧ b ≠ wb := by
    intro b hb
    rcases hv' b hb with ⟨v, h1, h2⟩ | ⟨h1, h2⟩
    · obtain ⟨a1, a2⟩ := hrowc v b h1 h2
      exact ⟨Nat.lt_of_lt_of_le (hlt b a1) hf.size, a2⟩
    · have b1 := hlt _ i1; have b2 := hlt _ i2; have b3 := hlt _ i3
      exact ⟨h2, by omega, by omega, by omega⟩
  refine { blk := ?_, vers := hv, when := hw, row := ?_, at_ := ?_, apart := ?_, inT := ⟨.inl i1, .inl i2, .inl i3, i4, i5, i6⟩, off := ?_, offO := ?_, small := ?_ }
  · exact h.blk.fr hf (by rintro (h1 | h1 | h1); exact i4 h1; exact i5 h1; exact (hRT _ h1).2.1 rfl)
  · intro x hx
    by_cases hxc : x = c.oop
    · subst hxc
      have hvs : (stepT com t c).vs c.oop = t.vs c.oop ++ [⟨com, c.gone, c.obj⟩] := if_pos rfl
      rw [fput_same, hvs]
      refine .inr ⟨v', xs', rfl, by simp, by rw [List.length_append]; exact hown, hxs, fun b hb => ⟨.inr hb, (hv2 b hb).2⟩⟩
    · have hvs : (stepT com t c).vs x = t.vs x := if_neg hxc
      rw [fput_other _ _ hxc, hvs]
      rcases h.row x hx with h1 | ⟨u, xs, h1, h2, h3, h4, h5⟩
      · exact .inl h1
      · refine .inr ⟨u, xs, h1, h2, own_fr h3 hf ?_, (h4.keep hf ?_).mono (fun b _ hb => hO' b hb), fun b hb => ⟨.inl (h5 b hb).1, (h5 b hb).2⟩⟩
        · intro b hb hT
          obtain ⟨a0, a1, a2, a3⟩ := h5 b hb
          rcases hT with hT | hT | hT
          · exact a2 hT
          · exact a3 hT
          · obtain ⟨v, e1, e2⟩ := hR b hT
            exact h.apart x c.oop u v b hx hc hxc h1 e1 hb e2
        · intro b hb hT
          rcases hT with hT | hT | hT
          · subst hT; exact (h.off _ i2).2 hb
          · subst hT; exact (h.off _ i3).2 hb
          · exact (h.off _ (hRT b hT).1).2 hb
  · intro x hx
    by_cases hxc : x = c.oop
    · subst hxc
      have hvs : (stepT com t c).wh c.oop = some com := if_pos rfl
      rw [fput_same, hvs]; rfl
    · have hvs : (stepT com t c).wh x = t.wh x := if_neg hxc
      rw [fput_other _ _ hxc, hvs]; exact h.at_ x hx
  · intro x y v u b hx hy hxy h1 h2 h3 h4
    have key : ∀ z s, W64 z → z ≠ c.oop → f z = some s → s.ownBlock = some b → v'.ownBlock = some b → False := by
      intro z s hz hzc e1 e2 e3
      rcases hv' b e3 with ⟨r, e4, e5⟩ | ⟨e4, _⟩
      · exact h.apart z c.oop s r b hz hc hzc e1 e4 e2 e5
      · rcases h.row z hz with ⟨e5, _⟩ | ⟨s2, xs, e5, _, _, _, e6⟩
        · rw [e1] at e5; cases e5
        · rw [e1] at e5; injection e5 with e5; subst e5
          have := hlt b (e6 b e2).1
          omega
    by_cases hxc : x = c.oop
    · have hyc : y ≠ c.oop := fun e => hxy (hxc.trans e.symm)
      subst hxc
      rw [fput_same] at h1
      rw [fput_other _ _ hyc] at h2
      injection h1 with h1
      subst h1
      exact key y u hy hyc h2 h4 h3
    · rw [fput_other _ _ hxc] at h1
      by_cases hyc : y = c.oop
      · subst hyc
        rw [fput_same] at h2
        injection h2 with h2
        subst h2
        exact key x v hx hxc h1 h3 h4
      · rw [fput_other _ _ hyc] at h2
        exact h.apart x y v u b hx hy hxy h1 h2 h3 h4
  · intro b hb
    rcases hb with hb | hb
    · refine ⟨Nat.lt_of_lt_of_le (hlt b hb) hf.size, fun hO => ?_⟩
      rcases hO2 b hO with h1 | h1
      · exact (h.off b hb).2 h1
      · have := hlt b hb; omega
    · exact ⟨(hv2 b hb).1, fun hO => hO3 b hO hb⟩
  · intro b hb
    rcases hO2 b hb with h1 | h1
    · exact Nat.lt_of_lt_of_le (h.offO b h1) hf.size
    · exact h1.2
  · intro x
    by_cases hxc : x = c.oop
    · have hvs : (stepT com t c).vs x = t.vs x ++ [⟨com, c.gone, c.obj⟩] := if_pos hxc
      rw [hvs, List.length_append]
      have := h.small x
      show _ ≤ t.n + 1
      simp only [List.length_singleton]
      omega
    · have hvs : (stepT com t c).vs x = t.vs x := if_neg hxc
      rw [hvs]
      exact Nat.le_trans (h.small x) (Nat.le_succ _)
end Go.Proofs.Ytifcnjebepipnaa
namespace Go.Proofs.Ytifcnjebepipnaa
set_option linter.unusedVariables false
set_option linter.unusedSimpArgs false
open Go.RowKit

def ApplyR (w : World) (T O : Nat → Prop) (p : Nat) (t : TabM) (r : RecM) (e : Ending) (w' : World) : Prop :=
  e = .returned (.int .i64 (applyM t r).2) ∧ ∃ T' O' : Nat → Prop, TabAt w' T' O' p (applyM t r).1 ∧ (∀ b, T' b → T b ∨ w.heap.size ≤ b) ∧ (∀ b, O' b → O b ∨ w.heap.size ≤ b) ∧ Fr T w w'
theorem take_snocC (l : List ChM) (k : Nat) (h : k < l.length) : l.take (k + 1) = l.take k ++ [l[k]] := by
  rw [List.take_succ_eq_append_getElem h]
theorem foldT_snoc (com : Int) (t : TabM) (l : List ChM) (c : ChM) : (l ++ [c]).foldl (stepT com) t = stepT com (l.foldl (stepT com) t) c := by
  rw [List.foldl_append]; rfl
theorem TabAt.blk {w : World} {T O : Nat → Prop} {p : Nat} {t : TabM} (h : TabAt w T O p t) : ∃ mb wb, Blk w p 59 #[.int .i64 t.first, .int .i64 t.last, .map (some mb), .map (some wb)] := by
  obtain ⟨mb, wb, f, g, hP⟩ := h
  exact ⟨mb, wb, hP.blk⟩
theorem TabAt.relast {w : World} {T O : Nat → Prop} {p : Nat} {t : TabM} (h : TabAt w T O p t) (last : Int) : TabAt (w.setCell ⟨p, 1, none⟩ (.int .i64 last)) T O p { t with last := last } := by
  obtain ⟨mb, wb, f, g, hP⟩ := h
  have hf : Fr (fun b => b = p) w (w.setCell ⟨p, 1, none⟩ (.int .i64 last)) := (Fr.refl (fun b => b = p) w).set (p := ⟨p, 1, none⟩) (.inr rfl) _
  obtain ⟨i1, i2, i3, i4, i5, i6⟩ := hP.inT
  refine ⟨mb, wb, f, g, { blk := hP.blk.put 1 _, vers := hP.vers.fr hf (fun e => i4 e.symm), when := hP.when.fr hf (fun e => i5 e.symm), row := fun x hx => (hP.row x hx).fr hf (fun b hb => hb.2.1) (fun b hb e => (hP.off _ i1).2 (e ▸ hb)), at_ := hP.at_, apart := hP.apart, inT := hP.inT, off := fun b hb => ⟨Nat.lt_of_lt_of_le (hP.off b hb).1 hf.size, (hP.off b hb).2⟩, offO := fun b hb => Nat.lt_of_lt_of_le (hP.offO b hb) hf.size, small := hP.small }⟩
set_option maxHeartbeats 4000000 in
set_option maxRecDepth 100000 in
theorem tapply_calls (w : World) (T O S : Nat → Prop) (p : Nat) (t : TabM) (cs : List Value) (r : RecM) (h : TabAt w T O p t) (hr : RecC w S cs r) (hS : ∀ b, S b → ¬ T b) (hn : t.n ≤ 900000) :
    Calls Try.prog 8 #[.pointer (some ⟨p, 0, none⟩), .agg cs.toArray] w fun e w' => ApplyR w T O p t r e w' := by
  obtain ⟨com, chs⟩ := r
  have hr := hr.lt
  obtain ⟨A, c, rfl, hch⟩ := hr
  simp only at hch
  have g1 := plain_i64
  have g2 := plain_lval
  have g3 := plain_lu8
  have g4 := plain_bool
  have g5 := plain_lchp
  have g6 := plain_mver
  have g7 := plain_mi64
  obtain ⟨hTl, hOl, hTp⟩ := h.lt
  have hpl := hTl p hTp
  have hf1 : Fr No w (w.alloc (.cells #[.int .i64 com, .slice A chs.length c] 29)) := (Fr.refl No w).alloc _
  have hbx := Blk.new w 29 #[.int .i64 com, .slice A chs.length c]
  have hz1 : w.heap.size < (w.alloc (.cells #[.int .i64 com, .slice A chs.length c] 29)).heap.size := by simp
  have hrc : RecC (w.alloc (.cells #[.int .i64 com, .slice A chs.length c] 29)) (fun b => S b ∧ b < w.heap.size) [.int .i64 com, .slice A chs.length c] ⟨com, chs⟩ := RecC.fr0 ⟨A, c, rfl, hch⟩ hf1
  have hbxa := hbx.all
  go_enter Try.func8, Try.ntmps8
  go_wp2_with (first
    | (refine wpList_ldA ag_recp rfl _ rfl ⟨w.heap.size, 0, none⟩ [.int .i64 com, .slice A chs.length c] rfl rfl hbxa ?_)
    | fail)
  refine (vrightr_calls _ _ ⟨com, chs⟩ _ hrc).mono ?_
  rintro e w2 ⟨rfl, hf2⟩
  have hF2 := hf1.tr hf2
  have hb2 := hbx.fr0 hf2
  have hT2 := h.fr0 hF2
  have hz2 : w.heap.size < w2.heap.size := Nat.lt_of_lt_of_le hz1 hf2.size
  clear hrc hbxa hf1 hbx hz1 hf2
  (have z0 := hb2.cell 0; have z1 := hb2.cell 1; have zf0 := hb2.frozen 0; have zf1 := hb2.frozen 1; simp only [List.getElem?_toArray, List.getElem?_cons_zero, List.getElem?_cons_succ] at z0 z1)
  cases hrr : rightR ⟨com, chs⟩ with
  | false =>
    have HM := Lib.hid (applyM_bad (t := t) hrr)
    clear hrr
    go_wp2
    go_ret
    exact ⟨by rw [HM.out]; rfl, T, O, by rw [HM.out]; exact hT2, fun b hb => .inl hb, fun b hb => .inl hb, hF2.mono (fun _ _ hn => hn.elim)⟩
  | true =>
    obtain ⟨mb0, wb0, hbk⟩ := hT2.blk
    have q1 := hbk.cell 1
    have q1f := hbk.frozen 1
    simp only [List.getElem?_toArray, List.getElem?_cons_zero, List.getElem?_cons_succ] at q1
    by_cases hold : com ≤ t.last
    · have HM := Lib.hid (applyM_old (t := t) hrr hold)
      have ek : decide (com ≤ t.last) = true := by simpa using hold
      clear hrr hold
      go_wp2_with fail
      (refine T_begin No [0, 1, 2, 3, 4, 5, 6, 7] [] (by kernel_rfl) (by kernel_rfl) ?_; simp only [pickOps, List.filterMap_cons, List.filterMap_nil, List.getElem?_cons_zero, List.getElem?_cons_succ, Act.put])
      repeat (first | (refine T_skip (by rfl) (by rfl) (fun _ _ _ h => h) ?_; try simp only [Act.put, List.setIfInBounds_toArray, List.set_cons_zero, List.set_cons_succ]) | (refine T_pass (by rfl) (by rfl) ?_; try simp only [Act.put, List.setIfInBounds_toArray, List.set_cons_zero, List.set_cons_succ]) | (refine T_load (by assumption) (by rfl) (by rfl) (fun _ _ _ _ h => h) rfl rfl (by assumption) (by first | exact (fun hn => hn) | assumption) ?_; try simp only [Act.put, List.setIfInBounds_toArray, List.set_cons_zero, List.set_cons_succ]) | (refine T_nil (by rfl) (by rfl) (fun _ _ _ _ h => h) rfl rfl ?_; try simp only [Act.put, List.setIfInBounds_toArray, List.set_cons_zero, List.set_cons_succ]) | (refine T_quiet (by rfl) (by rfl) (by rfl) (fun _ _ _ _ h => h) (fun K hK => ?_); go_big_quiet_op; refine hK _ ?_; clear hK K) | (refine T_two (by rfl) (by rfl) (by rfl) (by rfl) (fun _ _ _ _ h => h) (fun K hK => ?_); go_big_quiet_op; refine ⟨_, fun _ _ => rfl, ?_⟩; refine hK _ ?_; clear hK K; try simp only [Act.put, List.setIfInBounds_toArray, List.set_cons_zero, List.set_cons_succ]) | fail)
      refine T_done ?_
      go_wp2
      go_ret
      exact ⟨by rw [HM.out]; rfl, T, O, by rw [HM.out]; exact hT2.fr0 (Fr.refl No w2).drew, fun b hb => .inl hb, fun b hb => .inl hb, hF2.drew.mono (fun _ _ hn => hn.elim)⟩
    · have HM := Lib.hid (applyM_yes (t := t) hrr hold)
      have ek : decide (com ≤ t.last) = false := by simpa using hold
      obtain ⟨_, hcom, hlen, hcr⟩ := rightR_four hrr
      simp only at hcom hlen hcr
      have HC := Lib.hid (chsRight_all hcr)
      clear hrr hold hcr
      go_wp2_with fail
      (refine T_begin No [0, 1, 2, 3, 4, 5, 6, 7] [] (by kernel_rfl) (by kernel_rfl) ?_; simp only [pickOps, List.filterMap_cons, List.filterMap_nil, List.getElem?_cons_zero, List.getElem?_cons_succ, Act.put])
      repeat (first | (refine T_skip (by rfl) (by rfl) (fun _ _ _ h => h) ?_; try simp only [Act.put, List.setIfInBounds_toArray, List.set_cons_zero, List.set_cons_succ]) | (refine T_pass (by rfl) (by rfl) ?_; try simp only [Act.put, List.setIfInBounds_toArray, List.set_cons_zero, List.set_cons_succ]) | (refine T_load (by assumption) (by rfl) (by rfl) (fun _ _ _ _ h => h) rfl rfl (by assumption) (by first | exact (fun hn => hn) | assumption) ?_; try simp only [Act.put, List.setIfInBounds_toArray, List.set_cons_zero, List.set_cons_succ]) | (refine T_nil (by rfl) (by rfl) (fun _ _ _ _ h => h) rfl rfl ?_; try simp only [Act.put, List.setIfInBounds_toArray, List.set_cons_zero, List.set_cons_succ]) | (refine T_quiet (by rfl) (by rfl) (by rfl) (fun _ _ _ _ h => h) (fun K hK => ?_); go_big_quiet_op; refine hK _ ?_; clear hK K) | (refine T_two (by rfl) (by rfl) (by rfl) (by rfl) (fun _ _ _ _ h => h) (fun K hK => ?_); go_big_quiet_op; refine ⟨_, fun _ _ => rfl, ?_⟩; refine hK _ ?_; clear hK K; try simp only [Act.put, List.setIfInBounds_toArray, List.set_cons_zero, List.set_cons_succ]) | fail)
      refine T_done ?_
      have hbD : Blk w2.drew w.heap.size 29 #[.int .i64 com, .slice A chs.length c] := hb2.drew
      have hTD : TabAt w2.drew T O p t := hT2.fr0 (Fr.refl No w2).drew
      have hFD : Fr No w w2.drew := hF2.drew
      have hzD : w.heap.size < w2.drew.heap.size := hz2
      clear hb2 hT2 hF2 hz2 q1 q1f hbk z0 z1 zf0 zf1
      generalize w2.drew = w3 at *
      (have z0 := hbD.cell 0; have z1 := hbD.cell 1; have zf0 := hbD.frozen 0; have zf1 := hbD.frozen 1; simp only [List.getElem?_toArray, List.getElem?_cons_zero, List.getElem?_cons_succ] at z0 z1)
      go_wp2_with fail
      go_loopw [25] (fun i wr => ∃ (k : Nat) (T' O' : Nat → Prop), k ≤ chs.length ∧ i = .int .i64 (k : Int) ∧ TabAt wr T' O' p ((chs.take k).foldl (stepT com) t) ∧ (∀ b, T' b → T b ∨ w3.heap.size ≤ b) ∧ (∀ b, O' b → O b ∨ w3.heap.size ≤ b) ∧ Fr T w3 wr) (fun i _ => chs.length - (intOf i).toNat)
      case atStart => exact ⟨0, T, O, by omega, rfl, hTD, fun b hb => .inl hb, fun b hb => .inl hb, Fr.refl _ _⟩
      case round =>
        obtain ⟨k, T', O', hk, rfl, hTk, hT', hO', hf⟩ := hrel
        have hszr := hf.size
        have hbR := hbD.fr hf (fun hT => by have := hTl _ hT; omega)
        by_cases hlt : k < chs.length
        · have ek : decide ((k : Int) < chs.length) = true := by simpa using (by omega : (k : Int) < chs.length)
          have hfW : Fr T w wr := (hFD.mono (fun _ _ hn => hn.elim)).trans hf (fun b _ hT => hT)
          have hrd := hch.fr hfW (fun b hb hT => hS b hb.1 hT)
          obtain ⟨ga, of, Av, nn, D, mm, rfl, hga, hcell, hsl, hby⟩ := hrd.at_ hlt
          obtain ⟨hoop, hcx⟩ := HC.out _ (List.getElem_mem hlt)
          have hsm := rightC_small hcx
          have HT := Lib.hid (foldT_snoc com t (chs.take k) chs[k])
          have HTk := Lib.hid (take_snocC chs k hlt)
          generalize chs[k] = x at *
          obtain ⟨oop, gone, ob⟩ := x
          simp only at hcell hsl hby hsm hoop
          have hw64 : W64 oop := by
            unfold oopB at hoop
            simp only [Bool.and_eq_true, decide_eq_true_eq] at hoop
            exact wf_of (by omega) (by omega)
          clear hoop hcx
          have hcell' := addr5 _ _ _ hcell
          obtain ⟨e1, e2, e3⟩ := fold_first com (chs.take k) t
          have e4 : ((chs.take k).foldl (stepT com) t).n ≤ 1000000 := by rw [e3, List.length_take]; omega
          clear e3
          generalize htk : (chs.take k).foldl (stepT com) t = tk at *
          clear htk
          go_wp2_with (first
            | (refine wpList_ldA ag_chp rfl _ rfl ⟨ga, of + k * 5, none⟩ _ rfl rfl hcell' ?_)
            | fail)
          have hfo : Fr No wr (wr.alloc (.cells #[.int .i64 oop, .bool gone, .int .i64 ob.cls, .slice Av ob.slots.length nn, .slice D ob.bytes.length mm] 62)) := (Fr.refl No wr).alloc _
          have hbO := Blk.new wr 62 #[.int .i64 oop, .bool gone, .int .i64 ob.cls, .slice Av ob.slots.length nn, .slice D ob.bytes.length mm]
          have hzA : wr.heap.size < (wr.alloc (.cells #[.int .i64 oop, .bool gone, .int .i64 ob.cls, .slice Av ob.slots.length nn, .slice D ob.bytes.length mm] 62)).heap.size := by simp
          generalize hwA : wr.alloc (.cells #[.int .i64 oop, .bool gone, .int .i64 ob.cls, .slice Av ob.slots.length nn, .slice D ob.bytes.length mm] 62) = wA at *
          clear hwA
          obtain ⟨mb, wb, f, g, hP⟩ := hTk.fr0 hfo
          have hbX := hbR.fr0 hfo
          have hbT := hP.blk
          have hob : ObjC wA (fun b => S b ∧ b < w.heap.size) [.int .i64 ob.cls, .slice Av ob.slots.length nn, .slice D ob.bytes.length mm] ob := ObjC.fr0 ⟨Av, nn, D, mm, rfl, hsl, hby⟩ hfo
          obtain ⟨i1, i2, i3, i4, i5, i6⟩ := hP.inT
          have hTlt : ∀ b, T' b → b < wr.heap.size := hTk.lt.1
          have hOlt : ∀ b, O' b → b < wr.heap.size := hTk.lt.2.1
          obtain ⟨v0, xs, hv0, hown0, hxs0, hvb0⟩ : ∃ v0 xs, (f oop).getD (.slice none 0 0) = v0 ∧ wA.ownsRow 0 tVer 5 v0 (tk.vs oop).length xs ∧ ChsC wA O' xs (tk.vs oop) ∧ ∀ b, v0.ownBlock = some b → (T' b ∧ b ≠ p ∧ b ≠ mb ∧ b ≠ wb) ∧ ∃ v, f oop = some v ∧ v.ownBlock = some b := by
            rcases hP.row oop hw64 with ⟨r1, r2⟩ | ⟨v, xs, r1, _, r3, r4, r5⟩
            · exact ⟨_, [], rfl, by rw [r1, r2]; exact World.ownsRow_nil _ _ _ _, by rw [r2]; rfl, fun b hb => by rw [r1] at hb; simp [Value.ownBlock] at hb⟩
            · exact ⟨v, xs, by rw [r1]; rfl, r3, r4, fun b hb => ⟨r5 b hb, v, r1, hb⟩⟩
          have hsmall := hP.small oop
          have HOB := Lib.hid (show ∀ j u, [Value.int .i64 ob.cls, .slice Av ob.slots.length nn, .slice D ob.bytes.length mm][j]? = some u → wA.cell? ((⟨wr.heap.size, 2, none⟩ : Addr).add j) = some u from addr5 _ _ _ (fun j u hu => by
            have := hbO.all (j + 2) u (by simpa using hu)
            rw [show (⟨wr.heap.size, 0, none⟩ : Addr).add (j + 2) = ⟨wr.heap.size, 2 + j, none⟩ by unfold Addr.add; split <;> simp_all <;> omega] at this
            exact this))
          have HVB := Lib.hid hvb0
          have n1 : ¬ v0.ownBlock = some mb := fun e => (hvb0 _ e).1.2.2.1 rfl
          have n2 : ¬ v0.ownBlock = some p := fun e => (hvb0 _ e).1.2.1 rfl
          have n3 : ¬ v0.ownBlock = some w.heap.size := fun e => by have := hT' _ (hvb0 _ e).1.1; rcases this with h9 | h9; have := hTl _ h9; omega; omega
          have n4 : ¬ v0.ownBlock = some wr.heap.size := fun e => by have := hTlt _ (hvb0 _ e).1.1; omega
          have n5 : ¬ v0.ownBlock = some wb := fun e => (hvb0 _ e).1.2.2.2 rfl
          clear hvb0 hcell hcell'
          have hbxk := hbX
          (have z0 := hbX.cell 0; have z1 := hbX.cell 1; have zf0 := hbX.frozen 0; have zf1 := hbX.frozen 1; simp only [List.getElem?_toArray, List.getElem?_cons_zero, List.getElem?_cons_succ] at z0 z1)
          (have y0 := hbO.cell 0; have y1 := hbO.cell 1; have y2 := hbO.cell 2; have y3 := hbO.cell 3; have y4 := hbO.cell 4; have yf0 := hbO.frozen 0; have yf1 := hbO.frozen 1; have yf2 := hbO.frozen 2; have yf3 := hbO.frozen 3; have yf4 := hbO.frozen 4; simp only [List.getElem?_toArray, List.getElem?_cons_zero, List.getElem?_cons_succ] at y0 y1 y2 y3 y4)
          (have x0 := hbT.cell 0; have x1 := hbT.cell 1; have x2 := hbT.cell 2; have x3 := hbT.cell 3; have xf0 := hbT.frozen 0; have xf1 := hbT.frozen 1; have xf2 := hbT.frozen 2; have xf3 := hbT.frozen 3; simp only [List.getElem?_toArray, List.getElem?_cons_zero, List.getElem?_cons_succ] at x0 x1 x2 x3)
          refine T_begin2 (fun b => v0.ownBlock = some b) [23] [0, 1, 2, 3, 4, 5, 6, 7, 8, 9, 10, 11, 12, 13, 14, 15, 16, 17, 18, 19, 20, 21, 22, 23] [19, 21, 22, 23] (by kernel_rfl) (by kernel_rfl) ?_
          simp only [pickOps, List.filterMap_cons, List.filterMap_nil, List.getElem?_cons_zero, List.getElem?_cons_succ, Act.put]
          (first | (refine T_skip (by rfl) (by rfl) (fun _ _ _ h => h) ?_; try simp only [Act.put, List.setIfInBounds_toArray, List.set_cons_zero, List.set_cons_succ]) | (refine T_pass (by rfl) (by rfl) ?_; try simp only [Act.put, List.setIfInBounds_toArray, List.set_cons_zero, List.set_cons_succ]) | (refine T_load (by assumption) (by rfl) (by rfl) (fun _ _ _ _ h => h) rfl rfl (by assumption) (by first | exact (fun hn => hn) | assumption) ?_; try simp only [Act.put, List.setIfInBounds_toArray, List.set_cons_zero, List.set_cons_succ]) | (refine T_nil (by rfl) (by rfl) (fun _ _ _ _ h => h) rfl rfl ?_; try simp only [Act.put, List.setIfInBounds_toArray, List.set_cons_zero, List.set_cons_succ]) | (refine T_quietN (by rfl) (by rfl) (by rfl) (by rfl) (fun _ _ _ _ h => h) (fun K hK => ?_); go_big_quiet_op; refine hK _ ?_; clear hK K) | (refine T_two (by rfl) (by rfl) (by rfl) (by rfl) (fun _ _ _ _ h => h) (fun K hK => ?_); go_big_quiet_op; refine ⟨_, fun _ _ => rfl, ?_⟩; refine hK _ ?_; clear hK K; try simp only [Act.put, List.setIfInBounds_toArray, List.set_cons_zero, List.set_cons_succ]) | fail)
          (first | (refine T_skip (by rfl) (by rfl) (fun _ _ _ h => h) ?_; try simp only [Act.put, List.setIfInBounds_toArray, List.set_cons_zero, List.set_cons_succ]) | (refine T_pass (by rfl) (by rfl) ?_; try simp only [Act.put, List.setIfInBounds_toArray, List.set_cons_zero, List.set_cons_succ]) | (refine T_load (by assumption) (by rfl) (by rfl) (fun _ _ _ _ h => h) rfl rfl (by assumption) (by first | exact (fun hn => hn) | assumption) ?_; try simp only [Act.put, List.setIfInBounds_toArray, List.set_cons_zero, List.set_cons_succ]) | (refine T_nil (by rfl) (by rfl) (fun _ _ _ _ h => h) rfl rfl ?_; try simp only [Act.put, List.setIfInBounds_toArray, List.set_cons_zero, List.set_cons_succ]) | (refine T_quietN (by rfl) (by rfl) (by rfl) (by rfl) (fun _ _ _ _ h => h) (fun K hK => ?_); go_big_quiet_op; refine hK _ ?_; clear hK K) | (refine T_two (by rfl) (by rfl) (by rfl) (by rfl) (fun _ _ _ _ h => h) (fun K hK => ?_); go_big_quiet_op; refine ⟨_, fun _ _ => rfl, ?_⟩; refine hK _ ?_; clear hK K; try simp only [Act.put, List.setIfInBounds_toArray, List.set_cons_zero, List.set_cons_succ]) | fail)
          (first | (refine T_skip (by rfl) (by rfl) (fun _ _ _ h => h) ?_; try simp only [Act.put, List.setIfInBounds_toArray, List.set_cons_zero, List.set_cons_succ]) | (refine T_pass (by rfl) (by rfl) ?_; try simp only [Act.put, List.setIfInBounds_toArray, List.set_cons_zero, List.set_cons_succ]) | (refine T_load (by assumption) (by rfl) (by rfl) (fun _ _ _ _ h => h) rfl rfl (by assumption) (by first | exact (fun hn => hn) | assumption) ?_; try simp only [Act.put, List.setIfInBounds_toArray, List.set_cons_zero, List.set_cons_succ]) | (refine T_nil (by rfl) (by rfl) (fun _ _ _ _ h => h) rfl rfl ?_; try simp only [Act.put, List.setIfInBounds_toArray, List.set_cons_zero, List.set_cons_succ]) | (refine T_quietN (by rfl) (by rfl) (by rfl) (by rfl) (fun _ _ _ _ h => h) (fun K hK => ?_); go_big_quiet_op; refine hK _ ?_; clear hK K) | (refine T_two (by rfl) (by rfl) (by rfl) (by rfl) (fun _ _ _ _ h => h) (fun K hK => ?_); go_big_quiet_op; refine ⟨_, fun _ _ => rfl, ?_⟩; refine hK _ ?_; clear hK K; try simp only [Act.put, List.setIfInBounds_toArray, List.set_cons_zero, List.set_cons_succ]) | fail)
          (first | (refine T_skip (by rfl) (by rfl) (fun _ _ _ h => h) ?_; try simp only [Act.put, List.setIfInBounds_toArray, List.set_cons_zero, List.set_cons_succ]) | (refine T_pass (by rfl) (by rfl) ?_; try simp only [Act.put, List.setIfInBounds_toArray, List.set_cons_zero, List.set_cons_succ]) | (refine T_load (by assumption) (by rfl) (by rfl) (fun _ _ _ _ h => h) rfl rfl (by assumption) (by first | exact (fun hn => hn) | assumption) ?_; try simp only [Act.put, List.setIfInBounds_toArray, List.set_cons_zero, List.set_cons_succ]) | (refine T_nil (by rfl) (by rfl) (fun _ _ _ _ h => h) rfl rfl ?_; try simp only [Act.put, List.setIfInBounds_toArray, List.set_cons_zero, List.set_cons_succ]) | (refine T_quietN (by rfl) (by rfl) (by rfl) (by rfl) (fun _ _ _ _ h => h) (fun K hK => ?_); go_big_quiet_op; refine hK _ ?_; clear hK K) | (refine T_two (by rfl) (by rfl) (by rfl) (by rfl) (fun _ _ _ _ h => h) (fun K hK => ?_); go_big_quiet_op; refine ⟨_, fun _ _ => rfl, ?_⟩; refine hK _ ?_; clear hK K; try simp only [Act.put, List.setIfInBounds_toArray, List.set_cons_zero, List.set_cons_succ]) | fail)
          (first | (refine T_skip (by rfl) (by rfl) (fun _ _ _ h => h) ?_; try simp only [Act.put, List.setIfInBounds_toArray, List.set_cons_zero, List.set_cons_succ]) | (refine T_pass (by rfl) (by rfl) ?_; try simp only [Act.put, List.setIfInBounds_toArray, List.set_cons_zero, List.set_cons_succ]) | (refine T_load (by assumption) (by rfl) (by rfl) (fun _ _ _ _ h => h) rfl rfl (by assumption) (by first | exact (fun hn => hn) | assumption) ?_; try simp only [Act.put, List.setIfInBounds_toArray, List.set_cons_zero, List.set_cons_succ]) | (refine T_nil (by rfl) (by rfl) (fun _ _ _ _ h => h) rfl rfl ?_; try simp only [Act.put, List.setIfInBounds_toArray, List.set_cons_zero, List.set_cons_succ]) | (refine T_quietN (by rfl) (by rfl) (by rfl) (by rfl) (fun _ _ _ _ h => h) (fun K hK => ?_); go_big_quiet_op; refine hK _ ?_; clear hK K) | (refine T_two (by rfl) (by rfl) (by rfl) (by rfl) (fun _ _ _ _ h => h) (fun K hK => ?_); go_big_quiet_op; refine ⟨_, fun _ _ => rfl, ?_⟩; refine hK _ ?_; clear hK K; try simp only [Act.put, List.setIfInBounds_toArray, List.set_cons_zero, List.set_cons_succ]) | fail)
          (first | (refine T_skip (by rfl) (by rfl) (fun _ _ _ h => h) ?_; try simp only [Act.put, List.setIfInBounds_toArray, List.set_cons_zero, List.set_cons_succ]) | (refine T_pass (by rfl) (by rfl) ?_; try simp only [Act.put, List.setIfInBounds_toArray, List.set_cons_zero, List.set_cons_succ]) | (refine T_load (by assumption) (by rfl) (by rfl) (fun _ _ _ _ h => h) rfl rfl (by assumption) (by first | exact (fun hn => hn) | assumption) ?_; try simp only [Act.put, List.setIfInBounds_toArray, List.set_cons_zero, List.set_cons_succ]) | (refine T_nil (by rfl) (by rfl) (fun _ _ _ _ h => h) rfl rfl ?_; try simp only [Act.put, List.setIfInBounds_toArray, List.set_cons_zero, List.set_cons_succ]) | (refine T_quietN (by rfl) (by rfl) (by rfl) (by rfl) (fun _ _ _ _ h => h) (fun K hK => ?_); go_big_quiet_op; refine hK _ ?_; clear hK K) | (refine T_two (by rfl) (by rfl) (by rfl) (by rfl) (fun _ _ _ _ h => h) (fun K hK => ?_); go_big_quiet_op; refine ⟨_, fun _ _ => rfl, ?_⟩; refine hK _ ?_; clear hK K; try simp only [Act.put, List.setIfInBounds_toArray, List.set_cons_zero, List.set_cons_succ]) | fail)
          (first | (refine T_skip (by rfl) (by rfl) (fun _ _ _ h => h) ?_; try simp only [Act.put, List.setIfInBounds_toArray, List.set_cons_zero, List.set_cons_succ]) | (refine T_pass (by rfl) (by rfl) ?_; try simp only [Act.put, List.setIfInBounds_toArray, List.set_cons_zero, List.set_cons_succ]) | (refine T_load (by assumption) (by rfl) (by rfl) (fun _ _ _ _ h => h) rfl rfl (by assumption) (by first | exact (fun hn => hn) | assumption) ?_; try simp only [Act.put, List.setIfInBounds_toArray, List.set_cons_zero, List.set_cons_succ]) | (refine T_nil (by rfl) (by rfl) (fun _ _ _ _ h => h) rfl rfl ?_; try simp only [Act.put, List.setIfInBounds_toArray, List.set_cons_zero, List.set_cons_succ]) | (refine T_quietN (by rfl) (by rfl) (by rfl) (by rfl) (fun _ _ _ _ h => h) (fun K hK => ?_); go_big_quiet_op; refine hK _ ?_; clear hK K) | (refine T_two (by rfl) (by rfl) (by rfl) (by rfl) (fun _ _ _ _ h => h) (fun K hK => ?_); go_big_quiet_op; refine ⟨_, fun _ _ => rfl, ?_⟩; refine hK _ ?_; clear hK K; try simp only [Act.put, List.setIfInBounds_toArray, List.set_cons_zero, List.set_cons_succ]) | fail)
          (first | (refine T_skip (by rfl) (by rfl) (fun _ _ _ h => h) ?_; try simp only [Act.put, List.setIfInBounds_toArray, List.set_cons_zero, List.set_cons_succ]) | (refine T_pass (by rfl) (by rfl) ?_; try simp only [Act.put, List.setIfInBounds_toArray, List.set_cons_zero, List.set_cons_succ]) | (refine T_load (by assumption) (by rfl) (by rfl) (fun _ _ _ _ h => h) rfl rfl (by assumption) (by first | exact (fun hn => hn) | assumption) ?_; try simp only [Act.put, List.setIfInBounds_toArray, List.set_cons_zero, List.set_cons_succ]) | (refine T_nil (by rfl) (by rfl) (fun _ _ _ _ h => h) rfl rfl ?_; try simp only [Act.put, List.setIfInBounds_toArray, List.set_cons_zero, List.set_cons_succ]) | (refine T_quietN (by rfl) (by rfl) (by rfl) (by rfl) (fun _ _ _ _ h => h) (fun K hK => ?_); go_big_quiet_op; refine hK _ ?_; clear hK K) | (refine T_two (by rfl) (by rfl) (by rfl) (by rfl) (fun _ _ _ _ h => h) (fun K hK => ?_); go_big_quiet_op; refine ⟨_, fun _ _ => rfl, ?_⟩; refine hK _ ?_; clear hK K; try simp only [Act.put, List.setIfInBounds_toArray, List.set_cons_zero, List.set_cons_succ]) | fail)
          (first | (refine T_skip (by rfl) (by rfl) (fun _ _ _ h => h) ?_; try simp only [Act.put, List.setIfInBounds_toArray, List.set_cons_zero, List.set_cons_succ]) | (refine T_pass (by rfl) (by rfl) ?_; try simp only [Act.put, List.setIfInBounds_toArray, List.set_cons_zero, List.set_cons_succ]) | (refine T_load (by assumption) (by rfl) (by rfl) (fun _ _ _ _ h => h) rfl rfl (by assumption) (by first | exact (fun hn => hn) | assumption) ?_; try simp only [Act.put, List.setIfInBounds_toArray, List.set_cons_zero, List.set_cons_succ]) | (refine T_nil (by rfl) (by rfl) (fun _ _ _ _ h => h) rfl rfl ?_; try simp only [Act.put, List.setIfInBounds_toArray, List.set_cons_zero, List.set_cons_succ]) | (refine T_quietN (by rfl) (by rfl) (by rfl) (by rfl) (fun _ _ _ _ h => h) (fun K hK => ?_); go_big_quiet_op; refine hK _ ?_; clear hK K) | (refine T_two (by rfl) (by rfl) (by rfl) (by rfl) (fun _ _ _ _ h => h) (fun K hK => ?_); go_big_quiet_op; refine ⟨_, fun _ _ => rfl, ?_⟩; refine hK _ ?_; clear hK K; try simp only [Act.put, List.setIfInBounds_toArray, List.set_cons_zero, List.set_cons_succ]) | fail)
          (first | (refine T_skip (by rfl) (by rfl) (fun _ _ _ h => h) ?_; try simp only [Act.put, List.setIfInBounds_toArray, List.set_cons_zero, List.set_cons_succ]) | (refine T_pass (by rfl) (by rfl) ?_; try simp only [Act.put, List.setIfInBounds_toArray, List.set_cons_zero, List.set_cons_succ]) | (refine T_load (by assumption) (by rfl) (by rfl) (fun _ _ _ _ h => h) rfl rfl (by assumption) (by first | exact (fun hn => hn) | assumption) ?_; try simp only [Act.put, List.setIfInBounds_toArray, List.set_cons_zero, List.set_cons_succ]) | (refine T_nil (by rfl) (by rfl) (fun _ _ _ _ h => h) rfl rfl ?_; try simp only [Act.put, List.setIfInBounds_toArray, List.set_cons_zero, List.set_cons_succ]) | (refine T_quietN (by rfl) (by rfl) (by rfl) (by rfl) (fun _ _ _ _ h => h) (fun K hK => ?_); go_big_quiet_op; refine hK _ ?_; clear hK K) | (refine T_two (by rfl) (by rfl) (by rfl) (by rfl) (fun _ _ _ _ h => h) (fun K hK => ?_); go_big_quiet_op; refine ⟨_, fun _ _ => rfl, ?_⟩; refine hK _ ?_; clear hK K; try simp only [Act.put, List.setIfInBounds_toArray, List.set_cons_zero, List.set_cons_succ]) | fail)
          (first | (refine T_skip (by rfl) (by rfl) (fun _ _ _ h => h) ?_; try simp only [Act.put, List.setIfInBounds_toArray, List.set_cons_zero, List.set_cons_succ]) | (refine T_pass (by rfl) (by rfl) ?_; try simp only [Act.put, List.setIfInBounds_toArray, List.set_cons_zero, List.set_cons_succ]) | (refine T_load (by assumption) (by rfl) (by rfl) (fun _ _ _ _ h => h) rfl rfl (by assumption) (by first | exact (fun hn => hn) | assumption) ?_; try simp only [Act.put, List.setIfInBounds_toArray, List.set_cons_zero, List.set_cons_succ]) | (refine T_nil (by rfl) (by rfl) (fun _ _ _ _ h => h) rfl rfl ?_; try simp only [Act.put, List.setIfInBounds_toArray, List.set_cons_zero, List.set_cons_succ]) | (refine T_quietN (by rfl) (by rfl) (by rfl) (by rfl) (fun _ _ _ _ h => h) (fun K hK => ?_); go_big_quiet_op; refine hK _ ?_; clear hK K) | (refine T_two (by rfl) (by rfl) (by rfl) (by rfl) (fun _ _ _ _ h => h) (fun K hK => ?_); go_big_quiet_op; refine ⟨_, fun _ _ => rfl, ?_⟩; refine hK _ ?_; clear hK K; try simp only [Act.put, List.setIfInBounds_toArray, List.set_cons_zero, List.set_cons_succ]) | fail)
          (first | (refine T_skip (by rfl) (by rfl) (fun _ _ _ h => h) ?_; try simp only [Act.put, List.setIfInBounds_toArray, List.set_cons_zero, List.set_cons_succ]) | (refine T_pass (by rfl) (by rfl) ?_; try simp only [Act.put, List.setIfInBounds_toArray, List.set_cons_zero, List.set_cons_succ]) | (refine T_load (by assumption) (by rfl) (by rfl) (fun _ _ _ _ h => h) rfl rfl (by assumption) (by first | exact (fun hn => hn) | assumption) ?_; try simp only [Act.put, List.setIfInBounds_toArray, List.set_cons_zero, List.set_cons_succ]) | (refine T_nil (by rfl) (by rfl) (fun _ _ _ _ h => h) rfl rfl ?_; try simp only [Act.put, List.setIfInBounds_toArray, List.set_cons_zero, List.set_cons_succ]) | (refine T_quietN (by rfl) (by rfl) (by rfl) (by rfl) (fun _ _ _ _ h => h) (fun K hK => ?_); go_big_quiet_op; refine hK _ ?_; clear hK K) | (refine T_two (by rfl) (by rfl) (by rfl) (by rfl) (fun _ _ _ _ h => h) (fun K hK => ?_); go_big_quiet_op; refine ⟨_, fun _ _ => rfl, ?_⟩; refine hK _ ?_; clear hK K; try simp only [Act.put, List.setIfInBounds_toArray, List.set_cons_zero, List.set_cons_succ]) | fail)
          refine T_look (w := wA.drew) (f := f) (b := mb) hP.vers n1 Try.underlying56 zero_vers hw64 (by rfl) (by rfl) (fun _ _ _ _ h => h) rfl rfl rfl hv0 ?_
          try simp only [Act.put, List.setIfInBounds_toArray, List.set_cons_zero, List.set_cons_succ]
          repeat (first | (refine T_skip (by rfl) (by rfl) (fun _ _ _ h => h) ?_; try simp only [Act.put, List.setIfInBounds_toArray, List.set_cons_zero, List.set_cons_succ]) | (refine T_pass (by rfl) (by rfl) ?_; try simp only [Act.put, List.setIfInBounds_toArray, List.set_cons_zero, List.set_cons_succ]) | (refine T_load (by assumption) (by rfl) (by rfl) (fun _ _ _ _ h => h) rfl rfl (by assumption) (by first | exact (fun hn => hn) | assumption) ?_; try simp only [Act.put, List.setIfInBounds_toArray, List.set_cons_zero, List.set_cons_succ]) | (refine T_nil (by rfl) (by rfl) (fun _ _ _ _ h => h) rfl rfl ?_; try simp only [Act.put, List.setIfInBounds_toArray, List.set_cons_zero, List.set_cons_succ]) | (refine T_quietN (by rfl) (by rfl) (by rfl) (by rfl) (fun _ _ _ _ h => h) (fun K hK => ?_); go_big_quiet_op; refine hK _ ?_; clear hK K) | (refine T_two (by rfl) (by rfl) (by rfl) (by rfl) (fun _ _ _ _ h => h) (fun K hK => ?_); go_big_quiet_op; refine ⟨_, fun _ _ => rfl, ?_⟩; refine hK _ ?_; clear hK K; try simp only [Act.put, List.setIfInBounds_toArray, List.set_cons_zero, List.set_cons_succ]) | fail)
          refine T_loadA (cs := [.int .i64 ob.cls, .slice Av ob.slots.length nn, .slice D ob.bytes.length mm]) ag_obj (by rfl) (by rfl) (fun _ _ _ _ h => h) rfl rfl rfl (show ∀ j u, _ → wA.drew.cell? _ = some u from HOB.out) n4 ?_
          try simp only [Act.put, List.setIfInBounds_toArray, List.set_cons_zero, List.set_cons_succ]
          (refine T_call (by rfl) (by rfl) (fun K hK => ?_); go_wp2_with fail)
          refine (ocopy_calls (fun b => S b ∧ b < w.heap.size) [.int .i64 ob.cls, .slice Av ob.slots.length nn, .slice D ob.bytes.length mm] ob wA.drew hob (by have := hsm.1; omega)).mono ?_
          rintro e wB ⟨csB, rfl, hownB, hfB⟩
          (refine hK.out _ _ ((hfB.mono (fun _ _ hn => hn.elim))) ?_; clear hK K; try simp only [Act.put, List.setIfInBounds_toArray, List.set_cons_zero, List.set_cons_succ])
          obtain ⟨A2, c2, D2, d2, rfl⟩ := hownB.lit5
          have hocB := hownB.rd (by have := hsm.1; omega) (by have := hsm.2; omega)
          have hzB := hfB.size
          have hdz : wA.drew.heap.size = wA.heap.size := rfl
          rw [hdz] at hzB hocB
          have hocB := hocB.lt
          repeat (first | (refine T_skip (by rfl) (by rfl) (fun _ _ _ h => h) ?_; try simp only [Act.put, List.setIfInBounds_toArray, List.set_cons_zero, List.set_cons_succ]) | (refine T_pass (by rfl) (by rfl) ?_; try simp only [Act.put, List.setIfInBounds_toArray, List.set_cons_zero, List.set_cons_succ]) | (refine T_load (by assumption) (by rfl) (by rfl) (fun _ _ _ _ h => h) rfl rfl (by assumption) (by first | exact (fun hn => hn) | assumption) ?_; try simp only [Act.put, List.setIfInBounds_toArray, List.set_cons_zero, List.set_cons_succ]) | (refine T_nil (by rfl) (by rfl) (fun _ _ _ _ h => h) rfl rfl ?_; try simp only [Act.put, List.setIfInBounds_toArray, List.set_cons_zero, List.set_cons_succ]) | (refine T_quietN (by rfl) (by rfl) (by rfl) (by rfl) (fun _ _ _ _ h => h) (fun K hK => ?_); go_big_quiet_op; refine hK _ ?_; clear hK K) | (refine T_two (by rfl) (by rfl) (by rfl) (by rfl) (fun _ _ _ _ h => h) (fun K hK => ?_); go_big_quiet_op; refine ⟨_, fun _ _ => rfl, ?_⟩; refine hK _ ?_; clear hK K; try simp only [Act.put, List.setIfInBounds_toArray, List.set_cons_zero, List.set_cons_succ]) | fail)
          have hfAB : Fr No wA wB := (Fr.refl No wA).drew.tr hfB
          refine T_call (by rfl) (by rfl) (fun K hK => ?_)
          refine wp_buildOne so_ver (by decide) [.int .i64 com, .bool gone, .int .i64 ob.cls, .slice A2 ob.slots.length c2, .slice D2 ob.bytes.length d2] rfl rfl rfl ?_
          (refine hK.out _ _ (((Fr.refl _ _).alloc _)) ?_; clear hK K; try simp only [Act.put, List.setIfInBounds_toArray, List.set_cons_zero, List.set_cons_succ])
          refine T_call (by rfl) (by rfl) (fun K hK => ?_)
          refine wp_app_at so_ver (own_fr0 hown0 (hfAB.alloc (.cells ([.int .i64 com, .bool gone, .int .i64 ob.cls, .slice A2 ob.slots.length c2, .slice D2 ob.bytes.length d2]).toArray tVer))) ((Blk.new _ _ _).rd (size := 5) (n := 1) (by rfl) (by decide)) (one5 rfl rfl rfl rfl rfl) (by omega) (by simp) rfl rfl rfl ?_
          intro v5 w5 hown5 hg5 hat5
          refine hK.out _ _ ((Fr.refl _ _).grown hg5 (fun q hq => .inr hq)) ?_
          clear hK K
          try simp only [Act.put, List.setIfInBounds_toArray, List.set_cons_zero, List.set_cons_succ]
          have hfC : Fr No wA (wB.alloc (.cells ([.int .i64 com, .bool gone, .int .i64 ob.cls, .slice A2 ob.slots.length c2, .slice D2 ob.bytes.length d2]).toArray tVer)) := hfAB.alloc _
          have hzC : (wB.alloc (.cells ([.int .i64 com, .bool gone, .int .i64 ob.cls, .slice A2 ob.slots.length c2, .slice D2 ob.bytes.length d2]).toArray tVer)).heap.size = wB.heap.size + 1 := by simp
          have hfD : Fr (fun b => v0.ownBlock = some b) (wB.alloc (.cells ([.int .i64 com, .bool gone, .int .i64 ob.cls, .slice A2 ob.slots.length c2, .slice D2 ob.bytes.length d2]).toArray tVer)) w5 := (Fr.refl _ _).grown hg5 (fun q hq => .inr hq)
          have hfBC : Fr No wB (wB.alloc (.cells ([.int .i64 com, .bool gone, .int .i64 ob.cls, .slice A2 ob.slots.length c2, .slice D2 ob.bytes.length d2]).toArray tVer)) := (Fr.refl No wB).alloc _
          generalize hwC : wB.alloc (.cells ([.int .i64 com, .bool gone, .int .i64 ob.cls, .slice A2 ob.slots.length c2, .slice D2 ob.bytes.length d2]).toArray tVer) = wC at *
          clear hwC
          have hfAD : Fr (fun b => v0.ownBlock = some b) wA w5 := (hfC.mono (fun _ _ hn => hn.elim)).trans hfD (fun b _ hT => hT)
          have hm5 := hP.vers.fr hfAD n1
          refine T_turn No [] (by rfl) (by rfl) (by rfl) (fun K hK => ?_)
          refine wp_putM (x := oop) (u := v5) rfl Try.underlying56 hm5 rfl (by unfold maxLen; omega) rfl hw64 rfl ?_
          intro w6 hm6 hg6
          refine hK.out _ _ ?_
          clear hK K
          refine T_done ?_
          clear z0 z1 zf0 zf1 y0 y1 y2 y3 y4 yf0 yf1 yf2 yf3 yf4 x0 x1 x2 x3 xf0 xf1 xf2 xf3
          have hf6 : Fr (fun b => b = mb) w5 w6 := (Fr.refl _ w5).grown hg6 (fun q hq => by injection hq with hq; exact .inr hq.symm)
          have hf06 : Fr (fun b => b = mb ∨ v0.ownBlock = some b) wA w6 := (hfAD.mono (fun b _ h => .inr h)).trans hf6 (fun b _ h => .inl h)
          have hplA : p < wA.heap.size := hbT.lt
          have hbX6 : Blk w6 w.heap.size 29 _ := hbxk.fr hf06 (fun hh => by
            rcases hh with hh | hh
            · rcases hT' _ i2 with h9 | h9
              · have := hTl _ h9; omega
              · omega
            · exact n3 hh)
          have hbO6 : Blk w6 wr.heap.size 62 _ := hbO.fr hf06 (fun hh => by
            rcases hh with hh | hh
            · have := hTlt _ i2; omega
            · exact n4 hh)
          have hbT6 := hbT.fr hf06 (fun hh => by
            rcases hh with hh | hh
            · exact i4 hh
            · exact n2 hh)
          have hw6 := hP.when.fr hf06 (fun hh => by
            rcases hh with hh | hh
            · exact i6 hh.symm
            · exact n5 hh)
          (have z0 := hbX6.cell 0; have z1 := hbX6.cell 1; have zf0 := hbX6.frozen 0; have zf1 := hbX6.frozen 1; simp only [List.getElem?_toArray, List.getElem?_cons_zero, List.getElem?_cons_succ] at z0 z1)
          (have y0 := hbO6.cell 0; have y1 := hbO6.cell 1; have y2 := hbO6.cell 2; have y3 := hbO6.cell 3; have y4 := hbO6.cell 4; have yf0 := hbO6.frozen 0; have yf1 := hbO6.frozen 1; have yf2 := hbO6.frozen 2; have yf3 := hbO6.frozen 3; have yf4 := hbO6.frozen 4; simp only [List.getElem?_toArray, List.getElem?_cons_zero, List.getElem?_cons_succ] at y0 y1 y2 y3 y4)
          (have x0 := hbT6.cell 0; have x1 := hbT6.cell 1; have x2 := hbT6.cell 2; have x3 := hbT6.cell 3; have xf0 := hbT6.frozen 0; have xf1 := hbT6.frozen 1; have xf2 := hbT6.frozen 2; have xf3 := hbT6.frozen 3; simp only [List.getElem?_toArray, List.getElem?_cons_zero, List.getElem?_cons_succ] at x0 x1 x2 x3)
          go_wp2_with fail
          refine T_begin2 No [8] [0, 1, 2, 3, 4, 5, 6, 7, 8] [8] (by kernel_rfl) (by kernel_rfl) ?_
          simp only [pickOps, List.filterMap_cons, List.filterMap_nil, List.getElem?_cons_zero, List.getElem?_cons_succ, Act.put]
          repeat (first | (refine T_skip (by rfl) (by rfl) (fun _ _ _ h => h) ?_; try simp only [Act.put, List.setIfInBounds_toArray, List.set_cons_zero, List.set_cons_succ]) | (refine T_pass (by rfl) (by rfl) ?_; try simp only [Act.put, List.setIfInBounds_toArray, List.set_cons_zero, List.set_cons_succ]) | (refine T_load (by assumption) (by rfl) (by rfl) (fun _ _ _ _ h => h) rfl rfl (by assumption) (by first | exact (fun hn => hn) | assumption) ?_; try simp only [Act.put, List.setIfInBounds_toArray, List.set_cons_zero, List.set_cons_succ]) | (refine T_nil (by rfl) (by rfl) (fun _ _ _ _ h => h) rfl rfl ?_; try simp only [Act.put, List.setIfInBounds_toArray, List.set_cons_zero, List.set_cons_succ]) | (refine T_quietN (by rfl) (by rfl) (by rfl) (by rfl) (fun _ _ _ _ h => h) (fun K hK => ?_); go_big_quiet_op; refine hK _ ?_; clear hK K) | (refine T_two (by rfl) (by rfl) (by rfl) (by rfl) (fun _ _ _ _ h => h) (fun K hK => ?_); go_big_quiet_op; refine ⟨_, fun _ _ => rfl, ?_⟩; refine hK _ ?_; clear hK K; try simp only [Act.put, List.setIfInBounds_toArray, List.set_cons_zero, List.set_cons_succ]) | fail)
          refine T_turn No [] (by rfl) (by rfl) (by rfl) (fun K hK => ?_)
          refine wp_putM (x := oop) (u := .int .i64 com) rfl Try.underlying57 (show MapV w6.drew wb tk.n g from hw6) rfl (by unfold maxLen; omega) rfl hw64 rfl ?_
          intro w7 hm7 hg7
          refine hK.out _ _ ?_
          clear hK K
          refine T_done ?_
          have hf7 : Fr (fun b => b = wb) w6 w7 := ((Fr.refl (fun b => b = wb) w6).drew).grown hg7 (fun q hq => by injection hq with hq; exact .inr hq.symm)
          have hz7 : w5.heap.size ≤ w7.heap.size := Nat.le_trans hf6.size hf7.size
          have hzD5 := hfD.size
          have hF7 : Fr (fun b => b = mb ∨ b = wb ∨ v0.ownBlock = some b) wA w7 := (hf06.mono (fun b _ h => h.elim .inl (fun h => .inr (.inr h)))).trans hf7 (fun b _ h => .inr (.inl h))
          have hlt5 : ∀ b, v5.ownBlock = some b → v0.ownBlock = some b ∨ wC.heap.size ≤ b ∧ b < w5.heap.size := fun b hb => by
            rcases hat5 with h3 | h3
            · exact .inl (h3 ▸ hb)
            · rw [h3] at hb
              injection hb with hb
              exact .inr ⟨by omega, hb ▸ (hown5.lt _ h3).2⟩
          have hstep := hP.step (com := com) (c := ⟨oop, gone, ob⟩) (v' := v5) (w' := w7) (xs' := xs ++ [.int .i64 com, .bool gone, .int .i64 ob.cls, .slice A2 ob.slots.length c2, .slice D2 ob.bytes.length d2]) (O' := fun b => O' b ∨ wA.heap.size ≤ b ∧ b < wB.heap.size) (R := fun b => v0.ownBlock = some b) hw64
            hF7 (fun b hb => (HVB.out b hb).2) (hm6.fr hf7 i6) hm7
            (own_fr (own_fr hown5 hf6 (fun b hb e => by
              subst e
              rcases hlt5 _ hb with h9 | h9
              · exact n1 h9
              · have := hTlt _ i2; omega)) hf7 (fun b hb e => by
              subst e
              rcases hlt5 _ hb with h9 | h9
              · exact n5 h9
              · have := hTlt _ i3; omega))
            ?_ (fun b hb => by
              rcases hlt5 b hb with h9 | h9
              · exact .inl (HVB.out b h9).2
              · exact .inr (by omega)) (fun b hb => .inl hb) (fun b hb => by
              rcases hb with hb | hb
              · exact .inl hb
              · exact .inr (by omega)) (fun b hb e => by
              rcases hb with hb | hb
              · rcases hlt5 b e with h9 | h9
                · exact (hP.off b (HVB.out b h9).1.1).2 hb
                · have := hOlt b hb; omega
              · rcases hlt5 b e with h9 | h9
                · have := hTlt b (HVB.out b h9).1.1; omega
                · omega)
          · clear z0 z1 zf0 zf1 y0 y1 y2 y3 y4 yf0 yf1 yf2 yf3 yf4 x0 x1 x2 x3 xf0 xf1 xf2 xf3
            go_wp2_with fail
            go_roundw
            case rel =>
              refine ⟨k + 1, _, _, by omega, by go_num, by rw [HTk.out, HT.out]; exact ⟨mb, wb, _, _, hstep⟩, ?_, ?_, ?_⟩
              · intro b hb
                rcases hb with hb | hb
                · exact hT' b hb
                · rcases hlt5 b hb with h9 | h9
                  · exact hT' b (HVB.out b h9).1.1
                  · exact .inr (by omega)
              · intro b hb
                rcases hb with hb | hb
                · exact hO' b hb
                · exact .inr (by omega)
              · refine (hf.trans (hfo.mono (fun _ _ hn => hn.elim)) (fun b _ h => h)).trans hF7 (fun b hb hT => ?_)
                have key : T' b → T b := fun h9 => (hT' b h9).resolve_right (by omega)
                rcases hT with hT | hT | hT
                · exact key (hT ▸ i2)
                · exact key (hT ▸ i3)
                · exact key (HVB.out b hT).1.1
            case measure => simp [intOf]; omega
          · have k1 : ∀ b, wA.heap.size ≤ b → ¬ v0.ownBlock = some b := fun b hb e => by have := hTlt b (HVB.out b e).1.1; omega
            have hF57 : Fr (fun b => b = mb ∨ b = wb) w5 w7 := (hf6.mono (fun b _ h => .inl h)).trans hf7 (fun b _ h => .inr h)
            have h1 : ObjC w7 (fun b => O' b ∨ wA.heap.size ≤ b ∧ b < wB.heap.size) [.int .i64 ob.cls, .slice A2 ob.slots.length c2, .slice D2 ob.bytes.length d2] ob :=
              (((hocB.fr0 hfBC).keep hfD (fun b hb e => k1 b hb.1 e)).keep hF57 (fun b hb e => by
                rcases e with e | e
                · have := hTlt _ i2; have := hb.1; omega
                · have := hTlt _ i3; have := hb.1; omega)).mono (fun b _ hb => .inr hb)
            have h2 := (hxs0.keep hF7 (fun b hb e => by
              rcases e with e | e | e
              · exact (hP.off _ i2).2 (e ▸ hb)
              · exact (hP.off _ i3).2 (e ▸ hb)
              · exact (hP.off b (HVB.out b e).1.1).2 hb)).mono (T := fun b => O' b ∨ wA.heap.size ≤ b ∧ b < wB.heap.size) (fun b _ hb => .inl hb)
            obtain ⟨A', c', D', d', e, r1, r2⟩ := h1
            injection e with _ e
            injection e with e1 e
            injection e with e2 _
            injection e1 with e11 _ e13
            injection e2 with e21 _ e23
            subst e11 e13 e21 e23
            exact ChsC.snoc (show ChC w7 (fun b => O' b ∨ wA.heap.size ≤ b ∧ b < wB.heap.size) [.int .i64 com, .bool gone, .int .i64 ob.cls, .slice A2 ob.slots.length c2, .slice D2 ob.bytes.length d2] ⟨com, gone, ob⟩ from ⟨A2, c2, D2, d2, rfl, r1, r2⟩) h2
        · obtain rfl : k = chs.length := by omega
          have ek : decide ((chs.length : Int) < chs.length) = false := by simp
          rw [List.take_length] at hTk
          obtain ⟨mb1, wb1, hbk1⟩ := hTk.blk
          (have y0 := hbR.cell 0; have y1 := hbR.cell 1; have yf0 := hbR.frozen 0; have yf1 := hbR.frozen 1; simp only [List.getElem?_toArray, List.getElem?_cons_zero, List.getElem?_cons_succ] at y0 y1)
          (have x0 := hbk1.cell 0; have x1 := hbk1.cell 1; have x2 := hbk1.cell 2; have x3 := hbk1.cell 3; have xf0 := hbk1.frozen 0; have xf1 := hbk1.frozen 1; have xf2 := hbk1.frozen 2; have xf3 := hbk1.frozen 3; simp only [List.getElem?_toArray, List.getElem?_cons_zero, List.getElem?_cons_succ] at x0 x1 x2 x3)
          have hT9 := hTk.relast com
          have hTp' := hTk.lt.2.2
          have hfz : Fr T wr (wr.setCell ⟨p, 1, none⟩ (.int .i64 com)) := (Fr.refl T wr).set (p := ⟨p, 1, none⟩) (.inr hTp) _
          go_wp2
          go_ret
          refine ⟨by rw [HM.out]; rfl, T', O', by rw [HM.out]; exact hT9, fun b hb => ?_, fun b hb => ?_, ?_⟩
          · rcases hT' b hb with h9 | h9
            · exact .inl h9
            · exact .inr (by omega)
          · rcases hO' b hb with h9 | h9
            · exact .inl h9
            · exact .inr (by omega)
          · exact ((hFD.mono (fun _ _ hn => hn.elim)).trans hf (fun b _ h => h)).trans hfz (fun b _ h => h)
end Go.Proofs.Ytifcnjebepipnaa
