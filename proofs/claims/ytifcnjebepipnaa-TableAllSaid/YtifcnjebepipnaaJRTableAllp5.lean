/- All that a table has behind its last commit, as one record; plainly. No condition. table.All. No condition but size. lapidarylaw11.taken, the reference's SameRecord at alike records. No condition but size. lapidarylaw11.same of two lists of numbers, in full. No condition. lapidarylaw11.TableAll: a new table with all is like the old one behind the last commit. -/
import Derived.Test.YtifcnjebepipnaaJRTableAllp4
import Derived.Test.YtifcnjebepipnaaJRTableAllp2
import Derived.Test.YtifcnjebepipnaaJRTableAllp1
import Derived.Test.YtifcnjebepipnaaJRTableAllp0
import Derived.Deep.LoopGhost
namespace Go.Proofs.Ytifcnjebepipnaa
set_option linter.unusedVariables false
set_option linter.unusedSimpArgs false
open Go.RowKit

/-- What a table that came by Apply alone keeps to. -/
def TabGood (t : TabM) : Prop := t.first = 0 ∧ 0 ≤ t.last ∧ t.last ≤ 1099511627776 ∧ ∀ x, ∀ v ∈ t.vs x, oopB x = true ∧ 1 ≤ v.oop ∧ v.oop ≤ t.last ∧ rightC v = true
theorem good0 : TabGood tab0 := ⟨rfl, by decide, by decide, fun x v hv => by cases hv⟩
theorem good_fold {com : Int} (hc : 1 ≤ com) : ∀ (l : List ChM) (t : TabM), (∀ c ∈ l, oopB c.oop = true ∧ rightC c = true) → (∀ x, ∀ v ∈ t.vs x, oopB x = true ∧ 1 ≤ v.oop ∧ v.oop ≤ com ∧ rightC v = true) → ∀ x, ∀ v ∈ (l.foldl (stepT com) t).vs x, oopB x = true ∧ 1 ≤ v.oop ∧ v.oop ≤ com ∧ rightC v = true
  | [], t, _, h => h
  | c :: l, t, h1, h => by
    rw [List.foldl_cons]
    refine good_fold hc l _ (fun d hd => h1 d (List.mem_cons_of_mem _ hd)) (fun x v hv => ?_)
    by_cases hx : x = c.oop
    · have e : (stepT com t c).vs x = t.vs x ++ [⟨com, c.gone, c.obj⟩] := if_pos hx
      rw [e] at hv
      rcases List.mem_append.1 hv with hv | hv
      · exact h x v hv
      · rw [List.mem_singleton] at hv
        subst hv
        obtain ⟨a1, a2⟩ := h1 c (List.mem_cons_self ..)
        exact ⟨hx ▸ a1, hc, Int.le_refl _, a2⟩
    · have e : (stepT com t c).vs x = t.vs x := if_neg hx
      rw [e] at hv
      exact h x v hv
theorem applyM_good {t : TabM} {r : RecM} (h : TabGood t) : TabGood (applyM t r).1 := by
  cases hr : rightR r with
  | false => rw [applyM_bad hr]; exact h
  | true =>
    by_cases h2 : r.commit ≤ t.last
    · rw [applyM_old hr h2]; exact h
    · rw [applyM_yes hr h2]
      obtain ⟨h3, h4, h5, h6⟩ := rightR_four hr
      obtain ⟨g1, g2, g3, g4⟩ := h
      refine ⟨(fold_first r.commit r.chs t).1.trans g1, (by show 0 ≤ r.commit; omega), h4, ?_⟩
      exact good_fold h3 r.chs t (chsRight_all h6) (fun x v hv => by
        obtain ⟨a1, a2, a3, a4⟩ := g4 x v hv
        exact ⟨a1, a2, by omega, a4⟩)
theorem applyAll_good : ∀ (l : List RecM) (t : TabM), TabGood t → TabGood (applyAll t l)
  | [], t, h => h
  | r :: l, t, h => applyAll_good l _ (applyM_good h)
def allM (t : TabM) (ks : List Int) : RecM := ⟨t.last, ks.map fun x => ⟨x, false, (atM t t.last x).1⟩⟩
theorem good_asked {t : TabM} (h : TabGood t) : (decide (t.first ≤ t.last) && decide (t.last ≤ t.last)) = true := by
  obtain ⟨h1, h2, _⟩ := h
  simp; omega
theorem live_at {t : TabM} (h : TabGood t) {x : Int} (hl : liveV t t.last x = true) : ∃ v ∈ t.vs x, v.gone = false ∧ atM t t.last x = (v.obj, 0) := by
  unfold liveV at hl
  cases hv : verM t t.last x with
  | none => rw [hv] at hl; cases hl
  | some v =>
    rw [hv] at hl
    have hg : v.gone = false := by simpa using hl
    refine ⟨v, ?_, hg, ?_⟩
    · unfold verM at hv
      split at hv
      · cases hv
      · exact List.mem_of_getElem? hv
    · unfold atM
      rw [if_pos (good_asked h), hv]
      simp only
      rw [if_neg (by rw [hg]; decide)]
theorem at_dead {t : TabM} (h : TabGood t) {x : Int} (hl : liveV t t.last x = false) : atM t t.last x = (noObj, 25) := by
  unfold atM
  rw [if_pos (good_asked h)]
  unfold liveV at hl
  cases hv : verM t t.last x with
  | none => rfl
  | some v =>
    rw [hv] at hl
    have hg : v.gone = true := by simpa using hl
    simp only
    rw [if_pos hg]
theorem oops_three {t : TabM} {ks : List Int} (h : TabGood t) (hO : OopsL t t.last ks) : ks.Pairwise (· < ·) ∧ (∀ x ∈ ks, W64 x) ∧ ∀ x, W64 x → (x ∈ ks ↔ liveV t t.last x = true) := by
  unfold OopsL at hO
  rw [if_pos (good_asked h)] at hO
  exact hO
theorem rise_len : ∀ {l : List Int} {o N : Int}, l.Pairwise (· < ·) → (∀ x ∈ l, o < x ∧ x ≤ N) → o ≤ N → (l.length : Int) ≤ N - o
  | [], o, N, _, _, h => by simp; omega
  | x :: l, o, N, h1, h2, h => by
    rw [List.pairwise_cons] at h1
    have hx := h2 x (List.mem_cons_self ..)
    have := rise_len (o := x) (N := N) h1.2 (fun y hy => ⟨h1.1 y hy, (h2 y (List.mem_cons_of_mem _ hy)).2⟩) hx.2
    rw [List.length_cons]
    omega
theorem oops_oop {t : TabM} {ks : List Int} (h : TabGood t) (hO : OopsL t t.last ks) {x : Int} (hx : x ∈ ks) : oopB x = true ∧ 1 ≤ t.last ∧ rightO (atM t t.last x).1 = true ∧ (atM t t.last x).2 = 0 ∧ liveV t t.last x = true := by
  obtain ⟨_, h2, h3⟩ := oops_three h hO
  have hl := (h3 x (h2 x hx)).1 hx
  obtain ⟨v, hv, hg, ha⟩ := live_at h hl
  obtain ⟨a1, a2, a3, a4⟩ := h.2.2.2 x v hv
  refine ⟨a1, by omega, ?_, by rw [ha], hl⟩
  rw [ha]
  unfold rightC at a4
  rw [if_neg (by rw [hg]; decide)] at a4
  exact a4
theorem oops_zero {t : TabM} {ks : List Int} (h : TabGood t) (hO : OopsL t t.last ks) (h0 : t.last = 0) : ks = [] := by
  cases ks with
  | nil => rfl
  | cons x l =>
    have := (oops_oop h hO (List.mem_cons_self ..)).2.1
    omega
theorem oops_len {t : TabM} {ks : List Int} (h : TabGood t) (hO : OopsL t t.last ks) : ks.length ≤ 4096 := by
  have := rise_len (l := ks) (o := 0) (N := 4096) (oops_three h hO).1 (fun x hx => by
    have := (oops_oop h hO hx).1
    unfold oopB at this
    simp only [Bool.and_eq_true, decide_eq_true_eq] at this
    omega) (by decide)
  omega
theorem chsRight_map (g : Int → ObjM) : ∀ {ks : List Int} {o : Int}, ks.Pairwise (· < ·) → (∀ x ∈ ks, o < x ∧ oopB x = true ∧ rightO (g x) = true) → chsRight o (ks.map fun x => (⟨x, false, g x⟩ : ChM)) = true
  | [], _, _, _ => rfl
  | x :: l, o, h1, h2 => by
    rw [List.pairwise_cons] at h1
    obtain ⟨a1, a2, a3⟩ := h2 x (List.mem_cons_self ..)
    rw [List.map_cons, chsRight_yes (by simpa using a1) a2 (by unfold rightC; simpa using a3)]
    exact chsRight_map g h1.2 (fun y hy => ⟨h1.1 y hy, (h2 y (List.mem_cons_of_mem _ hy)).2⟩)
theorem allM_right {t : TabM} {ks : List Int} (h : TabGood t) (hO : OopsL t t.last ks) (h1 : 1 ≤ t.last) : rightR (allM t ks) = true := by
  unfold rightR
  have hl := oops_len h hO
  have hc : chsRight 0 (allM t ks).chs = true := chsRight_map _ (oops_three h hO).1 (fun x hx => by
    obtain ⟨a1, a2, a3, _⟩ := oops_oop h hO hx
    refine ⟨?_, a1, a3⟩
    unfold oopB at a1
    simp only [Bool.and_eq_true, decide_eq_true_eq] at a1
    omega)
  rw [hc]
  have e1 : (allM t ks).commit = t.last := rfl
  have e2 : (allM t ks).chs.length = ks.length := by unfold allM; rw [List.length_map]
  rw [e1, e2]
  have := h.2.2.1
  simp
  omega
theorem allM_ok {t : TabM} {ks : List Int} (h : TabGood t) (ok : TabOk t) (hO : OopsL t t.last ks) : RecOk (allM t ks) := by
  have hl := oops_len h hO
  refine ⟨?_, fun c hc => ?_⟩
  · unfold allM
    rw [List.length_map]
    omega
  · unfold allM at hc
    obtain ⟨x, _, rfl⟩ := List.mem_map.1 hc
    have := atM_small0 ok t.last x
    simp only
    omega
theorem fold_map (com : Int) (g : Int → ObjM) : ∀ (ks : List Int) (t : TabM), ks.Nodup → ∀ x, ((ks.map fun x => (⟨x, false, g x⟩ : ChM)).foldl (stepT com) t).vs x = t.vs x ++ (if x ∈ ks then [⟨com, false, g x⟩] else [])
  | [], t, _, x => by simp
  | k :: ks, t, hn, x => by
    rw [List.nodup_cons] at hn
    rw [List.map_cons, List.foldl_cons, fold_map com g ks _ hn.2 x]
    by_cases hx : x = k
    · subst hx
      have e : (stepT com t ⟨x, false, g x⟩).vs x = t.vs x ++ [⟨com, false, g x⟩] := if_pos rfl
      rw [e, if_neg hn.1, if_pos (List.mem_cons_self ..), List.append_nil]
    · have e : (stepT com t ⟨k, false, g k⟩).vs x = t.vs x := if_neg hx
      rw [e]
      by_cases hm : x ∈ ks
      · rw [if_pos hm, if_pos (List.mem_cons_of_mem _ hm)]
      · rw [if_neg hm, if_neg (fun hh => by rcases List.mem_cons.1 hh with h | h; exact hx h; exact hm h)]
/-- What has come of all, in a new table. -/
structure AllU (t : TabM) (ks : List Int) (u : TabM) : Prop where
  last : u.last = t.last
  ok : TabOk u
  n : u.n ≤ 4096
  at_ : ∀ x, W64 x → atM u t.last x = atM t t.last x
  oops : OopsL u t.last ks
  all : allM u ks = allM t ks
  good : TabGood u
theorem all_again {t : TabM} {ks : List Int} (h : TabGood t) (hO : OopsL t t.last ks) (h1 : 1 ≤ t.last) : (applyM tab0 (allM t ks)).2 = 0 ∧ AllU t ks (applyM tab0 (allM t ks)).1 := by
  have hr := allM_right h hO h1
  have e0 : (allM t ks).commit = t.last := rfl
  have hlt : ¬ (allM t ks).commit ≤ tab0.last := by
    rw [e0]
    show ¬ t.last ≤ 0
    omega
  have hlen : (allM t ks).chs.length = ks.length := by unfold allM; rw [List.length_map]
  have hl := oops_len h hO
  have hok : TabOk (applyM tab0 (allM t ks)).1 := applyM_ok (fun x => ⟨List.Pairwise.nil, (fun v hv => by cases hv), Nat.le_refl _, (fun v hv => by cases hv)⟩)
  have hgood : TabGood (applyM tab0 (allM t ks)).1 := applyM_good good0
  have hn : (applyM tab0 (allM t ks)).1.n ≤ 4096 := by
    have := applyM_n tab0 (allM t ks)
    have e : tab0.n = 0 := rfl
    omega
  have hlast : (applyM tab0 (allM t ks)).1.last = t.last := by rw [applyM_yes hr hlt]; rfl
  obtain ⟨p1, p2, p3⟩ := oops_three h hO
  have hnd : ks.Nodup := p1.imp (fun h => by omega)
  have hvs : ∀ x, (applyM tab0 (allM t ks)).1.vs x = if x ∈ ks then [⟨t.last, false, (atM t t.last x).1⟩] else [] := by
    intro x
    rw [applyM_yes hr hlt]
    show ((allM t ks).chs.foldl (stepT (allM t ks).commit) tab0).vs x = _
    rw [e0]
    have := fold_map t.last (fun x => (atM t t.last x).1) ks tab0 hnd x
    simpa [allM, tab0] using this
  have h2 : (applyM tab0 (allM t ks)).2 = 0 := by rw [applyM_yes hr hlt]
  generalize (applyM tab0 (allM t ks)).1 = u at *
  have hver : ∀ x, verM u t.last x = if x ∈ ks then some ⟨t.last, false, (atM t t.last x).1⟩ else none := by
    intro x
    unfold verM behM
    rw [hvs x]
    by_cases hm : x ∈ ks
    · rw [if_pos hm, if_pos hm]
      simp
    · rw [if_neg hm, if_neg hm]
      simp
  have hlive : ∀ x, liveV u t.last x = decide (x ∈ ks) := by
    intro x
    unfold liveV
    rw [hver x]
    by_cases hm : x ∈ ks
    · rw [if_pos hm, decide_eq_true hm]; rfl
    · rw [if_neg hm, decide_eq_false hm]
  have hasku := good_asked hgood
  rw [hlast] at hasku
  have hatk : ∀ x ∈ ks, atM u t.last x = ((atM t t.last x).1, 0) := by
    intro x hm
    unfold atM
    rw [hlast, if_pos hasku, hver x, if_pos hm]
    rfl
  refine ⟨h2, ⟨hlast, hok, hn, fun x hx => ?_, ?_, ?_, hgood⟩⟩
  · by_cases hm : x ∈ ks
    · rw [hatk x hm]
      have := (oops_oop h hO hm).2.2.2.1
      rw [← this]
    · have hd : liveV t t.last x = false := by
        rw [p3 x hx] at hm
        simpa using hm
      rw [at_dead h hd]
      have hd2 := hlive x
      rw [decide_eq_false hm, ← hlast] at hd2
      have := at_dead hgood hd2
      rw [hlast] at this
      exact this
  · unfold OopsL
    rw [hlast, if_pos hasku]
    refine ⟨p1, p2, fun x hx => ?_⟩
    rw [hlive x]
    simp
  · unfold allM
    rw [hlast]
    congr 1
    refine List.map_congr_left (fun x hx => ?_)
    rw [hatk x hx]
end Go.Proofs.Ytifcnjebepipnaa
namespace Go.Proofs.Ytifcnjebepipnaa
set_option linter.unusedVariables false
set_option linter.unusedSimpArgs false
open Go.RowKit

theorem take_snocI (l : List Int) (k : Nat) (h : k < l.length) : l.take (k + 1) = l.take k ++ [l[k]] := by
  rw [List.take_succ_eq_append_getElem h]
theorem allM_take (t : TabM) (ks : List Int) (k : Nat) (h : k < ks.length) : (allM t ks).chs.take (k + 1) = (allM t ks).chs.take k ++ [⟨ks[k], false, (atM t t.last ks[k]).1⟩] := by
  have hl : k < (allM t ks).chs.length := by unfold allM; rw [List.length_map]; exact h
  rw [take_snocL _ k hl]
  congr 2
  exact List.getElem_map _
theorem ObjC.obj5 {w : World} {S : Nat → Prop} {oc : List Value} {o : ObjM} (h : ObjC w S oc o) (x : Int) (g : Bool) : ChC w S (.int .i64 x :: .bool g :: oc) ⟨x, g, o⟩ := by
  obtain ⟨A, c, D, d, rfl, h1, h2⟩ := h
  exact ⟨A, c, D, d, rfl, h1, h2⟩
set_option maxHeartbeats 4000000 in
set_option maxRecDepth 100000 in
theorem tallr_calls (w : World) (T O : Nat → Prop) (p : Nat) (t : TabM) (h : TabAt w T O p t) (ok : TabOk t) (hg : TabGood t) (htn : t.n ≤ 900000) :
    Calls Try.prog 17 #[.pointer (some ⟨p, 0, none⟩)] w fun e w' => ∃ (cs : List Value) (ks : List Int), e = .returned (.agg cs.toArray) ∧ OopsL t t.last ks ∧ RecC w' (fun b => w.heap.size ≤ b) cs (allM t ks) ∧ Fr No w w' := by
  have hlt := h.lt
  have g1 := plain_i64
  have g2 := plain_lval
  have g3 := plain_lu8
  have g4 := plain_bool
  have g6 := plain_lchp
  have hf1 : Fr No w ((w.alloc (.cells #[.int .i64 0, .slice none 0 0] 29)).alloc (.cells #[.int .i64 t.last, .slice none 0 0] 29)) := ((Fr.refl No w).alloc _).alloc _
  have hbr : Blk ((w.alloc (.cells #[.int .i64 0, .slice none 0 0] 29)).alloc (.cells #[.int .i64 t.last, .slice none 0 0] 29)) w.heap.size 29 #[.int .i64 0, .slice none 0 0] := (Blk.new w _ _).alloc _
  have hby : Blk ((w.alloc (.cells #[.int .i64 0, .slice none 0 0] 29)).alloc (.cells #[.int .i64 t.last, .slice none 0 0] 29)) (w.heap.size + 1) 29 #[.int .i64 t.last, .slice none 0 0] := Blk.newAt (by simp)
  have hz1 : ((w.alloc (.cells #[.int .i64 0, .slice none 0 0] 29)).alloc (.cells #[.int .i64 t.last, .slice none 0 0] 29)).heap.size = w.heap.size + 2 := by simp
  obtain ⟨mb, wb, hbk⟩ := h.blk
  have hbk1 := hbk.alloc (.cells #[.int .i64 0, .slice none 0 0] 29)
  (have y0 := hbk1.cell 0; have y1 := hbk1.cell 1; have y2 := hbk1.cell 2; have y3 := hbk1.cell 3; have yf0 := hbk1.frozen 0; have yf1 := hbk1.frozen 1; have yf2 := hbk1.frozen 2; have yf3 := hbk1.frozen 3; simp only [List.getElem?_toArray, List.getElem?_cons_zero, List.getElem?_cons_succ] at y0 y1 y2 y3)
  go_enter Try.func17, Try.ntmps17
  go_upto_region 4 with fail
  generalize hw1 : (w.alloc (.cells #[.int .i64 0, .slice none 0 0] 29)).alloc (.cells #[.int .i64 t.last, .slice none 0 0] 29) = w1 at *
  clear hw1 y0 y1 y2 y3 yf0 yf1 yf2 yf3 hbk1
  have hz1' : w.heap.size + 2 ≤ w1.heap.size := by omega
  clear hz1
  have hT1 := h.fr0 hf1
  have hbk1 := hbk.fr0 hf1
  (have y0 := hbk1.cell 0; have y1 := hbk1.cell 1; have y2 := hbk1.cell 2; have y3 := hbk1.cell 3; have yf0 := hbk1.frozen 0; have yf1 := hbk1.frozen 1; have yf2 := hbk1.frozen 2; have yf3 := hbk1.frozen 3; simp only [List.getElem?_toArray, List.getElem?_cons_zero, List.getElem?_cons_succ] at y0 y1 y2 y3)
  go_wp2_with fail
  refine (oops_calls w1 T O p t t.last hT1 ok (by omega)).mono ?_
  rintro e w4 ⟨v4, ks, rfl, hO, hr4, hf4, hkl⟩
  obtain ⟨B4, c4, rfl, hd4⟩ := hr4.rd (by omega)
  have hfW4 := hf1.tr hf4
  have hbr := hbr.fr0 hf4
  have hby := hby.fr0 hf4
  have HW := Lib.hid (oops_three hg hO).2.1
  have HO := Lib.hid hO
  have hz4 := hf4.size
  have hel : (allM t ks).chs.length = ks.length := by unfold allM; rw [List.length_map]
  have HEL := Lib.hid hel
  clear hO hel y0 y1 y2 y3 yf0 yf1 yf2 yf3
  have hle : ks.length ≤ 900000 := by omega
  go_wp2_with fail
  go_loopw [23] (fun i wr => ∃ (k : Nat) (A : Option Addr) (c : Nat) (xs : List Value), k ≤ ks.length ∧ i = .int .i64 (k : Int) ∧ Blk wr (w.heap.size + 1) 29 #[.int .i64 t.last, .slice A k c] ∧ wr.ownsRow w4.heap.size 62 5 (.slice A k c) k xs ∧ ChsC wr (fun b => w4.heap.size ≤ b ∧ ¬ (Value.slice A k c).ownBlock = some b) xs ((allM t ks).chs.take k) ∧ Fr (fun b => b = w.heap.size + 1 ∨ w4.heap.size ≤ b) w4 wr) (fun i _ => ks.length - (intOf i).toNat)
  case atStart => exact ⟨0, none, 0, [], by omega, rfl, hby, World.ownsRow_nil _ _ _ _, rfl, Fr.refl _ _⟩
  case round =>
    obtain ⟨k, A, c, xs, hk, rfl, hb, hown, hxs, hf⟩ := hrel
    have hsr := hf.size
    have hfW : Fr No w wr := hfW4.trans hf (fun b hb hT => by omega)
    have hbR := hbr.fr hf (fun hT => by omega)
    by_cases hlt2 : k < ks.length
    · have ek : decide ((k : Int) < ks.length) = true := by simpa using (by omega : (k : Int) < ks.length)
      have hd : RdI wr (fun b => w1.heap.size ≤ b ∧ b < w4.heap.size) B4 ks := Rd.fr (Rd.lt hd4 (by decide)) hf (fun b hb hT => by have := hb.1; have := hb.2; rcases hT with h | h <;> omega)
      obtain ⟨ad, rfl, _, hc1⟩ := hd.at_ hlt2
      have HT := Lib.hid (allM_take t ks k hlt2)
      have hxw := HW.out _ (List.getElem_mem hlt2)
      have hTr := h.fr hfW (fun _ _ hn => hn) (fun _ _ hn => hn)
      have hbkr := hbk.fr0 hfW
      have hsm := atM_small0 ok t.last ks[k]
      generalize ks[k] = x at *
      (have y0 := hbkr.cell 0; have y1 := hbkr.cell 1; have y2 := hbkr.cell 2; have y3 := hbkr.cell 3; have yf0 := hbkr.frozen 0; have yf1 := hbkr.frozen 1; have yf2 := hbkr.frozen 2; have yf3 := hbkr.frozen 3; simp only [List.getElem?_toArray, List.getElem?_cons_zero, List.getElem?_cons_succ] at y0 y1 y2 y3)
      go_wp2_with fail
      refine (tat_calls wr T O p t t.last x hTr ok (by omega) hxw).mono ?_
      rintro e w5 ⟨cs5, rfl, hown5, hf5⟩
      obtain ⟨A5, c5, D5, d5, rfl⟩ := hown5.lit6
      obtain ⟨R5, hR5⟩ : ∃ R5, R5 = (atM t t.last x).1 := ⟨_, rfl⟩
      rw [← hR5] at hown5 hsm ⊢
      have HR5 := Lib.hid hR5
      clear hR5
      have hfA : Fr No w5 (w5.alloc (.cells #[.int .i64 R5.cls, .slice A5 R5.slots.length c5, .slice D5 R5.bytes.length d5] tObj)) := (Fr.refl No w5).alloc _
      have hbA := Blk.new w5 tObj #[.int .i64 R5.cls, .slice A5 R5.slots.length c5, .slice D5 R5.bytes.length d5]
      have hz5 := hf5.size
      have hzA := hfA.size
      have hownA := hown5.fr hfA (fun _ _ hn => hn)
      have hf6 := hf5.tr hfA
      have hbr6 := hb.fr0 hf6
      have hown6 := own_fr0 hown hf6
      go_upto_region 8 with fail
      generalize hw6 : w5.alloc (.cells #[.int .i64 R5.cls, .slice A5 R5.slots.length c5, .slice D5 R5.bytes.length d5] tObj) = w6 at *
      clear hw6
      have hf67 : Fr No w6 (w6.alloc (.cells #[.int .i64 x, .bool false, .int .i64 R5.cls, .slice A5 R5.slots.length c5, .slice D5 R5.bytes.length d5] 62)) := (Fr.refl No w6).alloc _
      have hz67 := hf67.size
      have hz6 := hf6.size
      have hSH : ¬ ((Value.slice A k c).ownBlock = some (w.heap.size + 1)) := fun hh => by have := (hown.lt _ hh).1; omega
      have hownlt := fun b (hb : (Value.slice A k c).ownBlock = some b) => hown.lt b hb
      have HOL := Lib.hid hownlt
      clear hownlt
      (have z0 := hbr6.cell 0; have z1 := hbr6.cell 1; have zf0 := hbr6.frozen 0; have zf1 := hbr6.frozen 1; simp only [List.getElem?_toArray, List.getElem?_cons_zero, List.getElem?_cons_succ] at z0 z1)
      have hcl := hbA.all
      go_wp2_with (first
        | (refine wpList_ldA ag_obj rfl _ rfl ⟨w5.heap.size, 0, none⟩ [.int .i64 R5.cls, .slice A5 R5.slots.length c5, .slice D5 R5.bytes.length d5] rfl rfl hcl ?_)
        | (at_builtin; refine wpList_app_at so_chp (own_fr0 hown6 hf67) ((Blk.new w6 62 #[.int .i64 x, .bool false, .int .i64 R5.cls, .slice A5 R5.slots.length c5, .slice D5 R5.bytes.length d5]).rd (size := 5) (n := 1) (by rfl) (by decide)) (one5 rfl rfl rfl rfl rfl) (by omega) (by omega) rfl rfl rfl rfl ?_; intro v8 w8 hown8 hg8 hat8; obtain ⟨A8, c8, rfl, hc8, hc8m, hA8⟩ := own_form hown8; have hb8 := (hbr6.fr0 hf67).grown hg8 (fun e => hSH e.symm); (have q0 := hb8.cell 0; have q1 := hb8.cell 1; have qf0 := hb8.frozen 0; have qf1 := hb8.frozen 1; simp only [List.getElem?_toArray, List.getElem?_cons_zero, List.getElem?_cons_succ] at q0 q1))
        | fail)
      have hfS : Fr (fun b => b = w.heap.size + 1) w8 (w8.setCell ⟨w.heap.size + 1, 1, none⟩ (.slice A8 (k + 1) c8)) := (Fr.refl _ w8).set1 1 _
      have hgF : Fr (fun b => (Value.slice A k c).ownBlock = some b) (w6.alloc (.cells #[.int .i64 x, .bool false, .int .i64 R5.cls, .slice A5 R5.slots.length c5, .slice D5 R5.bytes.length d5] 62)) w8 := (Fr.refl _ _).grown hg8 (fun q hq => .inr hq)
      have hfr7 : Fr No wr (w6.alloc (.cells #[.int .i64 x, .bool false, .int .i64 R5.cls, .slice A5 R5.slots.length c5, .slice D5 R5.bytes.length d5] 62)) := hf6.tr hf67
      go_roundw
      case rel =>
        refine ⟨k + 1, A8, c8, xs ++ [.int .i64 x, .bool false, .int .i64 R5.cls, .slice A5 R5.slots.length c5, .slice D5 R5.bytes.length d5], by omega, by go_num, hb8.put 1 _, own_fr hown8 hfS (fun b hb hT => by have := (hown8.lt _ hb).1; omega), ?_, ?_⟩
        · rw [HT.out, ← HR5.out]
          have hoc := (hownA.rd (by omega) (by omega)).obj5 x false
          have h8 := (ChsC.snoc (hoc.mono (T := fun b => w4.heap.size ≤ b ∧ ¬ (Value.slice A k c).ownBlock = some b) (fun b hl hb => ⟨by omega, fun e => by have := (HOL.out b e).2; omega⟩)) (hxs.keep hf6 (fun _ _ hn => hn))).lt
          have h9 := ((h8.keep hf67 (fun _ _ hn => hn)).keep hgF (fun b hb hT => hb.1.2 hT)).keep hfS (fun b hb hT => by have := hb.1.1; omega)
          refine h9.mono (fun b _ hb => ⟨hb.1.1, fun e => ?_⟩)
          rcases hat8 with h3 | h3
          · exact hb.1.2 (h3 ▸ e)
          · rw [h3] at e; injection e with e; have := hb.2; omega
        · exact (((hf.trans (hfr7.mono (fun _ _ hn => hn.elim)) (fun b _ h => h)).grown hg8 (fun q hq => .inr (.inr (HOL.out q hq).1)))).set (.inr (.inl rfl)) _
      case measure => simp [intOf]; omega
    · obtain rfl : k = ks.length := by omega
      have ek : decide ((ks.length : Int) < ks.length) = false := by simp
      rw [← HEL.out, List.take_length, HEL.out] at hxs
      have hcs := hb.all
      go_wp2_with (first
        | (refine wpList_ldA ag_recp rfl _ rfl ⟨w.heap.size + 1, 0, none⟩ [.int .i64 t.last, .slice A ks.length c] rfl rfl hcs ?_)
        | (refine wpList_stA ag_recp.info rfl _ _ rfl w.heap.size 0 _ _ [.int .i64 t.last, .slice A ks.length c] _ rfl rfl rfl rfl (by intro u hu; simp at hu; rcases hu with rfl | rfl <;> rfl) hbR (by decide) ?_; intro w5 hb5 hg5 hz5)
        | fail)
      rw [splice_all _ _ (by rfl)] at hb5
      have hf5 : Fr (fun b => b = w.heap.size) wr w5 := (Fr.refl _ wr).grown hg5 (fun q hq => by injection hq with hq; exact .inr hq.symm)
      obtain ⟨_, _, e9, _, _, hDl⟩ := own_form hown
      injection e9 with e91 e92 e93
      subst e91 e93
      refine bodyPost_ret (results_blk ag_recp rfl _ _ _ _ _ rfl hb5 rfl) rfl ⟨_, rfl, ks, HO.out, ⟨A, c, by rw [HEL.out]; rfl, xs, ?_, ?_⟩, hfW.trans hf5 (fun b hb hT => by omega)⟩
      · rw [HEL.out]
        exact Rd.mono (Rd.fr (own_rd hown (by omega)) hf5 (fun b hb hT => by have := (hown.lt b ((hDl b).2 hb)).1; omega)) (fun b _ hb => by have := (hown.lt b ((hDl b).2 hb)).1; omega) (by decide)
      · exact (hxs.keep hf5 (fun b hb hT => by have := hb.1; omega)).mono (fun b _ hb => by have := hb.1; omega)
end Go.Proofs.Ytifcnjebepipnaa
namespace Go.Proofs.Ytifcnjebepipnaa
set_option linter.unusedVariables false
set_option linter.unusedSimpArgs false
open Go.RowKit

theorem so_chr : SliceOf Try.prog 31 67 (.agg #[.int .i64 0, .bool false, .int .i64 0, .slice none 0 0, .slice none 0 0]) 5 72 := ⟨Try.underlying31, by kernel_rfl, rfl, by decide, by decide, by decide⟩
set_option maxHeartbeats 4000000 in
set_option maxRecDepth 100000 in
theorem taken11_calls (S : Nat → Prop) (cs : List Value) (r : RecM) (w : World) (h : RecC w S cs r) (ok : RecOk r) (hS : ∀ b, S b → b < w.heap.size) :
    Calls Try.prog 19 #[.agg cs.toArray] w fun e w' => ∃ cs' : List Value, e = .returned (.agg cs'.toArray) ∧ RecC w' (fun b => S b ∨ w.heap.size ≤ b) cs' r ∧ Fr No w w' := by
  obtain ⟨com, chs⟩ := r
  obtain ⟨ok1, ok2⟩ := ok
  simp only at ok1 ok2
  obtain ⟨Ar, cr, rfl, hch⟩ := h
  simp only at hch
  have g1 := plain_i64
  have g2 := plain_lval
  have g3 := plain_lu8
  have g4 := plain_bool
  have g5 := plain_lchp
  have g6 := plain_lchr
  have hle := hch.le
  have hf1 : Fr No w (((w.alloc (.cells #[.int .i64 com, .slice Ar chs.length cr] 29)).alloc (.cells #[.int .i64 0, .slice none 0 0] 33)).alloc (.cells #[.int .i64 com, .slice none 0 0] 33)) := (((Fr.refl No w).alloc _).alloc _).alloc _
  have hbx : Blk (((w.alloc (.cells #[.int .i64 com, .slice Ar chs.length cr] 29)).alloc (.cells #[.int .i64 0, .slice none 0 0] 33)).alloc (.cells #[.int .i64 com, .slice none 0 0] 33)) w.heap.size 29 #[.int .i64 com, .slice Ar chs.length cr] := ((Blk.new w _ _).alloc _).alloc _
  have hbr : Blk (((w.alloc (.cells #[.int .i64 com, .slice Ar chs.length cr] 29)).alloc (.cells #[.int .i64 0, .slice none 0 0] 33)).alloc (.cells #[.int .i64 com, .slice none 0 0] 33)) (w.heap.size + 1) 33 #[.int .i64 0, .slice none 0 0] := (Blk.newAt (by simp)).alloc _
  have hby : Blk (((w.alloc (.cells #[.int .i64 com, .slice Ar chs.length cr] 29)).alloc (.cells #[.int .i64 0, .slice none 0 0] 33)).alloc (.cells #[.int .i64 com, .slice none 0 0] 33)) (w.heap.size + 1 + 1) 33 #[.int .i64 com, .slice none 0 0] := Blk.newAt (by simp)
  have hz1 : (((w.alloc (.cells #[.int .i64 com, .slice Ar chs.length cr] 29)).alloc (.cells #[.int .i64 0, .slice none 0 0] 33)).alloc (.cells #[.int .i64 com, .slice none 0 0] 33)).heap.size = w.heap.size + 3 := by simp
  go_enter Try.func19, Try.ntmps19
  go_upto_region 2 with fail
  generalize hw1 : (((w.alloc (.cells #[.int .i64 com, .slice Ar chs.length cr] 29)).alloc (.cells #[.int .i64 0, .slice none 0 0] 33)).alloc (.cells #[.int .i64 com, .slice none 0 0] 33)) = w1 at *
  clear hw1
  have hz1' : w.heap.size + 3 ≤ w1.heap.size := by omega
  clear hz1
  go_wp2_with fail
  go_loopw [4] (fun i wr => ∃ (k : Nat) (A : Option Addr) (c : Nat) (xs : List Value), k ≤ chs.length ∧ i = .int .i64 (k : Int) ∧ Blk wr (w.heap.size + 1 + 1) 33 #[.int .i64 com, .slice A k c] ∧ wr.ownsRow (w.heap.size + 3) 67 5 (.slice A k c) k xs ∧ ChsC wr (S) xs (chs.take k) ∧ Fr (fun b => w.heap.size + 1 + 1 ≤ b) w1 wr) (fun i _ => chs.length - (intOf i).toNat)
  case atStart => exact ⟨0, none, 0, [], by omega, rfl, hby, World.ownsRow_nil _ _ _ _, rfl, Fr.refl _ _⟩
  case round =>
    obtain ⟨k, A, c, xs, hk, rfl, hb, hown, hxs, hf⟩ := hrel
    have hsr := hf.size
    have hfW : Fr No w wr := hf1.trans hf (fun b hb hT => by omega)
    have hbX := hbx.fr hf (fun hT => by omega)
    have hbR := hbr.fr hf (fun hT => by omega)
    (have p0 := hbX.cell 0; have p1 := hbX.cell 1; have pf0 := hbX.frozen 0; have pf1 := hbX.frozen 1; simp only [List.getElem?_toArray, List.getElem?_cons_zero, List.getElem?_cons_succ] at p0 p1)
    by_cases hlt : k < chs.length
    · have ek : decide ((k : Int) < chs.length) = true := by simpa using (by omega : (k : Int) < chs.length)
      have hrd := hch.fr0 hfW
      obtain ⟨ga, of, Av, nn, D, mm, rfl, _, hcell, hsl, hby'⟩ := hrd.at_ hlt
      have hok := ok2 _ (List.getElem_mem hlt)
      have HT := Lib.hid (take_snocL chs k hlt)
      have hgl : ga < wr.heap.size := World.block_lt_of_cell? wr _ (hcell 0 _ rfl)
      generalize chs[k] = x at *
      obtain ⟨oop, gone, ob⟩ := x
      simp only at hcell hsl hby' hok
      have k0 := hcell 0 _ rfl
      have k1 := hcell 1 _ rfl
      have hobc : ∀ j u, [Value.int .i64 ob.cls, .slice Av ob.slots.length nn, .slice D ob.bytes.length mm][j]? = some u → wr.cell? ((⟨ga, of + k * 5 + 2, none⟩ : Addr).add j) = some u := addr5 _ _ _ (fun j u hu => by
        have := hcell (j + 2) u (by simpa using hu)
        rwa [show of + k * 5 + (j + 2) = of + k * 5 + 2 + j by omega] at this)
      have HOB := Lib.hid hobc
      simp only [Nat.add_zero] at k0
      have hgaw : ga < w.heap.size := by
        obtain ⟨g', o', Av', nn', D', mm', hA', _, hcell', _, _⟩ := hch.at_ hlt
        injection hA' with hA'
        injection hA' with h1 h2
        subst h1 h2
        exact World.block_lt_of_cell? w _ (hcell' 0 _ rfl)
      have hSG : ¬ ((Value.slice A k c).ownBlock = some ga) := fun hh => by have := (hown.lt _ hh).1; omega
      have hSX : ¬ ((Value.slice A k c).ownBlock = some w.heap.size) := fun hh => by have := (hown.lt _ hh).1; omega
      have hSH : ¬ ((Value.slice A k c).ownBlock = some (w.heap.size + 1 + 1)) := fun hh => by have := (hown.lt _ hh).1; omega
      have hownlt := fun b (hb : (Value.slice A k c).ownBlock = some b) => hown.lt b hb
      have HOL := Lib.hid hownlt
      clear hcell hobc hrd hownlt
      (have q0 := hb.cell 0; have q1 := hb.cell 1; have qf0 := hb.frozen 0; have qf1 := hb.frozen 1; simp only [List.getElem?_toArray, List.getElem?_cons_zero, List.getElem?_cons_succ] at q0 q1)
      go_wp2_with fail
      refine T_begin2 (fun b => (Value.slice A k c).ownBlock = some b) [24] [0, 1, 2, 3, 4, 5, 6, 7, 8, 9, 10, 11, 12, 13, 14, 15, 16, 17, 18, 19, 20, 21, 22, 23, 24] [21, 22, 24] (by kernel_rfl) (by kernel_rfl) ?_
      simp only [pickOps, List.filterMap_cons, List.filterMap_nil, List.getElem?_cons_zero, List.getElem?_cons_succ, Act.put]
      repeat (first | (refine T_skip (by rfl) (by rfl) (fun _ _ _ h => h) ?_; try simp only [Act.put, List.setIfInBounds_toArray, List.set_cons_zero, List.set_cons_succ]) | (refine T_pass (by rfl) (by rfl) ?_; try simp only [Act.put, List.setIfInBounds_toArray, List.set_cons_zero, List.set_cons_succ]) | (refine T_load (by assumption) (by rfl) (by rfl) (fun _ _ _ _ h => h) rfl rfl (by assumption) (by first | exact (fun hn => hn) | assumption) ?_; try simp only [Act.put, List.setIfInBounds_toArray, List.set_cons_zero, List.set_cons_succ]) | (refine T_nil (by rfl) (by rfl) (fun _ _ _ _ h => h) rfl rfl ?_; try simp only [Act.put, List.setIfInBounds_toArray, List.set_cons_zero, List.set_cons_succ]) | (refine T_quietN (by rfl) (by rfl) (by rfl) (by rfl) (fun _ _ _ _ h => h) (fun K hK => ?_); go_big_quiet_op; refine hK _ ?_; clear hK K) | (refine T_two (by rfl) (by rfl) (by rfl) (by rfl) (fun _ _ _ _ h => h) (fun K hK => ?_); go_big_quiet_op; refine ⟨_, fun _ _ => rfl, ?_⟩; refine hK _ ?_; clear hK K; try simp only [Act.put, List.setIfInBounds_toArray, List.set_cons_zero, List.set_cons_succ]) | fail)
      refine T_loadA (cs := [.int .i64 ob.cls, .slice Av ob.slots.length nn, .slice D ob.bytes.length mm]) ag_obj (by rfl) (by rfl) (fun _ _ _ _ h => h) rfl rfl rfl (show ∀ j u, _ → wr.drew.cell? _ = some u from HOB.out) hSG ?_
      try simp only [Act.put, List.setIfInBounds_toArray, List.set_cons_zero, List.set_cons_succ]
      obtain ⟨w3, hw3⟩ : ∃ w3, w3 = wr.drew := ⟨_, rfl⟩
      rw [← hw3]
      have hf03 : Fr No wr w3 := hw3 ▸ (Fr.refl No wr).drew
      have hz3 := hf03.size
      clear hw3
      repeat (first | (refine T_skip (by rfl) (by rfl) (fun _ _ _ h => h) ?_; try simp only [Act.put, List.setIfInBounds_toArray, List.set_cons_zero, List.set_cons_succ]) | (refine T_pass (by rfl) (by rfl) ?_; try simp only [Act.put, List.setIfInBounds_toArray, List.set_cons_zero, List.set_cons_succ]) | (refine T_load (by assumption) (by rfl) (by rfl) (fun _ _ _ _ h => h) rfl rfl (by assumption) (by first | exact (fun hn => hn) | assumption) ?_; try simp only [Act.put, List.setIfInBounds_toArray, List.set_cons_zero, List.set_cons_succ]) | (refine T_nil (by rfl) (by rfl) (fun _ _ _ _ h => h) rfl rfl ?_; try simp only [Act.put, List.setIfInBounds_toArray, List.set_cons_zero, List.set_cons_succ]) | (refine T_quietN (by rfl) (by rfl) (by rfl) (by rfl) (fun _ _ _ _ h => h) (fun K hK => ?_); go_big_quiet_op; refine hK _ ?_; clear hK K) | (refine T_two (by rfl) (by rfl) (by rfl) (by rfl) (fun _ _ _ _ h => h) (fun K hK => ?_); go_big_quiet_op; refine ⟨_, fun _ _ => rfl, ?_⟩; refine hK _ ?_; clear hK K; try simp only [Act.put, List.setIfInBounds_toArray, List.set_cons_zero, List.set_cons_succ]) | fail)
      refine T_call (by rfl) (by rfl) (fun K hK => ?_)
      refine wp_buildOne so_chr (by decide) [.int .i64 oop, .bool gone, .int .i64 ob.cls, .slice Av ob.slots.length nn, .slice D ob.bytes.length mm] rfl rfl rfl ?_
      (refine hK.out _ _ (((Fr.refl _ _).alloc _)) ?_; clear hK K; try simp only [Act.put, List.setIfInBounds_toArray, List.set_cons_zero, List.set_cons_succ])
      refine T_call (by rfl) (by rfl) (fun K hK => ?_)
      refine wp_app_at so_chr (own_fr0 hown (hf03.alloc (.cells ([.int .i64 oop, .bool gone, .int .i64 ob.cls, .slice Av ob.slots.length nn, .slice D ob.bytes.length mm]).toArray 67))) ((Blk.new _ _ _).rd (size := 5) (n := 1) (by rfl) (by decide)) (one5 rfl rfl rfl rfl rfl) (by omega) (by simp; omega) rfl rfl rfl ?_
      intro v5 w5 hown5 hg5 hat5
      refine hK.out _ _ ((Fr.refl _ _).grown hg5 (fun q hq => .inr hq)) ?_
      clear hK K
      try simp only [Act.put, List.setIfInBounds_toArray, List.set_cons_zero, List.set_cons_succ]
      have hfA5 : Fr No wr (w3.alloc (.cells ([.int .i64 oop, .bool gone, .int .i64 ob.cls, .slice Av ob.slots.length nn, .slice D ob.bytes.length mm]).toArray 67)) := hf03.alloc _
      have hb5 := (hb.fr0 hfA5).grown hg5 (fun hh => hSH hh.symm)
      obtain ⟨A3, c3, rfl, hc3, hc3m, hA3⟩ := own_form hown5
      (have z0 := hb5.cell 0; have z1 := hb5.cell 1; have zf0 := hb5.frozen 0; have zf1 := hb5.frozen 1; simp only [List.getElem?_toArray, List.getElem?_cons_zero, List.getElem?_cons_succ] at z0 z1)
      repeat (first | (refine T_skip (by rfl) (by rfl) (fun _ _ _ h => h) ?_; try simp only [Act.put, List.setIfInBounds_toArray, List.set_cons_zero, List.set_cons_succ]) | (refine T_pass (by rfl) (by rfl) ?_; try simp only [Act.put, List.setIfInBounds_toArray, List.set_cons_zero, List.set_cons_succ]) | (refine T_load (by assumption) (by rfl) (by rfl) (fun _ _ _ _ h => h) rfl rfl (by assumption) (by first | exact (fun hn => hn) | assumption) ?_; try simp only [Act.put, List.setIfInBounds_toArray, List.set_cons_zero, List.set_cons_succ]) | (refine T_nil (by rfl) (by rfl) (fun _ _ _ _ h => h) rfl rfl ?_; try simp only [Act.put, List.setIfInBounds_toArray, List.set_cons_zero, List.set_cons_succ]) | (refine T_quietN (by rfl) (by rfl) (by rfl) (by rfl) (fun _ _ _ _ h => h) (fun K hK => ?_); go_big_quiet_op; refine hK _ ?_; clear hK K) | (refine T_two (by rfl) (by rfl) (by rfl) (by rfl) (fun _ _ _ _ h => h) (fun K hK => ?_); go_big_quiet_op; refine ⟨_, fun _ _ => rfl, ?_⟩; refine hK _ ?_; clear hK K; try simp only [Act.put, List.setIfInBounds_toArray, List.set_cons_zero, List.set_cons_succ]) | fail)
      refine T_turn No [] (by rfl) (by rfl) (by rfl) (fun K hK => ?_)
      go_wp2_with fail
      refine hK.out _ _ ?_
      clear hK K
      refine T_done ?_
      have hfS : Fr (fun b => b = w.heap.size + 1 + 1) w5 (w5.setCell ⟨w.heap.size + 1 + 1, 1, none⟩ (.slice A3 (k + 1) c3)) := (Fr.refl _ w5).set1 1 _
      have hgF : Fr (fun b => (Value.slice A k c).ownBlock = some b) (w3.alloc (.cells ([.int .i64 oop, .bool gone, .int .i64 ob.cls, .slice Av ob.slots.length nn, .slice D ob.bytes.length mm]).toArray 67)) w5 := (Fr.refl _ _).grown hg5 (fun q hq => .inr hq)
      go_wp2_with fail
      go_roundw
      case rel =>
        refine ⟨k + 1, A3, c3, xs ++ [.int .i64 oop, .bool gone, .int .i64 ob.cls, .slice Av ob.slots.length nn, .slice D ob.bytes.length mm], by omega, by go_num, hb5.put 1 _, own_fr hown5 hfS (fun b hb hT => by have := (hown5.lt _ hb).1; omega), ?_, ?_⟩
        · rw [HT.out]
          have h8 := ChsC.snoc (show ChC wr S [.int .i64 oop, .bool gone, .int .i64 ob.cls, .slice Av ob.slots.length nn, .slice D ob.bytes.length mm] ⟨oop, gone, ob⟩ from ⟨Av, nn, D, mm, rfl, hsl, hby'⟩) hxs
          exact ((h8.keep hfA5 (fun _ _ hn => hn)).keep hgF (fun b hb hT => by have := (HOL.out b hT).1; have := hS b hb; omega)).keep hfS (fun b hb hT => by have := hS b hb; omega)
        · exact (((hf.trans (hfA5.mono (fun _ _ hn => hn.elim)) (fun b _ h => h)).grown hg5 (fun q hq => .inr (by have := (HOL.out q hq).1; omega)))).set (.inr (Nat.le_refl _)) _
      case measure => simp [intOf]; omega
    · obtain rfl : k = chs.length := by omega
      have ek : decide ((chs.length : Int) < chs.length) = false := by simp
      rw [List.take_length] at hxs
      have hcs := hb.all
      go_wp2_with (first
        | (refine wpList_ldA ag_recr rfl _ rfl ⟨w.heap.size + 1 + 1, 0, none⟩ [.int .i64 com, .slice A chs.length c] rfl rfl hcs ?_)
        | (refine wpList_stA ag_recr.info rfl _ _ rfl (w.heap.size + 1) 0 _ _ [.int .i64 com, .slice A chs.length c] _ rfl rfl rfl rfl (by intro u hu; simp at hu; rcases hu with rfl | rfl <;> rfl) hbR (by decide) ?_; intro w5 hb5 hg5 hz5)
        | fail)
      rw [splice_all _ _ (by rfl)] at hb5
      have hf5 : Fr (fun b => b = w.heap.size + 1) wr w5 := (Fr.refl _ wr).grown hg5 (fun q hq => by injection hq with hq; exact .inr hq.symm)
      obtain ⟨_, _, e9, _, _, hDl⟩ := own_form hown
      injection e9 with e91 e92 e93
      subst e91 e93
      refine bodyPost_ret (results_blk ag_recr rfl _ _ _ _ _ rfl hb5 rfl) rfl ⟨_, rfl, ⟨A, c, rfl, xs, ?_, ?_⟩, hfW.trans hf5 (fun b hb hT => by omega)⟩
      · exact Rd.mono (Rd.fr (own_rd hown (by omega)) hf5 (fun b hb hT => by have := (hown.lt b ((hDl b).2 hb)).1; omega)) (fun b _ hb => by have := (hown.lt b ((hDl b).2 hb)).1; exact .inr (by omega)) (by decide)
      · exact (hxs.keep hf5 (fun b hb hT => by have := hS b hb; omega)).mono (fun b _ hb => .inl hb)

set_option maxHeartbeats 4000000 in
set_option maxRecDepth 100000 in
theorem samer_calls (S T : Nat → Prop) (cs cs2 : List Value) (r : RecM) (w : World) (h : RecC w S cs r) (h2 : RecC w T cs2 r) :
    Calls Try.prog 18 #[.agg cs.toArray, .agg cs2.toArray] w fun e w' => e = .returned (.bool true) ∧ Fr No w w' := by
  obtain ⟨com, chs⟩ := r
  obtain ⟨A, c, rfl, hch⟩ := h
  obtain ⟨A2, c2, rfl, hch2⟩ := h2
  simp only at hch hch2
  have g1 := plain_i64
  have g2 := plain_lchr
  have g4 := plain_bool
  have g5 := plain_lval
  have g6 := plain_lu8
  have hle := hch.le
  have hf1 : Fr No w ((w.alloc (.cells #[.int .i64 com, .slice A chs.length c] 33)).alloc (.cells #[.int .i64 com, .slice A2 chs.length c2] 33)) := ((Fr.refl No w).alloc _).alloc _
  have hbx : Blk ((w.alloc (.cells #[.int .i64 com, .slice A chs.length c] 33)).alloc (.cells #[.int .i64 com, .slice A2 chs.length c2] 33)) w.heap.size 33 #[.int .i64 com, .slice A chs.length c] := (Blk.new w _ _).alloc _
  have hby : Blk ((w.alloc (.cells #[.int .i64 com, .slice A chs.length c] 33)).alloc (.cells #[.int .i64 com, .slice A2 chs.length c2] 33)) (w.heap.size + 1) 33 #[.int .i64 com, .slice A2 chs.length c2] := Blk.newAt (by simp)
  go_enter Try.func18, Try.ntmps18
  go_upto_region 1 with fail
  generalize hw1 : (w.alloc (.cells #[.int .i64 com, .slice A chs.length c] 33)).alloc (.cells #[.int .i64 com, .slice A2 chs.length c2] 33) = w1 at *
  clear hw1
  (have p0 := hbx.cell 0; have p1 := hbx.cell 1; have pf0 := hbx.frozen 0; have pf1 := hbx.frozen 1; simp only [List.getElem?_toArray, List.getElem?_cons_zero, List.getElem?_cons_succ] at p0 p1)
  (have q0 := hby.cell 0; have q1 := hby.cell 1; have qf0 := hby.frozen 0; have qf1 := hby.frozen 1; simp only [List.getElem?_toArray, List.getElem?_cons_zero, List.getElem?_cons_succ] at q0 q1)
  go_wp2_with fail
  go_loopw [5] (fun i wr => ∃ k : Nat, k ≤ chs.length ∧ i = .int .i64 (k : Int) ∧ Fr No w1 wr) (fun i _ => chs.length - (intOf i).toNat)
  case atStart => exact ⟨0, by omega, rfl, Fr.refl _ _⟩
  case round =>
    obtain ⟨k, hk, rfl, hf⟩ := hrel
    have hbxr := hbx.fr0 hf
    have hbyr := hby.fr0 hf
    clear p0 p1 pf0 pf1 q0 q1 qf0 qf1
    (have p0 := hbxr.cell 0; have p1 := hbxr.cell 1; have pf0 := hbxr.frozen 0; have pf1 := hbxr.frozen 1; simp only [List.getElem?_toArray, List.getElem?_cons_zero, List.getElem?_cons_succ] at p0 p1)
    (have q0 := hbyr.cell 0; have q1 := hbyr.cell 1; have qf0 := hbyr.frozen 0; have qf1 := hbyr.frozen 1; simp only [List.getElem?_toArray, List.getElem?_cons_zero, List.getElem?_cons_succ] at q0 q1)
    by_cases hlt : k < chs.length
    · have ek : decide ((k : Int) < chs.length) = true := by simpa using (by omega : (k : Int) < chs.length)
      obtain ⟨ga, of, Av, nn, D, mm, rfl, _, hcell, hsl, hbb⟩ := (hch.fr0 (hf1.tr hf)).at_ hlt
      obtain ⟨gb, og, Bv, n2, E, m2, rfl, _, hcell2, hsl2, hbb2⟩ := (hch2.fr0 (hf1.tr hf)).at_ hlt
      generalize chs[k] = x at *
      obtain ⟨oop, gone, ob⟩ := x
      simp only at hcell hsl hbb hcell2 hsl2 hbb2
      have hall := addr5 _ _ _ hcell
      have hall2 := addr5 _ _ _ hcell2
      have hall2A : ∀ j u, [.int .i64 oop, .bool gone, .int .i64 ob.cls, .slice Bv ob.slots.length n2, .slice E ob.bytes.length m2][j]? = some u → (wr.alloc (.cells #[.int .i64 oop, .bool gone, .int .i64 ob.cls, .slice Av ob.slots.length nn, .slice D ob.bytes.length mm] 67)).cell? ((⟨gb, og + k * 5, none⟩ : Addr).add j) = some u := fun j u hu => ((Fr.refl No wr).alloc _).cell_some (hall2 j u hu) (fun hn => hn)
      clear hcell hcell2
      have hfA : Fr No wr ((wr.alloc (.cells #[.int .i64 oop, .bool gone, .int .i64 ob.cls, .slice Av ob.slots.length nn, .slice D ob.bytes.length mm] 67)).alloc (.cells #[.int .i64 oop, .bool gone, .int .i64 ob.cls, .slice Bv ob.slots.length n2, .slice E ob.bytes.length m2] 67)) := ((Fr.refl No wr).alloc _).alloc _
      have hn1 : Blk ((wr.alloc (.cells #[.int .i64 oop, .bool gone, .int .i64 ob.cls, .slice Av ob.slots.length nn, .slice D ob.bytes.length mm] 67)).alloc (.cells #[.int .i64 oop, .bool gone, .int .i64 ob.cls, .slice Bv ob.slots.length n2, .slice E ob.bytes.length m2] 67)) wr.heap.size 67 #[.int .i64 oop, .bool gone, .int .i64 ob.cls, .slice Av ob.slots.length nn, .slice D ob.bytes.length mm] := (Blk.new wr _ _).alloc _
      have hn2 : Blk ((wr.alloc (.cells #[.int .i64 oop, .bool gone, .int .i64 ob.cls, .slice Av ob.slots.length nn, .slice D ob.bytes.length mm] 67)).alloc (.cells #[.int .i64 oop, .bool gone, .int .i64 ob.cls, .slice Bv ob.slots.length n2, .slice E ob.bytes.length m2] 67)) (wr.heap.size + 1) 67 #[.int .i64 oop, .bool gone, .int .i64 ob.cls, .slice Bv ob.slots.length n2, .slice E ob.bytes.length m2] := Blk.newAt (by simp)
      have hbyA := hbyr.alloc (.cells #[.int .i64 oop, .bool gone, .int .i64 ob.cls, .slice Av ob.slots.length nn, .slice D ob.bytes.length mm] 67)
      (have t0 := hbyA.cell 0; have t1 := hbyA.cell 1; have tf0 := hbyA.frozen 0; have tf1 := hbyA.frozen 1; simp only [List.getElem?_toArray, List.getElem?_cons_zero, List.getElem?_cons_succ] at t0 t1)
      go_upto_region 8 with (first
        | (refine wpList_ldA ag_chr rfl _ rfl ⟨ga, of + k * 5, none⟩ [.int .i64 oop, .bool gone, .int .i64 ob.cls, .slice Av ob.slots.length nn, .slice D ob.bytes.length mm] rfl rfl hall ?_)
        | (refine wpList_ldA ag_chr rfl _ rfl ⟨gb, og + k * 5, none⟩ [.int .i64 oop, .bool gone, .int .i64 ob.cls, .slice Bv ob.slots.length n2, .slice E ob.bytes.length m2] rfl rfl hall2A ?_)
        | fail)
      have hoc : ObjC _ S _ ob := ObjC.fr0 ⟨Av, nn, D, mm, rfl, hsl, hbb⟩ hfA
      have hoc2 : ObjC _ T _ ob := ObjC.fr0 ⟨Bv, n2, E, m2, rfl, hsl2, hbb2⟩ hfA
      generalize hwA : (wr.alloc (.cells #[.int .i64 oop, .bool gone, .int .i64 ob.cls, .slice Av ob.slots.length nn, .slice D ob.bytes.length mm] 67)).alloc (.cells #[.int .i64 oop, .bool gone, .int .i64 ob.cls, .slice Bv ob.slots.length n2, .slice E ob.bytes.length m2] 67) = wA at *
      clear hwA t0 t1 tf0 tf1 p0 p1 pf0 pf1 q0 q1 qf0 qf1 hall2A
      (have y0 := hn1.cell 0; have y1 := hn1.cell 1; have y2 := hn1.cell 2; have y3 := hn1.cell 3; have y4 := hn1.cell 4; have yf0 := hn1.frozen 0; have yf1 := hn1.frozen 1; have yf2 := hn1.frozen 2; have yf3 := hn1.frozen 3; have yf4 := hn1.frozen 4; simp only [List.getElem?_toArray, List.getElem?_cons_zero, List.getElem?_cons_succ] at y0 y1 y2 y3 y4)
      (have z0 := hn2.cell 0; have z1 := hn2.cell 1; have z2 := hn2.cell 2; have z3 := hn2.cell 3; have z4 := hn2.cell 4; have zf0 := hn2.frozen 0; have zf1 := hn2.frozen 1; have zf2 := hn2.frozen 2; have zf3 := hn2.frozen 3; have zf4 := hn2.frozen 4; simp only [List.getElem?_toArray, List.getElem?_cons_zero, List.getElem?_cons_succ] at z0 z1 z2 z3 z4)
      go_wp2_with fail
      refine (refsame_calls S T _ _ ob ob _ hoc hoc2).mono ?_
      rw [sameO_self]
      rintro e w4 ⟨rfl, hf4⟩
      go_wp2
      go_roundw
      case rel => exact ⟨k + 1, by omega, by go_num, hf.tr (hfA.tr hf4)⟩
      case measure => simp [intOf]; omega
    · obtain rfl : k = chs.length := by omega
      have ek : decide ((chs.length : Int) < chs.length) = false := by simp
      go_wp2
      go_ret
      exact ⟨rfl, hf1.tr hf⟩
end Go.Proofs.Ytifcnjebepipnaa
namespace Go.Proofs.Ytifcnjebepipnaa
set_option linter.unusedVariables false
set_option linter.unusedSimpArgs false
open Go.RowKit

theorem take_eq_succ {a b : List Int} {k : Nat} (h : a.take k = b.take k) (h1 : k < a.length) (h2 : k < b.length) (e : a[k] = b[k]) : a.take (k + 1) = b.take (k + 1) := by
  rw [← List.take_append_getElem h1, ← List.take_append_getElem h2, h, e]
set_option maxHeartbeats 1000000 in
theorem isame_calls (S T : Nat → Prop) (A D : Option Addr) (c d : Nat) (a b : List Int) (w : World) (h : RdI w S A a) (h2 : RdI w T D b) :
    Calls Try.prog 15 #[.slice A a.length c, .slice D b.length d] w fun e w' => e = .returned (.bool (decide (a = b))) ∧ Fr No w w' := by
  have hle := h.le
  have hle2 := h2.le
  have g1 := plain_i64
  by_cases hab : a.length = b.length
  · have HAB := Lib.hid hab
    have el : ((b.length : Int) == b.length) = true := by simp
    go_enter Try.func15, Try.ntmps15
    rw [hab]
    rw [hab] at hle
    clear hab
    go_wp2
    go_loopw [5] (fun i wr => ∃ k : Nat, k ≤ b.length ∧ i = .int .i64 (k : Int) ∧ Hid (a.take k = b.take k) ∧ Fr No w wr) (fun i _ => b.length - (intOf i).toNat)
    case atStart => exact ⟨0, by omega, rfl, Lib.hid (by simp), Fr.refl _ _⟩
    case round =>
      obtain ⟨k, hk, rfl, HK, hf⟩ := hrel
      by_cases hlt : k < b.length
      · have ek : decide ((k : Int) < b.length) = true := by simpa using (by omega : (k : Int) < b.length)
        have hka : k < a.length := by have := HAB.out; omega
        obtain ⟨ad, rfl, _, hc1⟩ := (h.fr0 hf).at_ hka
        obtain ⟨ae, rfl, _, hc2⟩ := (h2.fr0 hf).at_ hlt
        have HS := Lib.hid (take_eq_succ HK.out hka hlt)
        have HN := Lib.hid (show ¬ a[k] = b[k] → decide (a = b) = false from fun hne => by
          simp only [decide_eq_false_iff_not]
          rintro rfl
          exact hne rfl)
        generalize a[k] = x at *
        generalize b[k] = y at *
        go_wp2_with fail
        (refine T_begin No [0, 1, 2, 3, 4, 5, 6, 7, 8] [] (by kernel_rfl) (by kernel_rfl) ?_; simp only [pickOps, List.filterMap_cons, List.filterMap_nil, List.getElem?_cons_zero, List.getElem?_cons_succ, Act.put])
        repeat (first | (refine T_skip (by rfl) (by rfl) (fun _ _ _ h => h) ?_; try simp only [Act.put, List.setIfInBounds_toArray, List.set_cons_zero, List.set_cons_succ]) | (refine T_pass (by rfl) (by rfl) ?_; try simp only [Act.put, List.setIfInBounds_toArray, List.set_cons_zero, List.set_cons_succ]) | (refine T_load (by assumption) (by rfl) (by rfl) (fun _ _ _ _ h => h) rfl rfl (by assumption) (by first | exact (fun hn => hn) | assumption) ?_; try simp only [Act.put, List.setIfInBounds_toArray, List.set_cons_zero, List.set_cons_succ]) | (refine T_nil (by rfl) (by rfl) (fun _ _ _ _ h => h) rfl rfl ?_; try simp only [Act.put, List.setIfInBounds_toArray, List.set_cons_zero, List.set_cons_succ]) | (refine T_quietN (by rfl) (by rfl) (by rfl) (by rfl) (fun _ _ _ _ h => h) (fun K hK => ?_); go_big_quiet_op; refine hK _ ?_; clear hK K) | (refine T_two (by rfl) (by rfl) (by rfl) (by rfl) (fun _ _ _ _ h => h) (fun K hK => ?_); go_big_quiet_op; refine ⟨_, fun _ _ => rfl, ?_⟩; refine hK _ ?_; clear hK K; try simp only [Act.put, List.setIfInBounds_toArray, List.set_cons_zero, List.set_cons_succ]) | fail)
        refine T_done ?_
        by_cases hxy : x = y
        · have HS' := Lib.hid (HS.out hxy)
          subst hxy
          go_wp2
          go_roundw
          case rel => exact ⟨k + 1, by omega, by go_num, HS', hf.drew⟩
          case measure => simp [intOf]; omega
        · have e1 : (x == y) = false := by simpa using hxy
          have HN' := Lib.hid (HN.out hxy)
          clear hxy
          go_wp2
          go_ret
          exact ⟨by rw [HN'.out]; rfl, hf.drew⟩
      · obtain rfl : k = b.length := by omega
        have ek : decide ((b.length : Int) < b.length) = false := by simp
        have HE : Hid (decide (a = b) = true) := Lib.hid (by
          have := HK.out
          rw [List.take_length, ← HAB.out, List.take_length] at this
          simpa using this)
        go_wp2
        go_ret
        exact ⟨by rw [HE.out]; rfl, hf⟩
  · have el : ((a.length : Int) == (b.length : Int)) = false := by simp; omega
    have HE : Hid (decide (a = b) = false) := Lib.hid (by simp only [decide_eq_false_iff_not]; rintro rfl; exact hab rfl)
    clear hab
    go_enter Try.func15, Try.ntmps15
    go_wp2
    go_ret
    exact ⟨by rw [HE.out]; rfl, Fr.refl _ _⟩
theorem isame_self (S T : Nat → Prop) (A D : Option Addr) (c d : Nat) (a : List Int) (w : World) (h : RdI w S A a) (h2 : RdI w T D a) :
    Calls Try.prog 15 #[.slice A a.length c, .slice D a.length d] w fun e w' => e = .returned (.bool true) ∧ Fr No w w' := by
  refine (isame_calls S T A D c d a a w h h2).mono ?_
  rintro e w' ⟨rfl, hf⟩
  exact ⟨by simp, hf⟩
end Go.Proofs.Ytifcnjebepipnaa
namespace Go.Proofs.Ytifcnjebepipnaa
set_option linter.unusedVariables false
set_option linter.unusedSimpArgs false
open Go.RowKit

theorem ApplyR_def (w : World) (T O : Nat → Prop) (p : Nat) (t : TabM) (r : RecM) : ApplyR w T O p t r = fun e w' => e = .returned (.int .i64 (applyM t r).2) ∧ ∃ T' O', TabAt w' T' O' p (applyM t r).1 ∧ (∀ b, T' b → T b ∨ w.heap.size ≤ b) ∧ (∀ b, O' b → O b ∨ w.heap.size ≤ b) ∧ Fr T w w' := rfl
set_option maxHeartbeats 8000000 in
set_option maxRecDepth 100000 in
theorem law_TableAll (W : World) (a0 : Option Addr) (cap0 : Nat) (l : List RecM) (hl : RdRec W (fun b => b < W.heap.size) a0 l) (ok : ∀ r ∈ l, RecOk r) (xo : Int) (wo : (Lit.int .i64 xo).wf = true) :
    Calls Try.prog 4 #[.slice a0 l.length cap0, .int .i64 xo] W fun e w' => e = .returned (.bool true) ∧ Fr No W w' := by
  have hll := hl.le
  have HOKL := Lib.hid ok
  clear ok
  go_enter Try.func4, Try.ntmps4
  go_wp2_with fail
  refine (tnew_calls W).mono ?_
  rintro e w1 ⟨p, rfl, hT1, hf1⟩
  go_wp2_with fail
  refine (tnew_calls w1).mono ?_
  rintro e w2 ⟨q, rfl, hT2, hf2⟩
  have hT1 := hT1.fr0 hf2
  have hF2 := hf1.tr hf2
  have hz1 := hf1.size
  have hz2 := hf2.size
  generalize hTT : (fun b => W.heap.size ≤ b ∧ b < w1.heap.size) = T1 at *
  have hTd1 : ∀ b, T1 b → W.heap.size ≤ b := fun b hb => by rw [← hTT] at hb; exact hb.1
  have hTu1 : ∀ b, T1 b → b < w1.heap.size := fun b hb => by rw [← hTT] at hb; exact hb.2
  clear hTT
  generalize hTT : (fun b => w1.heap.size ≤ b ∧ b < w2.heap.size) = T2 at *
  have hTd2 : ∀ b, T2 b → w1.heap.size ≤ b ∧ b < w2.heap.size := fun b hb => by rw [← hTT] at hb; exact hb
  clear hTT
  go_upto_block 0 with fail
  go_cut [7] (fun s13 wx => ∃ (T' O' : Nat → Prop), TabAt wx T' O' p (applyAll tab0 (l.take 20)) ∧ (∀ b, T' b → T1 b ∨ w2.heap.size ≤ b) ∧ (∀ b, O' b → No b ∨ w2.heap.size ≤ b) ∧ Fr T1 w2 wx)
  case first =>
    go_wp2_with fail
    go_loopw [7] (fun i wr => ∃ (k : Nat) (T' O' : Nat → Prop), k ≤ l.length ∧ k ≤ 20 ∧ i = .int .i64 (k : Int) ∧ TabAt wr T' O' p (applyAll tab0 (l.take k)) ∧ (∀ b, T' b → T1 b ∨ w2.heap.size ≤ b) ∧ (∀ b, O' b → No b ∨ w2.heap.size ≤ b) ∧ Fr T1 w2 wr) (fun i _ => l.length - (intOf i).toNat)
    case atStart => exact ⟨0, T1, No, by omega, by omega, rfl, hT1, fun b hb => .inl hb, fun b hb => .inl hb, Fr.refl _ _⟩
    case round =>
      obtain ⟨k, T', O', hk, hk2, rfl, hT, hTd, hOd, hf⟩ := hrel
      have hFW : Fr No W wr := hF2.trans hf (fun b hb hT => by have := hTd1 b hT; omega)
      by_cases hlt : k < l.length
      · have ek : decide ((k : Int) < l.length) = true := by simpa using (by omega : (k : Int) < l.length)
        by_cases h20 : k < 20
        · have ek2 : decide ((k : Int) < 20) = true := by simpa using (by omega : (k : Int) < 20)
          have hok := HOKL.out _ (List.getElem_mem hlt)
          obtain ⟨g, o, cs, rfl, hcs, hcell, hcl⟩ := (hl.fr0 hFW).at_ hlt
          have HT := Lib.hid (show applyAll tab0 (l.take (k + 1)) = (applyM (applyAll tab0 (l.take k)) l[k]).1 by rw [take_snocR l k hlt, applyAll_snoc])
          have hnk := applyAll_n (l.take k) tab0
          have hn0 : tab0.n ≤ 81920 := (Nat.zero_le _)
          have hlk : (l.take k).length ≤ k := by rw [List.length_take]; omega
          generalize l[k] = r at *
          generalize applyAll tab0 (l.take k) = tk at *
          have hzr := hf.size
          have hzF := hF2.size
          go_wp2_with (first
            | (refine wpList_ldA ag_recr rfl _ rfl ⟨g, o + k * 2, none⟩ cs rfl hcl hcell ?_)
            | fail)
          refine (given11_calls (fun b => b < W.heap.size) cs r _ hcs hok).mono ?_
          rintro e w3 ⟨cs3, rfl, hr3, hf3⟩
          have hT3 := hT.fr0 hf3
          have hTl := hT.lt
          have hz3 := hf3.size
          go_wp2_with fail
          refine (tapply_calls w3 T' O' _ p tk cs3 r hT3 hr3 (fun b hb hTb => by have := hTl.1 b hTb; omega) (by omega)).mono ?_
          rintro e w4 ⟨rfl, T4, O4, hT4, hq4, ho4, hf4⟩
          go_wp2_with fail
          go_roundw
          case rel =>
            refine ⟨k + 1, T4, O4, by omega, by omega, by go_num, by rw [HT.out]; exact hT4, fun b hb => ?_, fun b hb => ?_, (hf.trans hf3 (fun _ _ hn => hn.elim)).trans hf4 (fun b hb hT => ?_)⟩
            · rcases hq4 b hb with h | h
              · exact hTd b h
              · exact .inr (by omega)
            · rcases ho4 b hb with h | h
              · exact hOd b h
              · exact .inr (by omega)
            · rcases hTd b hT with h | h
              · exact h
              · omega
          case measure => simp [intOf]; omega
        · have ek2 : decide ((k : Int) < 20) = false := by simp; omega
          obtain rfl : k = 20 := by omega
          go_wp2_with fail
          go_meet
          case rel => exact ⟨T', O', hT, hTd, hOd, hf⟩
      · obtain rfl : k = l.length := by omega
        have ek : decide ((l.length : Int) < l.length) = false := by simp
        have hTk : TabAt wr T' O' p (applyAll tab0 (l.take 20)) := by
          rw [List.take_of_length_le (by omega)]
          rw [List.take_length] at hT
          exact hT
        go_wp2_with fail
        go_meet
        case rel => exact ⟨T', O', hTk, hTd, hOd, hf⟩
  case rest =>
    obtain ⟨Ta, Oa, hTa, hqa, hoa, hfa⟩ := hcut
    obtain ⟨wa, hwa⟩ : ∃ wa, wa = wc := ⟨_, rfl⟩
    subst hwa
    have hna : (applyAll tab0 (l.take 20)).n ≤ 81920 := by
      have h1 := applyAll_n (l.take 20) tab0
      have h2 : (l.take 20).length ≤ 20 := by rw [List.length_take]; omega
      have h3 : tab0.n = 0 := rfl
      omega
    have hoka : TabOk (applyAll tab0 (l.take 20)) := applyAll_ok _ _ tab0_ok0
    have hgood : TabGood (applyAll tab0 (l.take 20)) := applyAll_good _ _ good0
    generalize applyAll tab0 (l.take 20) = t at *
    have hFa : Fr No W wa := hF2.trans hfa (fun b hb hT => by have := hTd1 b hT; omega)
    have hUa : TabAt wa T2 No q tab0 := hT2.fr hfa (fun b hb hT => by have := hTd2 b hb; have := hTu1 b hT; omega) (fun _ hn => hn.elim)
    have hdis : ∀ b, Ta b → ¬ T2 b := fun b hb h2 => by
      have := hTd2 b h2
      rcases hqa b hb with h | h
      · have := hTu1 b h; omega
      · omega
    have hdiso : ∀ b, Oa b → ¬ T2 b := fun b hb h2 => by
      have := hTd2 b h2
      rcases hoa b hb with h | h
      · exact h.elim
      · omega
    have hza := hfa.size
    have hzW := hFa.size
    clear hT1 hT2 hfa hqa hoa
    obtain ⟨mb, wb0, hbk⟩ := hTa.blk
    go_wp2_with fail
    refine (tlast_calls wa p t.first t.last _ _ hbk).mono ?_
    rintro e w2x ⟨rfl, hw2⟩
    have hw2 := hw2.symm
    subst hw2

    by_cases h0 : t.last = 0
    · have e0 : (t.last == 0) = true := by simpa using h0
      go_wp2_with fail
      refine (tallr_calls wa Ta Oa p t hTa hoka hgood (by omega)).mono ?_
      rintro e w3 ⟨cs3, ks, rfl, hO, hr, hf3⟩
      obtain rfl := oops_zero hgood hO h0
      obtain ⟨A3, c3, rfl, hch⟩ := hr
      have hfld : ∀ w, (Instr.field 29 (.agg #[.int .i64 t.last, .slice A3 0 c3]) 1).run Try.prog w = .ok (.slice A3 0 c3) w := by intro w; kernel_rfl
      have elen : (allM t []).chs.length = 0 := rfl
      have ecom : (allM t []).commit = t.last := rfl
      simp only [elen, ecom]
      clear h0 hch hO
      go_wp2_with fail
      refine (known11_calls _).mono ?_
      rintro e wz ⟨rfl, hfz⟩
      go_wp2
      go_ret
      exact ⟨rfl, (hFa.tr hf3).tr hfz⟩
    · have e0 : (t.last == 0) = false := by simpa using h0
      have h1 : 1 ≤ t.last := by have := hgood.2.1; omega
      clear h0
      go_wp2_with fail
      refine (tallr_calls wa Ta Oa p t hTa hoka hgood (by omega)).mono ?_
      rintro e w3 ⟨cs3, ks, rfl, hO, hr, hf3⟩
      go_wp2_with fail
      refine (tapply_calls w3 T2 No _ q tab0 cs3 (allM t ks) (hUa.fr0 hf3) hr (fun b hb h2 => by have := hTd2 b h2; omega) (by decide)).mono ?_
      obtain ⟨eu, hU⟩ := all_again hgood hO h1
      rw [ApplyR_def, eu]
      rintro e w4 ⟨rfl, Tu, Ou, hTu, hqu, hou, hf4⟩
      generalize (applyM tab0 (allM t ks)).1 = u at *
      obtain ⟨ul, hoku, hnu, huat, huo, hual, hgu⟩ := hU
      have HAT := Lib.hid (huat xo wo)
      have HO := Lib.hid hO
      have HUO := Lib.hid huo
      have HUA := Lib.hid hual
      have HRO := Lib.hid (allM_ok hgood hoka hO)
      clear eu huat hO huo hual h1
      have hF4 : Fr No W w4 := (hFa.tr hf3).trans hf4 (fun b hb h2 => by have := hTd2 b h2; omega)
      have hTb := (hTa.fr0 hf3).fr hf4 hdis hdiso
      have hbk := (hbk.fr0 hf3).fr hf4 (fun h2 => hdis _ hTa.lt.2.2 h2)
      obtain ⟨mu, wu0, hbu⟩ := hTu.blk
      rw [ul] at hbu
      clear hTa hUa hf3 hr hf4 hqu hou hFa
      have ebl : (t.last != t.last) = false := by simp
      go_wp2_with fail
      refine (tlast_calls w4 q u.first t.last _ _ hbu).mono ?_
      rintro e w2x ⟨rfl, hw2⟩
      have hw2 := hw2.symm
      subst hw2
      go_wp2_with fail
      refine (tlast_calls w4 p t.first t.last _ _ hbk).mono ?_
      rintro e w2x ⟨rfl, hw2⟩
      have hw2 := hw2.symm
      subst hw2
      go_wp2_with fail
      refine (tlast_calls w4 p t.first t.last _ _ hbk).mono ?_
      rintro e w2x ⟨rfl, hw2⟩
      have hw2 := hw2.symm
      subst hw2

      obtain ⟨R4, hR4⟩ : ∃ R4, R4 = atM t t.last xo := ⟨_, rfl⟩
      have hsm := atM_small0 hoka t.last xo
      rw [← hR4] at hsm
      have HR4 := Lib.hid hR4
      clear hR4
      go_wp2_with fail
      refine (tat_calls w4 Ta Oa p t t.last xo hTb hoka (by omega) wo).mono ?_
      rw [← HR4.out]
      rintro e w5 ⟨cs4, rfl, hown4, hf5⟩
      obtain ⟨A4, c4, D4, d4, rfl⟩ := hown4.lit6
      have hf56 : Fr No w5 (w5.alloc (.cells #[.int .i64 R4.1.cls, .slice A4 R4.1.slots.length c4, .slice D4 R4.1.bytes.length d4] tObj)) := (Fr.refl No w5).alloc _
      have hb5 := Blk.new w5 tObj #[.int .i64 R4.1.cls, .slice A4 R4.1.slots.length c4, .slice D4 R4.1.bytes.length d4]
      have hz5 := hf5.size
      have hz6 := hf56.size
      have hown5 := hown4.fr hf56 (fun _ _ hn => hn)
      have hg6 := hf5.tr hf56
      have hbu6 := hbu.fr0 hg6
      go_wp2_with fail
      refine (tlast_calls _ q u.first t.last _ _ hbu6).mono ?_
      rintro e w2x ⟨rfl, hw2⟩
      have hw2 := hw2.symm
      subst hw2
      go_wp2_with fail
      refine (tat_calls _ Tu Ou q u t.last xo (hTu.fr0 hg6) hoku (by omega) wo).mono ?_
      rw [HAT.out, ← HR4.out]
      rintro e wA ⟨csA, rfl, hownA, hfA⟩
      obtain ⟨AA, cA, DA, dA, rfl⟩ := hownA.lit6
      have hfAB : Fr No wA (wA.alloc (.cells #[.int .i64 R4.1.cls, .slice AA R4.1.slots.length cA, .slice DA R4.1.bytes.length dA] tObj)) := (Fr.refl No wA).alloc _
      have hbB := Blk.new wA tObj #[.int .i64 R4.1.cls, .slice AA R4.1.slots.length cA, .slice DA R4.1.bytes.length dA]
      have hownB := hownA.fr hfAB (fun _ _ hn => hn)
      have hgB := hfA.tr hfAB
      have hb5 := hb5.fr0 hgB
      have hown5 := hown5.fr hgB (fun _ _ hn => hn)
      have HSO := Lib.hid (sameO_self R4.1)
      have ebe : (R4.2 == R4.2) = true := by simp
      have k1 := hb5.all
      have k2 := hbB.all
      have hc1 := (hown5.rd (by omega) (by omega))
      have hc2 := (hownB.rd (by omega) (by omega))
      go_wp2_with (first
        | (refine wpList_ldA ag_obj rfl _ rfl ⟨w5.heap.size, 0, none⟩ [.int .i64 R4.1.cls, .slice A4 R4.1.slots.length c4, .slice D4 R4.1.bytes.length d4] rfl rfl k1 ?_)
        | (refine wpList_ldA ag_obj rfl _ rfl ⟨wA.heap.size, 0, none⟩ [.int .i64 R4.1.cls, .slice AA R4.1.slots.length cA, .slice DA R4.1.bytes.length dA] rfl rfl k2 ?_)
        | fail)
      refine (refsame_calls _ _ _ _ R4.1 R4.1 _ hc1 hc2).mono ?_
      rw [HSO.out]
      rintro e wE ⟨rfl, hfE⟩
      have hgE := (hg6.tr hgB).tr hfE
      have hTe := hTb.fr0 hgE
      have hTv := hTu.fr0 hgE
      have hbke := hbk.fr0 hgE
      have hbue := hbu.fr0 hgE
      have hFE := hF4.tr hgE
      clear hTb hTu hbk hbu hbu6 hF4
      go_wp2_with fail
      refine (tlast_calls wE p t.first t.last _ _ hbke).mono ?_
      rintro e w2x ⟨rfl, hw2⟩
      have hw2 := hw2.symm
      subst hw2

      go_wp2_with fail
      refine (oops_calls wE Ta Oa p t t.last hTe hoka (by omega)).mono ?_
      rintro e wG ⟨x3, ks3, rfl, ho3, hr3, hfG, _⟩
      have e3 := ho3.unique HO.out
      subst e3
      obtain ⟨B3, e3, rfl, _⟩ := hr3.rd (by have := oops_len hgood HO.out; omega)
      have hTv := hTv.fr0 hfG
      have hbue := hbue.fr0 hfG
      go_wp2_with fail
      refine (tlast_calls wG q u.first t.last _ _ hbue).mono ?_
      rintro e w2x ⟨rfl, hw2⟩
      have hw2 := hw2.symm
      subst hw2

      go_wp2_with fail
      refine (oops_calls wG Tu Ou q u t.last hTv hoku (by omega)).mono ?_
      rintro e wH ⟨x4, ks4, rfl, ho4, hr4, hfH, _⟩
      have e4 := ho4.unique HUO.out
      subst e4
      obtain ⟨B4, e4, rfl, hd4⟩ := hr4.rd (by have := oops_len hgood HO.out; omega)
      obtain ⟨B3', e3', hq1, hd3⟩ := (hr3.fr0 hfH).rd (by have := oops_len hgood HO.out; omega)
      injection hq1 with hq1 _ hq2
      subst hq1 hq2
      go_wp2_with fail
      refine (isame_self _ _ B3 B4 e3 e4 ks4 wH hd3 hd4).mono ?_
      rintro e wI ⟨rfl, hfI⟩
      have hTi := ((hTe.fr0 hfG).fr0 hfH).fr0 hfI
      have hTj := (hTv.fr0 hfH).fr0 hfI
      have hFI := ((hFE.tr hfG).tr hfH).tr hfI
      go_wp2_with fail
      refine (tallr_calls wI Ta Oa p t hTi hoka hgood (by omega)).mono ?_
      rintro e wJ ⟨csJ, ksJ, rfl, hOJ, hrJ, hfJ⟩
      have eJ := hOJ.unique HO.out
      subst eJ
      go_wp2_with fail
      refine (taken11_calls _ csJ (allM t ksJ) wJ hrJ.lt HRO.out (fun b hb => hb.2)).mono ?_
      rintro e wK ⟨csK, rfl, hrK, hfK⟩
      go_wp2_with fail
      refine (tallr_calls wK Tu Ou q u ((hTj.fr0 hfJ).fr0 hfK) hoku hgu (by omega)).mono ?_
      rw [ul]
      rintro e wL ⟨csL, ksL, rfl, hOL, hrL, hfL⟩
      have eL := hOL.unique HUO.out
      subst eL
      rw [HUA.out] at hrL
      go_wp2_with fail
      refine (taken11_calls _ csL (allM t ksL) wL hrL.lt HRO.out (fun b hb => hb.2)).mono ?_
      rintro e wM ⟨csM, rfl, hrM, hfM⟩
      go_wp2_with fail
      refine (samer_calls _ _ csK csM (allM t ksL) wM ((hrK.fr0 hfL).fr0 hfM) hrM).mono ?_
      rintro e wN ⟨rfl, hfN⟩
      go_wp2_with fail
      refine (known11_calls _).mono ?_
      rintro e wz ⟨rfl, hfz⟩
      go_wp2
      go_ret
      exact ⟨rfl, (((((hFI.tr hfJ).tr hfK).tr hfL).tr hfM).tr hfN).tr hfz⟩
end Go.Proofs.Ytifcnjebepipnaa
