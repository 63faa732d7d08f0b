/- Ops in another order, plainly: they make the same, if both orders go. No condition. lapidarylaw16.given. No condition but size. lapidaryref01.Count, for seats that have no more of wire. No condition. lapidarylaw16.turned: the same ops in another order. No condition but size. -/
import Derived.Test.YtgchpfennbggoaaJRRcOrderp4
import Derived.Test.YtgchpfennbggoaaJRRcOrderp1
import Derived.Test.YtgchpfennbggoaaProg
import Derived.Test.YtgchpfennbggoaaJRRcOrderp0
import Derived.Deep.CutBlock
import Derived.Deep.DeepCutAuto
import Derived.Lib.Overlaps
import Derived.Lib.AppendZerosOnto
namespace Go.Proofs.Ytgchpfennbggoaa
set_option linter.unusedVariables false
set_option linter.unusedSimpArgs false
open Go.RowKit

theorem gtV_iff (a b : VL) : gtV a b = true ↔ b.k < a.k ∨ (a.k = b.k ∧ b.n < a.n) := by
  unfold gtV
  simp
theorem gtV_no (a b : VL) : gtV a b = false ↔ ¬ (b.k < a.k ∨ (a.k = b.k ∧ b.n < a.n)) := by
  rw [← gtV_iff]
  cases gtV a b <;> simp
def SortV (l : List VL) : Prop := l.Pairwise (fun a b => gtV a b = false)
theorem gtV_trans {a b c : VL} (h1 : gtV a b = false) (h2 : gtV b c = false) : gtV a c = false := by
  rw [gtV_no] at *
  omega
theorem gtV_anti {a b : VL} (h1 : gtV a b = false) (h2 : gtV b a = false) : a = b := by
  obtain ⟨ak, an⟩ := a
  obtain ⟨bk, bn⟩ := b
  rw [gtV_no] at h1 h2
  simp only at h1 h2
  have : ak = bk := by omega
  have : an = bn := by omega
  simp_all
theorem sort_perm : ∀ {l m : List VL}, SortV l → SortV m → l.Perm m → l = m
  | [], m, _, _, h => (List.nil_perm.1 h).symm
  | a :: l, [], _, _, h => (List.perm_nil.1 h)
  | a :: l, b :: m, h1, h2, h => by
    have h1' := List.pairwise_cons.1 h1
    have h2' := List.pairwise_cons.1 h2
    have hab : a = b := by
      have ha : a ∈ b :: m := h.mem_iff.1 (List.mem_cons_self ..)
      have hb : b ∈ a :: l := h.mem_iff.2 (List.mem_cons_self ..)
      rcases List.mem_cons.1 ha with e | ha
      · exact e
      · rcases List.mem_cons.1 hb with e | hb
        · exact e.symm
        · exact gtV_anti (h1'.1 b hb) (h2'.1 a ha)
    subst hab
    rw [sort_perm h1'.2 h2'.2 (List.Perm.cons_inv h)]
theorem addM_perm (l : List VL) (v : VL) : (addM l v).Perm (v :: l) := by
  unfold addM
  have := List.take_append_drop (l.findIdx (gtV · v)) l
  conv => rhs; rw [← this]
  exact List.perm_middle
theorem sort_from {l : List VL} (h : SortV l) {v : VL} : ∀ i, ∀ hi : i < l.length, l.findIdx (gtV · v) ≤ i → gtV l[i] v = true := by
  intro i hi hle
  have hlt : l.findIdx (gtV · v) < l.length := by omega
  have h0 : gtV l[l.findIdx (gtV · v)] v = true := List.findIdx_getElem (w := hlt)
  rcases Nat.lt_or_ge (l.findIdx (gtV · v)) i with h1 | h1
  · have h2 := List.pairwise_iff_getElem.1 h _ i hlt hi h1
    rw [gtV_no] at h2
    rw [gtV_iff] at h0 ⊢
    omega
  · have e : l.findIdx (gtV · v) = i := by omega
    simp only [e] at h0
    exact h0
theorem addM_sort {l : List VL} (h : SortV l) (v : VL) : SortV (addM l v) := by
  unfold addM SortV
  have hh := h
  unfold SortV at h
  rw [← List.take_append_drop (l.findIdx (gtV · v)) l, List.pairwise_append] at h
  rw [List.pairwise_append]
  have ht : ∀ a ∈ l.take (l.findIdx (gtV · v)), gtV a v = false := by
    intro a ha
    obtain ⟨i, hi, rfl⟩ := List.mem_iff_getElem.1 ha
    have hi' : i < l.findIdx (gtV · v) := by have := hi; rw [List.length_take] at this; omega
    rw [List.getElem_take]
    have := List.not_of_lt_findIdx hi'
    simpa using this
  have hd : ∀ b ∈ l.drop (l.findIdx (gtV · v)), gtV v b = false := by
    intro b hb
    obtain ⟨i, hi, rfl⟩ := List.mem_iff_getElem.1 hb
    rw [List.length_drop] at hi
    rw [List.getElem_drop]
    have := sort_from hh (v := v) (l.findIdx (gtV · v) + i) (by omega) (by omega)
    rw [gtV_iff] at this
    rw [gtV_no]
    omega
  refine ⟨h.1, List.pairwise_cons.2 ⟨hd, h.2.1⟩, fun a ha b hb => ?_⟩
  rcases List.mem_cons.1 hb with rfl | hb
  · exact ht a ha
  · exact h.2.2 a ha b hb
def adds (ops : List OpM) : List VL := (ops.filter (·.add)).map (·.v)
def rems (ops : List OpM) : List VL := (ops.filter (fun p => !p.add)).map (·.v)
theorem runP_bag : ∀ (ops : List OpM) (s l : List VL), runM putM s ops = some l → SortV s → SortV l ∧ (l ++ rems ops).Perm (s ++ adds ops)
  | [], s, l, h, hs => by
    simp only [runM, Option.some.injEq] at h
    subst h
    exact ⟨hs, by simp [rems, adds]⟩
  | p :: ops, s, l, h, hs => by
    simp only [runM] at h
    cases hp : putM s p with
    | none => rw [hp] at h; cases h
    | some s' =>
      rw [hp] at h
      simp only at h
      unfold putM at hp
      cases ha : p.add with
      | true =>
        rw [if_pos ha] at hp
        split at hp
        · cases hp
        · injection hp with hp
          have e : s' = addM s p.v := hp.symm
          subst e
          obtain ⟨h1, h2⟩ := runP_bag ops _ l h (addM_sort hs p.v)
          refine ⟨h1, ?_⟩
          have er : rems (p :: ops) = rems ops := by simp [rems, ha]
          have ea : adds (p :: ops) = p.v :: adds ops := by simp [adds, ha]
          rw [er, ea]
          refine h2.trans (((addM_perm s p.v).append_right _).trans ?_)
          exact List.perm_middle.symm
      | false =>
        rw [if_neg (by rw [ha]; decide)] at hp
        unfold delM at hp
        split at hp
        · rename_i hm
          injection hp with hp
          subst hp
          obtain ⟨h1, h2⟩ := runP_bag ops _ l h (hs.sublist List.erase_sublist)
          refine ⟨h1, ?_⟩
          have er : rems (p :: ops) = p.v :: rems ops := by simp [rems, ha]
          have ea : adds (p :: ops) = adds ops := by simp [adds, ha]
          rw [er, ea]
          refine List.perm_middle.trans ((h2.cons p.v).trans ?_)
          rw [← List.cons_append]
          exact (List.perm_cons_erase hm).symm.append_right _
        · cases hp
theorem bag_order {ops ops' : List OpM} (hp : ops'.Perm ops) {s l l' : List VL} (hs : SortV s) (h1 : runM putM s ops = some l) (h2 : runM putM s ops' = some l') : l = l' := by
  obtain ⟨a1, a2⟩ := runP_bag ops s l h1 hs
  obtain ⟨b1, b2⟩ := runP_bag ops' s l' h2 hs
  refine sort_perm a1 b1 ?_
  have ha : (adds ops').Perm (adds ops) := (hp.filter _).map _
  have hr : (rems ops').Perm (rems ops) := (hp.filter _).map _
  have h3 : (l ++ rems ops).Perm (l' ++ rems ops) := a2.trans ((ha.symm.append_left s).trans (b2.symm.trans (hr.append_left l')))
  exact (List.perm_append_right_iff _).1 h3
def sumN (ops : List OpM) : Int := (ops.map (·.v.n)).sum
theorem runP_cnt : ∀ (ops : List OpM) (x : VL) (r l : List VL), runM countM (x :: r) ops = some l → l = ⟨x.k, x.n + sumN ops⟩ :: r
  | [], x, r, l, h => by
    simp only [runM, Option.some.injEq] at h
    subst h
    simp [sumN]
  | p :: ops, x, r, l, h => by
    simp only [runM] at h
    cases hp : countM (x :: r) p with
    | none => rw [hp] at h; cases h
    | some s' =>
      rw [hp] at h
      simp only at h
      unfold countM at hp
      simp only at hp
      split at hp
      · injection hp with hp
        subst hp
        rw [runP_cnt ops _ _ _ h]
        unfold sumN
        simp only [List.map_cons, List.sum_cons]
        congr 2
        omega
      · cases hp
theorem sumN_perm {a b : List OpM} (h : a.Perm b) : sumN a = sumN b := by
  unfold sumN
  induction h with
  | nil => rfl
  | cons x _ ih => simp only [List.map_cons, List.sum_cons, ih]
  | swap x y l => simp only [List.map_cons, List.sum_cons]; omega
  | trans _ _ h1 h2 => exact h1.trans h2
theorem cnt_order {ops ops' : List OpM} (hp : ops'.Perm ops) {s l l' : List VL} (h1 : runM countM s ops = some l) (h2 : runM countM s ops' = some l') : l = l' := by
  cases s with
  | nil =>
    cases ops with
    | nil =>
      have := List.perm_nil.1 hp
      subst this
      rw [h1] at h2
      injection h2
    | cons p ops => simp [runM, countM] at h1
  | cons x r => rw [runP_cnt _ _ _ _ h1, runP_cnt _ _ _ _ h2, sumN_perm hp]
theorem sort_near {l : List VL} (h : ∀ i, ∀ hi : i + 1 < l.length, gtV l[i] l[i + 1] = false) : SortV l := by
  induction l with
  | nil => exact List.Pairwise.nil
  | cons a l ih =>
    have hl : SortV l := ih (fun i hi => by have := h (i + 1) (by simpa using hi); simpa using this)
    refine List.pairwise_cons.2 ⟨fun b hb => ?_, hl⟩
    cases l with
    | nil => cases hb
    | cons c l =>
      have h0 : gtV a c = false := h 0 (by simp)
      rcases List.mem_cons.1 hb with rfl | hb
      · exact h0
      · exact gtV_trans h0 ((List.pairwise_cons.1 hl).1 b hb)
/-- Ops in another order. -/
theorem repl_order {o : ObjM} {ops ops' : List OpM} (hp : ops'.Perm ops) (hs : o.cls = 14 → SortV o.slots) {l l' : List VL} (h1 : replM o ops = some l) (h2 : replM o ops' = some l') : l = l' := by
  unfold replM at h1 h2
  split at h1
  · rename_i hc
    rw [if_pos hc] at h2
    exact cnt_order hp h1 h2
  · rename_i hc
    rw [if_neg hc] at h2
    split at h1
    · rename_i hc2
      rw [if_pos hc2] at h2
      exact bag_order hp (hs hc2) h1 h2
    · cases h1
end Go.Proofs.Ytgchpfennbggoaa
namespace Go.Proofs.Ytgchpfennbggoaa
set_option linter.unusedVariables false
set_option linter.unusedSimpArgs false
open Go.RowKit

theorem op_one4 {a b c d : Value} (h1 : a.oneCell' = true) (h2 : b.oneCell' = true) (h3 : c.oneCell' = true) (h4 : d.oneCell' = true) : ∀ u ∈ [a, b, c, d], u.oneCell' = true := by
  intro u hu
  simp only [List.mem_cons, List.not_mem_nil, or_false] at hu
  rcases hu with rfl | rfl | rfl | rfl <;> assumption
theorem opsC_take (l : List OpM) {k : Nat} (hk : k < l.length) : opsC (l.take (k + 1)) = opsC (l.take k) ++ opcells l[k] := by
  rw [← List.take_append_getElem hk, opsC_append]
  simp [opsC]
set_option maxHeartbeats 4000000 in
set_option maxRecDepth 100000 in
theorem given16_calls (A : Option Addr) (c0 : Nat) (l : List OpM) (w : World) (h : RdO w (fun b => b < w.heap.size) A l) (hl : l.length ≤ 1048576) :
    Calls Try.prog 9 #[.slice A l.length c0] w fun e w' => ∃ A' c', e = .returned (.slice A' l.length c') ∧ w'.ownsRow w.heap.size 41 4 (.slice A' l.length c') l.length (opsC l) ∧ Fr No w w' := by
  have g1 := plain_i64
  have g4 := plain_bool
  go_enter Try.func9, Try.ntmps9
  go_wp2_with fail
  go_loopw [3, 4] (fun s3 s4 wr => ∃ (k : Nat) (A' : Option Addr) (c : Nat), k ≤ l.length ∧ s4 = .int .i64 (k : Int) ∧ s3 = .slice A' k c ∧ wr.ownsRow w.heap.size 41 4 (.slice A' k c) k (opsC (l.take k)) ∧ Fr No w wr) (fun _ i _ => l.length - (intOf i).toNat)
  case atStart => exact ⟨0, none, 0, by omega, rfl, rfl, World.ownsRow_nil _ _ _ _, Fr.refl _ _⟩
  case round =>
    obtain ⟨k, A', c, hk, rfl, rfl, hown, hf⟩ := hrel
    have hsr := hf.size
    by_cases hlt : k < l.length
    · have ek : decide ((k : Int) < l.length) = true := by simp; omega
      obtain ⟨g, of, rfl, hgw, hco⟩ := RdO.at_ (w := wr) (S := fun b => b < w.heap.size) (A := A) (l := l) (Rd.fr h hf (fun _ _ hn => hn)) hlt
      have HT := Lib.hid (opsC_take l hlt)
      generalize l[k] = p at *
      obtain ⟨oop, add, ⟨kk, y⟩⟩ := p
      unfold opcells at hco HT
      simp only at hco HT
      have ea : ∀ i, (⟨g, of + k * 4, none⟩ : Addr).add i = ⟨g, of + k * 4 + i, none⟩ := by intro i; unfold Addr.add; split <;> simp_all
      have k0 := hco 0 _ rfl
      have k1 := hco 1 _ rfl
      have hv : ∀ j u, [Value.int .i64 kk, .int .i64 y][j]? = some u → wr.drew.cell? ((⟨g, of + k * 4 + 2, none⟩ : Addr).add j) = some u := by
        intro j u hu
        have h2 := hco (j + 2) u (by simpa using hu)
        rw [ea] at h2
        have e2 : (⟨g, of + k * 4 + 2, none⟩ : Addr).add j = ⟨g, of + k * 4 + (j + 2), none⟩ := by unfold Addr.add; split <;> simp_all <;> omega
        rw [e2]
        exact h2
      rw [ea] at k0 k1
      simp only [Nat.add_zero] at k0
      clear hco ea
      have hSG : ¬ ((Value.slice A' k c).ownBlock = some g) := fun e => by have := (hown.lt g e).1; omega
      have hownlt := hown.lt
      go_wp2_with fail
      (refine T_begin (fun b => (Value.slice A' k c).ownBlock = some b) [0, 1, 2, 3, 4, 5, 6, 7, 8, 9, 10, 11, 12, 13, 14, 15, 16, 17, 18, 19] [17, 18] (by kernel_rfl) (by kernel_rfl) ?_; simp only [pickOps, List.filterMap_cons, List.filterMap_nil, List.getElem?_cons_zero, List.getElem?_cons_succ, Act.put])
      repeat (first | (refine T_skip (by rfl) (by rfl) (fun _ _ _ h => h) ?_; try simp only [Act.put, List.setIfInBounds_toArray, List.set_cons_zero, List.set_cons_succ]) | (refine T_pass (by rfl) (by rfl) ?_; try simp only [Act.put, List.setIfInBounds_toArray, List.set_cons_zero, List.set_cons_succ]) | (refine T_load (by assumption) (by rfl) (by rfl) (fun _ _ _ _ h => h) rfl rfl (by assumption) (by first | exact (fun hn => hn) | assumption) ?_; try simp only [Act.put, List.setIfInBounds_toArray, List.set_cons_zero, List.set_cons_succ]) | (refine T_nil (by rfl) (by rfl) (fun _ _ _ _ h => h) rfl rfl ?_; try simp only [Act.put, List.setIfInBounds_toArray, List.set_cons_zero, List.set_cons_succ]) | (refine T_quietN (by rfl) (by rfl) (by rfl) (by rfl) (fun _ _ _ _ h => h) (fun K hK => ?_); go_big_quiet_op; refine hK _ ?_; clear hK K) | (refine T_two (by rfl) (by rfl) (by rfl) (by rfl) (fun _ _ _ _ h => h) (fun K hK => ?_); go_big_quiet_op; refine ⟨_, fun _ _ => rfl, ?_⟩; refine hK _ ?_; clear hK K; try simp only [Act.put, List.setIfInBounds_toArray, List.set_cons_zero, List.set_cons_succ]) | fail)
      refine T_loadA (cs := [.int .i64 kk, .int .i64 y]) ag_val (by rfl) (by rfl) (fun _ _ _ _ h => h) rfl rfl rfl hv hSG ?_
      try simp only [Act.put, List.setIfInBounds_toArray, List.set_cons_zero, List.set_cons_succ]
      repeat (first | (refine T_skip (by rfl) (by rfl) (fun _ _ _ h => h) ?_; try simp only [Act.put, List.setIfInBounds_toArray, List.set_cons_zero, List.set_cons_succ]) | (refine T_pass (by rfl) (by rfl) ?_; try simp only [Act.put, List.setIfInBounds_toArray, List.set_cons_zero, List.set_cons_succ]) | (refine T_load (by assumption) (by rfl) (by rfl) (fun _ _ _ _ h => h) rfl rfl (by assumption) (by first | exact (fun hn => hn) | assumption) ?_; try simp only [Act.put, List.setIfInBounds_toArray, List.set_cons_zero, List.set_cons_succ]) | (refine T_nil (by rfl) (by rfl) (fun _ _ _ _ h => h) rfl rfl ?_; try simp only [Act.put, List.setIfInBounds_toArray, List.set_cons_zero, List.set_cons_succ]) | (refine T_quietN (by rfl) (by rfl) (by rfl) (by rfl) (fun _ _ _ _ h => h) (fun K hK => ?_); go_big_quiet_op; refine hK _ ?_; clear hK K) | (refine T_two (by rfl) (by rfl) (by rfl) (by rfl) (fun _ _ _ _ h => h) (fun K hK => ?_); go_big_quiet_op; refine ⟨_, fun _ _ => rfl, ?_⟩; refine hK _ ?_; clear hK K; try simp only [Act.put, List.setIfInBounds_toArray, List.set_cons_zero, List.set_cons_succ]) | fail)
      refine T_call (by rfl) (by rfl) (fun K hK => ?_)
      refine wp_buildOne so_op (by decide) [.int .i64 oop, .bool add, .int .i64 kk, .int .i64 y] rfl rfl rfl ?_
      (refine hK.out _ _ (((Fr.refl _ _).alloc _)) ?_; clear hK K; try simp only [Act.put, List.setIfInBounds_toArray, List.set_cons_zero, List.set_cons_succ])
      have hfA : Fr No wr (wr.drew.alloc (.cells [Value.int .i64 oop, .bool add, .int .i64 kk, .int .i64 y].toArray 41)) := (Fr.refl No wr).drew.alloc _
      have hzA := hfA.size
      refine T_call (by rfl) (by rfl) (fun K hK => ?_)
      refine wp_app_at so_op (own_fr0 hown hfA) ((Blk.new _ _ _).rd (size := 4) (n := 1) (by rfl) (by decide)) (op_one4 rfl rfl rfl rfl) (by omega) (by omega) rfl rfl rfl ?_
      intro v5 w5 hown5 hg5 hat5
      refine hK.out _ _ ((Fr.refl _ _).grown hg5 (fun q hq => .inr hq)) ?_
      clear hK K
      try simp only [Act.put, List.setIfInBounds_toArray, List.set_cons_zero, List.set_cons_succ]
      obtain ⟨A3, c3, rfl, _, _, _⟩ := own_form hown5
      repeat (first | (refine T_skip (by rfl) (by rfl) (fun _ _ _ h => h) ?_; try simp only [Act.put, List.setIfInBounds_toArray, List.set_cons_zero, List.set_cons_succ]) | (refine T_pass (by rfl) (by rfl) ?_; try simp only [Act.put, List.setIfInBounds_toArray, List.set_cons_zero, List.set_cons_succ]) | (refine T_load (by assumption) (by rfl) (by rfl) (fun _ _ _ _ h => h) rfl rfl (by assumption) (by first | exact (fun hn => hn) | assumption) ?_; try simp only [Act.put, List.setIfInBounds_toArray, List.set_cons_zero, List.set_cons_succ]) | (refine T_nil (by rfl) (by rfl) (fun _ _ _ _ h => h) rfl rfl ?_; try simp only [Act.put, List.setIfInBounds_toArray, List.set_cons_zero, List.set_cons_succ]) | (refine T_quietN (by rfl) (by rfl) (by rfl) (by rfl) (fun _ _ _ _ h => h) (fun K hK => ?_); go_big_quiet_op; refine hK _ ?_; clear hK K) | (refine T_two (by rfl) (by rfl) (by rfl) (by rfl) (fun _ _ _ _ h => h) (fun K hK => ?_); go_big_quiet_op; refine ⟨_, fun _ _ => rfl, ?_⟩; refine hK _ ?_; clear hK K; try simp only [Act.put, List.setIfInBounds_toArray, List.set_cons_zero, List.set_cons_succ]) | fail)
      refine T_done ?_
      go_wp2_with fail
      go_roundw
      case rel => exact ⟨k + 1, A3, c3, by omega, by go_num, rfl, by rw [HT.out]; exact hown5, (hf.tr hfA).grown hg5 (fun q hq => .inl (hownlt q hq).1)⟩
      case measure => simp [intOf]; omega
    · obtain rfl : k = l.length := by omega
      have ek : decide ((l.length : Int) < l.length) = false := by simp
      rw [List.take_length] at hown
      go_wp2_with fail
      go_ret
      exact ⟨A', c, rfl, hown, hf⟩
end Go.Proofs.Ytgchpfennbggoaa
namespace Go.Proofs.Ytgchpfennbggoaa
set_option linter.unusedVariables false
set_option linter.unusedSimpArgs false
open Go.RowKit

def countZ (k n : Int) : Int := if n < 1 then 0 else if k.tmod n < 0 then k.tmod n + n else k.tmod n
theorem countZ_range (k n : Int) (h : 1 ≤ n) : 0 ≤ countZ k n ∧ countZ k n < n := by
  have h1 := Int.tmod_lt_of_pos k (show 0 < n by omega)
  have h2 := Int.tmod_lt_of_pos (-k) (show 0 < n by omega)
  rw [Int.neg_tmod] at h2
  unfold countZ
  rw [if_neg (by omega)]
  split <;> omega
theorem count_calls (k n : Int) (w : World) (hk : -9223372036854775808 ≤ k) (hk2 : k ≤ 9223372036854775807) (hn : -9223372036854775808 ≤ n) (hn2 : n ≤ 4611686018427387904) :
    Calls Try.prog 28 #[.int .i64 k, .int .i64 n] w fun e w' => e = .returned (.int .i64 (countZ k n)) ∧ w = w' := by
  by_cases h1 : n < 1
  · have H := Lib.hid (show countZ k n = 0 by unfold countZ; rw [if_pos h1])
    have e1 : decide (n < 1) = true := by simpa using h1
    go_enter Try.func28, Try.ntmps28
    go_wp2
    go_ret
    exact ⟨by rw [H.out]; rfl, rfl⟩
  have e1 : decide (n < 1) = false := by simpa using h1
  have g1 := Int.tmod_lt_of_pos k (show 0 < n by omega)
  have g2 := Int.tmod_lt_of_pos (-k) (show 0 < n by omega)
  rw [Int.neg_tmod] at g2
  by_cases h2 : k.tmod n < 0
  · have H := Lib.hid (show countZ k n = k.tmod n + n by unfold countZ; rw [if_neg h1, if_pos h2])
    have e2 : decide (k.tmod n < 0) = true := by simpa using h2
    have e3 : (n == 0) = false := by rw [beq_eq_false_iff_ne]; omega
    go_enter Try.func28, Try.ntmps28
    go_wp2
    go_ret
    exact ⟨by rw [H.out]; rfl, rfl⟩
  · have H := Lib.hid (show countZ k n = k.tmod n by unfold countZ; rw [if_neg h1, if_neg h2])
    have e2 : decide (k.tmod n < 0) = false := by simpa using h2
    have e3 : (n == 0) = false := by rw [beq_eq_false_iff_ne]; omega
    go_enter Try.func28, Try.ntmps28
    go_wp2
    go_ret
    exact ⟨by rw [H.out]; rfl, rfl⟩
end Go.Proofs.Ytgchpfennbggoaa
namespace Go.Proofs.Ytgchpfennbggoaa
set_option linter.unusedVariables false
set_option linter.unusedSimpArgs false
open Go.RowKit

theorem opsC_cut {w : World} {S : Nat → Prop} {g o : Nat} {L : List OpM} (h : RdO w S (some ⟨g, o, none⟩) L) {k : Nat} (hk : k ≤ L.length) : Rd w S 4 (some ⟨g, o, none⟩) k (opsC (L.take k)) := by
  have h1 := Rd.take h hk
  have e : (opsC L).take (k * 4) = opsC (L.take k) := by
    have e1 : opsC L = opsC (L.take k) ++ opsC (L.drop k) := by rw [← opsC_append, List.take_append_drop]
    have e2 : (opsC (L.take k)).length = k * 4 := by rw [opsC_len, List.length_take, Nat.min_eq_left hk]
    rw [e1, ← e2, List.take_left]
  rw [e] at h1
  exact h1
theorem opsC_tail {w : World} {S : Nat → Prop} {g o : Nat} {L : List OpM} (h : RdO w S (some ⟨g, o, none⟩) L) {k : Nat} (hk : k + 1 ≤ L.length) : Rd w S 4 (some ⟨g, o + (k + 1) * 4, none⟩) (L.length - (k + 1)) (opsC (L.drop (k + 1))) := by
  have hle := h.2.1
  obtain ⟨g', o', e, hS, hc⟩ := Rd.plain h (by omega) (by decide)
  injection e with e
  injection e with e1 e2 _
  subst e1 e2
  refine ⟨by rw [opsC_len, List.length_drop], by omega, fun _ => ⟨_, rfl, hS, fun j u hu => ?_⟩⟩
  have e1 : opsC L = opsC (L.take (k + 1)) ++ opsC (L.drop (k + 1)) := by rw [← opsC_append, List.take_append_drop]
  have e2 : (opsC (L.take (k + 1))).length = (k + 1) * 4 := by rw [opsC_len, List.length_take, Nat.min_eq_left hk]
  have e3 : (opsC L)[(k + 1) * 4 + j]? = some u := by rw [e1, List.getElem?_append_right (by omega), e2, Nat.add_sub_cancel_left]; exact hu
  have e4 : (⟨g, o + (k + 1) * 4, none⟩ : Addr).add j = ⟨g, o + ((k + 1) * 4 + j), none⟩ := by unfold Addr.add; split <;> simp_all <;> omega
  rw [e4]
  exact hc _ u e3
theorem turn_perm {R L l : List OpM} (h : (R ++ L).Perm l) {k : Nat} (hk : k < L.length) : ((R ++ [L[k]]) ++ (L.take k ++ L.drop (k + 1))).Perm l := by
  refine List.Perm.trans ?_ h
  rw [List.append_assoc]
  refine List.Perm.append_left R ?_
  have e : L = L.take k ++ L[k] :: L.drop (k + 1) := by rw [← List.drop_eq_getElem_cons hk, List.take_append_drop]
  conv => rhs; rw [e]
  exact (List.perm_middle (l₁ := L.take k) (a := L[k]) (l₂ := L.drop (k + 1))).symm
theorem turn_len (L : List OpM) {k : Nat} (hk : k < L.length) : (L.take k ++ L.drop (k + 1)).length = k + (L.length - (k + 1)) := by
  rw [List.length_append, List.length_take, List.length_drop, Nat.min_eq_left (by omega)]
set_option maxHeartbeats 8000000 in
set_option maxRecDepth 100000 in
theorem turned_calls (A : Option Addr) (c0 : Nat) (l : List OpM) (B : Option Addr) (c1 : Nat) (ts : List Int) (w : World) (h : RdO w (fun b => b < w.heap.size) A l) (hl : l.length ≤ 1000) (ht : Rd w (fun b => b < w.heap.size) 1 B ts.length (ts.map (Value.int .i64))) (hts : ∀ x ∈ ts, -9223372036854775808 ≤ x ∧ x ≤ 9223372036854775807) :
    Calls Try.prog 10 #[.slice A l.length c0, .slice B ts.length c1] w fun e w' => ∃ A' c' l', e = .returned (.slice A' l'.length c') ∧ l'.Perm l ∧ w'.ownsRow w.heap.size 41 4 (.slice A' l'.length c') l'.length (opsC l') ∧ Fr No w w' := by
  have HTS := Lib.hid hts
  clear hts
  have htl := ht.2.1
  go_enter Try.func10, Try.ntmps10
  go_upto_region 3 with (first
    | (at_builtin; refine wpList_app_at so_op (show w.ownsRow w.heap.size 41 4 (.slice none 0 0) 0 [] from World.ownsRow_nil _ _ _ _) h (opsC_one l) (by omega) (Nat.le_refl _) rfl rfl rfl rfl ?_; intro v1 w1 hown1 hg1 hat1; rw [Nat.zero_add, List.nil_append] at hown1)
    | fail)
  obtain ⟨A1, c1', rfl, hc1, hm1, hA1⟩ := own_form hown1
  have hf1 : Fr No w w1 := (Fr.refl No w).grown hg1 (fun q hq => by cases hq)
  have hrd1 : RdO w1 (fun b => w.heap.size ≤ b) A1 l := Rd.mono (own_rd hown1 (by omega)) (fun b _ hb => (hown1.lt b ((hA1 b).2 hb)).1) (by decide)
  clear hown1 hg1 hat1 hA1
  go_wp2_with fail
  go_loopw [5, 6, 7] (fun s5 s6 s7 wr => ∃ (i : Nat) (Al : Option Addr) (cl : Nat) (L : List OpM) (Ao : Option Addr) (co : Nat) (R : List OpM), i + L.length = l.length ∧ s7 = .int .i64 (i : Int) ∧ s5 = .slice Al L.length cl ∧ s6 = .slice Ao R.length co ∧ (R ++ L).Perm l ∧ wr.ownsRow w.heap.size 41 4 (.slice Ao R.length co) R.length (opsC R) ∧ RdO wr (fun b => w.heap.size ≤ b ∧ ¬ (Value.slice Ao R.length co).ownBlock = some b) Al L ∧ L.length ≤ cl ∧ cl ≤ maxLen ∧ Fr No w wr) (fun _ _ s7 _ => l.length - (intOf s7).toNat)
  case atStart => exact ⟨0, A1, c1', l, none, 0, [], by omega, rfl, rfl, rfl, List.Perm.refl _, World.ownsRow_nil _ _ _ _, Rd.mono hrd1 (fun b _ hb => ⟨hb, fun e => by cases e⟩) (by decide), hc1, hm1, hf1⟩
  case round =>
    clear hrd1 hf1 hc1 hm1
    obtain ⟨i, Al, cl, L, Ao, co, R, hi, rfl, rfl, rfl, hP, hown, hrd, hLc, hcm, hf⟩ := hrel
    have hsr := hf.size
    by_cases hlt : 0 < L.length
    · have ek : decide (0 < L.length) = true := by simpa using hlt
      obtain ⟨g, o, rfl, hSg, _⟩ := Rd.plain hrd hlt (by decide)
      have hRl : R.length ≤ 1000 := by have := hP.length_eq; rw [List.length_append] at this; omega
      by_cases hit : i < ts.length
      · have ei : decide ((i : Int) < ts.length) = true := by simp; omega
        obtain ⟨gt, ot, rfl, hSt, hct⟩ := Rd.plain ht (by omega) (by decide)
        have hc0 := hct i (.int .i64 ts[i]) (by simp [hit])
        have hcx := hf.cell_some hc0 (fun hn => hn)
        have hxr := HTS.out _ (List.getElem_mem hit)
        generalize ts[i] = x at *
        clear hct hc0
        have hcz := countZ_range x L.length (by omega)
        go_wp2_with fail
        refine (count_calls x L.length wr hxr.1 hxr.2 (by omega) (by omega)).mono ?_
        rintro e w2 ⟨rfl, hw2⟩
        subst hw2
        obtain ⟨k, hk⟩ : ∃ k : Nat, countZ x L.length = (k : Int) := ⟨(countZ x L.length).toNat, by omega⟩
        rw [hk] at hcz ⊢
        clear hk
        have hkl : k < L.length := by omega
        clear hcz
        obtain ⟨g2, o2, e2, _, hco⟩ := RdO.at_ hrd hkl
        injection e2 with e2
        injection e2 with e21 e22 _
        subst e21 e22
        have HT := Lib.hid (turn_perm hP hkl)
        have HTL := Lib.hid (turn_len L hkl)
        have HOS := Lib.hid (show opsC (R ++ [L[k]]) = opsC R ++ opcells L[k] by rw [opsC_append]; simp [opsC])
        obtain ⟨p, hp⟩ : ∃ p, Hid (p = L[k]) := ⟨_, Lib.hid rfl⟩
        rw [← hp.out] at hco HT HOS
        unfold opcells at hco HOS
        have hfA : Fr No wr (wr.alloc (.cells #[.int .i64 p.oop, .bool p.add, .int .i64 p.v.k, .int .i64 p.v.n] 41)) := (Fr.refl No wr).alloc _
        have hzA := hfA.size
        have hownlt := hown.lt
        go_upto_region 12 with (first
          | (refine wpList_ldA ag_op rfl _ rfl ⟨g, o + k * 4, none⟩ [.int .i64 p.oop, .bool p.add, .int .i64 p.v.k, .int .i64 p.v.n] rfl rfl hco ?_)
          | (at_builtin; refine wpList_app_at so_op (own_fr0 hown hfA) ((Blk.new wr 41 #[.int .i64 p.oop, .bool p.add, .int .i64 p.v.k, .int .i64 p.v.n]).rd (size := 4) (n := 1) (by rfl) (by decide)) (op_one4 rfl rfl rfl rfl) (by omega) (by omega) rfl rfl rfl rfl ?_; intro v6 w6 hown6 hg6 hat6)
          | fail)
        obtain ⟨A6, c6, rfl, _, _, hA6⟩ := own_form hown6
        have hf6 : Fr (fun b => (Value.slice Ao R.length co).ownBlock = some b) wr w6 := (hfA.mono (fun _ _ hn => hn.elim)).trans ((Fr.refl (fun b => (Value.slice Ao R.length co).ownBlock = some b) _).grown hg6 (fun q hq => .inr hq)) (fun _ _ e => e)
        have hz6 := hf6.size
        have hFw6 : Fr No w w6 := hf.trans hf6 (fun b hb e => by have := (hownlt b e).1; omega)
        have hrd6 : RdO w6 _ (some ⟨g, o, none⟩) L := Rd.fr hrd hf6 (fun b hb e => hb.2 e)
        have hck : k ≤ cl := by omega
        have hkL : k ≤ L.length := by omega
        go_upto_region 13 with (first
          | (at_builtin; refine wpList_app_at so_op (show w6.ownsRow w6.heap.size 41 4 (.slice none 0 0) 0 [] from World.ownsRow_nil _ _ _ _) (opsC_cut hrd6 hkL) (opsC_one (L.take k)) (by omega) (Nat.le_refl _) rfl rfl rfl rfl ?_; intro v7 w7 hown7 hg7 hat7; rw [Nat.zero_add, List.nil_append] at hown7)
          | fail)
        obtain ⟨A7, c7, rfl, _, _, _⟩ := own_form hown7
        have hf7 : Fr No w6 w7 := (Fr.refl No w6).grown hg7 (fun q hq => by cases hq)
        have hz7 := hf7.size
        have hrd7 := Rd.fr0 hrd6 hf7
        have hown6w := own_fr0 hown6 hf7
        by_cases hcl : cl = k + 1
        · have hLk : L.length = k + 1 := by omega
          have hnil : L.drop (k + 1) = [] := List.drop_eq_nil_of_le (by omega)
          have HNIL := Lib.hid hnil
          have HLK := Lib.hid hLk
          have HCL := Lib.hid hcl
          have hm0 : L.length - (k + 1) = 0 := by omega
          have hc0 : cl - (k + 1) = 0 := by omega
          clear hnil hLk
          go_wp2_with (first
            | (at_builtin; refine wpList_app_at so_op hown7 (A := some ⟨g, o, none⟩) (m := 0) (news := []) (S := No) Rd.nil_ (by intro u hu; cases hu) (by omega) (by omega) rfl rfl rfl rfl ?_; intro v8 w8 hown8 hg8 hat8)
            | fail)
          have hown8 : w8.ownsRow w6.heap.size 41 4 v8 (k + (L.length - (k + 1))) (opsC (L.take k) ++ opsC (L.drop (k + 1))) := by
            rw [HNIL.out, hm0]
            exact hown8
          obtain ⟨A8, c8, rfl, hc8, hm8, hA8⟩ := own_form hown8
          have hf8 : Fr (fun b => w6.heap.size ≤ b) w7 w8 := (Fr.refl (fun b => w6.heap.size ≤ b) w7).grown hg8 (fun q hq => .inr (hown7.lt q hq).1)
          have h6lt := hown6.lt
          have h8o := own_fr hown6w hf8 (fun b hb h => by have := (h6lt b hb).2; omega)
          have hfin : Fr No w w8 := (hFw6.tr hf7).grown hg8 (fun q hq => .inl (by have := (hown7.lt q hq).1; omega))
          have hr8 : RdO w8 (fun b => w.heap.size ≤ b ∧ ¬ (Value.slice A6 (R.length + 1) c6).ownBlock = some b) A8 (L.take k ++ L.drop (k + 1)) := by
            unfold RdO
            rw [HTL.out, opsC_append]
            exact Rd.mono (own_rd hown8 (by omega)) (fun b _ hb => by
              have h3 := (hown8.lt b ((hA8 b).2 hb)).1
              exact ⟨by omega, fun h => by have := (h6lt b h).2; omega⟩) (by decide)
          go_roundw
          case rel =>
            refine ⟨i + 1, A8, c8, L.take k ++ L.drop (k + 1), A6, c6, R ++ [p], by rw [HTL.out]; omega, by go_num, by rw [HTL.out], by rw [List.length_append]; rfl, HT.out, ?_, ?_, by rw [HTL.out]; exact hc8, hm8, hfin⟩
            · rw [List.length_append, HOS.out]
              exact h8o
            · rw [List.length_append]
              exact hr8
          case measure => simp [intOf]; omega
        · have hc2 : ¬ (cl = 1 + k) := by omega
          have hk1 : k + 1 ≤ L.length := by omega
          have hk2 : k + 1 ≤ cl := by omega
          go_wp2_with (first
            | (at_builtin; refine wpList_app_at so_op hown7 (opsC_tail hrd7 hk1) (opsC_one _) (by omega) (by omega) rfl rfl rfl rfl ?_; intro v8 w8 hown8 hg8 hat8)
            | fail)
          obtain ⟨A8, c8, rfl, hc8, hm8, hA8⟩ := own_form hown8
          have hf8 : Fr (fun b => w6.heap.size ≤ b) w7 w8 := (Fr.refl (fun b => w6.heap.size ≤ b) w7).grown hg8 (fun q hq => .inr (hown7.lt q hq).1)
          have h6lt := hown6.lt
          have h8o := own_fr hown6w hf8 (fun b hb h => by have := (h6lt b hb).2; omega)
          have hfin : Fr No w w8 := (hFw6.tr hf7).grown hg8 (fun q hq => .inl (by have := (hown7.lt q hq).1; omega))
          have hr8 : RdO w8 (fun b => w.heap.size ≤ b ∧ ¬ (Value.slice A6 (R.length + 1) c6).ownBlock = some b) A8 (L.take k ++ L.drop (k + 1)) := by
            unfold RdO
            rw [HTL.out, opsC_append]
            exact Rd.mono (own_rd hown8 (by omega)) (fun b _ hb => by
              have h3 := (hown8.lt b ((hA8 b).2 hb)).1
              exact ⟨by omega, fun h => by have := (h6lt b h).2; omega⟩) (by decide)
          go_roundw
          case rel =>
            refine ⟨i + 1, A8, c8, L.take k ++ L.drop (k + 1), A6, c6, R ++ [p], by rw [HTL.out]; omega, by go_num, by rw [HTL.out], by rw [List.length_append]; rfl, HT.out, ?_, ?_, by rw [HTL.out]; exact hc8, hm8, hfin⟩
            · rw [List.length_append, HOS.out]
              exact h8o
            · rw [List.length_append]
              exact hr8
          case measure => simp [intOf]; omega
      · have ei : decide ((i : Int) < ts.length) = false := by simp; omega
        obtain ⟨k, hk0⟩ : ∃ k : Nat, Hid (k = 0) := ⟨0, Lib.hid rfl⟩
        have hkl : k < L.length := by rw [hk0.out]; exact hlt
        go_upto_region 10 with fail
        rw [show (Value.int .i64 0) = .int .i64 (k : Int) by rw [hk0.out]; rfl]
        obtain ⟨g2, o2, e2, _, hco⟩ := RdO.at_ hrd hkl
        injection e2 with e2
        injection e2 with e21 e22 _
        subst e21 e22
        have HT := Lib.hid (turn_perm hP hkl)
        have HTL := Lib.hid (turn_len L hkl)
        have HOS := Lib.hid (show opsC (R ++ [L[k]]) = opsC R ++ opcells L[k] by rw [opsC_append]; simp [opsC])
        obtain ⟨p, hp⟩ : ∃ p, Hid (p = L[k]) := ⟨_, Lib.hid rfl⟩
        rw [← hp.out] at hco HT HOS
        unfold opcells at hco HOS
        have hfA : Fr No wr (wr.alloc (.cells #[.int .i64 p.oop, .bool p.add, .int .i64 p.v.k, .int .i64 p.v.n] 41)) := (Fr.refl No wr).alloc _
        have hzA := hfA.size
        have hownlt := hown.lt
        go_upto_region 12 with (first
          | (refine wpList_ldA ag_op rfl _ rfl ⟨g, o + k * 4, none⟩ [.int .i64 p.oop, .bool p.add, .int .i64 p.v.k, .int .i64 p.v.n] rfl rfl hco ?_)
          | (at_builtin; refine wpList_app_at so_op (own_fr0 hown hfA) ((Blk.new wr 41 #[.int .i64 p.oop, .bool p.add, .int .i64 p.v.k, .int .i64 p.v.n]).rd (size := 4) (n := 1) (by rfl) (by decide)) (op_one4 rfl rfl rfl rfl) (by omega) (by omega) rfl rfl rfl rfl ?_; intro v6 w6 hown6 hg6 hat6)
          | fail)
        obtain ⟨A6, c6, rfl, _, _, hA6⟩ := own_form hown6
        have hf6 : Fr (fun b => (Value.slice Ao R.length co).ownBlock = some b) wr w6 := (hfA.mono (fun _ _ hn => hn.elim)).trans ((Fr.refl (fun b => (Value.slice Ao R.length co).ownBlock = some b) _).grown hg6 (fun q hq => .inr hq)) (fun _ _ e => e)
        have hz6 := hf6.size
        have hFw6 : Fr No w w6 := hf.trans hf6 (fun b hb e => by have := (hownlt b e).1; omega)
        have hrd6 : RdO w6 _ (some ⟨g, o, none⟩) L := Rd.fr hrd hf6 (fun b hb e => hb.2 e)
        have hck : k ≤ cl := by omega
        have hkL : k ≤ L.length := by omega
        go_upto_region 13 with (first
          | (at_builtin; refine wpList_app_at so_op (show w6.ownsRow w6.heap.size 41 4 (.slice none 0 0) 0 [] from World.ownsRow_nil _ _ _ _) (opsC_cut hrd6 hkL) (opsC_one (L.take k)) (by omega) (Nat.le_refl _) rfl rfl rfl rfl ?_; intro v7 w7 hown7 hg7 hat7; rw [Nat.zero_add, List.nil_append] at hown7)
          | fail)
        obtain ⟨A7, c7, rfl, _, _, _⟩ := own_form hown7
        have hf7 : Fr No w6 w7 := (Fr.refl No w6).grown hg7 (fun q hq => by cases hq)
        have hz7 := hf7.size
        have hrd7 := Rd.fr0 hrd6 hf7
        have hown6w := own_fr0 hown6 hf7
        by_cases hcl : cl = k + 1
        · have hLk : L.length = k + 1 := by omega
          have hnil : L.drop (k + 1) = [] := List.drop_eq_nil_of_le (by omega)
          have HNIL := Lib.hid hnil
          have HLK := Lib.hid hLk
          have HCL := Lib.hid hcl
          have hm0 : L.length - (k + 1) = 0 := by omega
          have hc0 : cl - (k + 1) = 0 := by omega
          clear hnil hLk
          go_wp2_with (first
            | (at_builtin; refine wpList_app_at so_op hown7 (A := some ⟨g, o, none⟩) (m := 0) (news := []) (S := No) Rd.nil_ (by intro u hu; cases hu) (by omega) (by omega) rfl rfl rfl rfl ?_; intro v8 w8 hown8 hg8 hat8)
            | fail)
          have hown8 : w8.ownsRow w6.heap.size 41 4 v8 (k + (L.length - (k + 1))) (opsC (L.take k) ++ opsC (L.drop (k + 1))) := by
            rw [HNIL.out, hm0]
            exact hown8
          obtain ⟨A8, c8, rfl, hc8, hm8, hA8⟩ := own_form hown8
          have hf8 : Fr (fun b => w6.heap.size ≤ b) w7 w8 := (Fr.refl (fun b => w6.heap.size ≤ b) w7).grown hg8 (fun q hq => .inr (hown7.lt q hq).1)
          have h6lt := hown6.lt
          have h8o := own_fr hown6w hf8 (fun b hb h => by have := (h6lt b hb).2; omega)
          have hfin : Fr No w w8 := (hFw6.tr hf7).grown hg8 (fun q hq => .inl (by have := (hown7.lt q hq).1; omega))
          have hr8 : RdO w8 (fun b => w.heap.size ≤ b ∧ ¬ (Value.slice A6 (R.length + 1) c6).ownBlock = some b) A8 (L.take k ++ L.drop (k + 1)) := by
            unfold RdO
            rw [HTL.out, opsC_append]
            exact Rd.mono (own_rd hown8 (by omega)) (fun b _ hb => by
              have h3 := (hown8.lt b ((hA8 b).2 hb)).1
              exact ⟨by omega, fun h => by have := (h6lt b h).2; omega⟩) (by decide)
          go_roundw
          case rel =>
            refine ⟨i + 1, A8, c8, L.take k ++ L.drop (k + 1), A6, c6, R ++ [p], by rw [HTL.out]; omega, by go_num, by rw [HTL.out], by rw [List.length_append]; rfl, HT.out, ?_, ?_, by rw [HTL.out]; exact hc8, hm8, hfin⟩
            · rw [List.length_append, HOS.out]
              exact h8o
            · rw [List.length_append]
              exact hr8
          case measure => simp [intOf]; omega
        · have hc2 : ¬ (cl = 1 + k) := by omega
          have hk1 : k + 1 ≤ L.length := by omega
          have hk2 : k + 1 ≤ cl := by omega
          go_wp2_with (first
            | (at_builtin; refine wpList_app_at so_op hown7 (opsC_tail hrd7 hk1) (opsC_one _) (by omega) (by omega) rfl rfl rfl rfl ?_; intro v8 w8 hown8 hg8 hat8)
            | fail)
          obtain ⟨A8, c8, rfl, hc8, hm8, hA8⟩ := own_form hown8
          have hf8 : Fr (fun b => w6.heap.size ≤ b) w7 w8 := (Fr.refl (fun b => w6.heap.size ≤ b) w7).grown hg8 (fun q hq => .inr (hown7.lt q hq).1)
          have h6lt := hown6.lt
          have h8o := own_fr hown6w hf8 (fun b hb h => by have := (h6lt b hb).2; omega)
          have hfin : Fr No w w8 := (hFw6.tr hf7).grown hg8 (fun q hq => .inl (by have := (hown7.lt q hq).1; omega))
          have hr8 : RdO w8 (fun b => w.heap.size ≤ b ∧ ¬ (Value.slice A6 (R.length + 1) c6).ownBlock = some b) A8 (L.take k ++ L.drop (k + 1)) := by
            unfold RdO
            rw [HTL.out, opsC_append]
            exact Rd.mono (own_rd hown8 (by omega)) (fun b _ hb => by
              have h3 := (hown8.lt b ((hA8 b).2 hb)).1
              exact ⟨by omega, fun h => by have := (h6lt b h).2; omega⟩) (by decide)
          go_roundw
          case rel =>
            refine ⟨i + 1, A8, c8, L.take k ++ L.drop (k + 1), A6, c6, R ++ [p], by rw [HTL.out]; omega, by go_num, by rw [HTL.out], by rw [List.length_append]; rfl, HT.out, ?_, ?_, by rw [HTL.out]; exact hc8, hm8, hfin⟩
            · rw [List.length_append, HOS.out]
              exact h8o
            · rw [List.length_append]
              exact hr8
          case measure => simp [intOf]; omega
    · obtain rfl : L = [] := List.eq_nil_of_length_eq_zero (by omega)
      have ek : decide (0 < ([] : List OpM).length) = false := by simp
      rw [List.append_nil] at hP
      go_wp2_with fail
      go_ret
      exact ⟨Ao, co, R, rfl, hP, hown, hf⟩
end Go.Proofs.Ytgchpfennbggoaa
