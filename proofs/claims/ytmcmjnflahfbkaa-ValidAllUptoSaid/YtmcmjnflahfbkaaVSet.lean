/- Sets of int64 as maps; valid.setOf, the closure of valid.least. No condition. -/
import Derived.Test.YtmcmjnflahfbkaaVInt
import Derived.Maps.Own
import Derived.Maps.OwnOps
import Derived.Maps.OwnSet
import Derived.Maps.Views
import Derived.Carry
namespace Go.Proofs.Ytmcmjnflahfbkaa
set_option linter.unusedVariables false
set_option linter.unusedSimpArgs false
open Go.RowKit Go.Maps

theorem keyed64 : Keyed Try.prog 2 := int_keyed Try.underlying2
theorem zero_bool (w : World) : (zeroValue 4).run Try.prog w = .ok (.bool false) w := by kernel_rfl
def Wf (l : List Int) : Prop := ∀ x ∈ l, (Lit.int .i64 x).wf = true
abbrev setD (l : List Int) : DataW Unit := Maps.setOf (.lit (.bool true)) (l.map (Lit.int .i64))
/-- Block b is a map that holds just the numbers of l. -/
def SetAt (w : World) (b n : Nat) (l : List Int) : Prop := w.ownsMap Try.prog 2 (plainElem Try.prog 4) b n (setD l)
theorem SetAt.made (w : World) : SetAt (w.alloc (.map #[] 0)) w.heap.size 0 [] := World.ownsMap_made _ _ _ _
theorem setD_snoc (l : List Int) (x : Int) : setD (l ++ [x]) = (setD l).put (.int .i64 x) (.lit (.bool true)) := by
  unfold setD; rw [List.map_append, List.map_cons, List.map_nil, setOf_snoc]
theorem isKey64 (x : Int) : WideAt.IsKeyLit (.int .i64 x) := by
  unfold WideAt.IsKeyLit; trivial
theorem atKey_fold (u z : DataW Unit) (k : Lit) : ∀ (acc : List Lit) (m : DataW Unit), IsMap m → (∀ x ∈ acc, WideAt.IsKeyLit x) →
    ((k ∈ acc → (acc.foldl (fun m x => m.put x u) m).atKey k z = u) ∧ (k ∉ acc → (acc.foldl (fun m x => m.put x u) m).atKey k z = m.atKey k z))
  | [], m, _, _ => ⟨fun h => absurd h (by simp), fun _ => rfl⟩
  | x :: r, m, hm, h => by
    obtain ⟨h1, h2⟩ := atKey_fold u z k r (m.put x u) (hm.put x u) (fun y hy => h y (by simp [hy]))
    refine ⟨fun hk => ?_, fun hk => ?_⟩
    · rw [List.foldl_cons]
      rcases Classical.em (k ∈ r) with hr | hr
      · exact h1 hr
      · have e : k = x := by
          rcases List.mem_cons.1 hk with e | e
          · exact e
          · exact absurd e hr
        rw [h2 hr, e]
        exact atKey_put_same hm (h x (by simp)) _ _
    · rw [List.foldl_cons, h2 (fun hr => hk (List.mem_cons_of_mem _ hr))]
      exact atKey_put_other (fun e => hk (by rw [e]; simp)) _ _
theorem atKey_setD (l : List Int) (x : Int) : (setD l).atKey (.int .i64 x) (.lit (.bool false)) = .lit (.bool (decide (x ∈ l))) := by
  unfold setD Maps.setOf
  obtain ⟨h1, h2⟩ := atKey_fold (.lit (.bool true)) (.lit (.bool false)) (.int .i64 x) (l.map (Lit.int .i64)) (.map []) isMap_empty (by intro y hy; obtain ⟨a, _, rfl⟩ := List.mem_map.1 hy; exact isKey64 a)
  by_cases h : x ∈ l
  · rw [h1 (List.mem_map.2 ⟨x, h, rfl⟩)]; simp [h]
  · rw [h2 (fun hh => by
      obtain ⟨a, ha, e⟩ := List.mem_map.1 hh
      have e2 : a = x := by injection e
      subst e2; exact h ha)]
    simp [h, DataW.atKey]
theorem SetAt.look {w : World} {b n : Nat} {l : List Int} (h : SetAt w b n l) (x : Int) (hx : (Lit.int .i64 x).wf = true) :
    (Instr.lookup 65 (.map (some b)) (.int .i64 x) false).run Try.prog w = .ok (.bool (decide (x ∈ l))) w := by
  obtain ⟨v, ps, hrun, hv⟩ := World.ownsMap.lookup h keyed64 Try.underlying65 (zero_bool w) (plainElem_bool Try.underlying4 false) (keyOf_int_mk Try.underlying2 hx)
  rw [hrun]
  rw [atKey_setD] at hv
  have hu := Try.underlying4
  unfold plainElem at hv
  rw [hu] at hv
  cases v <;> simp at hv
  obtain ⟨rfl, _⟩ := hv
  rfl
theorem SetAt.kept {w w' : World} {b n : Nat} {l : List Int} (h : SetAt w b n l) {row : Option Nat} (hg : w.grownBy w' row) (hne : some b ≠ row) : SetAt w' b n l := World.ownsMap.kept h hg hne
theorem SetAt.fr {S : Nat → Prop} {w w' : World} {b n : Nat} {l : List Int} (h : SetAt w b n l) (hf : Fr S w w') (hs : ¬ S b) : SetAt w' b n l := by
  obtain ⟨es, cl, hb, rest⟩ := h
  exact ⟨es, cl, (hf.block b (Array.getElem?_eq_some_iff.1 hb).1 hs).trans hb, rest⟩
theorem SetAt.lt {w : World} {b n : Nat} {l : List Int} (h : SetAt w b n l) : b < w.heap.size := World.ownsMap.lt h
set_option maxHeartbeats 1000000 in
theorem setof_calls (T : Nat → Prop) (G d : Nat) (A1 A2 : Option Addr) (c1 c2 : Nat) (l1 l2 : List Int) (t : TypeId) (w : World)
    (hg : Blk w G t #[.slice A1 l1.length c1, .slice A2 l2.length c2]) (h1 : RdI w T A1 l1) (h2 : RdI w T A2 l2) (w1 : Wf l1) (w2 : Wf l2) :
    Calls Try.prog 30 #[.slice (some ⟨G, 0, none⟩) 2 d] w fun e w' => ∃ b, e = .returned (.map (some b)) ∧ w.heap.size ≤ b ∧ SetAt w' b (l1.length + l2.length) (l1 ++ l2) ∧ Fr No w w' := by
  have hl1 := h1.le
  have hl2 := h2.le
  have hmm := @run_makeMap Try.prog
  go_enter Try.func30, Try.ntmps30
  go_wp2
  go_loopw [11] (fun i wr => ∃ (k n : Nat) (J : List Int), k ≤ 2 ∧ i = .int .i64 k ∧ (k = 0 → J = [] ∧ n = 0) ∧ (k = 1 → J = l1 ∧ n = l1.length) ∧ (k = 2 → J = l1 ++ l2 ∧ n = l1.length + l2.length) ∧ n ≤ l1.length + l2.length ∧ SetAt wr w.heap.size n J ∧ Fr No w wr) (fun i _ => 2 - (intOf i).toNat)
  case atStart => exact ⟨0, 0, [], by omega, rfl, fun _ => ⟨rfl, rfl⟩, by omega, by omega, by omega, SetAt.made w, (Fr.refl No w).alloc _⟩
  case round =>
    obtain ⟨k, n, J, hk, rfl, hJ0, hJ1, hJ2, hn, hs, hf⟩ := hrel
    by_cases hlt : k < 2
    · obtain ⟨A, c, l, hcell, hr, hwf, hll, hJ⟩ : ∃ A c l, wr.cell? ⟨G, k, none⟩ = some (.slice A (List.length l) c) ∧ RdI w T A l ∧ Wf l ∧ n + l.length ≤ l1.length + l2.length ∧
          (k + 1 = 0 → J ++ l = [] ∧ n + l.length = 0) ∧ (k + 1 = 1 → J ++ l = l1 ∧ n + l.length = l1.length) ∧ (k + 1 = 2 → J ++ l = l1 ++ l2 ∧ n + l.length = l1.length + l2.length) := by
        rcases (by omega : k = 0 ∨ k = 1) with rfl | rfl
        · obtain ⟨rfl, rfl⟩ := hJ0 rfl
          exact ⟨A1, c1, l1, hf.cell_some (hg.cell 0) (fun hn => hn), h1, w1, by omega, by omega, fun _ => ⟨rfl, by omega⟩, by omega⟩
        · obtain ⟨rfl, rfl⟩ := hJ1 rfl
          exact ⟨A2, c2, l2, hf.cell_some (hg.cell 1) (fun hn => hn), h2, w2, by omega, by omega, by omega, fun _ => ⟨rfl, rfl⟩⟩
      have hle := RdI.le hr
      have ek : decide ((k : Int) < 2) = true := by simpa using (by omega : (k : Int) < 2)
      have HJ := Lib.hid hJ
      have HL := Lib.hid hll
      clear hJ hJ0 hJ1 hJ2 hll
      go_wp2
      go_loopw [17] (fun i wq => ∃ j : Nat, j ≤ l.length ∧ i = .int .i64 j ∧ SetAt wq w.heap.size (n + j) (J ++ l.take j) ∧ Fr No w wq) (fun i _ => l.length - (intOf i).toNat)
      case atStart => exact ⟨0, by omega, rfl, by simpa using hs, hf⟩
      case round =>
        obtain ⟨j, hj, rfl, hsq, hfq⟩ := hrel
        by_cases hlt2 : j < l.length
        · obtain ⟨ad, hA, _, hx⟩ := RdI.at_ (Rd.fr0 hr hfq) hlt2
          have hwx := hwf _ (List.getElem_mem hlt2)
          have htk : l.take (j + 1) = l.take j ++ [l[j]] := by rw [List.take_add_one, List.getElem?_eq_getElem hlt2]; rfl
          have HT := Lib.hid htk
          clear htk
          subst hA
          generalize l[j] = x at *
          have HLe := Lib.hid (show n + j < maxLen by have := HL.out; unfold maxLen; omega)
          go_wp2_with (at_mapUpdate; refine wpList_mapUpdate_own _ rfl _ _ _ 65 rfl 2 4 keyed64 Try.underlying65 (plainElem (H := Unit) Try.prog 4) w.heap.size (n + j) _ rfl hsq HLe.out _ _ _ rfl rfl (keyOf_int_mk Try.underlying2 hwx) _ [] (plainElem_bool Try.underlying4 true) ?_; intro wq1 hown1 hgrow1)
          go_roundw
          case rel => exact ⟨j + 1, by omega, by go_num, by rw [HT.out, ← List.append_assoc]; unfold SetAt; rw [setD_snoc]; exact hown1, hfq.grown hgrow1 (by rintro b hb; injection hb with hb; subst hb; exact .inl (Nat.le_refl _))⟩
          case measure => simp [intOf]; omega
        · obtain rfl : j = l.length := by omega
          rw [List.take_length] at hsq
          go_wp2
          go_roundw
          case rel => exact ⟨k + 1, n + l.length, J ++ l, by omega, by go_num, HJ.out.1, HJ.out.2.1, HJ.out.2.2, HL.out, hsq, hfq⟩
          case measure => simp [intOf]; omega
    · obtain rfl : k = 2 := by omega
      obtain ⟨rfl, rfl⟩ := hJ2 rfl
      go_wp2
      go_ret
      exact ⟨_, rfl, Nat.le_refl _, hs, hf⟩

/-- The closure of valid.least: is it not in the set? -/
theorem notmine_calls (x : Int) (v b n : Nat) (l : List Int) (t : TypeId) (w : World) (hx : (Lit.int .i64 x).wf = true) (hv : w.cell? ⟨v, 0, none⟩ = some (.map (some b))) (hs : SetAt w b n l) :
    Calls Try.prog 32 #[.int .i64 x, .pointer (some ⟨v, 0, none⟩)] w fun e w' => e = .returned (.bool (!decide (x ∈ l))) ∧ w = w' := by
  have hl := hs.look x hx
  go_enter Try.func32, Try.ntmps32
  go_wp2
  go_ret
  exact ⟨rfl, rfl⟩
end Go.Proofs.Ytmcmjnflahfbkaa
