/- view.from over slices.Sorted of an iterator that gives each key of a map once: the keys of a span, rising. No condition but size. -/
import Derived.Test.YtoajigghkjnffaaLays
import Derived.Shelf.SortM.SortNone
import Derived.Test.YtoajigghkjnffaaInts
import Derived.Test.YtoajigghkjnffaaMapReg
import Derived.Test.YtoajigghkjnffaaMem
import Derived.Lib.SliceRun
import Derived.Deep.LoopGhost
namespace Go.Proofs.Ytoajigghkjnffaa
set_option linter.unusedVariables false
set_option linter.unusedSimpArgs false
open Go.RowKit Go.Maps Go.Sort Go.Shelf

theorem sortsL (m : Nat) : AnyZI.SortsIn Try.prog sortedL_ren Fence.wide m :=
  ⟨fun blk off cap ss W hH hblk hsz => callsIn_wide.2 (AnyM.slices_Sort_int sortL blk off cap ss W hH hblk hsz),
   fun p cap W => callsIn_wide.2 (AnyM.slices_Sort_int_none sortL p cap W)⟩
theorem sorted_rising {l : List Int} (h : l.Nodup) : (l.mergeSort (fun x y => decide (x ≤ y))).Pairwise (· < ·) := by
  have h1 : (l.mergeSort (fun x y => decide (x ≤ y))).Pairwise (fun a b => decide (a ≤ b) = true) := List.pairwise_mergeSort (le := fun x y : Int => decide (x ≤ y)) (fun a b c h1 h2 => by simp only [decide_eq_true_eq] at *; omega) (fun a b => by simp only [Bool.or_eq_true, decide_eq_true_eq]; omega) l
  have h2 : (l.mergeSort (fun x y => decide (x ≤ y))).Nodup := (List.mergeSort_perm l _).nodup_iff.2 h
  exact (h1.and h2).imp (fun {a b} ⟨x, y⟩ => by simp only [decide_eq_true_eq] at x; omega)
/-- What a map's keys are, sorted. -/
theorem keys_sorted {w : World} {b n : Nat} {f : Int → Option Value} {D : DataW Value} (ho : w.ownsMap Try.prog 2 hR b n D) (hf : ∀ x, W64 x → has D (.int .i64 x) = (f x).isSome ∧ ∀ v, f x = some v → ∀ z, D.atKey (.int .i64 x) z = .held v)
    {ss : List Int} (hp : ss.Perm (intKeys D)) : (ss.mergeSort (fun x y => decide (x ≤ y))).Pairwise (· < ·) ∧ ∀ x, W64 x → (x ∈ ss.mergeSort (fun x y => decide (x ≤ y)) ↔ (f x).isSome = true) := by
  obtain ⟨es, hD, hpw, _⟩ := ho.entries keyed64
  obtain ⟨es', hD', hko⟩ := ho.keysOf
  obtain rfl : es = es' := by rw [hD] at hD'; simpa using hD'
  have hk : ∀ p ∈ es, ∃ x, p.1 = .int .i64 x := fun p hp => by
    obtain ⟨v, hv⟩ := hko p hp
    obtain ⟨x, _, hx, _⟩ := Maps.keyOf_i64 Try.underlying2 hv
    exact ⟨x, hx⟩
  subst hD
  have hnd : (intKeys (.map es)).Nodup := by
    show (es.map fun p => Go.intOf p.1).Nodup
    refine List.pairwise_map.2 (hpw.imp_of_mem fun {p q} hp' hq' hne e => hne ?_)
    obtain ⟨a, ha⟩ := hk p hp'
    obtain ⟨b, hb⟩ := hk q hq'
    rw [ha, hb] at e ⊢
    exact congrArg _ e
  refine ⟨sorted_rising (hp.nodup_iff.2 hnd), fun x hx => ?_⟩
  rw [List.mem_mergeSort, hp.mem_iff, ← (hf x hx).1, has_eq, List.any_eq_true]
  show x ∈ es.map (fun p => Go.intOf p.1) ↔ _
  rw [List.mem_map]
  constructor
  · rintro ⟨p, hp', rfl⟩
    obtain ⟨a, ha⟩ := hk p hp'
    exact ⟨p, hp', by rw [ha]; simp [Lit.sameKey, Go.intOf]⟩
  · rintro ⟨p, hp', hs⟩
    obtain ⟨a, ha⟩ := hk p hp'
    rw [ha] at hs
    exact ⟨p, hp', by rw [ha]; simpa [Lit.sameKey, Go.intOf] using hs⟩
theorem keys_span {f : Int → Option Value} {l : List Int} (h1 : l.Pairwise (· < ·)) (h2 : ∀ x, W64 x → (x ∈ l ↔ (f x).isSome = true)) (a : Int) (n : Nat) (ha : -9223372036854775808 ≤ a) (hn : a + n ≤ 9223372036854775807) :
    l.filter (fun x => decide (a ≤ x) && decide (x < a + n)) = upI (fun x => (f x).isSome) a n := by
  refine rising_ext (h1.filter _) (upI_sorted _ _ _) (fun x => ?_)
  rw [List.mem_filter, upI_mem, Bool.and_eq_true, decide_eq_true_eq, decide_eq_true_eq]
  constructor
  · rintro ⟨hx, h3, h4⟩
    exact ⟨⟨h3, h4⟩, (h2 x (wf_of (by omega) (by omega))).1 hx⟩
  · rintro ⟨⟨h3, h4⟩, hx⟩
    exact ⟨(h2 x (wf_of (by omega) (by omega))).2 hx, h3, h4⟩

set_option maxHeartbeats 1000000 in
set_option maxRecDepth 100000 in
theorem from_calls (g : Nat) (lb : Array Value) (eg : ∀ args w, (callFunc g args).run Try.prog w = .ok (.enter g args) w) (S : List Int → Prop) (N : Nat) (hN : N ≤ 1000000) (a b : Int) (w : World) (hseq : SeqGives Fence.wide 2 Try.prog g lb encZ S N w) (hSN : ∀ ss, S ss → ss.length ≤ N) :
    Calls Try.prog 50 #[.func (.func g) #[] lb, .int .i64 a, .int .i64 b] w fun e w' => ∃ v ss, e = .returned v ∧ S ss ∧ IRow w' w.heap.size v ((ss.mergeSort (fun x y => decide (x ≤ y))).filter (fun x => decide (a ≤ x) && decide (x < b))) ∧ Fr No w w' := by
  have cS := AnyZI.sorted_in sortedL Fence.wide 5 trivial trivial trivial trivial rfl (by omega) (sortsL _) (enters_of Try.func70 (by kernel_rfl) rfl) g lb trivial eg S N (by simp only [maxLen]; omega) (by omega) w hseq
  change CallsIn _ _ Try.prog 64 _ _ _ at cS
  have cS := callsIn_wide.1 cS
  go_enter Try.func50, Try.ntmps50
  go_wp2_with fail
  refine cS.mono ?_
  rintro e w1 ⟨v, ss, rfl, hS, hrow, hnil, hbel⟩
  have hf1 : Fr No w w1 := Fr.of_below hbel
  have hl0 : ss.length = (ss.mergeSort (fun x y => decide (x ≤ y))).length := by simp
  have hlN := hSN _ hS
  have hrow : IRow w1 w.heap.size v (ss.mergeSort (fun x y => decide (x ≤ y))) := by unfold IRow; rw [← hl0]; exact hrow
  generalize hL : ss.mergeSort (fun x y => decide (x ≤ y)) = L at *
  rw [hl0] at hlN
  have HL := Lib.hid hL
  clear hl0 hL hnil
  obtain ⟨A, c, rfl, hrd⟩ := IRow.rd hrow (by omega)
  have hs1 := hf1.size
  have HN := Lib.hid hlN
  have hle := hrd.le
  go_wp2_with fail
  go_loopw [7, 13] (fun v i wr => ∃ (k : Nat) (M : List Int), k ≤ L.length ∧ i = .int .i64 (k : Int) ∧ M.length ≤ k ∧ Hid (M = (L.take k).filter (fun x => decide (a ≤ x) && decide (x < b))) ∧ wr.ownsRow w1.heap.size 2 1 v M.length (I64 M) ∧ Fr No w1 wr) (fun _ i _ => L.length - (intOf i).toNat)
  case atStart => exact ⟨0, [], by omega, rfl, by simp, Lib.hid (by simp), World.ownsRow_nil _ _ _ _, Fr.refl _ _⟩
  case round =>
    obtain ⟨k, M, hk, rfl, hMk, HM, hown, hf⟩ := hrel
    by_cases hlt : k < L.length
    · have ek : decide ((k : Int) < L.length) = true := by simpa using (by omega : (k : Int) < L.length)
      obtain ⟨ad, rfl, _, hc⟩ := (RdI.fr0 hrd hf).at_ hlt
      have HT := Lib.hid (show (L.take (k + 1)).filter (fun x => decide (a ≤ x) && decide (x < b)) = (L.take k).filter (fun x => decide (a ≤ x) && decide (x < b)) ++ [L[k]].filter (fun x => decide (a ≤ x) && decide (x < b)) by
        rw [← List.filter_append, ← List.take_append_getElem hlt])
      generalize L[k] = x at *
      by_cases h1 : a ≤ x
      · have e1 : decide (a ≤ x) = true := by simpa using h1
        have e1' : decide (x ≥ a) = true := by simpa using h1
        by_cases h2 : x < b
        · have e2 : decide (x < b) = true := by simpa using h2
          have HT' := Lib.hid (show (L.take (k + 1)).filter (fun x => decide (a ≤ x) && decide (x < b)) = (L.take k).filter (fun x => decide (a ≤ x) && decide (x < b)) ++ [x] by rw [HT.out]; simp [h1, h2])
          have hownA := hown.alloc (.cells #[.int .i64 x] 2)
          clear h1 h2
          go_wp2_with (first
            | (refine wpList_app_hid so_i64 rfl hownA (rd_new1 (by simp)) (by intro u hu; simp at hu; subst hu; rfl) (by omega) (by have := hf.size; simp; omega) rfl rfl rfl ?_; intro v5 w5 hown5 hg5 hat5)
            | fail)
          go_roundw
          case rel =>
            refine ⟨k + 1, M ++ [x], by omega, by go_num, by simp; omega, Lib.hid (by rw [HT'.out, HM.out]), ?_, (hf.alloc _).grown hg5 (fun q hq => .inl (hown.lt q hq).1)⟩
            rw [List.length_append, I64_append]; exact hown5
          case measure => simp [intOf]; omega
        · have e2 : decide (x < b) = false := by simpa using h2
          have HT' := Lib.hid (show (L.take (k + 1)).filter (fun x => decide (a ≤ x) && decide (x < b)) = (L.take k).filter (fun x => decide (a ≤ x) && decide (x < b)) by rw [HT.out]; simp [h2])
          clear h1 h2
          go_wp2
          go_roundw
          case rel => exact ⟨k + 1, M, by omega, by go_num, by omega, Lib.hid (by rw [HT'.out, HM.out]), hown, hf⟩
          case measure => simp [intOf]; omega
      · have e1 : decide (a ≤ x) = false := by simpa using h1
        have HT' := Lib.hid (show (L.take (k + 1)).filter (fun x => decide (a ≤ x) && decide (x < b)) = (L.take k).filter (fun x => decide (a ≤ x) && decide (x < b)) by rw [HT.out]; simp [h1])
        clear h1
        go_wp2
        go_roundw
        case rel => exact ⟨k + 1, M, by omega, by go_num, by omega, Lib.hid (by rw [HT'.out, HM.out]), hown, hf⟩
        case measure => simp [intOf]; omega
    · obtain rfl : k = L.length := by omega
      have ek : decide ((L.length : Int) < L.length) = false := by simp
      rw [List.take_length] at HM
      go_wp2
      go_ret
      refine ⟨_, ss, rfl, hS, ?_, hf1.tr hf⟩
      rw [HL.out, ← HM.out]
      exact own_down hown hs1
end Go.Proofs.Ytoajigghkjnffaa
