/- Reads, Writes, News of a view: the keys of its maps in a span, rising. No condition but size. -/
import Derived.Test.YtoajigghkjnffaaLaysV
import Derived.Test.YtoajigghkjnffaaFrom
import Derived.Test.YtoajigghkjnffaaView
namespace Go.Proofs.Ytoajigghkjnffaa
set_option linter.unusedVariables false
set_option linter.unusedSimpArgs false
open Go.RowKit Go.Maps Go.Sort Go.Shelf

/-- What a list of a map's keys in a span is. -/
theorem MapV.span {w : World} {b n : Nat} {f : Int → Option Value} {D : DataW Value} (ho : w.ownsMap Try.prog 2 hR b n D) (hf : ∀ x, W64 x → has D (.int .i64 x) = (f x).isSome ∧ ∀ v, f x = some v → ∀ z, D.atKey (.int .i64 x) z = .held v)
    {ss : List Int} (hp : ss.Perm (intKeys D)) {a e : Int} {m : Nat} (he : e = a + m) (ha : -9223372036854775808 ≤ a) (hm : a + m ≤ 9223372036854775807) {p : Int → Bool} (hq : ∀ x, W64 x → (f x).isSome = p x) :
    (ss.mergeSort (fun x y => decide (x ≤ y))).filter (fun x => decide (a ≤ x) && decide (x < e)) = upI p a m := by
  obtain ⟨h1, h2⟩ := keys_sorted ho hf hp
  subst he
  rw [keys_span h1 h2 a m ha hm]
  exact upI_congr (fun x h3 h4 => hq x (wf_of (by omega) (by omega)))
theorem intKeys_len {w : World} {b n : Nat} {D : DataW Value} (ho : w.ownsMap Try.prog 2 hR b n D) {ss : List Int} (hp : ss.Perm (intKeys D)) : ss.length ≤ n := by
  obtain ⟨es, hD, _⟩ := ho.entries keyed64
  have := ho.size_le
  subst hD
  rw [hp.length_eq]
  simpa [intKeys, Maps.size] using this

set_option maxHeartbeats 1000000 in
set_option maxRecDepth 100000 in
theorem reads_calls (w : World) (V O : Nat → Prop) (q p : Nat) (v : ViewM) (h : ViewAt w V O q p v) (hn : v.n ≤ 1000000) :
    Calls Try.prog 26 #[.pointer (some ⟨q, 0, none⟩)] w fun e w' => ∃ x, e = .returned x ∧ IRow w' w.heap.size x (upI v.read 1 4096) ∧ Fr No w w' := by
  obtain ⟨ob, rb, f, g, hP⟩ := h
  obtain ⟨D, ho, hf⟩ := hP.rd
  have hmax : Maps.size D ≤ maxLen := Nat.le_trans ho.size_le (by simp only [maxLen]; omega)
  have hseq : SeqGives Fence.wide 2 Try.prog 65 #[.pointer (some ⟨w.heap.size, 0, none⟩)] encZ (fun ss => ss.Perm (intKeys D)) (Maps.size D) (w.alloc (.cells #[.map (some rb)] 80)) :=
    AnyZI.keys_gives (ρ := keysR_ren) { keysR with } Fence.wide _ trivial rfl (by omega) w.heap.size rb v.n D _ (by simp) (by simp) (ho.alloc _)
  have cK : Calls Try.prog 51 #[.map (some rb)] w fun e w' => e = .returned (.func (.func 65) #[] #[.pointer (some ⟨w.heap.size, 0, none⟩)]) ∧ w' = w.alloc (.cells #[.map (some rb)] 80) := callsIn_wide.1 (AnyZI.keys_in keysR Fence.wide 5 trivial rfl (some rb) w)
  have hsz := ho.size_le
  have cF := from_calls 65 #[.pointer (some ⟨w.heap.size, 0, none⟩)] (enters_of Try.func65 (by kernel_rfl) rfl) _ (Maps.size D) (by omega) 1 4097 _ hseq (fun ss hp => by
    rw [hp.length_eq]
    obtain ⟨es, hD, _⟩ := ho.entries keyed64
    subst hD; simp [intKeys, Maps.size])
  have hb := hP.blk
  (have p0 := hb.cell 0; have p1 := hb.cell 1; have p2 := hb.cell 2; have p3 := hb.cell 3; have p4 := hb.cell 4; have pf0 := hb.frozen 0; have pf1 := hb.frozen 1; have pf2 := hb.frozen 2; have pf3 := hb.frozen 3; have pf4 := hb.frozen 4; simp only [List.getElem?_toArray, List.getElem?_cons_zero, List.getElem?_cons_succ] at p0 p1 p2 p3 p4)
  have hread := hP.reads
  have HS := Lib.hid (show ∀ ss : List Int, ss.Perm (intKeys D) → (ss.mergeSort (fun x y => decide (x ≤ y))).filter (fun x => decide ((1 : Int) ≤ x) && decide (x < 4097)) = upI v.read 1 4096 from fun ss hp =>
    MapV.span (m := 4096) ho hf hp (by decide) (by decide) (by decide) (fun x hx => by rw [hread x hx]; split <;> simp_all))
  clear hread hf hseq hsz hmax
  go_enter Try.func26, Try.ntmps26
  go_wp2_with fail
  refine cK.mono ?_
  rintro e w1 ⟨rfl, hw1⟩
  have hw1 := hw1.symm
  subst hw1
  go_wp2_with fail
  refine cF.mono ?_
  rintro e w2 ⟨x, ss, rfl, hp, hrow, hf2⟩
  rw [HS.out ss hp] at hrow
  go_wp2
  go_ret
  exact ⟨_, rfl, own_down hrow (by simp), (Fr.refl No w).alloc _ |>.tr hf2⟩
set_option maxHeartbeats 1000000 in
set_option maxRecDepth 100000 in
theorem writes_calls (w : World) (V O : Nat → Prop) (q p : Nat) (v : ViewM) (h : ViewAt w V O q p v) (hn : v.n ≤ 1000000) :
    Calls Try.prog 27 #[.pointer (some ⟨q, 0, none⟩)] w fun e w' => ∃ x, e = .returned x ∧ IRow w' w.heap.size x (upI (fun x => (v.own x).isSome) 1 4096) ∧ Fr No w w' := by
  obtain ⟨ob, rb, f, g, hP⟩ := h
  obtain ⟨D, ho, hf⟩ := hP.own
  have hmax : Maps.size D ≤ maxLen := Nat.le_trans ho.size_le (by simp only [maxLen]; omega)
  have hseq : SeqGives Fence.wide 2 Try.prog 66 #[.pointer (some ⟨w.heap.size, 0, none⟩)] encZ (fun ss => ss.Perm (intKeys D)) (Maps.size D) (w.alloc (.cells #[.map (some ob)] 79)) :=
    AnyZI.keys_gives (ρ := keysO_ren) { keysO with } Fence.wide _ trivial rfl (by omega) w.heap.size ob v.n D _ (by simp) (by simp) (ho.alloc _)
  have cK : Calls Try.prog 52 #[.map (some ob)] w fun e w' => e = .returned (.func (.func 66) #[] #[.pointer (some ⟨w.heap.size, 0, none⟩)]) ∧ w' = w.alloc (.cells #[.map (some ob)] 79) := callsIn_wide.1 (AnyZI.keys_in keysO Fence.wide 5 trivial rfl (some ob) w)
  have hsz := ho.size_le
  have cF := from_calls 66 #[.pointer (some ⟨w.heap.size, 0, none⟩)] (enters_of Try.func66 (by kernel_rfl) rfl) _ (Maps.size D) (by omega) 1 4097 _ hseq (fun ss hp => by
    rw [hp.length_eq]
    obtain ⟨es, hD, _⟩ := ho.entries keyed64
    subst hD; simp [intKeys, Maps.size])
  have hb := hP.blk
  (have p0 := hb.cell 0; have p1 := hb.cell 1; have p2 := hb.cell 2; have p3 := hb.cell 3; have p4 := hb.cell 4; have pf0 := hb.frozen 0; have pf1 := hb.frozen 1; have pf2 := hb.frozen 2; have pf3 := hb.frozen 3; have pf4 := hb.frozen 4; simp only [List.getElem?_toArray, List.getElem?_cons_zero, List.getElem?_cons_succ] at p0 p1 p2 p3 p4)
  have hread := hP.objs
  have HS := Lib.hid (show ∀ ss : List Int, ss.Perm (intKeys D) → (ss.mergeSort (fun x y => decide (x ≤ y))).filter (fun x => decide ((1 : Int) ≤ x) && decide (x < 4097)) = upI (fun x => (v.own x).isSome) 1 4096 from fun ss hp =>
    MapV.span (m := 4096) ho hf hp (by decide) (by decide) (by decide) (fun x hx => by rcases hread x hx with ⟨e1, e2⟩ | ⟨cs, o, e1, e2, _⟩ <;> rw [e1, e2] <;> rfl))
  clear hread hf hseq hsz hmax
  go_enter Try.func27, Try.ntmps27
  go_wp2_with fail
  refine cK.mono ?_
  rintro e w1 ⟨rfl, hw1⟩
  have hw1 := hw1.symm
  subst hw1
  go_wp2_with fail
  refine cF.mono ?_
  rintro e w2 ⟨x, ss, rfl, hp, hrow, hf2⟩
  rw [HS.out ss hp] at hrow
  go_wp2
  go_ret
  exact ⟨_, rfl, own_down hrow (by simp), (Fr.refl No w).alloc _ |>.tr hf2⟩
set_option maxHeartbeats 1000000 in
set_option maxRecDepth 100000 in
theorem news_calls (w : World) (V O : Nat → Prop) (q p : Nat) (v : ViewM) (h : ViewAt w V O q p v) (hn : v.n ≤ 1000000) :
    Calls Try.prog 28 #[.pointer (some ⟨q, 0, none⟩)] w fun e w' => ∃ x, e = .returned x ∧ IRow w' w.heap.size x (upI (fun x => (v.own x).isSome) 4097 4096) ∧ Fr No w w' := by
  obtain ⟨ob, rb, f, g, hP⟩ := h
  obtain ⟨D, ho, hf⟩ := hP.own
  have hmax : Maps.size D ≤ maxLen := Nat.le_trans ho.size_le (by simp only [maxLen]; omega)
  have hseq : SeqGives Fence.wide 2 Try.prog 66 #[.pointer (some ⟨w.heap.size, 0, none⟩)] encZ (fun ss => ss.Perm (intKeys D)) (Maps.size D) (w.alloc (.cells #[.map (some ob)] 79)) :=
    AnyZI.keys_gives (ρ := keysO_ren) { keysO with } Fence.wide _ trivial rfl (by omega) w.heap.size ob v.n D _ (by simp) (by simp) (ho.alloc _)
  have cK : Calls Try.prog 52 #[.map (some ob)] w fun e w' => e = .returned (.func (.func 66) #[] #[.pointer (some ⟨w.heap.size, 0, none⟩)]) ∧ w' = w.alloc (.cells #[.map (some ob)] 79) := callsIn_wide.1 (AnyZI.keys_in keysO Fence.wide 5 trivial rfl (some ob) w)
  have hsz := ho.size_le
  have cF := from_calls 66 #[.pointer (some ⟨w.heap.size, 0, none⟩)] (enters_of Try.func66 (by kernel_rfl) rfl) _ (Maps.size D) (by omega) 4097 8193 _ hseq (fun ss hp => by
    rw [hp.length_eq]
    obtain ⟨es, hD, _⟩ := ho.entries keyed64
    subst hD; simp [intKeys, Maps.size])
  have hb := hP.blk
  (have p0 := hb.cell 0; have p1 := hb.cell 1; have p2 := hb.cell 2; have p3 := hb.cell 3; have p4 := hb.cell 4; have pf0 := hb.frozen 0; have pf1 := hb.frozen 1; have pf2 := hb.frozen 2; have pf3 := hb.frozen 3; have pf4 := hb.frozen 4; simp only [List.getElem?_toArray, List.getElem?_cons_zero, List.getElem?_cons_succ] at p0 p1 p2 p3 p4)
  have hread := hP.objs
  have HS := Lib.hid (show ∀ ss : List Int, ss.Perm (intKeys D) → (ss.mergeSort (fun x y => decide (x ≤ y))).filter (fun x => decide ((4097 : Int) ≤ x) && decide (x < 8193)) = upI (fun x => (v.own x).isSome) 4097 4096 from fun ss hp =>
    MapV.span (m := 4096) ho hf hp (by decide) (by decide) (by decide) (fun x hx => by rcases hread x hx with ⟨e1, e2⟩ | ⟨cs, o, e1, e2, _⟩ <;> rw [e1, e2] <;> rfl))
  clear hread hf hseq hsz hmax
  go_enter Try.func28, Try.ntmps28
  go_wp2_with fail
  refine cK.mono ?_
  rintro e w1 ⟨rfl, hw1⟩
  have hw1 := hw1.symm
  subst hw1
  go_wp2_with fail
  refine cF.mono ?_
  rintro e w2 ⟨x, ss, rfl, hp, hrow, hf2⟩
  rw [HS.out ss hp] at hrow
  go_wp2
  go_ret
  exact ⟨_, rfl, own_down hrow (by simp), (Fr.refl No w).alloc _ |>.tr hf2⟩
end Go.Proofs.Ytoajigghkjnffaa
