/- rc.Replay: a Bag from which is taken what it does not have. No condition but size. A region that leaves its order open: three calls that may come in any order. No condition. -/
import Derived.Test.YtgchpfennbggoaaJRRcOrderp1
import Derived.Test.YtgchpfennbggoaaJRRcOrderp0
namespace Go.Proofs.Ytgchpfennbggoaa
set_option linter.unusedVariables false
set_option linter.unusedSimpArgs false
open Go.RowKit

set_option maxHeartbeats 4000000 in
set_option maxRecDepth 100000 in
theorem replay14_miss (S : Nat → Prop) (cs : List Value) (o : ObjM) (w : World) (A0 : Option Addr) (c0 : Nat) (ops : List OpM) (h : ObjC w S cs o) (hc : o.cls = 14) (h1 : o.slots.length ≤ 1048576) (hops : RdO w (fun b => b < w.heap.size) A0 ops) (hlt : 0 < ops.length) (hadd : ops[0].add = false) (hmiss : ops[0].v ∉ o.slots) :
    Calls Try.prog 8 #[.agg cs.toArray, .slice A0 ops.length c0] w (fun e w' => e = .returned (.tuple #[.agg #[.int .i64 0, .slice none 0 0, .slice none 0 0], .int .i64 30]) ∧ Fr No w w') := by
  have hle := hops.2.1
  have ho := h
  obtain ⟨A, c, D, c2, rfl, hs, hbt⟩ := h
  obtain ⟨cls, slots, bytes⟩ := o
  simp only at hc h1 hs hbt
  subst hc
  simp only
  have HM := Lib.hid hmiss
  clear hmiss
  go_enter Try.func8, Try.ntmps8
  go_wp2_with (first
    | (refine wpList_ldA ag_obj rfl _ rfl ⟨w.heap.size, 0, none⟩ [.int .i64 14, .slice A slots.length c, .slice D bytes.length c2] rfl rfl (show ∀ j u, _ → ((w.alloc (.cells #[.int .i64 14, .slice A slots.length c, .slice D bytes.length c2] 25)).alloc (.cells #[.int .i64 0, .slice none 0 0, .slice none 0 0] 25)).cell? _ = some u from Blk.all (Blk.alloc (Blk.new w _ _) _)) ?_)
    | fail)
  -- the walk's rest
  have hf1 : Fr No w ((w.alloc (.cells #[.int .i64 14, .slice A slots.length c, .slice D bytes.length c2] 25)).alloc (.cells #[.int .i64 0, .slice none 0 0, .slice none 0 0] 25)) := ((Fr.refl No w).alloc _).alloc _
  have hbR1 : Blk ((w.alloc (.cells #[.int .i64 14, .slice A slots.length c, .slice D bytes.length c2] 25)).alloc (.cells #[.int .i64 0, .slice none 0 0, .slice none 0 0] 25)) (w.heap.size + 1) 25 #[.int .i64 0, .slice none 0 0, .slice none 0 0] := Blk.newAt (by simp)
  have hbX1 : Blk ((w.alloc (.cells #[.int .i64 14, .slice A slots.length c, .slice D bytes.length c2] 25)).alloc (.cells #[.int .i64 0, .slice none 0 0, .slice none 0 0] 25)) w.heap.size 25 #[.int .i64 14, .slice A slots.length c, .slice D bytes.length c2] := (Blk.new w _ _).alloc _
  have hs1 : ((w.alloc (.cells #[.int .i64 14, .slice A slots.length c, .slice D bytes.length c2] 25)).alloc (.cells #[.int .i64 0, .slice none 0 0, .slice none 0 0] 25)).heap.size = w.heap.size + 1 + 1 := by simp
  refine (ocopy_calls S [.int .i64 14, .slice A slots.length c, .slice D bytes.length c2] ⟨14, slots, bytes⟩ _ (ho.fr0 hf1) (by simp only; omega)).mono ?_
  rintro e w2 ⟨cs', rfl, hown, hf2⟩
  rw [hs1] at hown
  obtain ⟨A2, c2', D2, d2, M, rfl, hso, hMl, hbo, hBM⟩ := hown
  simp only at hso hMl hbo
  have hbR2 := hbR1.fr0 hf2
  have hbX2 := hbX1.fr0 hf2
  have hF2 := hf1.tr hf2
  have hsz2 : w.heap.size + 1 + 1 ≤ w2.heap.size := by have := hf2.size; omega
  have q0 := hbX2.cell 0
  simp only [List.getElem?_toArray, List.getElem?_cons_zero, List.getElem?_cons_succ] at q0
  clear hbR1 hbX1 hf1 hf2 hs1
  have hle2 := RdB.le hbt
  obtain ⟨_, _, e9, _, _, hD2⟩ := own_form hbo
  injection e9 with e91 e92 e93
  subst e91 e93
  have hbox : BoxAt (w2.alloc (.cells #[.int .i64 14, .slice A2 slots.length c2', .slice D2 bytes.length d2] 25)) w2.heap.size (w.heap.size + 1 + 1) ⟨14, slots, bytes⟩ := by
    refine ⟨A2, c2', D2, d2, Blk.new w2 _ _, own_fr0 hso ((Fr.refl No w2).alloc _), fun b hb => by have := (hso.lt b hb).2; omega, ?_⟩
    refine Rd.mono (Rd.fr0 (own_rd hbo hle2) ((Fr.refl No w2).alloc _)) (fun b _ hb => ⟨⟨?_, fun h3 => ?_⟩, ?_⟩) (by decide)
    · have := (hbo.lt b ((hD2 b).2 hb)).2; omega
    · have := (hbo.lt b ((hD2 b).2 hb)).1; have := hMl b h3; omega
    · have := (hbo.lt b ((hD2 b).2 hb)).1; omega
  have hfB : Fr No w2 (w2.alloc (.cells #[.int .i64 14, .slice A2 slots.length c2', .slice D2 bytes.length d2] 25)) := (Fr.refl No w2).alloc _
  have q0a := (hbX2.fr0 hfB).cell 0
  simp only [List.getElem?_toArray, List.getElem?_cons_zero, List.getElem?_cons_succ] at q0a
  go_wp2_with fail
  generalize hw3 : w2.alloc (.cells #[.int .i64 14, .slice A2 slots.length c2', .slice D2 bytes.length d2] 25) = w3 at *
  clear hw3
  obtain ⟨g, hg⟩ : ∃ g, g = w2.heap.size := ⟨_, rfl⟩
  have hsz3 := hfB.size
  have hF3 := hF2.tr hfB
  have hbR3 := hbR2.fr0 hfB
  have hgl : w.heap.size + 1 + 1 ≤ g := by omega
  rw [← hg] at hbox ⊢
  clear hg hbX2 q0 q0a hbR2 hfB hso hMl hbo hD2 hF2
  go_loopw [20] (fun i wr => i = .int .i64 0 ∧ wr = w3) (fun i _ => 0)
  case atStart => exact ⟨rfl, rfl⟩
  case round =>
    obtain ⟨rfl, rfl⟩ := hrel
    have ek : decide ((0 : Int) < ops.length) = true := by simpa using hlt
    obtain ⟨go, of, rfl, _, hco⟩ := RdO.at_ (w := wr) (S := fun b => b < w.heap.size) (A := A0) (l := ops) (Rd.fr0 hops hF3) hlt
    obtain ⟨p, hp⟩ : ∃ p, Hid (p = ops[0]) := ⟨_, Lib.hid rfl⟩
    rw [← hp.out] at hco hadd
    have hmp : p.v ∉ slots := by rw [hp.out]; exact HM.out
    clear HM hp
    obtain ⟨oop, add, v⟩ := p
    simp only at hadd hmp
    subst hadd
    have HMP := Lib.hid hmp
    clear hmp
    obtain ⟨Al, cl, Dl, dl, hbg, hol, hgol, hdl⟩ := id hbox
    simp only at hbg hol hdl
    clear hgol
    have hbo := Blk.new wr 41 (opcells ⟨oop, false, v⟩).toArray
    have hfo : Fr No wr (wr.alloc (.cells (opcells ⟨oop, false, v⟩).toArray 41)) := (Fr.refl No wr).alloc _
    unfold opcells at hco hbo hfo
    simp only [Nat.zero_mul, Nat.add_zero] at hco
    go_wp2_with (first
      | (refine wpList_ldA ag_op rfl _ rfl ⟨go, of, none⟩ [.int .i64 oop, .bool false, .int .i64 v.k, .int .i64 v.n] rfl rfl hco ?_)
      | (refine wpList_ldA ag_op rfl _ rfl ⟨wr.heap.size, 0, none⟩ [.int .i64 oop, .bool false, .int .i64 v.k, .int .i64 v.n] rfl rfl hbo.all ?_)
      | fail)
    refine (put_miss _ _ g cl dl Al Dl slots bytes.length oop v (hbg.fr0 hfo) (Rd.fr0 (own_rd hol (show slots.length ≤ 211106232532992 by omega)) hfo) HMP.out).mono ?_
    rintro e w4 ⟨rfl, hf4⟩
    have hbR4 := (hbR3.fr0 hfo).fr0 hf4
    go_wp2_with (first
      | (refine wpList_stA ag_obj.info rfl _ _ rfl (w.heap.size + 1) 0 _ _ [.int .i64 0, .slice none 0 0, .slice none 0 0] _ rfl rfl rfl rfl (by intro u hu; simp at hu; rcases hu with rfl | rfl | rfl <;> rfl) hbR4 (by decide) ?_; intro w5 hb5 hg5 hz5)
      | fail)
    rw [splice_all _ _ (by rfl)] at hb5
    refine bodyPost_ret (results_blk2 ag_obj rfl _ _ _ _ _ _ rfl rfl hb5 rfl) rfl ?_
    exact ⟨rfl, ((hF3.tr hfo).tr hf4).grown hg5 (fun q hq => by injection hq with hq; exact .inl (by omega))⟩
end Go.Proofs.Ytgchpfennbggoaa
namespace Go.Proofs.Ytgchpfennbggoaa
set_option linter.unusedVariables false
set_option linter.unusedSimpArgs false
open Go.RowKit

section
variable {P : Program} {S : Nat → Prop} {ops : Array Oper} {Q : Exit → Act → World → Prop} {ms : List Nat} {ord calls : List Nat} {k : Nat} {l : List Oper} {o : Oper} {a : Act} {w : World}
/-- Three calls that may come in any order: each is a way of its own, in an order of its own. -/
theorem T_fork3 {ord2 calls2 ord3 calls3 : List Nat} {l2 l3 : List Oper} {o2 o3 : Oper} {i j m : Nat} (hrd : Region.ready .any ops (listedBy ops.size (ord.take k)) = [i, j, m]) (hi : ord.getD k 0 = i) (hj : ord2.getD k 0 = j) (hm : ord3.getD k 0 = m) (ht2 : ord2.take k = ord.take k) (ht3 : ord3.take k = ord.take k)
    (hok2 : regionOk ops ord2 calls2 = true) (hok3 : regionOk ops ord3 calls3 = true) (hl2 : pickOps ops.toList (ord2.drop k) = o2 :: l2) (hl3 : pickOps ops.toList (ord3.drop k) = o3 :: l3) (hmi : ms.contains i = false) (hmj : ms.contains j = false) (hmm : ms.contains m = false)
    (hw1 : Region.wanted o (yielded ops a.tmps) = true) (hw2 : Region.wanted o2 (yielded ops a.tmps) = true) (hw3 : Region.wanted o3 (yielded ops a.tmps) = true)
    (h1 : ∀ K' : Act → World → Prop, Shut (∀ a' w', Fr S w w' → wpT P S ops Q ms ord calls (k + 1) l a' w' → K' a' w') → Oper.wp P o a w K' Q)
    (h2 : ∀ K' : Act → World → Prop, Shut (∀ a' w', Fr S w w' → wpT P S ops Q ms ord2 calls2 (k + 1) l2 a' w' → K' a' w') → Oper.wp P o2 a w K' Q)
    (h3' : ∀ K' : Act → World → Prop, Shut (∀ a' w', Fr S w w' → wpT P S ops Q ms ord3 calls3 (k + 1) l3 a' w' → K' a' w') → Oper.wp P o3 a w K' Q) : wpT P S ops Q ms ord calls k (o :: l) a w := by
  intro hok hl
  obtain ⟨hk1, ho, hl', ht⟩ := step_parts hok hl
  obtain ⟨hk2, ho2, hl2', ht2'⟩ := step_parts hok2 hl2
  obtain ⟨hk3, ho3, hl3', ht3'⟩ := step_parts hok3 hl3
  obtain ⟨_, hlen, _, _⟩ := regionOk_parts hok
  rw [hi] at ho ht
  rw [hj] at ho2 ht2'
  rw [hm] at ho3 ht3'
  obtain ⟨n, hn⟩ : ∃ n, ops.size - k = n + 1 := ⟨ops.size - k - 1, by omega⟩
  rw [hn]
  refine ⟨fun h0 => absurd (hrd ▸ h0) (by simp), fun q hq => ?_⟩
  rw [hrd] at hq
  rcases List.mem_cons.1 hq with rfl | hq
  · refine wpOp_step ho fun K' hK => ?_
    rw [if_pos hw1]
    refine h1 K' fun a' w' hE hT => hK a' w' ?_
    rw [if_neg (by rw [hmi]; exact Bool.false_ne_true)]
    have h3 := hT hok hl'
    rw [listedBy_succ, ← ht, show n = ops.size - (k + 1) by omega]
    exact ⟨hE, wpAnyM_weak (fun w'' h'' => hE.trans h'' (fun _ _ hs => hs)) _ _ _ _ h3⟩
  rcases List.mem_cons.1 hq with rfl | hq
  · refine wpOp_step ho2 fun K' hK => ?_
    rw [if_pos hw2]
    refine h2 K' fun a' w' hE hT => hK a' w' ?_
    rw [if_neg (by rw [hmj]; exact Bool.false_ne_true)]
    have h3 := hT hok2 hl2'
    rw [listedBy_succ, ← ht2, ← ht2', show n = ops.size - (k + 1) by omega]
    exact ⟨hE, wpAnyM_weak (fun w'' h'' => hE.trans h'' (fun _ _ hs => hs)) _ _ _ _ h3⟩
  · obtain rfl := List.mem_singleton.1 hq
    refine wpOp_step ho3 fun K' hK => ?_
    rw [if_pos hw3]
    refine h3' K' fun a' w' hE hT => hK a' w' ?_
    rw [if_neg (by rw [hmm]; exact Bool.false_ne_true)]
    have h3 := hT hok3 hl3'
    rw [listedBy_succ, ← ht3, ← ht3', show n = ops.size - (k + 1) by omega]
    exact ⟨hE, wpAnyM_weak (fun w'' h'' => hE.trans h'' (fun _ _ hs => hs)) _ _ _ _ h3⟩
end
end Go.Proofs.Ytgchpfennbggoaa
