/- valid.least. No condition but room. -/
import Derived.Test.YtmcmjnflahfbkaaVDel
import Derived.Test.YtmcmjnflahfbkaaVWithin
namespace Go.Proofs.Ytmcmjnflahfbkaa
set_option linter.unusedVariables false
set_option linter.unusedSimpArgs false
open Go.RowKit Go.Maps

theorem ag_vtxn : AggOf Try.prog 32 4 := ⟨⟨_, Try.underlying32, rfl⟩, by kernel_rfl⟩
theorem keepM_mine (t : Txn) (l : List Int) : keepM (t.reads ++ t.writes) l = l.filter (mine t) := by
  unfold keepM
  refine List.filter_congr fun x _ => ?_
  unfold mine
  by_cases h1 : x ∈ t.reads <;> by_cases h2 : x ∈ t.writes <;> simp [h1, h2]
theorem clashes_split (ts : List Txn) (t : Txn) (p : Int → Bool) (k : Nat) : clashes ts t p = clashes (ts.take k) t p ++ clashes (ts.drop k) t p := by
  unfold clashes
  rw [← List.flatMap_append, ← List.filter_append, List.take_append_drop]
theorem clashes_take (ts : List Txn) (t : Txn) (p : Int → Bool) (k : Nat) : (clashes (ts.take k) t p).length ≤ (clashes ts t p).length := by
  rw [clashes_split ts t p k, List.length_append]; omega
theorem Blk.newAt {w : World} {g : Nat} {t : TypeId} {cs : Array Value} (h : g = w.heap.size) : Blk (w.alloc (.cells cs t)) g t cs := by subst h; exact Blk.new _ _ _
/-- A span as a value. -/
def SpanOf (sp : Value) (p : Int → Bool) : Prop :=
  (∃ a, sp = .iface 54 (.int .i64 a) ∧ p = fun c => decide (a < c)) ∨
  (∃ a b, sp = .iface 57 (.agg #[.int .i64 a, .int .i64 b]) ∧ p = fun c => decide (a < c) && decide (c < b))
theorem since_calls (a c : Int) (w : World) : Calls Try.prog 53 #[.int .i64 a, .int .i64 c] w fun e w' => e = .returned (.bool (decide (a < c))) ∧ Fr No w w' := by
  go_enter Try.func53, Try.ntmps53
  go_wp2
  go_ret
  exact ⟨rfl, by repeat (first | exact Fr.refl _ _ | apply Fr.alloc)⟩
theorem between_calls (a b c : Int) (w : World) : Calls Try.prog 54 #[.agg #[.int .i64 a, .int .i64 b], .int .i64 c] w fun e w' => e = .returned (.bool (decide (a < c) && decide (c < b))) ∧ Fr No w w' := by
  go_enter Try.func54, Try.ntmps54
  go_wp2
  · rename_i hh
    go_ret
    exact ⟨by rw [show decide (a < c) = true by simpa using hh]; rfl, (Fr.refl No w).alloc _⟩
  · rename_i hh
    go_ret
    exact ⟨by rw [show decide (a < c) = false by simpa using hh]; rfl, (Fr.refl No w).alloc _⟩

/-! ### least -/
/-- The k-th session's cells as one list. -/
theorem RdT.at4 {w : World} {S : Nat → Prop} {A : Option Addr} {ts : List Txn} {k : Nat} (h : RdT w S A ts) (hk : k < ts.length) :
    ∃ g o Ar cr Aw cw, A = some ⟨g, o, none⟩ ∧ S g ∧ (∀ j u, [Value.int .i64 ts[k].base, .int .i64 ts[k].commit, .slice Ar ts[k].reads.length cr, .slice Aw ts[k].writes.length cw][j]? = some u → w.cell? ((⟨g, o + k * 4, none⟩ : Addr).add j) = some u) ∧ RdI w S Aw ts[k].writes := by
  obtain ⟨g, o, Ar, cr, Aw, cw, hA, hS, h0, h1, h2, h3, _, hw⟩ := h.at_ hk
  refine ⟨g, o, Ar, cr, Aw, cw, hA, hS, fun j u hu => ?_, hw⟩
  rw [Addr.add_lit]
  match j, hu with
  | 0, hu => obtain rfl := Option.some.inj hu; exact h0
  | 1, hu => obtain rfl := Option.some.inj hu; exact h1
  | 2, hu => obtain rfl := Option.some.inj hu; exact h2
  | 3, hu => obtain rfl := Option.some.inj hu; exact h3
  | j + 4, hu => simp at hu
set_option maxHeartbeats 4000000 in
theorem least_since (S : Nat → Prop) (A : Option Addr) (c : Nat) (ts : List Txn) (cs : List Value) (t : Txn) (sa : Int) (p : Int → Bool) (hp : p = fun c => decide (sa < c)) (w : World) (h : RdT w S A ts) (ht : TxnC w S cs t)
    (hwt : Wf t.reads ∧ Wf t.writes) (hws : ∀ d ∈ ts, Wf d.writes) (hw8 : ∀ d ∈ ts, p d.commit = true → d.writes.length * 8 ≤ 211106232532992) (hroom : (clashes ts t p).length * 8 ≤ 211106232532992) :
    Calls Try.prog 26 #[.slice A ts.length c, .agg cs.toArray, .iface 54 (.int .i64 sa)] w fun r w' =>
      r = .returned (.tuple #[.int .i64 (iv (minL (clashes ts t p))), .bool (minL (clashes ts t p)).isSome]) ∧ Fr No w w' := by
  have hle := h.le
  obtain ⟨Ar, cr, Aw, cw, rfl, hr, hw⟩ := ht
  have hmf : ∀ (fn : Fn) (first cap : Array Value) (w : World), (Instr.makeFunc fn first cap).run Try.prog w = .ok (.func fn first cap) w := fun _ _ _ _ => rfl
  have hm : ∀ (w : World), (method 191 54 (.int .i64 sa) "lapidary/valid.has").run Try.prog w = .ok (53, .int .i64 sa) w := fun _ => by kernel_rfl
  have HP := Lib.hid hp
  have HR := Lib.hid hroom
  have HW8 := Lib.hid hw8
  have HWS := Lib.hid hws
  clear hp hroom hw8 hws
  go_enter Try.func26, Try.ntmps26
  go_wp2_with fail
  refine (setof_calls S (w.heap.size + 1) 2 Ar Aw cr cw t.reads t.writes _ _ (Blk.newAt (by simp)) (Rd.alloc (Rd.alloc hr _) _) (Rd.alloc (Rd.alloc hw _) _) hwt.1 hwt.2).mono ?_
  rintro e w1 ⟨b, rfl, hb0, hset, hf1⟩
  have hfw1 : Fr No w w1 := (((Fr.refl No w).alloc _).alloc _).tr hf1
  have hblt := hset.lt
  clear hb0 hf1
  go_wp2_with fail
  have hfw2 := hfw1.alloc (.cells #[Value.map (some b)] 65)
  have hset2 := hset.kept (World.grownBy_alloc w1 (.cells #[Value.map (some b)] 65) none) (by simp)
  have hV := (Blk.new w1 65 #[Value.map (some b)]).cell 0
  simp only [List.getElem?_toArray, List.getElem?_cons_zero] at hV
  generalize hw2 : w1.alloc (.cells #[Value.map (some b)] 65) = w2 at *
  have hsz2 : w2.heap.size = w1.heap.size + 1 := by rw [← hw2]; simp
  clear hw2
  go_loopw [9, 20] (fun l i wr => ∃ (k : Nat) (L : List Int), k ≤ ts.length ∧ i = .int .i64 k ∧ L = clashes (ts.take k) t p ∧ wr.ownsRow w2.heap.size 2 1 l L.length (I64 L) ∧ Fr No w2 wr) (fun _ i _ => ts.length - (intOf i).toNat)
  case atStart => exact ⟨0, [], by omega, rfl, rfl, World.ownsRow_nil _ _ _ _, Fr.refl _ _⟩
  case round =>
    obtain ⟨k, L, hk, rfl, hL, hown, hf⟩ := hrel
    have HL := Lib.hid hL
    clear hL
    by_cases hlt : k < ts.length
    · obtain ⟨g, of, Br, br, Bw, bw, rfl, _, hk4, hdw⟩ := (h.fr0 (hfw2.tr hf)).at4 hlt
      have htk : ts.take (k + 1) = ts.take k ++ [ts[k]] := by rw [List.take_add_one, List.getElem?_eq_getElem hlt]; rfl
      have hcl := clashes_take ts t p (k + 1)
      have HT := Lib.hid htk
      have hwf := HWS.out _ (List.getElem_mem hlt)
      have hd8 := HW8.out _ (List.getElem_mem hlt)
      rw [htk] at hcl
      have HCL := Lib.hid hcl
      have HD8 := Lib.hid hd8
      clear htk hcl hd8
      generalize ts[k] = d at *
      have ek : decide ((k : Int) < ts.length) = true := by simpa using (by omega : (k : Int) < ts.length)
      go_wp2_with (first
        | (refine wpList_ldA ag_vtxn rfl _ rfl ⟨g, of + k * 4, none⟩ [.int .i64 d.base, .int .i64 d.commit, .slice Br d.reads.length br, .slice Bw d.writes.length bw] rfl rfl hk4 ?_)
        | fail)
      have hf3 : Fr No wr (wr.alloc (.cells #[.int .i64 d.base, .int .i64 d.commit, .slice Br d.reads.length br, .slice Bw d.writes.length bw] 32)) := (Fr.refl No wr).alloc _
      have hb3 := Blk.new wr 32 #[.int .i64 d.base, .int .i64 d.commit, .slice Br d.reads.length br, .slice Bw d.writes.length bw]
      have hd3 := hb3.cell 3
      simp only [List.getElem?_toArray, List.getElem?_cons_succ, List.getElem?_cons_zero] at hd3
      refine (since_calls sa d.commit _).mono ?_
      rintro e w4 ⟨rfl, hf4⟩
      have hd3' := hf4.cell_some hd3 (fun hn => hn)
      have hf34 := hf3.tr hf4
      have hpd : p d.commit = decide (sa < d.commit) := by rw [HP.out]
      by_cases hh : p d.commit = true
      · have HB := Lib.hid (hpd.symm.trans hh)
        rw [HB.out]
        have HH := Lib.hid hh
        have hd8 := HD8.out hh
        clear hh hpd
        go_wp2_with fail
        refine (clone_calls _ Bw bw d.writes _ (Rd.fr0 hdw hf34) hd8).mono ?_
        rintro e w5 ⟨v5, rfl, hown5, hf5⟩
        obtain ⟨A5, c5, rfl, hc5, _, hA5⟩ := own_form hown5
        have hf25 := hf.tr (hf34.tr hf5)
        have hs5 : w2.heap.size ≤ w4.heap.size := (hf.tr hf34).size
        go_wp2_with fail
        refine (delete_calls A5 c5 w1.heap.size b _ _ d.writes (t.reads ++ t.writes) _ hown5 (by omega) hwf (hf25.cell_some hV (fun hn => hn)) (hset2.fr hf25 (fun hn => hn)) (by omega) (by omega)).mono ?_
        rintro e w6 ⟨v6, rfl, hown6, hf6⟩
        rw [keepM_mine] at hown6
        have hn6 : ((d.writes).filter (mine t)).length ≤ d.writes.length := List.length_filter_le _ _
        have hfr6 : Fr No wr w6 := (hf34.tr hf5).trans hf6 (fun q hq hT => by have := (hown5.lt q ((hA5 q).2 hT)).1; have := hf34.size; omega)
        obtain ⟨A6, c6, rfl, hc6, _, _⟩ := own_form hown6
        have hr6 := own_rd hown6 (by omega)
        have hown' := own_fr0 hown hfr6
        have hL' := HL.out
        have hcl := HCL.out
        rw [clashes_hit HH.out, ← hL', List.length_append] at hcl
        have hroom := HR.out
        have hLL : (L.length + (d.writes.filter (mine t)).length) * 8 ≤ 211106232532992 := by omega
        have HLL := Lib.hid hLL
        clear hcl hroom hLL hL'
        go_wp2_with (first
          | (at_builtin; refine wpList_app so_i64 hown' hr6 (I64_one _) HLL.out (hf.tr hfr6).size rfl rfl rfl rfl ?_; intro v7 w7 hown7 hg7 hat7)
          | fail)
        go_roundw
        case rel => exact ⟨k + 1, L ++ d.writes.filter (mine t), by omega, by go_num, by rw [HT.out, clashes_hit HH.out, ← HL.out], by rw [List.length_append, I64_append]; exact hown7, (hf.tr hfr6).grown hg7 (fun q hq => .inl (hown'.lt q hq).1)⟩
        case measure => simp [intOf]; omega
      · have hh' : p d.commit = false := by simpa using hh
        have HB := Lib.hid (hpd.symm.trans hh')
        rw [HB.out]
        have HH := Lib.hid hh'
        clear hh hh' hpd
        go_wp2
        go_roundw
        case rel => exact ⟨k + 1, L, by omega, by go_num, by rw [HT.out, clashes_miss HH.out]; exact HL.out, own_fr0 hown hf34, hf.tr hf34⟩
        case measure => simp [intOf]; omega
    · obtain rfl : k = ts.length := by omega
      have hL := HL.out
      rw [List.take_length] at hL
      have HL' := Lib.hid hL.symm
      clear hL HL
      have hfE := hfw2.tr hf
      have ek : decide ((ts.length : Int) < ts.length) = false := by simp
      obtain ⟨Al, cl, rfl, hcl, _, _⟩ := own_form hown
      have hLr : L.length * 8 ≤ 211106232532992 := by have := HR.out; rw [HL'.out] at this; exact this
      by_cases hn : L.length = 0
      · obtain rfl : L = [] := List.eq_nil_of_length_eq_zero hn
        go_wp2
        go_ret2
        rw [HL'.out]
        exact ⟨rfl, hfE⟩
      · have e0 : ((L.length : Int) == 0) = false := by rw [beq_eq_false_iff_ne]; omega
        obtain ⟨m, hm⟩ : ∃ m, minL L = some m := by
          cases hq : minL L with
          | none => rw [minL_none] at hq; subst hq; simp at hn
          | some m => exact ⟨m, rfl⟩
        go_wp2_with fail
        refine (min_calls _ Al cl L m _ (own_rdI hown rfl (by omega)) hm).mono ?_
        rintro e _ ⟨rfl, rfl⟩
        go_wp2
        go_ret2
        rw [HL'.out, hm]
        exact ⟨rfl, hfE⟩
set_option maxHeartbeats 4000000 in
theorem least_between (S : Nat → Prop) (A : Option Addr) (c : Nat) (ts : List Txn) (cs : List Value) (t : Txn) (sa sb : Int) (p : Int → Bool) (hp : p = fun c => decide (sa < c) && decide (c < sb)) (w : World) (h : RdT w S A ts) (ht : TxnC w S cs t)
    (hwt : Wf t.reads ∧ Wf t.writes) (hws : ∀ d ∈ ts, Wf d.writes) (hw8 : ∀ d ∈ ts, p d.commit = true → d.writes.length * 8 ≤ 211106232532992) (hroom : (clashes ts t p).length * 8 ≤ 211106232532992) :
    Calls Try.prog 26 #[.slice A ts.length c, .agg cs.toArray, .iface 57 (.agg #[.int .i64 sa, .int .i64 sb])] w fun r w' =>
      r = .returned (.tuple #[.int .i64 (iv (minL (clashes ts t p))), .bool (minL (clashes ts t p)).isSome]) ∧ Fr No w w' := by
  have hle := h.le
  obtain ⟨Ar, cr, Aw, cw, rfl, hr, hw⟩ := ht
  have hmf : ∀ (fn : Fn) (first cap : Array Value) (w : World), (Instr.makeFunc fn first cap).run Try.prog w = .ok (.func fn first cap) w := fun _ _ _ _ => rfl
  have hm : ∀ (w : World), (method 191 57 (.agg #[.int .i64 sa, .int .i64 sb]) "lapidary/valid.has").run Try.prog w = .ok (54, .agg #[.int .i64 sa, .int .i64 sb]) w := fun _ => by kernel_rfl
  have HP := Lib.hid hp
  have HR := Lib.hid hroom
  have HW8 := Lib.hid hw8
  have HWS := Lib.hid hws
  clear hp hroom hw8 hws
  go_enter Try.func26, Try.ntmps26
  go_wp2_with fail
  refine (setof_calls S (w.heap.size + 1) 2 Ar Aw cr cw t.reads t.writes _ _ (Blk.newAt (by simp)) (Rd.alloc (Rd.alloc hr _) _) (Rd.alloc (Rd.alloc hw _) _) hwt.1 hwt.2).mono ?_
  rintro e w1 ⟨b, rfl, hb0, hset, hf1⟩
  have hfw1 : Fr No w w1 := (((Fr.refl No w).alloc _).alloc _).tr hf1
  have hblt := hset.lt
  clear hb0 hf1
  go_wp2_with fail
  have hfw2 := hfw1.alloc (.cells #[Value.map (some b)] 65)
  have hset2 := hset.kept (World.grownBy_alloc w1 (.cells #[Value.map (some b)] 65) none) (by simp)
  have hV := (Blk.new w1 65 #[Value.map (some b)]).cell 0
  simp only [List.getElem?_toArray, List.getElem?_cons_zero] at hV
  generalize hw2 : w1.alloc (.cells #[Value.map (some b)] 65) = w2 at *
  have hsz2 : w2.heap.size = w1.heap.size + 1 := by rw [← hw2]; simp
  clear hw2
  go_loopw [9, 20] (fun l i wr => ∃ (k : Nat) (L : List Int), k ≤ ts.length ∧ i = .int .i64 k ∧ L = clashes (ts.take k) t p ∧ wr.ownsRow w2.heap.size 2 1 l L.length (I64 L) ∧ Fr No w2 wr) (fun _ i _ => ts.length - (intOf i).toNat)
  case atStart => exact ⟨0, [], by omega, rfl, rfl, World.ownsRow_nil _ _ _ _, Fr.refl _ _⟩
  case round =>
    obtain ⟨k, L, hk, rfl, hL, hown, hf⟩ := hrel
    have HL := Lib.hid hL
    clear hL
    by_cases hlt : k < ts.length
    · obtain ⟨g, of, Br, br, Bw, bw, rfl, _, hk4, hdw⟩ := (h.fr0 (hfw2.tr hf)).at4 hlt
      have htk : ts.take (k + 1) = ts.take k ++ [ts[k]] := by rw [List.take_add_one, List.getElem?_eq_getElem hlt]; rfl
      have hcl := clashes_take ts t p (k + 1)
      have HT := Lib.hid htk
      have hwf := HWS.out _ (List.getElem_mem hlt)
      have hd8 := HW8.out _ (List.getElem_mem hlt)
      rw [htk] at hcl
      have HCL := Lib.hid hcl
      have HD8 := Lib.hid hd8
      clear htk hcl hd8
      generalize ts[k] = d at *
      have ek : decide ((k : Int) < ts.length) = true := by simpa using (by omega : (k : Int) < ts.length)
      go_wp2_with (first
        | (refine wpList_ldA ag_vtxn rfl _ rfl ⟨g, of + k * 4, none⟩ [.int .i64 d.base, .int .i64 d.commit, .slice Br d.reads.length br, .slice Bw d.writes.length bw] rfl rfl hk4 ?_)
        | fail)
      have hf3 : Fr No wr (wr.alloc (.cells #[.int .i64 d.base, .int .i64 d.commit, .slice Br d.reads.length br, .slice Bw d.writes.length bw] 32)) := (Fr.refl No wr).alloc _
      have hb3 := Blk.new wr 32 #[.int .i64 d.base, .int .i64 d.commit, .slice Br d.reads.length br, .slice Bw d.writes.length bw]
      have hd3 := hb3.cell 3
      simp only [List.getElem?_toArray, List.getElem?_cons_succ, List.getElem?_cons_zero] at hd3
      refine (between_calls sa sb d.commit _).mono ?_
      rintro e w4 ⟨rfl, hf4⟩
      have hd3' := hf4.cell_some hd3 (fun hn => hn)
      have hf34 := hf3.tr hf4
      have hpd : p d.commit = (decide (sa < d.commit) && decide (d.commit < sb)) := by rw [HP.out]
      by_cases hh : p d.commit = true
      · have HB := Lib.hid (hpd.symm.trans hh)
        rw [HB.out]
        have HH := Lib.hid hh
        have hd8 := HD8.out hh
        clear hh hpd
        go_wp2_with fail
        refine (clone_calls _ Bw bw d.writes _ (Rd.fr0 hdw hf34) hd8).mono ?_
        rintro e w5 ⟨v5, rfl, hown5, hf5⟩
        obtain ⟨A5, c5, rfl, hc5, _, hA5⟩ := own_form hown5
        have hf25 := hf.tr (hf34.tr hf5)
        have hs5 : w2.heap.size ≤ w4.heap.size := (hf.tr hf34).size
        go_wp2_with fail
        refine (delete_calls A5 c5 w1.heap.size b _ _ d.writes (t.reads ++ t.writes) _ hown5 (by omega) hwf (hf25.cell_some hV (fun hn => hn)) (hset2.fr hf25 (fun hn => hn)) (by omega) (by omega)).mono ?_
        rintro e w6 ⟨v6, rfl, hown6, hf6⟩
        rw [keepM_mine] at hown6
        have hn6 : ((d.writes).filter (mine t)).length ≤ d.writes.length := List.length_filter_le _ _
        have hfr6 : Fr No wr w6 := (hf34.tr hf5).trans hf6 (fun q hq hT => by have := (hown5.lt q ((hA5 q).2 hT)).1; have := hf34.size; omega)
        obtain ⟨A6, c6, rfl, hc6, _, _⟩ := own_form hown6
        have hr6 := own_rd hown6 (by omega)
        have hown' := own_fr0 hown hfr6
        have hL' := HL.out
        have hcl := HCL.out
        rw [clashes_hit HH.out, ← hL', List.length_append] at hcl
        have hroom := HR.out
        have hLL : (L.length + (d.writes.filter (mine t)).length) * 8 ≤ 211106232532992 := by omega
        have HLL := Lib.hid hLL
        clear hcl hroom hLL hL'
        go_wp2_with (first
          | (at_builtin; refine wpList_app so_i64 hown' hr6 (I64_one _) HLL.out (hf.tr hfr6).size rfl rfl rfl rfl ?_; intro v7 w7 hown7 hg7 hat7)
          | fail)
        go_roundw
        case rel => exact ⟨k + 1, L ++ d.writes.filter (mine t), by omega, by go_num, by rw [HT.out, clashes_hit HH.out, ← HL.out], by rw [List.length_append, I64_append]; exact hown7, (hf.tr hfr6).grown hg7 (fun q hq => .inl (hown'.lt q hq).1)⟩
        case measure => simp [intOf]; omega
      · have hh' : p d.commit = false := by simpa using hh
        have HB := Lib.hid (hpd.symm.trans hh')
        rw [HB.out]
        have HH := Lib.hid hh'
        clear hh hh' hpd
        go_wp2
        go_roundw
        case rel => exact ⟨k + 1, L, by omega, by go_num, by rw [HT.out, clashes_miss HH.out]; exact HL.out, own_fr0 hown hf34, hf.tr hf34⟩
        case measure => simp [intOf]; omega
    · obtain rfl : k = ts.length := by omega
      have hL := HL.out
      rw [List.take_length] at hL
      have HL' := Lib.hid hL.symm
      clear hL HL
      have hfE := hfw2.tr hf
      have ek : decide ((ts.length : Int) < ts.length) = false := by simp
      obtain ⟨Al, cl, rfl, hcl, _, _⟩ := own_form hown
      have hLr : L.length * 8 ≤ 211106232532992 := by have := HR.out; rw [HL'.out] at this; exact this
      by_cases hn : L.length = 0
      · obtain rfl : L = [] := List.eq_nil_of_length_eq_zero hn
        go_wp2
        go_ret2
        rw [HL'.out]
        exact ⟨rfl, hfE⟩
      · have e0 : ((L.length : Int) == 0) = false := by rw [beq_eq_false_iff_ne]; omega
        obtain ⟨m, hm⟩ : ∃ m, minL L = some m := by
          cases hq : minL L with
          | none => rw [minL_none] at hq; subst hq; simp at hn
          | some m => exact ⟨m, rfl⟩
        go_wp2_with fail
        refine (min_calls _ Al cl L m _ (own_rdI hown rfl (by omega)) hm).mono ?_
        rintro e _ ⟨rfl, rfl⟩
        go_wp2
        go_ret2
        rw [HL'.out, hm]
        exact ⟨rfl, hfE⟩
end Go.Proofs.Ytmcmjnflahfbkaa
