/- More words for memory: append as one step, a slice of one struct, copy between rows. No condition. -/
import Derived.Test.YtannkgglgmbkdaaDoorLap
import Derived.Great.BuildSlice
import Derived.Laws.CopyRow
namespace Go.Proofs.YtannkgglgmbkdaaDoor
set_option linter.unusedVariables false
set_option linter.unusedSimpArgs false
open Go.RowKit

theorem Blk.newAt {w : World} {g : Nat} {t : TypeId} {cs : Array Value} (h : g = w.heap.size) : Blk (w.alloc (.cells cs t)) g t cs := by subst h; exact Blk.new _ _ _
theorem Fr.drewL {S : Nat → Prop} {w w' : World} (h : Fr S w w') : Fr S w.drew w' := ⟨h.os, h.tape, h.output, h.size, h.block⟩
theorem wpList_max {P : Program} {w : World} {ops : Array Oper} {rest : List Oper} {o : Oper} {a : Act} {Q : Exit → Act → World → Prop} {t : TypeId} {kd : IntKind} (u v m : Int) (hm : m = max u v)
    (hw : Region.wanted o (yielded ops a.tmps) = true) {x y : Operand} (ho : o.op = .call { callee := .builtin .max, args := #[x, y], argTypes := #[t, t] }) (hx : a.eval x = .int kd u) (hy : a.eval y = .int kd v)
    (h : wpList P ops Q rest (a.put o.dst (.int kd m)) w) : wpList P ops Q (o :: rest) a w := by
  have hrun : ∀ ty, (Builtin.max_ #[t, t] ty #[.int kd u, .int kd v]).run P w = .ok (.int kd m) w := by
    intro ty
    subst hm
    have e : (if u < v then v else u) = max u v := by rw [Int.max_def]; split <;> split <;> omega
    simp [Builtin.max_, Builtin.max2, e]
  refine BigFrame.wpList_want hw fun K hK => ?_
  unfold Oper.wp execOp
  simp only [ho, resolve, invoke, builtin, Sem.run_bind, Sem.run_pure, Result.andThen_ok, List.map_toArray, List.map_cons, List.map_nil, hx, hy, hrun]
  exact hK _ _ h
section
variable {P : Program} {t e : TypeId} {z : Value} {size bytes : Nat}
theorem wp_app_at {w : World} {o : Oper} {a : Act} {K : Act → World → Prop} {Q : Exit → Act → World → Prop} (he : SliceOf P t e z size bytes)
    {base : Nat} {v : Value} {n : Nat} {xs : List Value} (hown : w.ownsRow base e size v n xs)
    {S : Nat → Prop} {A : Option Addr} {m c : Nat} {news : List Value} (hr : Rd w S size A m news) (h1 : ∀ u ∈ news, u.oneCell' = true)
    (hbytes : (n + m) * bytes ≤ 140737488355328) (hbase : base ≤ w.heap.size)
    {s x : Operand} (ho : o.op = .call { callee := .builtin .append, args := #[s, x], argTypes := #[t, t] })
    (hs : a.eval s = v) (hx : a.eval x = .slice A m c)
    (h : ∀ v' w', w'.ownsRow base e size v' (n + m) (xs ++ news) → w.grownBy w' v.ownBlock → (v'.ownBlock = v.ownBlock ∨ v'.ownBlock = some w.heap.size) → K (a.put o.dst v') w') : o.wp P a w K Q := by
  obtain ⟨v', w', hrun, h2, h3, h4⟩ := run_app_at (P := P) w he o.type base v n xs hown S A m c news hr h1 hbytes hbase
  unfold Oper.wp execOp
  simp only [ho, resolve, invoke, builtin, Sem.run_bind, Sem.run_pure, Result.andThen_ok, List.map_toArray, List.map_cons, List.map_nil, hs, hx, hrun]
  exact h v' w' h2 h3 h4
theorem wp_make {w : World} {o : Oper} {a : Act} {K : Act → World → Prop} {Q : Exit → Act → World → Prop} (he : SliceOf P t e z size bytes)
    {n c : Nat} (hnc : n ≤ c) (hbytes : bytes * c ≤ 281474976710656)
    {x y : Operand} (ho : o.op = .makeSlice t x y) {kl kc : IntKind} (hx : a.eval x = .int kl n) (hy : a.eval y = .int kc c)
    (h : K (a.put o.dst (.slice (some ⟨w.heap.size, 0, none⟩) n c)) (w.alloc (.cells (madeCells z.cells (c * size)) e))) : o.wp P a w K Q := by
  obtain ⟨i, hi, hz, hsz, hby⟩ := info_parts he.info
  subst hsz hby
  have hpos := he.posb
  have hb : (i.bytes : Int) * (c : Int) ≤ 281474976710656 := by
    have h : ((i.bytes * c : Nat) : Int) ≤ 281474976710656 := by omega
    rwa [Int.natCast_mul] at h
  have hc : c ≤ i.bytes * c := Nat.le_mul_of_pos_left _ hpos
  have hr := run_make (P := P) w t e i z he.ut hi hz kl kc n c (by omega) (by omega) hb (by omega)
  simp only [Int.toNat_natCast] at hr
  unfold Oper.wp execOp
  simp only [ho, hx, hy, Sem.run_bind, Sem.run_pure, Result.andThen_ok, hr]
  exact h
theorem run_buildOne (he : SliceOf P t e z size bytes) (hsm : size ≤ 16777216) (cs : List Value) (hl : cs.length = size) (w : World) :
    (Instr.buildSlice t 1 #[(0, .agg cs.toArray)]).run P w = .ok (.slice (some ⟨w.heap.size, 0, none⟩) 1 1) (w.alloc (.cells cs.toArray e)) := by
  obtain ⟨i, hi, hz, hsz, hby⟩ := info_parts he.info
  subst hsz
  have hpos := he.pos
  obtain ⟨r, hr, hrs, hk⟩ := Great.fill_dense hpos [.agg cs.toArray] 0 ((Array.range (1 * i.size)).map (z.cells[· % z.cells.size]!)) (fun v hv => by
    obtain rfl := List.mem_singleton.1 hv; simpa [Value.cells] using hl) (by simp)
  have he2 : r = cs.toArray := by
    apply Array.ext_getElem?
    intro k
    rw [hk k]
    by_cases h : k < i.size
    · rw [if_pos (by simp; omega), Nat.div_eq_of_lt h, Nat.mod_eq_of_lt h]; simp [Value.cells]
    · rw [if_neg (by simp; omega)]
      simp [Array.getElem?_eq_none, hl, h]
  subst he2
  exact run_buildSlice w t e 1 _ _ i z he.ut hi hz (by simp; omega) (by omega) hr
theorem wp_buildOne {w : World} {o : Oper} {a : Act} {K : Act → World → Prop} {Q : Exit → Act → World → Prop} (he : SliceOf P t e z size bytes) (hsm : size ≤ 16777216) (cs : List Value) (hl : cs.length = size) {x : Operand}
    (ho : o.op = .buildSlice t 1 #[(0, x)]) (hx : a.eval x = .agg cs.toArray) (h : K (a.put o.dst (.slice (some ⟨w.heap.size, 0, none⟩) 1 1)) (w.alloc (.cells cs.toArray e))) : o.wp P a w K Q := by
  unfold Oper.wp execOp
  simp only [ho, Sem.run_bind, List.map_toArray, List.map_cons, List.map_nil, hx, run_buildOne he hsm cs hl w, Result.andThen_ok, Sem.run_pure]
  exact h
/-- 'copy' from whatever reads into a block that is known. -/
theorem run_copyA (he : SliceOf P t e z size bytes) (w : World) (t2 ty : TypeId) (g o dLen dCap m c : Nat) (cur : Array Value) (tt : TypeId) (hb : Blk w g tt cur) {S : Nat → Prop} {A : Option Addr} {xs : List Value} (hr : Rd w S size A m xs) (h1 : ∀ u ∈ xs, u.oneCell' = true)
    (hfit : o + min m dLen * size ≤ cur.size) :
    ∃ w', (Builtin.copy_ #[t, t2] ty #[.slice (some ⟨g, o, none⟩) dLen dCap, .slice A m c]).run P w = .ok (goInt (min m dLen)) w' ∧ Blk w' g tt (splice cur o (xs.take (min m dLen * size))) ∧ w.grownBy w' (some g) ∧ w'.heap.size = w.heap.size := by
  obtain ⟨i, hi, hz, hsz, hby⟩ := info_parts he.info
  subst hsz
  have hr2 := Rd.take hr (Nat.min_le_left m dLen)
  have hl2 := hr2.1
  generalize hcs : xs.take (min m dLen * i.size) = cs at hr2 hl2
  have hone : ∀ u ∈ cs, u.oneCell' = true := fun u hu => h1 u (List.mem_of_mem_take (hcs ▸ hu))
  have hst := run_storeCells_at P g o tt cs 0 cur w hb (by rw [hl2]; simpa using hfit) hone
  simp only [Nat.add_zero] at hst
  refine ⟨w.setRow g (splice cur o cs), ?_, setRow_heap w g cur _ tt _ hb, ⟨rfl, rfl, rfl, by simp, fun k _ hk => setRow_other w g k _ (fun e => hk (by rw [e]))⟩, by simp⟩
  rcases A with _ | ad
  · have h0 : min m dLen = 0 := by
      rcases Nat.eq_zero_or_pos (min m dLen) with h0 | h0
      · exact h0
      · obtain ⟨ad, h, _⟩ := hr2.2.2 h0; cases h
    rw [h0, Nat.zero_mul] at hl2
    obtain rfl : cs = [] := List.eq_nil_of_length_eq_zero hl2
    simp only [List.append_nil, List.length_nil, Nat.add_zero, List.take_append_drop] at hst
    have h0' : Nat.min m dLen = 0 := h0
    simp [Builtin.copy_, run_underlying he.ut, Builtin.lenOf, Builtin.firstCells, sizeOf, typeInfo, hi, h0', h0, storeCells, splice]
    rw [setRow_self w g cur tt (0, 0) hb]
    exact ⟨congrArg goInt (by omega), rfl⟩
  · have hcells : ∀ j u, cs[j]? = some u → w.cell? (ad.add j) = some u := by
      intro j u hu
      rcases Nat.eq_zero_or_pos (min m dLen) with h0 | h0
      · rw [h0, Nat.zero_mul] at hl2
        obtain rfl : cs = [] := List.eq_nil_of_length_eq_zero hl2
        simp at hu
      · obtain ⟨ad', h, _, hc⟩ := hr2.2.2 h0
        injection h with h
        subst h
        exact hc j u hu
    have hl := run_loadCells_list (P := P) w ad cs hcells
    have hmin : Nat.min m dLen = min m dLen := rfl
    rw [hl2] at hl
    simp [Builtin.copy_, run_underlying he.ut, Builtin.lenOf, Builtin.firstCells, sizeOf, typeInfo, hi, hmin, hl, hst, splice]
    exact congrArg goInt (by omega)
theorem wp_copyA {w : World} {o : Oper} {a : Act} {K : Act → World → Prop} {Q : Exit → Act → World → Prop} (he : SliceOf P t e z size bytes) {t2 : TypeId} {d s : Operand}
    (ho : o.op = .call { callee := .builtin .copy, args := #[d, s], argTypes := #[t, t2] }) {g off dLen dCap m c : Nat} {cur : Array Value} {tt : TypeId} (hb : Blk w g tt cur) {S : Nat → Prop} {A : Option Addr} {xs : List Value} (hr : Rd w S size A m xs) (h1 : ∀ u ∈ xs, u.oneCell' = true)
    (hd : a.eval d = .slice (some ⟨g, off, none⟩) dLen dCap) (hs : a.eval s = .slice A m c) (hfit : off + min m dLen * size ≤ cur.size)
    (h : ∀ w', Blk w' g tt (splice cur off (xs.take (min m dLen * size))) → w.grownBy w' (some g) → Hid (w'.heap.size = w.heap.size) → K (a.put o.dst (goInt (min m dLen))) w') : o.wp P a w K Q := by
  obtain ⟨w', hrun, h2, h3, h4⟩ := run_copyA (P := P) he w t2 o.type g off dLen dCap m c cur tt hb hr h1 hfit
  unfold Oper.wp execOp
  simp only [ho, resolve, invoke, builtin, Sem.run_bind, Sem.run_pure, Result.andThen_ok, List.map_toArray, List.map_cons, List.map_nil, hs, hd, hrun]
  exact h w' h2 h3 (Lib.hid h4)
theorem wpList_copyA {w : World} {ops : Array Oper} {rest : List Oper} {o : Oper} {a : Act} {Q : Exit → Act → World → Prop} (he : SliceOf P t e z size bytes) (hw : Region.wanted o (yielded ops a.tmps) = true) {t2 : TypeId} {d s : Operand}
    (ho : o.op = .call { callee := .builtin .copy, args := #[d, s], argTypes := #[t, t2] }) {g off dLen dCap m c : Nat} {cur : Array Value} {tt : TypeId} (hb : Blk w g tt cur) {S : Nat → Prop} {A : Option Addr} {xs : List Value} (hr : Rd w S size A m xs) (h1 : ∀ u ∈ xs, u.oneCell' = true)
    (hd : a.eval d = .slice (some ⟨g, off, none⟩) dLen dCap) (hs : a.eval s = .slice A m c) (hfit : off + min m dLen * size ≤ cur.size)
    (h : ∀ w', Blk w' g tt (splice cur off (xs.take (min m dLen * size))) → w.grownBy w' (some g) → Hid (w'.heap.size = w.heap.size) → wpList P ops Q rest (a.put o.dst (goInt (min m dLen))) w') : wpList P ops Q (o :: rest) a w :=
  BigFrame.wpList_want hw fun _ hK => wp_copyA he ho hb hr h1 hd hs hfit (fun w' b1 b2 b3 => hK _ _ (h w' b1 b2 b3))
/-- A new variable, its noughts not taken apart. -/
theorem wpList_allocA {w : World} {ops : Array Oper} {rest : List Oper} {o : Oper} {a : Act} {Q : Exit → Act → World → Prop} {T : TypeId} {cs : Array Value} (hz : (P.info? T).bind (·.zero) = some (.agg cs)) (hw : Region.wanted o (yielded ops a.tmps) = true) (ho : o.op = .alloc T)
    (h : wpList P ops Q rest (a.put o.dst (.pointer (some ⟨w.heap.size, 0, none⟩))) (w.alloc (.cells cs T))) : wpList P ops Q (o :: rest) a w := by
  refine BigFrame.wpList_want hw fun K hK => ?_
  obtain ⟨i, hi, hz2⟩ := Option.bind_eq_some_iff.1 hz
  unfold Oper.wp execOp
  simp only [ho, Instr.alloc, zeroValue, typeInfo, hi, hz2, newVar, newRow, Sem.run_bind]
  simp [hi, hz2, newRow, newVar, Value.cells]
  exact hK _ _ h
theorem wpList_app_hid {w : World} {ops : Array Oper} {rest : List Oper} {o : Oper} {a : Act} {Q : Exit → Act → World → Prop} (he : SliceOf P t e z size bytes) (hw : Region.wanted o (yielded ops a.tmps) = true)
    {base : Nat} {v : Value} {n : Nat} {xs : List Value} (hown : w.ownsRow base e size v n xs)
    {S : Nat → Prop} {A : Option Addr} {m c : Nat} {news : List Value} (hr : Rd w S size A m news) (h1 : ∀ u ∈ news, u.oneCell' = true)
    (hbytes : (n + m) * bytes ≤ 140737488355328) (hbase : base ≤ w.heap.size)
    {s x : Operand} (ho : o.op = .call { callee := .builtin .append, args := #[s, x], argTypes := #[t, t] })
    (hs : a.eval s = v) (hx : a.eval x = .slice A m c)
    (h : ∀ v' w', w'.ownsRow base e size v' (n + m) (xs ++ news) → w.grownBy w' v.ownBlock → Hid (v'.ownBlock = v.ownBlock ∨ v'.ownBlock = some w.heap.size) → wpList P ops Q rest (a.put o.dst v') w') : wpList P ops Q (o :: rest) a w :=
  BigFrame.wpList_want hw fun _ hK => wp_app_at he hown hr h1 hbytes hbase ho hs hx (fun v' w' b1 b2 b3 => hK _ _ (h v' w' b1 b2 (Lib.hid b3)))
/-- 'copy' of which only what it moves is known. -/
theorem wp_copyB {w : World} {o : Oper} {a : Act} {K : Act → World → Prop} {Q : Exit → Act → World → Prop} (he : SliceOf P t e z size bytes) {t2 : TypeId} {d s : Operand}
    (ho : o.op = .call { callee := .builtin .copy, args := #[d, s], argTypes := #[t, t2] }) {g off dLen dCap m c : Nat} {cur : Array Value} {tt : TypeId} (hb : Blk w g tt cur) {ad : Addr} {cs : List Value} (hl2 : cs.length = min m dLen * size)
    (hcells : ∀ j u, cs[j]? = some u → w.cell? (ad.add j) = some u) (hone : ∀ u ∈ cs, u.oneCell' = true)
    (hd : a.eval d = .slice (some ⟨g, off, none⟩) dLen dCap) (hs : a.eval s = .slice (some ad) m c) (hfit : off + min m dLen * size ≤ cur.size)
    (h : ∀ w', Blk w' g tt (splice cur off cs) → w.grownBy w' (some g) → Hid (w'.heap.size = w.heap.size) → K (a.put o.dst (goInt (min m dLen))) w') : o.wp P a w K Q := by
  obtain ⟨i, hi, hz, hsz, hby⟩ := info_parts he.info
  subst hsz
  have hst := run_storeCells_at P g off tt cs 0 cur w hb (by rw [hl2]; simpa using hfit) hone
  simp only [Nat.add_zero] at hst
  have hl := run_loadCells_list (P := P) w ad cs hcells
  have hmin : Nat.min m dLen = min m dLen := rfl
  rw [hl2] at hl
  have hrun : (Builtin.copy_ #[t, t2] o.type #[.slice (some ⟨g, off, none⟩) dLen dCap, .slice (some ad) m c]).run P w = .ok (goInt (min m dLen)) (w.setRow g (splice cur off cs)) := by
    simp [Builtin.copy_, run_underlying he.ut, Builtin.lenOf, Builtin.firstCells, sizeOf, typeInfo, hi, hmin, hl, hst, splice]
    exact congrArg goInt (by omega)
  unfold Oper.wp execOp
  simp only [ho, resolve, invoke, builtin, Sem.run_bind, Sem.run_pure, Result.andThen_ok, List.map_toArray, List.map_cons, List.map_nil, hs, hd, hrun]
  exact h _ (setRow_heap w g cur _ tt _ hb) ⟨rfl, rfl, rfl, by simp, fun k _ hk => setRow_other w g k _ (fun e => hk (by rw [e]))⟩ (Lib.hid (by simp))
end
theorem results_blk2 {P : Program} {T : TypeId} {size : Nat} (he : AggOf P T size) {fn : Func} {p u : Tmp} (h : fn.results = #[.cell p T, .tmp u]) (tmps : Array Value) (w : World) (g : Nat) (t : TypeId) (cs : Array Value) (v : Value)
    (hp : tmps.getD p undef = .pointer (some ⟨g, 0, none⟩)) (hu : tmps.getD u undef = v) (hb : Blk w g t cs) (hs : cs.size = size) : (results fn tmps).run P w = .ok (.tuple #[.agg cs, v]) w := by
  obtain ⟨d, hd, hk⟩ := he.agg
  have hp' : tmps[p]?.getD undef = .pointer (some ⟨g, 0, none⟩) := by simpa using hp
  have hu' : tmps[u]?.getD undef = v := by simpa using hu
  have hl := run_loadVar_row w g t T cs (0, 0) d hb hd (by cases d <;> simp_all) (by rw [he.info, hs])
  simp [results, h, hp', hu', asAddr, hl]
end Go.Proofs.YtannkgglgmbkdaaDoor
