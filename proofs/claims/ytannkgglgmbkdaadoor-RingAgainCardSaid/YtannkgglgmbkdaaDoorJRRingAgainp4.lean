/- ring.Format, newest. No condition but size. ring.record in full. No condition but size. Sums and products of ints, as they are reckoned. No condition. -/
import Derived.Test.YtannkgglgmbkdaaDoorJRRingAgainp3
import Derived.Laws.Cover3
import Derived.OwnWalk
import Derived.Test.YtannkgglgmbkdaaDoorJRRingAgainp0
namespace Go.Proofs.YtannkgglgmbkdaaDoor
set_option linter.unusedVariables false
set_option linter.unusedSimpArgs false
open Go.RowKit

section
variable {P : Program} {t e : TypeId} {z : Value} {size bytes : Nat}
/-- 'append' onto a slice that has no room: a new row. -/
theorem wp_app_arg {w : World} {o : Oper} {a : Act} {K : Act → World → Prop} {Q : Exit → Act → World → Prop} (he : SliceOf P t e z size bytes)
    {b : Addr} {n cap : Nat} {olds : List Value} (hlo : olds.length = n * size) (holds : ∀ j u, olds[j]? = some u → w.cell? (b.add j) = some u)
    {ad : Addr} {m c : Nat} {news : List Value} (hl : news.length = m * size) (hnews : ∀ j u, news[j]? = some u → w.cell? (ad.add j) = some u)
    (hg : cap < n + m) (h63 : n + m ≤ maxLen) (hbytes : (n + m) * bytes ≤ 140737488355328)
    {s x : Operand} (ho : o.op = .call { callee := .builtin .append, args := #[s, x], argTypes := #[t, t] })
    (hs : a.eval s = .slice (some b) n cap) (hx : a.eval x = .slice (some ad) m c)
    (h : ∀ v' w', w'.ownsRow w.heap.size e size v' (n + m) (olds ++ news) → w.grownBy w' none → K (a.put o.dst v') w') : o.wp P a w K Q := by
  obtain ⟨i, hi, hz, hsz, hby⟩ := info_parts he.info
  obtain ⟨v', w', hrun, h2, h3⟩ := run_append_arg_grows (P := P) w t o.type e i z size bytes he.ut hi hz hsz hby he.zs he.pos b n cap olds hlo holds ad m c news hl hnews hg h63 hbytes
  unfold Oper.wp execOp
  simp only [ho, resolve, invoke, builtin, Sem.run_bind, Sem.run_pure, Result.andThen_ok, List.map_toArray, List.map_cons, List.map_nil, hs, hx, hrun]
  exact h v' w' h2 h3
end
def formatM (d : DiskM) : DiskM × Bool := safelyM d 0 [zsec, headB ⟨1, 0, 1, 1⟩]
set_option maxRecDepth 100000 in
set_option maxHeartbeats 4000000 in
theorem format_calls (w : World) (X : Nat → Prop) (H : Nat) (d : DiskM) (hd : DiskAt w X H d) (h4 : 4 ≤ d.now.length) (hway : d.way.length ≤ 50000) (hleft : d.left ≤ 1000000) :
    Calls Tryd.prog 13 #[.pointer (some ⟨H, 0, none⟩)] w (WriteR w X (Wid X w) H (formatM d)) := by
  have hfm : formatM d = safelyM d 0 [zsec, headB ⟨1, 0, 1, 1⟩] := rfl
  have hhd : ∀ w, Calls Tryd.prog 29 #[.agg #[.int .i64 1, .int .i64 0, .int .i64 1, .int .i64 1]] w fun e w' => e = .returned (.agg (U8 (headB ⟨1, 0, 1, 1⟩)).toArray) ∧ Fr No w w' := fun w => head_calls w ⟨1, 0, 1, 1⟩
  have hlb := headB_len ⟨1, 0, 1, 1⟩
  have hwr := wrong_calls w X H d hd
  rw [if_neg (by omega)] at hwr
  generalize formatM d = r at *
  generalize headB ⟨1, 0, 1, 1⟩ = hB at *
  go_enter Tryd.func13, Tryd.ntmps13
  go_wp2_with fail
  refine hwr.mono ?_
  rintro e w1 ⟨rfl, hw1⟩
  replace hw1 := hw1.symm
  subst hw1
  have hbz := Blk.new w tSec (U8 zsec).toArray
  have hfz : Fr No w (w.alloc (.cells (U8 zsec).toArray tSec)) := (Fr.refl No w).alloc _
  go_wp2_with (first
    | (refine wpList_allocA (show (Tryd.prog.info? tSec).bind (·.zero) = some (.agg (U8 zsec).toArray) from zero_sec) rfl rfl ?_)
    | fail)
  refine (hhd _).mono ?_
  rintro e w2 ⟨rfl, hf2⟩
  have hbz2 := hbz.fr0 hf2
  have hF2 := hfz.tr hf2
  have hz2 := hbz2.lt
  clear hfz hf2 hbz
  have hlu : (U8 hB).length = 128 := by rw [U8_length]; exact hlb
  have hb3 := Blk.new w2 tSec (U8 zsec).toArray
  go_upto_region 6 with (first
    | (refine wpList_allocA (show (Tryd.prog.info? tSec).bind (·.zero) = some (.agg (U8 zsec).toArray) from zero_sec) rfl rfl ?_)
    | (refine wpList_stA ag_sec4.info rfl _ _ rfl w2.heap.size 0 _ _ (U8 hB) _ rfl rfl rfl hlu (U8_one hB) hb3 (by rw [List.size_toArray, U8_length, zsec_len]; decide) ?_; intro w4 hb4 hg4 hz4)
    | fail)
  rw [splice_all _ _ (by rw [hlu, List.size_toArray, U8_length, zsec_len])] at hb4
  have hf4 : Fr No w2 w4 := ((Fr.refl No w2).alloc _).grown hg4 (fun q hq => by injection hq with hq; exact .inl (by rw [← hq]; exact Nat.le_refl _))
  have hbz4 := hbz2.fr0 hf4
  have hF4 := hF2.tr hf4
  have hsz := hF2.size
  obtain ⟨gs, hgs⟩ : ∃ gs, gs = w2.heap.size := ⟨_, rfl⟩
  have hgw : w.heap.size < gs := by omega
  have hg4s : gs < w4.heap.size := by rw [hgs]; exact hb4.lt
  try simp only [Act.put, List.setIfInBounds_toArray, List.set_cons_zero, List.set_cons_succ]
  rw [← hgs] at hb4 ⊢
  clear hgs hb3 hg4 hz4 hf4 hbz2 hF2 hsz hz2
  have hd5 : DiskAt w4 (fun b => X b ∧ b < w.heap.size) H d := by
    have h1 : DiskAt w (fun b => X b ∧ b < w.heap.size) H d := hd.mono (fun b hb hx => ⟨hx, hb⟩)
    exact h1.fr0 hF4
  go_wp2_with fail
  (refine T_begin (fun b => (X b ∧ b < w.heap.size) ∨ w4.heap.size ≤ b) [0, 1, 2, 3, 4, 5] [3, 4] (by kernel_rfl) (by kernel_rfl) ?_; simp only [pickOps, List.filterMap_cons, List.filterMap_nil, List.getElem?_cons_zero, List.getElem?_cons_succ, Act.put])
  (first | (refine T_skip (by rfl) (by rfl) (fun _ _ _ h => h) ?_; try simp only [Act.put, List.setIfInBounds_toArray, List.set_cons_zero, List.set_cons_succ]) | (refine T_pass (by rfl) (by rfl) ?_; try simp only [Act.put, List.setIfInBounds_toArray, List.set_cons_zero, List.set_cons_succ]) | (refine T_load (by assumption) (by rfl) (by rfl) (fun _ _ _ _ h => h) rfl rfl (by assumption) (by first | exact (fun hn => hn) | assumption) ?_; try simp only [Act.put, List.setIfInBounds_toArray, List.set_cons_zero, List.set_cons_succ]) | (refine T_nil (by rfl) (by rfl) (fun _ _ _ _ h => h) rfl rfl ?_; try simp only [Act.put, List.setIfInBounds_toArray, List.set_cons_zero, List.set_cons_succ]) | (refine T_quietN (by rfl) (by rfl) (by rfl) (by rfl) (fun _ _ _ _ h => h) (fun K hK => ?_); go_big_quiet_op; refine hK _ ?_; clear hK K) | (refine T_two (by rfl) (by rfl) (by rfl) (by rfl) (fun _ _ _ _ h => h) (fun K hK => ?_); go_big_quiet_op; refine ⟨_, fun _ _ => rfl, ?_⟩; refine hK _ ?_; clear hK K; try simp only [Act.put, List.setIfInBounds_toArray, List.set_cons_zero, List.set_cons_succ]) | fail)
  (first | (refine T_skip (by rfl) (by rfl) (fun _ _ _ h => h) ?_; try simp only [Act.put, List.setIfInBounds_toArray, List.set_cons_zero, List.set_cons_succ]) | (refine T_pass (by rfl) (by rfl) ?_; try simp only [Act.put, List.setIfInBounds_toArray, List.set_cons_zero, List.set_cons_succ]) | (refine T_load (by assumption) (by rfl) (by rfl) (fun _ _ _ _ h => h) rfl rfl (by assumption) (by first | exact (fun hn => hn) | assumption) ?_; try simp only [Act.put, List.setIfInBounds_toArray, List.set_cons_zero, List.set_cons_succ]) | (refine T_nil (by rfl) (by rfl) (fun _ _ _ _ h => h) rfl rfl ?_; try simp only [Act.put, List.setIfInBounds_toArray, List.set_cons_zero, List.set_cons_succ]) | (refine T_quietN (by rfl) (by rfl) (by rfl) (by rfl) (fun _ _ _ _ h => h) (fun K hK => ?_); go_big_quiet_op; refine hK _ ?_; clear hK K) | (refine T_two (by rfl) (by rfl) (by rfl) (by rfl) (fun _ _ _ _ h => h) (fun K hK => ?_); go_big_quiet_op; refine ⟨_, fun _ _ => rfl, ?_⟩; refine hK _ ?_; clear hK K; try simp only [Act.put, List.setIfInBounds_toArray, List.set_cons_zero, List.set_cons_succ]) | fail)
  (first | (refine T_skip (by rfl) (by rfl) (fun _ _ _ h => h) ?_; try simp only [Act.put, List.setIfInBounds_toArray, List.set_cons_zero, List.set_cons_succ]) | (refine T_pass (by rfl) (by rfl) ?_; try simp only [Act.put, List.setIfInBounds_toArray, List.set_cons_zero, List.set_cons_succ]) | (refine T_load (by assumption) (by rfl) (by rfl) (fun _ _ _ _ h => h) rfl rfl (by assumption) (by first | exact (fun hn => hn) | assumption) ?_; try simp only [Act.put, List.setIfInBounds_toArray, List.set_cons_zero, List.set_cons_succ]) | (refine T_nil (by rfl) (by rfl) (fun _ _ _ _ h => h) rfl rfl ?_; try simp only [Act.put, List.setIfInBounds_toArray, List.set_cons_zero, List.set_cons_succ]) | (refine T_quietN (by rfl) (by rfl) (by rfl) (by rfl) (fun _ _ _ _ h => h) (fun K hK => ?_); go_big_quiet_op; refine hK _ ?_; clear hK K) | (refine T_two (by rfl) (by rfl) (by rfl) (by rfl) (fun _ _ _ _ h => h) (fun K hK => ?_); go_big_quiet_op; refine ⟨_, fun _ _ => rfl, ?_⟩; refine hK _ ?_; clear hK K; try simp only [Act.put, List.setIfInBounds_toArray, List.set_cons_zero, List.set_cons_succ]) | fail)
  refine T_call (by rfl) (by rfl) (fun K hK => ?_)
  refine wp_app_arg so_u8 (b := ⟨w.heap.size, 0, none⟩) (olds := U8 zsec) (ad := ⟨gs, 0, none⟩) (news := U8 hB) (by rw [U8_length, zsec_len]) (fun j u hu => hbz4.drew.all j u (by simpa using hu)) (by rw [hlu]) (fun j u hu => hb4.drew.all j u (by simpa using hu)) (by decide) (by decide) (by decide) rfl rfl rfl ?_
  intro v5 w5 hown5 hg5
  have hf5 : Fr No w4 w5 := (Fr.refl No w4).drew.grown hg5 (fun q hq => by cases hq)
  (refine hK.out _ _ ((Fr.refl _ _).grown hg5 (fun q hq => by cases hq)) ?_; clear hK K; try simp only [Act.put, List.setIfInBounds_toArray, List.set_cons_zero, List.set_cons_succ])
  rw [← U8_append] at hown5
  have hrd5 : ∀ A c, v5 = .slice A 256 c → Rd w5 (fun b => ¬ (X b ∧ b < w.heap.size)) 1 A 256 (U8 (zsec ++ hB)) := fun A c e => by
    subst e
    refine (own_rd hown5 (by decide)).mono (fun b _ hb hx => ?_) (by decide)
    have h1 := (hown5.lt b (by rcases A with _ | ad; cases hb; injection hb with hb; exact congrArg some hb)).1
    have h2 := hF4.size
    have h3 : w4.heap.size ≤ b := h1
    omega
  obtain ⟨A5, c5, rfl, hc5, hc5m, _⟩ := own_form hown5
  have hrd := hrd5 A5 c5 rfl
  have hfl : [zsec, hB].flatten = zsec ++ hB := by simp
  rw [← hfl] at hrd
  (refine T_call (by rfl) (by rfl) (fun K hK => ?_); go_wp2_with fail)
  refine (safely_calls _ _ H d 0 [zsec, hB] A5 c5 (hd5.fr0 hf5) hrd (fun s hs => by rcases List.mem_cons.1 hs with rfl | hs; exact zsec_len; rw [List.mem_singleton.1 hs]; exact hlb) hc5 hc5m (by show 1 ≤ 2; decide) (by show 0 + 2 ≤ _; omega) hway hleft).mono ?_
  rintro e w9 ⟨he9, hd9, hf9⟩
  obtain ⟨en, HEN⟩ : ∃ en : Int, Hid (en = if (safelyM d 0 [zsec, hB]).2 = true then 0 else 14) := ⟨_, Lib.hid rfl⟩
  rw [← HEN.out] at he9
  subst he9
  go_wp2_with fail
  (refine hK.out _ _ (hf9.mono (fun b _ hb => .inl hb)) ?_; clear hK K; try simp only [Act.put, List.setIfInBounds_toArray, List.set_cons_zero, List.set_cons_succ])
  (first | (refine T_skip (by rfl) (by rfl) (fun _ _ _ h => h) ?_; try simp only [Act.put, List.setIfInBounds_toArray, List.set_cons_zero, List.set_cons_succ]) | (refine T_pass (by rfl) (by rfl) ?_; try simp only [Act.put, List.setIfInBounds_toArray, List.set_cons_zero, List.set_cons_succ]) | (refine T_load (by assumption) (by rfl) (by rfl) (fun _ _ _ _ h => h) rfl rfl (by assumption) (by first | exact (fun hn => hn) | assumption) ?_; try simp only [Act.put, List.setIfInBounds_toArray, List.set_cons_zero, List.set_cons_succ]) | (refine T_nil (by rfl) (by rfl) (fun _ _ _ _ h => h) rfl rfl ?_; try simp only [Act.put, List.setIfInBounds_toArray, List.set_cons_zero, List.set_cons_succ]) | (refine T_quietN (by rfl) (by rfl) (by rfl) (by rfl) (fun _ _ _ _ h => h) (fun K hK => ?_); go_big_quiet_op; refine hK _ ?_; clear hK K) | (refine T_two (by rfl) (by rfl) (by rfl) (by rfl) (fun _ _ _ _ h => h) (fun K hK => ?_); go_big_quiet_op; refine ⟨_, fun _ _ => rfl, ?_⟩; refine hK _ ?_; clear hK K; try simp only [Act.put, List.setIfInBounds_toArray, List.set_cons_zero, List.set_cons_succ]) | fail)
  refine T_done ?_
  go_wp2_with fail
  go_ret
  rw [hfm]
  refine ⟨by rw [← HEN.out]; rfl, hd9.mono (fun b _ hb => hb.elim (fun h => .inl h.1) (fun h => .inr (Nat.le_trans (hF4.tr hf5).size h))), ((hF4.tr hf5).mono (T := X) (fun _ _ hn => hn.elim)).trans hf9 (fun b _ hb => hb.1)⟩
/-- A slice's first bytes as a sector. -/
theorem wpList_arr4 {w : World} {ops : Array Oper} {rest : List Oper} {o : Oper} {a : Act} {Q : Exit → Act → World → Prop} (hw : Region.wanted o (yielded ops a.tmps) = true) (x : Operand) (ho : o.op = .sliceToArrayPointer tSec x)
    (A : Option Addr) (n c : Nat) (hx : a.eval x = .slice A n c) (hn : 128 ≤ n)
    (h : wpList Tryd.prog ops Q rest (a.put o.dst (.pointer A)) w) : wpList Tryd.prog ops Q (o :: rest) a w := by
  have hr := run_arrayAt (P := Tryd.prog) w tSec 5 128 A n c Tryd.underlying61 hn
  refine BigFrame.wpList_want hw fun K hK => ?_
  unfold Oper.wp execOp
  simp only [ho, hx, Sem.run_bind, hr, Result.andThen_ok, Sem.run_pure]
  exact hK _ _ h
/-- The head of a device: of two sectors. -/
def newestM (a b : Sec) : HeadM × Bool :=
  if headOk b = true ∧ (headOk a = false ∨ (getH a).life < (getH b).life) then (getH b, true) else (getH a, headOk a)
set_option maxRecDepth 100000 in
set_option maxHeartbeats 4000000 in
theorem newest_calls (w : World) (g : Nat) (ss : List Sec) (a b : Sec) (m c : Nat) (hb : Blk w g 5 (U8 ss.flatten).toArray) (hss : Len128 ss) (ha : ss[0]? = some a) (hbb : ss[1]? = some b) (hm : 256 ≤ m) (hmc : m ≤ c) :
    Calls Tryd.prog 33 #[.slice (some ⟨g, 0, none⟩) m c] w fun e w' => e = .returned (.tuple #[headV (newestM a b).1, .bool (newestM a b).2]) ∧ Fr No w w' := by
  obtain ⟨x, y, rest, rfl⟩ : ∃ x y rest, ss = x :: y :: rest := by
    rcases ss with _ | ⟨x, _ | ⟨y, rest⟩⟩
    · cases ha
    · cases hbb
    · exact ⟨x, y, rest, rfl⟩
  obtain rfl : x = a := by simpa using ha
  obtain rfl : y = b := by simpa using hbb
  have g1 : ∀ w, (isAgg 2).run Tryd.prog w = .ok false w := plain_of Tryd.underlying2 rfl
  have hlx : x.length = 128 := hss x (by simp)
  have hly : y.length = 128 := hss y (by simp)
  have hcx : ∀ w', Blk w' g 5 (U8 (x :: y :: rest).flatten).toArray → ∀ j u, (U8 x)[j]? = some u → w'.cell? ((⟨g, 0, none⟩ : Addr).add j) = some u := fun w' h => h.cells 0 _ (fun j u hu => by
    have hj := (List.getElem?_eq_some_iff.1 hu).1
    rw [Nat.zero_add, List.getElem?_toArray, List.flatten_cons, U8_append, List.getElem?_append_left hj]
    exact hu)
  have hcy : ∀ w', Blk w' g 5 (U8 (x :: y :: rest).flatten).toArray → ∀ j u, (U8 y)[j]? = some u → w'.cell? ((⟨g, 128, none⟩ : Addr).add j) = some u := fun w' h => h.cells 128 _ (fun j u hu => by
    have hj := (List.getElem?_eq_some_iff.1 hu).1
    have hx2 : (U8 x).length = 128 := by rw [U8_length]; exact hlx
    rw [List.getElem?_toArray, List.flatten_cons, List.flatten_cons, U8_append, U8_append, List.getElem?_append_right (by omega), hx2, show 128 + j - 128 = j by omega, List.getElem?_append_left hj]
    exact hu)
  have hnm : newestM x y = if headOk y = true ∧ (headOk x = false ∨ (getH x).life < (getH y).life) then (getH y, true) else (getH x, headOk x) := rfl
  have hox : ∀ w, Calls Tryd.prog 47 #[.agg (U8 x).toArray] w fun e w' => e = .returned (.tuple #[headV (getH x), .bool (headOk x)]) ∧ Fr No w w' := fun w => headOf_calls w x hlx
  have hoy : ∀ w, Calls Tryd.prog 47 #[.agg (U8 y).toArray] w fun e w' => e = .returned (.tuple #[headV (getH y), .bool (headOk y)]) ∧ Fr No w w' := fun w => headOf_calls w y hly
  have hux : (U8 x).length = 128 := by rw [U8_length]; exact hlx
  have huy : (U8 y).length = 128 := by rw [U8_length]; exact hly
  generalize newestM x y = r at *
  generalize (U8 (x :: y :: rest).flatten).toArray = cur at *
  unfold headV at *
  obtain ⟨hx, hhx⟩ : ∃ h, h = getH x := ⟨_, rfl⟩
  obtain ⟨hy, hhy⟩ : ∃ h, h = getH y := ⟨_, rfl⟩
  obtain ⟨ox, hoox⟩ : ∃ h, h = headOk x := ⟨_, rfl⟩
  obtain ⟨oy, hooy⟩ : ∃ h, h = headOk y := ⟨_, rfl⟩
  rw [← hhx, ← hhy, ← hoox, ← hooy] at hnm
  rw [← hhx, ← hoox] at hox
  rw [← hhy, ← hooy] at hoy
  clear hhx hhy hoox hooy hss ha hbb hlx hly
  obtain ⟨xl, xh, xf, xs⟩ := hx
  obtain ⟨yl, yh, yf, ys⟩ := hy
  simp only at hnm hox hoy
  go_enter Tryd.func33, Tryd.ntmps33
  have hb0 : Blk (w.alloc (.cells #[.int .i64 0, .int .i64 0, .int .i64 0, .int .i64 0] 63)) g 5 cur := hb.alloc _
  have hr0 := Blk.new w 63 #[.int .i64 0, .int .i64 0, .int .i64 0, .int .i64 0]
  have hf0 : Fr No w (w.alloc (.cells #[.int .i64 0, .int .i64 0, .int .i64 0, .int .i64 0] 63)) := (Fr.refl No w).alloc _
  go_wp2_with (first
    | (refine wpList_arr4 rfl _ rfl _ _ _ rfl (by first | done | omega) ?_)
    | (refine wpList_ldA ag_sec4 rfl _ rfl ⟨g, 0, none⟩ (U8 x) rfl hux (hcx _ hb0) ?_)
    | fail)
  refine (hox _).mono ?_
  rintro e w1 ⟨rfl, hf1⟩
  have hb1 := hb0.fr0 hf1
  have hr1 := hr0.fr0 hf1
  have hF1 := hf0.tr hf1
  have hz1 := hr1.lt
  have hx1 := Blk.new w1 63 #[.int .i64 0, .int .i64 0, .int .i64 0, .int .i64 0]
  clear hf0 hf1 hb0 hr0
  go_upto_region 2 with (first
    | (refine wpList_stA ag_head.info rfl _ _ rfl w1.heap.size 0 _ _ [.int .i64 xl, .int .i64 xh, .int .i64 xf, .int .i64 xs] _ rfl rfl rfl rfl (by intro u hu; simp at hu; rcases hu with rfl | rfl | rfl | rfl <;> rfl) hx1 (by decide) ?_; intro w2 hx2 hg2 hz2)
    | fail)
  rw [splice_all _ _ (by rfl)] at hx2
  have hf2 : Fr No w1 w2 := ((Fr.refl No w1).alloc _).grown hg2 (fun q hq => by injection hq with hq; exact .inl (by rw [← hq]; exact Nat.le_refl _))
  have hb2 := hb1.fr0 hf2
  have hr2 := hr1.fr0 hf2
  have hF2 := hF1.tr hf2
  obtain ⟨gx, hgx⟩ : ∃ gx, gx = w1.heap.size := ⟨_, rfl⟩
  have hxw : w.heap.size < gx := by omega
  try simp only [Act.put, List.setIfInBounds_toArray, List.set_cons_zero, List.set_cons_succ]
  rw [← hgx] at hx2 ⊢
  clear hgx hx1 hg2 hz2 hf2 hb1 hr1 hF1 hz1
  go_wp2_with (first
    | (refine wpList_arr4 rfl _ rfl _ _ _ rfl (by first | done | omega) ?_)
    | (refine wpList_ldA ag_sec4 rfl _ rfl ⟨g, 128, none⟩ (U8 y) rfl huy (hcy _ hb2) ?_)
    | fail)
  refine (hoy _).mono ?_
  rintro e w3 ⟨rfl, hf3⟩
  have hx3 := hx2.fr0 hf3
  have hr3 := hr2.fr0 hf3
  have hF3 := hF2.tr hf3
  have hz3 := hx3.lt
  have hy3 := Blk.new w3 63 #[.int .i64 0, .int .i64 0, .int .i64 0, .int .i64 0]
  clear hf3 hb2 hr2 hF2 hx2
  go_upto_region 3 with (first
    | (refine wpList_stA ag_head.info rfl _ _ rfl w3.heap.size 0 _ _ [.int .i64 yl, .int .i64 yh, .int .i64 yf, .int .i64 ys] _ rfl rfl rfl rfl (by intro u hu; simp at hu; rcases hu with rfl | rfl | rfl | rfl <;> rfl) hy3 (by decide) ?_; intro w4 hy4 hg4 hz4)
    | fail)
  rw [splice_all _ _ (by rfl)] at hy4
  have hf4 : Fr No w3 w4 := ((Fr.refl No w3).alloc _).grown hg4 (fun q hq => by injection hq with hq; exact .inl (by rw [← hq]; exact Nat.le_refl _))
  have hx4 := hx3.fr0 hf4
  have hr4 := hr3.fr0 hf4
  have hF4 := hF3.tr hf4
  obtain ⟨gy, hgy⟩ : ∃ gy, gy = w3.heap.size := ⟨_, rfl⟩
  have hyw : w.heap.size < gy := by omega
  try simp only [Act.put, List.setIfInBounds_toArray, List.set_cons_zero, List.set_cons_succ]
  rw [← hgy] at hy4 ⊢
  clear hgy hy3 hg4 hz4 hf4 hr3 hF3 hz3 hx3
  (have p0 := hx4.cell 0; have p1 := hx4.cell 1; have p2 := hx4.cell 2; have p3 := hx4.cell 3; have pf0 := hx4.frozen 0; have pf1 := hx4.frozen 1; have pf2 := hx4.frozen 2; have pf3 := hx4.frozen 3; simp only [List.getElem?_toArray, List.getElem?_cons_zero, List.getElem?_cons_succ] at p0 p1 p2 p3)
  (have q0 := hy4.cell 0; have q1 := hy4.cell 1; have q2 := hy4.cell 2; have q3 := hy4.cell 3; have qf0 := hy4.frozen 0; have qf1 := hy4.frozen 1; have qf2 := hy4.frozen 2; have qf3 := hy4.frozen 3; simp only [List.getElem?_toArray, List.getElem?_cons_zero, List.getElem?_cons_succ] at q0 q1 q2 q3)
  have hend : ∀ (w' : World) (l1 l2 l3 l4 : Int), Blk w' w.heap.size 63 (splice #[.int .i64 0, .int .i64 0, .int .i64 0, .int .i64 0] 0 [.int .i64 l1, .int .i64 l2, .int .i64 l3, .int .i64 l4]) → w4.grownBy w' (some w.heap.size) → Blk w' w.heap.size 63 #[.int .i64 l1, .int .i64 l2, .int .i64 l3, .int .i64 l4] ∧ Fr No w w' := fun w' l1 l2 l3 l4 hb hg => by
    rw [splice_all _ _ (by rfl)] at hb
    exact ⟨hb, hF4.grown hg (fun q hq => by injection hq with hq; exact .inl (by rw [← hq]; exact Nat.le_refl _))⟩
  cases oy with
  | false =>
    rw [if_neg (by simp)] at hnm
    subst hnm
    go_wp2_with (first
      | (refine wpList_ldA ag_head rfl _ rfl ⟨gx, 0, none⟩ [.int .i64 xl, .int .i64 xh, .int .i64 xf, .int .i64 xs] rfl rfl hx4.all ?_)
      | (refine wpList_stA ag_head.info rfl _ _ rfl w.heap.size 0 _ _ [.int .i64 xl, .int .i64 xh, .int .i64 xf, .int .i64 xs] _ rfl rfl rfl rfl (by intro u hu; simp at hu; rcases hu with rfl | rfl | rfl | rfl <;> rfl) hr4 (by decide) ?_; intro w5 hr5 hg5 hz5)
      | fail)
    obtain ⟨hr6, hF6⟩ := hend _ _ _ _ _ hr5 hg5
    exact bodyPost_ret (results_blk2 ag_head rfl _ _ _ _ _ _ rfl rfl hr6 rfl) rfl ⟨rfl, hF6⟩
  | true =>
    cases ox with
    | false =>
      rw [if_pos (by simp)] at hnm
      subst hnm
      go_wp2_with (first
        | (refine wpList_ldA ag_head rfl _ rfl ⟨gy, 0, none⟩ [.int .i64 yl, .int .i64 yh, .int .i64 yf, .int .i64 ys] rfl rfl hy4.all ?_)
        | (refine wpList_stA ag_head.info rfl _ _ rfl w.heap.size 0 _ _ [.int .i64 yl, .int .i64 yh, .int .i64 yf, .int .i64 ys] _ rfl rfl rfl rfl (by intro u hu; simp at hu; rcases hu with rfl | rfl | rfl | rfl <;> rfl) hr4 (by decide) ?_; intro w5 hr5 hg5 hz5)
        | fail)
      obtain ⟨hr6, hF6⟩ := hend _ _ _ _ _ hr5 hg5
      exact bodyPost_ret (results_blk2 ag_head rfl _ _ _ _ _ _ rfl rfl hr6 rfl) rfl ⟨rfl, hF6⟩
    | true =>
      by_cases hlt : xl < yl
      · have e1 : decide (xl < yl) = true := by simpa using hlt
        rw [if_pos ⟨rfl, .inr hlt⟩] at hnm
        subst hnm
        clear hlt
        go_wp2_with (first
          | (refine wpList_ldA ag_head rfl _ rfl ⟨gy, 0, none⟩ [.int .i64 yl, .int .i64 yh, .int .i64 yf, .int .i64 ys] rfl rfl hy4.all ?_)
          | (refine wpList_stA ag_head.info rfl _ _ rfl w.heap.size 0 _ _ [.int .i64 yl, .int .i64 yh, .int .i64 yf, .int .i64 ys] _ rfl rfl rfl rfl (by intro u hu; simp at hu; rcases hu with rfl | rfl | rfl | rfl <;> rfl) hr4 (by decide) ?_; intro w5 hr5 hg5 hz5)
          | fail)
        obtain ⟨hr6, hF6⟩ := hend _ _ _ _ _ hr5 hg5
        exact bodyPost_ret (results_blk2 ag_head rfl _ _ _ _ _ _ rfl rfl hr6 rfl) rfl ⟨rfl, hF6⟩
      · have e1 : decide (xl < yl) = false := by simpa using hlt
        rw [if_neg (by rintro ⟨_, h | h⟩; cases h; exact hlt h)] at hnm
        subst hnm
        clear hlt
        go_wp2_with (first
          | (refine wpList_ldA ag_head rfl _ rfl ⟨gx, 0, none⟩ [.int .i64 xl, .int .i64 xh, .int .i64 xf, .int .i64 xs] rfl rfl hx4.all ?_)
          | (refine wpList_stA ag_head.info rfl _ _ rfl w.heap.size 0 _ _ [.int .i64 xl, .int .i64 xh, .int .i64 xf, .int .i64 xs] _ rfl rfl rfl rfl (by intro u hu; simp at hu; rcases hu with rfl | rfl | rfl | rfl <;> rfl) hr4 (by decide) ?_; intro w5 hr5 hg5 hz5)
          | fail)
        obtain ⟨hr6, hF6⟩ := hend _ _ _ _ _ hr5 hg5
        exact bodyPost_ret (results_blk2 ag_head rfl _ _ _ _ _ _ rfl rfl hr6 rfl) rfl ⟨rfl, hF6⟩
end Go.Proofs.YtannkgglgmbkdaaDoor
namespace Go.Proofs.YtannkgglgmbkdaaDoor
set_option linter.unusedVariables false
set_option linter.unusedSimpArgs false
open Go.RowKit

/-- What a record's sector should be, for what it says of itself. -/
def wantB (life seq : Int) (i : Nat) (s : Sec) : Sec :=
  [] ++ putL 6 life ++ putL 6 seq ++ putL 2 (i : Int) ++ [s.getD 14 0 &&& 1] ++ [s.getD 15 0] ++ subB s 16 (s.getD 15 0).toNat ++ List.replicate (112 - (s.getD 15 0).toNat) 0
def recBad (acc : Nat) (s : Sec) : Prop := (s.getD 15 0).toNat < 1 ∨ 112 < (s.getD 15 0).toNat ∨ 60000 < acc + (s.getD 15 0).toNat ∨ (s.getD 14 0 ≠ 1 ∧ (s.getD 15 0).toNat < 112)
instance (acc : Nat) (s : Sec) : Decidable (recBad acc s) := by unfold recBad; infer_instance
def lifeOf (i : Nat) (life : Int) (s : Sec) : Int := if i = 0 then getN (subB s 0 6) else life
/-- The record of a seq that some sectors begin with, its life, how many it has. -/
def recGo (seq : Int) : Nat → Int → List UInt8 → List Sec → Option (List UInt8 × Int × Nat)
  | _, _, _, [] => none
  | i, life, acc, s :: ss =>
    if recBad acc.length s ∨ wantB (lifeOf i life s) seq i s ≠ s then none
    else if s.getD 14 0 = 1 then some (acc ++ subB s 16 (s.getD 15 0).toNat, lifeOf i life s, i + 1)
    else recGo seq (i + 1) (lifeOf i life s) (acc ++ subB s 16 (s.getD 15 0).toNat) ss
def RecRes (w : World) (r : Option (List UInt8 × Int × Nat)) (e : Ending) (w' : World) : Prop :=
  (r = none ∧ e = .returned (.tuple #[.slice none 0 0, .int .i64 0, .int .i64 0]) ∨
    ∃ l life n v, r = some (l, life, n) ∧ e = .returned (.tuple #[v, .int .i64 life, .int .i64 (n : Int)]) ∧ w'.ownsRow w.heap.size 5 1 v l.length (U8 l)) ∧ Fr No w w'
theorem recGo_no {seq : Int} {i : Nat} {life : Int} {acc : List UInt8} {s : Sec} {ss : List Sec} (h : recBad acc.length s ∨ wantB (lifeOf i life s) seq i s ≠ s) : recGo seq i life acc (s :: ss) = none := by rw [recGo, if_pos h]
theorem recGo_end {seq : Int} {i : Nat} {life : Int} {acc : List UInt8} {s : Sec} {ss : List Sec} (h : ¬ recBad acc.length s) (h1 : wantB (lifeOf i life s) seq i s = s) (h2 : s.getD 14 0 = 1) :
    recGo seq i life acc (s :: ss) = some (acc ++ subB s 16 (s.getD 15 0).toNat, lifeOf i life s, i + 1) := by rw [recGo, if_neg (by rintro (h3 | h3); exact h h3; exact h3 h1), if_pos h2]
theorem recGo_on {seq : Int} {i : Nat} {life : Int} {acc : List UInt8} {s : Sec} {ss : List Sec} (h : ¬ recBad acc.length s) (h1 : wantB (lifeOf i life s) seq i s = s) (h2 : s.getD 14 0 ≠ 1) :
    recGo seq i life acc (s :: ss) = recGo seq (i + 1) (lifeOf i life s) (acc ++ subB s 16 (s.getD 15 0).toNat) ss := by rw [recGo, if_neg (by rintro (h3 | h3); exact h h3; exact h3 h1), if_neg h2]
set_option maxRecDepth 100000 in
theorem and1_all : ∀ n : Fin 256, bits .and .u8 (n.val : Int) 1 = ((UInt8.ofNat n.val &&& 1).toNat : Int) := by decide +kernel
theorem and1_u8 (x : UInt8) : bits .and .u8 (x.toNat : Int) 1 = ((x &&& 1).toNat : Int) := by
  have := and1_all ⟨x.toNat, x.toNat_lt⟩
  simpa using this
set_option maxRecDepth 100000 in
theorem run_neq_sec4 (w : World) (xs ys : Sec) (hx : xs.length = 128) (hy : ys.length = 128) : (binOp .neq tSec (.agg (U8 xs).toArray) (.agg (U8 ys).toArray)).run Tryd.prog w = .ok (.bool (!(xs == ys))) w := by
  have h := run_equalIn_bytes (P := Tryd.prog) w 9998 tSec 5 128 Tryd.underlying61 Tryd.underlying5 (fun w => by unfold sizeOf typeInfo; rfl) xs ys hx hy
  rw [run_neq_struct]
  unfold U8
  have e : (fun b : UInt8 => Value.int .u8 (b.toNat : Int)) = Extern.Stop.cell := rfl
  rw [e, h]
  rfl
theorem wpList_neqSec4 {ops : Array Oper} {rest : List Oper} {Q : Exit → Go.Act → World → Prop} {o : Oper} {a : Go.Act} {w : World} {xs ys : Sec} (hlx : xs.length = 128) (hly : ys.length = 128) {x y : Operand} {ty : TypeId}
    (hw : Region.wanted o (yielded ops a.tmps) = true)
    (ho : o.op = .binOp .neq tSec x y ty) (hx : a.eval x = .agg (U8 xs).toArray) (hy : a.eval y = .agg (U8 ys).toArray)
    (h : wpList Tryd.prog ops Q rest (a.put o.dst (.bool (!(xs == ys)))) w) : wpList Tryd.prog ops Q (o :: rest) a w := by
  refine BigFrame.wpList_want hw fun K hK => ?_
  unfold Oper.wp execOp
  simp only [ho, hx, hy, Sem.run_bind, run_eqGuard_agg w .neq tSec x y (U8 xs).toArray (U8 ys).toArray eg_sec4, Result.andThen_ok, run_neq_sec4 w xs ys hlx hly, Sem.run_pure]
  exact hK _ _ h
set_option maxHeartbeats 8000000 in
set_option maxRecDepth 100000 in
theorem record_calls (w : World) (A : Option Addr) (c : Nat) (ss : List Sec) (seq : Int) (hrd : Rd w (fun b => b < w.heap.size) 1 A (ss.length * 128) (U8 ss.flatten)) (hss : Len128 ss) (hc : ss.length * 128 ≤ c) (hcm : c ≤ maxLen) (hsm : ss.length ≤ 4096) :
    Calls Tryd.prog 36 #[.slice A (ss.length * 128) c, .int .i64 seq] w (RecRes w (recGo seq 0 0 [] ss)) := by
  have g1 : ∀ w, (isAgg 2).run Tryd.prog w = .ok false w := plain_of Tryd.underlying2 rfl
  have g3 : ∀ w, (isAgg 5).run Tryd.prog w = .ok false w := plain_of Tryd.underlying5 rfl
  obtain ⟨m, hm⟩ : ∃ m, m = ss.length * 128 := ⟨_, rfl⟩
  rw [← hm] at hrd hc ⊢
  have HM := Lib.hid hm
  have hm5 : m ≤ 524288 := by omega
  clear hm
  have HSS := Lib.hid hss
  clear hss
  go_enter Tryd.func36, Tryd.ntmps36
  go_wp2_with fail
  go_loopw [0, 7, 8, 9] (fun v0 v7 v8 v9 wr => ∃ (j n cb : Nat) (B : Option Addr) (life : Int) (acc : List UInt8), j ≤ ss.length ∧ v0 = .slice B n cb ∧ Hid (n = (ss.length - j) * 128) ∧ n ≤ cb ∧ cb ≤ maxLen ∧ n ≤ 524288 ∧ v9 = .int .i64 (j : Int) ∧ v8 = .int .i64 life ∧
    wr.ownsRow w.heap.size 5 1 v7 acc.length (U8 acc) ∧ acc.length ≤ 60000 ∧ Rd wr (fun b => b < w.heap.size) 1 B n (U8 (ss.drop j).flatten) ∧ Hid (recGo seq 0 0 [] ss = recGo seq j life acc (ss.drop j)) ∧ Fr No w wr) (fun v0 _ _ _ _ => (match v0 with | .slice _ n _ => n | _ => 0))
  case atStart => exact ⟨0, m, c, A, 0, [], by omega, rfl, HM, hc, hcm, hm5, rfl, rfl, World.ownsRow_nil _ _ _ _, by simp, hrd, Lib.hid rfl, Fr.refl _ _⟩
  case round =>
    obtain ⟨j, n, cb, B, life, acc, hj, rfl, HN, hncb, hcbm, hn5, rfl, rfl, hown, hacc, hrj, HR, hf⟩ := hrel
    have hn0 := HN.out
    obtain ⟨A7, c7, rfl, hc7, hc7m, hA7⟩ := own_form hown
    by_cases hlt : j < ss.length
    · have hn1 : 128 ≤ n := by omega
      have en : decide ((128 : Int) ≤ n) = true := by simp; omega
      have hls := HSS.out _ (List.getElem_mem hlt)
      obtain ⟨hh1, hh2⟩ := flat_head HSS.out hlt
      have hdr : ss.drop j = ss[j] :: ss.drop (j + 1) := List.drop_eq_getElem_cons hlt
      have hgo := HR.out
      rw [hdr] at hgo
      have HGO := Lib.hid hgo
      have hcut := hrj.cut (k := 128) (cap := cb) hn1 hncb
      simp only [Nat.mul_one, hh2] at hcut
      have hrs := hrj.take (k := 128) hn1
      simp only [Nat.mul_one, hh1] at hrs
      obtain ⟨ad, rfl, hadb, hcs⟩ := hrs.2.2 (by decide)
      have HCUT := Lib.hid hcut
      clear hn0 hdr hgo hh1 hh2 hcut hrs HR HM
      generalize ss[j] = s at *
      have hus : (U8 s).length = 128 := by rw [U8_length]; exact hls
      have hja : j ≤ 4096 := by omega
      go_upto_region 7 with (first
        | (refine wpList_arr4 rfl _ rfl _ _ _ rfl (by first | done | omega) ?_)
        | (refine wpList_ldA ag_sec4 rfl _ rfl ad (U8 s) rfl hus hcs ?_)
        | (refine wpList_allocA (show (Tryd.prog.info? tSec).bind (·.zero) = some (.agg (U8 zsec).toArray) from zero_sec) rfl rfl ?_)
        | (refine wpList_stA ag_sec4.info rfl _ _ rfl wr.heap.size 0 _ _ (U8 s) _ rfl rfl rfl hus (U8_one s) (Blk.new wr tSec (U8 zsec).toArray) (by rw [List.size_toArray, U8_length, zsec_len]; decide) ?_; intro w2 hs2 hg2 hz2)
        | fail)
      rw [splice_all _ _ (by rw [hus, List.size_toArray, U8_length, zsec_len])] at hs2
      have hf2 : Fr No wr w2 := ((Fr.refl No wr).alloc _).grown hg2 (fun q hq => by injection hq with hq; exact .inl (by rw [← hq]; exact Nat.le_refl _))
      obtain ⟨gs, hgs⟩ : ∃ gs, gs = wr.heap.size := ⟨_, rfl⟩
      have hge : wr.heap.size ≤ gs := by omega
      try simp only [Act.put, List.setIfInBounds_toArray, List.set_cons_zero, List.set_cons_succ]
      rw [← hgs] at hs2 ⊢
      clear hgs hg2 hz2
      go_cut [0] (fun s0 wx => ∃ A2 n2 c2, s0 = .slice A2 n2 c2 ∧ Hid (n2 + 128 = n) ∧ n2 ≤ c2 ∧ c2 ≤ maxLen ∧ n2 ≤ 524288 ∧ Hid (Rd w2 (fun b => b < w.heap.size) 1 A2 n2 (U8 (ss.drop (j + 1)).flatten)) ∧ wx = w2)
      case first =>
        have hmx : n - 128 ≤ 524288 := by omega
        by_cases hcb : cb = 128
        · subst hcb
          obtain rfl : n = 128 := by omega
          have hc := (HCUT.out).fr0 hf2
          rw [if_pos rfl] at hc
          have HC := Lib.hid hc
          clear hc
          go_wp2_with fail
          go_meet
          case rel => exact ⟨_, _, _, rfl, Lib.hid rfl, by omega, by omega, by omega, HC, rfl⟩
        · have hc := (HCUT.out).fr0 hf2
          rw [if_neg hcb] at hc
          have HC := Lib.hid hc
          clear hc
          go_wp2_with fail
          go_meet
          case rel => exact ⟨_, _, _, rfl, Lib.hid (by omega), by omega, by omega, by omega, HC, rfl⟩
      case rest =>
        obtain ⟨A2, n2, c2, rfl, HN2, hn2c, hc2m, hn25, HR2, hwx⟩ := hcut
        subst hwx
        have hown2 := own_fr0 hown hf2
        have hF2 := hf.tr hf2
        have hF2z := hF2.size
        clear hrj hf hown hf2 hcs hadb HCUT hrd
        have hg15 : (U8 s)[15]? = some (.int .u8 ((s.getD 15 0).toNat : Int)) := by rw [U8_get s 15 (by omega), List.getD_eq_getElem?_getD, List.getElem?_eq_getElem (by omega)]; rfl
        have hg14 : (U8 s)[14]? = some (.int .u8 ((s.getD 14 0).toNat : Int)) := by rw [U8_get s 14 (by omega), List.getD_eq_getElem?_getD, List.getElem?_eq_getElem (by omega)]; rfl
        have hc15 : wc.cell? ⟨gs, 15, none⟩ = some (.int .u8 ((s.getD 15 0).toNat : Int)) := by rw [hs2.cell, List.getElem?_toArray]; exact hg15
        have hc14 : wc.cell? ⟨gs, 14, none⟩ = some (.int .u8 ((s.getD 14 0).toNat : Int)) := by rw [hs2.cell, List.getElem?_toArray]; exact hg14
        have hpr := (s.getD 15 0).toNat_lt
        obtain ⟨p, hp⟩ : ∃ p, p = (s.getD 15 0).toNat := ⟨_, rfl⟩
        obtain ⟨x, hx⟩ : ∃ x, x = s.getD 14 0 := ⟨_, rfl⟩
        obtain ⟨la, hla⟩ : ∃ la : Bool, la = ((x.toNat : Int) == 1) := ⟨_, rfl⟩
        have hlax : (la = true) ↔ x = 1 := by
          rw [hla, beq_iff_eq]
          constructor
          · intro h; apply UInt8.toNat.inj; have : x.toNat = 1 := by omega
            rw [this]; rfl
          · intro h; rw [h]; rfl
        have HLF : Hid (lifeOf j life s = if j = 0 then getN (subB s 0 6) else life) := Lib.hid rfl
        have HP := Lib.hid hp
        have HX := Lib.hid hx
        have HLX := Lib.hid hlax
        rw [← hp] at hc15 hpr
        rw [← hx] at hc14
        have HLA := Lib.hid hla.symm
        clear hp hx hlax hg15 hg14
        go_wp2_with fail
        (refine T_begin No [0, 1, 2, 3, 4, 5, 6, 7] [] (by kernel_rfl) (by kernel_rfl) ?_; simp only [pickOps, List.filterMap_cons, List.filterMap_nil, List.getElem?_cons_zero, List.getElem?_cons_succ, Act.put])
        (first | (refine T_skip (by rfl) (by rfl) (fun _ _ _ h => h) ?_; try simp only [Act.put, List.setIfInBounds_toArray, List.set_cons_zero, List.set_cons_succ]) | (refine T_pass (by rfl) (by rfl) ?_; try simp only [Act.put, List.setIfInBounds_toArray, List.set_cons_zero, List.set_cons_succ]) | (refine T_load (by assumption) (by rfl) (by rfl) (fun _ _ _ _ h => h) rfl rfl (by assumption) (by first | exact (fun hn => hn) | assumption) ?_; try simp only [Act.put, List.setIfInBounds_toArray, List.set_cons_zero, List.set_cons_succ]) | (refine T_nil (by rfl) (by rfl) (fun _ _ _ _ h => h) rfl rfl ?_; try simp only [Act.put, List.setIfInBounds_toArray, List.set_cons_zero, List.set_cons_succ]) | (refine T_quietN (by rfl) (by rfl) (by rfl) (by rfl) (fun _ _ _ _ h => h) (fun K hK => ?_); go_big_quiet_op; refine hK _ ?_; clear hK K) | (refine T_two (by rfl) (by rfl) (by rfl) (by rfl) (fun _ _ _ _ h => h) (fun K hK => ?_); go_big_quiet_op; refine ⟨_, fun _ _ => rfl, ?_⟩; refine hK _ ?_; clear hK K; try simp only [Act.put, List.setIfInBounds_toArray, List.set_cons_zero, List.set_cons_succ]) | fail)
        (refine T_load g3 (by rfl) (by rfl) (fun _ _ _ _ h => h) rfl rfl hc15 (fun hn => hn) ?_; try simp only [Act.put, List.setIfInBounds_toArray, List.set_cons_zero, List.set_cons_succ])
        (refine T_u8i (by omega) (by omega) (by rfl) (by rfl) (fun _ _ _ _ h => h) rfl rfl ?_; try simp only [Act.put, List.setIfInBounds_toArray, List.set_cons_zero, List.set_cons_succ])
        (first | (refine T_skip (by rfl) (by rfl) (fun _ _ _ h => h) ?_; try simp only [Act.put, List.setIfInBounds_toArray, List.set_cons_zero, List.set_cons_succ]) | (refine T_pass (by rfl) (by rfl) ?_; try simp only [Act.put, List.setIfInBounds_toArray, List.set_cons_zero, List.set_cons_succ]) | (refine T_load (by assumption) (by rfl) (by rfl) (fun _ _ _ _ h => h) rfl rfl (by assumption) (by first | exact (fun hn => hn) | assumption) ?_; try simp only [Act.put, List.setIfInBounds_toArray, List.set_cons_zero, List.set_cons_succ]) | (refine T_nil (by rfl) (by rfl) (fun _ _ _ _ h => h) rfl rfl ?_; try simp only [Act.put, List.setIfInBounds_toArray, List.set_cons_zero, List.set_cons_succ]) | (refine T_quietN (by rfl) (by rfl) (by rfl) (by rfl) (fun _ _ _ _ h => h) (fun K hK => ?_); go_big_quiet_op; refine hK _ ?_; clear hK K) | (refine T_two (by rfl) (by rfl) (by rfl) (by rfl) (fun _ _ _ _ h => h) (fun K hK => ?_); go_big_quiet_op; refine ⟨_, fun _ _ => rfl, ?_⟩; refine hK _ ?_; clear hK K; try simp only [Act.put, List.setIfInBounds_toArray, List.set_cons_zero, List.set_cons_succ]) | fail)
        (refine T_load g3 (by rfl) (by rfl) (fun _ _ _ _ h => h) rfl rfl hc14 (fun hn => hn) ?_; try simp only [Act.put, List.setIfInBounds_toArray, List.set_cons_zero, List.set_cons_succ])
        (first | (refine T_skip (by rfl) (by rfl) (fun _ _ _ h => h) ?_; try simp only [Act.put, List.setIfInBounds_toArray, List.set_cons_zero, List.set_cons_succ]) | (refine T_pass (by rfl) (by rfl) ?_; try simp only [Act.put, List.setIfInBounds_toArray, List.set_cons_zero, List.set_cons_succ]) | (refine T_load (by assumption) (by rfl) (by rfl) (fun _ _ _ _ h => h) rfl rfl (by assumption) (by first | exact (fun hn => hn) | assumption) ?_; try simp only [Act.put, List.setIfInBounds_toArray, List.set_cons_zero, List.set_cons_succ]) | (refine T_nil (by rfl) (by rfl) (fun _ _ _ _ h => h) rfl rfl ?_; try simp only [Act.put, List.setIfInBounds_toArray, List.set_cons_zero, List.set_cons_succ]) | (refine T_quietN (by rfl) (by rfl) (by rfl) (by rfl) (fun _ _ _ _ h => h) (fun K hK => ?_); go_big_quiet_op; refine hK _ ?_; clear hK K) | (refine T_two (by rfl) (by rfl) (by rfl) (by rfl) (fun _ _ _ _ h => h) (fun K hK => ?_); go_big_quiet_op; refine ⟨_, fun _ _ => rfl, ?_⟩; refine hK _ ?_; clear hK K; try simp only [Act.put, List.setIfInBounds_toArray, List.set_cons_zero, List.set_cons_succ]) | fail)
        try rw [HLA.out]
        (first | (refine T_skip (by rfl) (by rfl) (fun _ _ _ h => h) ?_; try simp only [Act.put, List.setIfInBounds_toArray, List.set_cons_zero, List.set_cons_succ]) | (refine T_pass (by rfl) (by rfl) ?_; try simp only [Act.put, List.setIfInBounds_toArray, List.set_cons_zero, List.set_cons_succ]) | (refine T_load (by assumption) (by rfl) (by rfl) (fun _ _ _ _ h => h) rfl rfl (by assumption) (by first | exact (fun hn => hn) | assumption) ?_; try simp only [Act.put, List.setIfInBounds_toArray, List.set_cons_zero, List.set_cons_succ]) | (refine T_nil (by rfl) (by rfl) (fun _ _ _ _ h => h) rfl rfl ?_; try simp only [Act.put, List.setIfInBounds_toArray, List.set_cons_zero, List.set_cons_succ]) | (refine T_quietN (by rfl) (by rfl) (by rfl) (by rfl) (fun _ _ _ _ h => h) (fun K hK => ?_); go_big_quiet_op; refine hK _ ?_; clear hK K) | (refine T_two (by rfl) (by rfl) (by rfl) (by rfl) (fun _ _ _ _ h => h) (fun K hK => ?_); go_big_quiet_op; refine ⟨_, fun _ _ => rfl, ?_⟩; refine hK _ ?_; clear hK K; try simp only [Act.put, List.setIfInBounds_toArray, List.set_cons_zero, List.set_cons_succ]) | fail)
        (first | (refine T_skip (by rfl) (by rfl) (fun _ _ _ h => h) ?_; try simp only [Act.put, List.setIfInBounds_toArray, List.set_cons_zero, List.set_cons_succ]) | (refine T_pass (by rfl) (by rfl) ?_; try simp only [Act.put, List.setIfInBounds_toArray, List.set_cons_zero, List.set_cons_succ]) | (refine T_load (by assumption) (by rfl) (by rfl) (fun _ _ _ _ h => h) rfl rfl (by assumption) (by first | exact (fun hn => hn) | assumption) ?_; try simp only [Act.put, List.setIfInBounds_toArray, List.set_cons_zero, List.set_cons_succ]) | (refine T_nil (by rfl) (by rfl) (fun _ _ _ _ h => h) rfl rfl ?_; try simp only [Act.put, List.setIfInBounds_toArray, List.set_cons_zero, List.set_cons_succ]) | (refine T_quietN (by rfl) (by rfl) (by rfl) (by rfl) (fun _ _ _ _ h => h) (fun K hK => ?_); go_big_quiet_op; refine hK _ ?_; clear hK K) | (refine T_two (by rfl) (by rfl) (by rfl) (by rfl) (fun _ _ _ _ h => h) (fun K hK => ?_); go_big_quiet_op; refine ⟨_, fun _ _ => rfl, ?_⟩; refine hK _ ?_; clear hK K; try simp only [Act.put, List.setIfInBounds_toArray, List.set_cons_zero, List.set_cons_succ]) | fail)
        refine T_done ?_
        clear hla
        have hs3 := hs2.drew
        have hown3 : wc.drew.ownsRow w.heap.size 5 1 (.slice A7 acc.length c7) acc.length (U8 acc) := own_fr0 hown2 (Fr.refl No wc).drew
        have hF3 := hF2.drew
        have HR3 : Hid (Rd wc.drew (fun b => b < w.heap.size) 1 A2 n2 (U8 (ss.drop (j + 1)).flatten)) := Lib.hid (HR2.out.drew)
        have hc15d : wc.drew.cell? ⟨gs, 15, none⟩ = some (.int .u8 (p : Int)) := hc15
        have hc14d : wc.drew.cell? ⟨gs, 14, none⟩ = some (.int .u8 (x.toNat : Int)) := hc14
        have hzd : wc.drew.heap.size = wc.heap.size := rfl
        have hgd : gs < wc.drew.heap.size := hs3.lt
        clear hs2 hown2 hF2 HR2 hc15 hc14 hzd hF2z
        generalize wc.drew = wd at *
        go_upto_if 32 with fail
        go_cut [8] (fun s8 wx => s8 = .int .i64 (lifeOf j life s) ∧ wx = wd)
        case first =>
          by_cases hj0 : j = 0
          · subst hj0
            have HL := Lib.hid (show lifeOf 0 life s = getN (subB s 0 6) from if_pos rfl)
            go_wp2_with fail
            refine (get_at _ gs _ s 0 6 128 hs3 (by omega) (by decide)).mono ?_
            rintro e w4 ⟨rfl, hw4⟩
            subst hw4
            go_wp2_with fail
            go_meet
            case rel => exact ⟨by rw [HL.out], rfl⟩
          · have hlf : lifeOf j life s = life := if_neg hj0
            have ej : ((j : Int) == 0) = false := by rw [beq_eq_false_iff_ne]; omega
            have HL := Lib.hid hlf
            clear hj0 hlf
            go_wp2_with fail
            go_meet
            case rel => exact ⟨by rw [HL.out], rfl⟩
        case rest =>
          obtain ⟨rfl, hwx⟩ := hcut
          subst hwx
          obtain ⟨lf, hlf⟩ : ∃ lf, lf = lifeOf j life s := ⟨_, rfl⟩
          have HLF := Lib.hid hlf
          rw [← hlf]
          clear hlf
          have hbad : recBad acc.length s ↔ (p < 1 ∨ 112 < p ∨ 60000 < acc.length + p ∨ (x ≠ 1 ∧ p < 112)) := by unfold recBad; rw [← HP.out, ← HX.out]
          have HB := Lib.hid hbad
          have HNB : Hid (recBad acc.length s → recGo seq 0 0 [] ss = none) := Lib.hid (fun h => by rw [HGO.out]; exact recGo_no (.inl h))
          clear hbad
          by_cases hbd : recBad acc.length s
          · have HE := Lib.hid (HNB.out hbd)
            rw [HB.out] at hbd
            by_cases b1 : p < 1
            · have q1 : decide ((p : Int) < 1) = true := by simp; omega
              clear b1 hbd
              go_wp2_with fail
              go_ret3
              exact ⟨.inl ⟨HE.out, rfl⟩, hF3⟩
            · have q1 : decide ((p : Int) < 1) = false := by simp; omega
              by_cases b2 : 112 < p
              · have q2 : decide ((112 : Int) < p) = true := by simp; omega
                clear b1 b2 hbd
                go_wp2_with fail
                go_ret3
                exact ⟨.inl ⟨HE.out, rfl⟩, hF3⟩
              · have q2 : decide ((112 : Int) < p) = false := by simp; omega
                by_cases b3 : 60000 < acc.length + p
                · have q3 : decide ((60000 : Int) < (acc.length : Int) + p) = true := by simp; omega
                  clear b1 b2 b3 hbd
                  go_wp2_with fail
                  go_ret3
                  exact ⟨.inl ⟨HE.out, rfl⟩, hF3⟩
                · have q3 : decide ((60000 : Int) < (acc.length : Int) + p) = false := by simp; omega
                  have hb4 : x ≠ 1 ∧ p < 112 := by
                    rcases hbd with h | h | h | h
                    · exact absurd h b1
                    · exact absurd h b2
                    · exact absurd h b3
                    · exact h
                  obtain ⟨hx1, b4⟩ := hb4
                  have hla : la = false := by
                    cases la with
                    | false => rfl
                    | true => exact absurd (HLX.out.1 rfl) hx1
                  have q4 : decide ((p : Int) < 112) = true := by simp; omega
                  subst hla
                  clear b1 b2 b3 hbd b4 hx1
                  go_wp2_with fail
                  go_ret3
                  exact ⟨.inl ⟨HE.out, rfl⟩, hF3⟩
          · have HG := Lib.hid hbd
            rw [HB.out] at hbd
            have hp1 : 1 ≤ p := by omega
            have hp2 : p ≤ 112 := by omega
            have hp3 : acc.length + p ≤ 60000 := by omega
            have hp4 : x ≠ 1 → 112 ≤ p := fun hx => by
              rcases Nat.lt_or_ge p 112 with h | h
              · exact absurd (.inr (.inr (.inr ⟨hx, h⟩))) hbd
              · exact h
            have HP4 := Lib.hid hp4
            clear hbd hp4
            go_upto_region 11 with fail
            go_cut [55] (fun s55 wx => s55 = .bool false ∧ wx = wc)
            case first =>
              have q1 : decide ((p : Int) < 1) = false := by simp; omega
              have q2 : decide ((112 : Int) < p) = false := by simp; omega
              have q3 : decide ((60000 : Int) < (acc.length : Int) + p) = false := by simp; omega
              cases la with
              | true =>
                go_wp2_with fail
                go_meet
                case rel => exact ⟨rfl, rfl⟩
              | false =>
                have q4 : decide ((p : Int) < 112) = false := by
                  have := HP4.out (fun h => by have := HLX.out.2 h; cases this)
                  simp; omega
                go_wp2_with fail
                go_meet
                case rel => exact ⟨rfl, rfl⟩
            case rest =>
              obtain ⟨rfl, hwx⟩ := hcut
              rename_i wz
              replace hwx := hwx.symm
              subst hwx
              have hb0 := Blk.new wc tSec (U8 zsec).toArray
              have hF0 : Fr No wc (wc.alloc (.cells (U8 zsec).toArray tSec)) := (Fr.refl No wc).alloc _
              have hs4 := hs3.alloc (.cells (U8 zsec).toArray tSec)
              go_upto_region 14 with (first
                | (refine wpList_allocA (show (Tryd.prog.info? tSec).bind (·.zero) = some (.agg (U8 zsec).toArray) from zero_sec) rfl rfl ?_)
                | fail)
              obtain ⟨gw, hgw⟩ : ∃ gw, gw = wc.heap.size := ⟨_, rfl⟩
              have hgew : wc.heap.size ≤ gw := by omega
              have hne : ¬ (gs = gw) := by omega
              try simp only [Act.put, List.setIfInBounds_toArray, List.set_cons_zero, List.set_cons_succ]
              rw [← hgw] at hb0 ⊢
              clear hgw hc15d hc14d
              generalize wc.alloc (.cells (U8 zsec).toArray tSec) = w1 at *
              go_wp2_with fail
              refine (put_calls _ gw 0 6 128 tSec _ lf hb0 (by rw [List.size_toArray, U8_length, zsec_len]; decide) (by decide)).mono ?_
              rintro e w2 ⟨rfl, hb2, hf2⟩
              have e0 : (U8 zsec).toArray = (U8 ([] ++ List.replicate 128 0)).toArray := rfl
              rw [e0, splice_pre [] _ 128 122 0 rfl (by rw [putL_len])] at hb2
              have hF2 : Fr No wc w2 := hF0.trans hf2 (fun b hb e => by omega)
              have hs5 := hs4.fr hf2 hne
              clear hb0 hF0 hf2 e0 hs4
              go_wp2_with fail
              refine (put_calls _ gw 6 6 122 tSec _ seq hb2 (by rw [List.size_toArray, U8_length]; simp [putL_len]) (by decide)).mono ?_
              rintro e w3 ⟨rfl, hb3, hf3⟩
              rw [splice_pre _ _ 122 116 6 (by simp [putL_len]) (by rw [putL_len])] at hb3
              have hF4 : Fr No wc w3 := hF2.trans hf3 (fun b hb e => by omega)
              have hs6 := hs5.fr hf3 hne
              clear hb2 hF2 hf3 hs5
              go_wp2_with fail
              refine (put_calls _ gw 12 2 116 tSec _ (j : Int) hb3 (by rw [List.size_toArray, U8_length]; simp [putL_len]) (by decide)).mono ?_
              rintro e w4 ⟨rfl, hb4, hf4⟩
              rw [splice_pre _ _ 116 114 12 (by simp [putL_len]) (by rw [putL_len])] at hb4
              have hF5 : Fr No wc w4 := hF4.trans hf4 (fun b hb e => by omega)
              have hs7 := hs6.fr hf4 hne
              clear hb3 hF4 hf4 hs6
              obtain ⟨pre, hpre⟩ : ∃ pre, pre = [] ++ putL 6 lf ++ putL 6 seq ++ putL 2 (j : Int) := ⟨_, rfl⟩
              have hpl : pre.length = 14 := by rw [hpre]; simp [putL_len]
              have hwant : wantB lf seq j s = pre ++ [x &&& 1] ++ [UInt8.ofNat p] ++ subB s 16 p ++ List.replicate (112 - p) 0 := by
                unfold wantB
                rw [← hpre, ← HX.out, ← HP.out]
                congr 4
                rw [HP.out]
                exact UInt8.ofNat_toNat.symm
              have HWT := Lib.hid hwant
              rw [← hpre] at hb4
              clear hpre hwant
              have hx14 : w4.cell? ⟨gs, 14, none⟩ = some (.int .u8 (x.toNat : Int)) := by
                rw [hs7.cell, List.getElem?_toArray, U8_get s 14 (by omega), HX.out, List.getD_eq_getElem?_getD, List.getElem?_eq_getElem (by omega)]; rfl
              have hx15 : w4.cell? ⟨gs, 15, none⟩ = some (.int .u8 (p : Int)) := by
                rw [hs7.cell, List.getElem?_toArray, U8_get s 15 (by omega), HP.out, List.getD_eq_getElem?_getD, List.getElem?_eq_getElem (by omega)]; rfl
              have hc14 := (hb4.cell 14).trans (Array.getElem?_eq_getElem (by rw [List.size_toArray, U8_length, List.length_append, hpl, List.length_replicate]; decide))
              have hz14 := hb4.frozen 14
              have hc15 := (hb4.cell 15).trans (Array.getElem?_eq_getElem (by rw [List.size_toArray, U8_length, List.length_append, hpl, List.length_replicate]; decide))
              have hz15 := hb4.frozen 15
              have hb5 := hb4.put 14 (.int .u8 (bits .and .u8 (x.toNat : Int) 1))
              have hb6 := hb5.put 15 (.int .u8 (p : Int))
              rw [and1_u8, set_pre pre (x &&& 1) 113 14 hpl] at hb6
              have hp15 : (pre ++ [x &&& 1]).length = 15 := by rw [List.length_append, hpl]; rfl
              have hset := set_pre (pre ++ [x &&& 1]) (UInt8.ofNat p) 112 15 hp15
              rw [show ((UInt8.ofNat p).toNat : Int) = (p : Int) by rw [UInt8.toNat_ofNat']; omega] at hset
              rw [hset] at hb6
              have HAN := Lib.hid (and1_u8 x)
              clear hset hb5
              generalize (U8 (pre ++ List.replicate 114 0)).toArray[14]'_ = old14 at hc14
              generalize (U8 (pre ++ List.replicate 114 0)).toArray[15]'_ = old15 at hc15
              go_upto_region 18 with fail
              try rw [HAN.out]
              have hF6 : Fr No wc ((w4.setCell ⟨gw, 14, none⟩ (.int .u8 ((x &&& 1).toNat : Int))).setCell ⟨gw, 15, none⟩ (.int .u8 (p : Int))) := (hF5.set (p := ⟨gw, 14, none⟩) (.inl hgew) _).set (p := ⟨gw, 15, none⟩) (.inl hgew) _
              have hs8 : Blk ((w4.setCell ⟨gw, 14, none⟩ (.int .u8 ((x &&& 1).toNat : Int))).setCell ⟨gw, 15, none⟩ (.int .u8 (p : Int))) gs tSec (U8 s).toArray := (hs7.far hne _).far hne _
              clear hx14 hx15 hc14 hz14 hc15 hz15 hb4 hF5 hs7
              generalize (w4.setCell ⟨gw, 14, none⟩ (.int .u8 ((x &&& 1).toNat : Int))).setCell ⟨gw, 15, none⟩ (.int .u8 (p : Int)) = w6 at *
              have hp16 : (pre ++ [x &&& 1] ++ [UInt8.ofNat p]).length = 16 := by rw [List.length_append, hp15]; rfl
              have hsl : (subB s 16 p).length = p := by unfold subB; rw [List.length_take, List.length_drop]; omega
              have hsrc : ∀ w', Blk w' gs tSec (U8 s).toArray → Rd w' (fun b => b = gs) 1 (some ⟨gs, 16, none⟩) p (U8 (subB s 16 p)) := fun w' hb => by
                refine ⟨by rw [U8_length, hsl]; omega, by omega, fun _ => ⟨_, rfl, rfl, hb.cells 16 _ (fun i u hu => ?_)⟩⟩
                rw [subB, U8_take, U8_drop, List.getElem?_take] at hu
                split at hu
                · rw [List.getElem?_drop] at hu
                  simpa using hu
                · cases hu
              obtain ⟨q, hq⟩ : ∃ q, q = 16 + p := ⟨_, rfl⟩
              have HQ := Lib.hid (show (16 : Int) + (p : Int) = (q : Int) by omega)
              have hq1 : (16 : Int) ≤ (q : Int) := by omega
              have hq2 : (q : Int) ≤ 128 := by omega
              have HQP := Lib.hid (show q - 16 = p by omega)
              clear hq
              go_wp2_with fail
              (refine T_begin (fun b => b = gw) [0, 1, 2, 3, 4] [4] (by kernel_rfl) (by kernel_rfl) ?_; simp only [pickOps, List.filterMap_cons, List.filterMap_nil, List.getElem?_cons_zero, List.getElem?_cons_succ, Act.put])
              (first | (refine T_skip (by rfl) (by rfl) (fun _ _ _ h => h) ?_; try simp only [Act.put, List.setIfInBounds_toArray, List.set_cons_zero, List.set_cons_succ]) | (refine T_pass (by rfl) (by rfl) ?_; try simp only [Act.put, List.setIfInBounds_toArray, List.set_cons_zero, List.set_cons_succ]) | (refine T_load (by assumption) (by rfl) (by rfl) (fun _ _ _ _ h => h) rfl rfl (by assumption) (by first | exact (fun hn => hn) | assumption) ?_; try simp only [Act.put, List.setIfInBounds_toArray, List.set_cons_zero, List.set_cons_succ]) | (refine T_nil (by rfl) (by rfl) (fun _ _ _ _ h => h) rfl rfl ?_; try simp only [Act.put, List.setIfInBounds_toArray, List.set_cons_zero, List.set_cons_succ]) | (refine T_quietN (by rfl) (by rfl) (by rfl) (by rfl) (fun _ _ _ _ h => h) (fun K hK => ?_); go_big_quiet_op; refine hK _ ?_; clear hK K) | (refine T_two (by rfl) (by rfl) (by rfl) (by rfl) (fun _ _ _ _ h => h) (fun K hK => ?_); go_big_quiet_op; refine ⟨_, fun _ _ => rfl, ?_⟩; refine hK _ ?_; clear hK K; try simp only [Act.put, List.setIfInBounds_toArray, List.set_cons_zero, List.set_cons_succ]) | fail)
              (first | (refine T_skip (by rfl) (by rfl) (fun _ _ _ h => h) ?_; try simp only [Act.put, List.setIfInBounds_toArray, List.set_cons_zero, List.set_cons_succ]) | (refine T_pass (by rfl) (by rfl) ?_; try simp only [Act.put, List.setIfInBounds_toArray, List.set_cons_zero, List.set_cons_succ]) | (refine T_load (by assumption) (by rfl) (by rfl) (fun _ _ _ _ h => h) rfl rfl (by assumption) (by first | exact (fun hn => hn) | assumption) ?_; try simp only [Act.put, List.setIfInBounds_toArray, List.set_cons_zero, List.set_cons_succ]) | (refine T_nil (by rfl) (by rfl) (fun _ _ _ _ h => h) rfl rfl ?_; try simp only [Act.put, List.setIfInBounds_toArray, List.set_cons_zero, List.set_cons_succ]) | (refine T_quietN (by rfl) (by rfl) (by rfl) (by rfl) (fun _ _ _ _ h => h) (fun K hK => ?_); go_big_quiet_op; refine hK _ ?_; clear hK K) | (refine T_two (by rfl) (by rfl) (by rfl) (by rfl) (fun _ _ _ _ h => h) (fun K hK => ?_); go_big_quiet_op; refine ⟨_, fun _ _ => rfl, ?_⟩; refine hK _ ?_; clear hK K; try simp only [Act.put, List.setIfInBounds_toArray, List.set_cons_zero, List.set_cons_succ]) | fail)
              (first | (refine T_skip (by rfl) (by rfl) (fun _ _ _ h => h) ?_; try simp only [Act.put, List.setIfInBounds_toArray, List.set_cons_zero, List.set_cons_succ]) | (refine T_pass (by rfl) (by rfl) ?_; try simp only [Act.put, List.setIfInBounds_toArray, List.set_cons_zero, List.set_cons_succ]) | (refine T_load (by assumption) (by rfl) (by rfl) (fun _ _ _ _ h => h) rfl rfl (by assumption) (by first | exact (fun hn => hn) | assumption) ?_; try simp only [Act.put, List.setIfInBounds_toArray, List.set_cons_zero, List.set_cons_succ]) | (refine T_nil (by rfl) (by rfl) (fun _ _ _ _ h => h) rfl rfl ?_; try simp only [Act.put, List.setIfInBounds_toArray, List.set_cons_zero, List.set_cons_succ]) | (refine T_quietN (by rfl) (by rfl) (by rfl) (by rfl) (fun _ _ _ _ h => h) (fun K hK => ?_); go_big_quiet_op; refine hK _ ?_; clear hK K) | (refine T_two (by rfl) (by rfl) (by rfl) (by rfl) (fun _ _ _ _ h => h) (fun K hK => ?_); go_big_quiet_op; refine ⟨_, fun _ _ => rfl, ?_⟩; refine hK _ ?_; clear hK K; try simp only [Act.put, List.setIfInBounds_toArray, List.set_cons_zero, List.set_cons_succ]) | fail)
              try rw [HQ.out]
              (first | (refine T_skip (by rfl) (by rfl) (fun _ _ _ h => h) ?_; try simp only [Act.put, List.setIfInBounds_toArray, List.set_cons_zero, List.set_cons_succ]) | (refine T_pass (by rfl) (by rfl) ?_; try simp only [Act.put, List.setIfInBounds_toArray, List.set_cons_zero, List.set_cons_succ]) | (refine T_load (by assumption) (by rfl) (by rfl) (fun _ _ _ _ h => h) rfl rfl (by assumption) (by first | exact (fun hn => hn) | assumption) ?_; try simp only [Act.put, List.setIfInBounds_toArray, List.set_cons_zero, List.set_cons_succ]) | (refine T_nil (by rfl) (by rfl) (fun _ _ _ _ h => h) rfl rfl ?_; try simp only [Act.put, List.setIfInBounds_toArray, List.set_cons_zero, List.set_cons_succ]) | (refine T_quietN (by rfl) (by rfl) (by rfl) (by rfl) (fun _ _ _ _ h => h) (fun K hK => ?_); go_big_quiet_op; refine hK _ ?_; clear hK K) | (refine T_two (by rfl) (by rfl) (by rfl) (by rfl) (fun _ _ _ _ h => h) (fun K hK => ?_); go_big_quiet_op; refine ⟨_, fun _ _ => rfl, ?_⟩; refine hK _ ?_; clear hK K; try simp only [Act.put, List.setIfInBounds_toArray, List.set_cons_zero, List.set_cons_succ]) | fail)
              try rw [HQP.out]
              refine T_call (by rfl) (by rfl) (fun K hK => ?_)
              refine wp_copyA so_u8 rfl hb6.drew (hsrc _ hs8.drew) (U8_one _) rfl rfl (by rw [List.size_toArray, U8_length, List.length_append, hp16, List.length_replicate]; omega) ?_
              intro w7 hb7 hg7 hz7
              rw [show min p 112 * 1 = p by omega, List.take_of_length_le (by rw [U8_length, hsl]; exact Nat.le_refl _), splice_pre _ _ 112 (112 - p) 16 hp16 (by rw [hsl]; omega), ← HWT.out] at hb7
              (refine hK.out _ _ ((Fr.refl _ _).grown hg7 (fun q hq => by injection hq with hq; exact .inr hq.symm)) ?_; clear hK K; try simp only [Act.put, List.setIfInBounds_toArray, List.set_cons_zero, List.set_cons_succ])
              refine T_done ?_
              have hf7 : Fr No wc w7 := (hF6.drew).grown hg7 (fun q hq => by injection hq with hq; exact .inl (by omega))
              have hs9 := hs8.drew.grown hg7 (fun h => hne (Option.some.inj h))
              have hlw : (wantB lf seq j s).length = 128 := by rw [HWT.out, List.length_append, List.length_append, hp16, hsl, List.length_replicate]; omega
              have hF7 := hF3.tr hf7
              have hown7 := own_fr0 hown3 hf7
              have HR7 := Lib.hid (HR3.out.fr0 hf7)
              have HGW : Hid (wantB (lifeOf j life s) seq j s = s ↔ wantB lf seq j s = s) := Lib.hid (by rw [HLF.out])
              obtain ⟨wt, hwt⟩ : ∃ wt, wt = wantB lf seq j s := ⟨_, rfl⟩
              have HWE := Lib.hid hwt
              rw [← hwt] at hlw hb7
              have hlu : (U8 wt).length = 128 := by rw [U8_length]; exact hlw
              have hsrc7 := hsrc _ hs9
              clear hb6 hs8 hF6 hg7 hf7 hown3 HR3 hF3 hsrc hwt hs3
              by_cases hws : wt = s
              · have hq : (wt == s) = true := by rw [beq_iff_eq]; exact hws
                have hweq : wantB (lifeOf j life s) seq j s = s := HGW.out.2 (by rw [← HWE.out]; exact hws)
                have HEND : Hid (x = 1 → recGo seq 0 0 [] ss = some (acc ++ subB s 16 p, lf, j + 1)) := Lib.hid (fun h => by rw [HGO.out, recGo_end HG.out hweq (by rw [← HX.out]; exact h), ← HP.out, ← HLF.out])
                have HON : Hid (x ≠ 1 → recGo seq 0 0 [] ss = recGo seq (j + 1) lf (acc ++ subB s 16 p) (ss.drop (j + 1))) := Lib.hid (fun h => by rw [HGO.out, recGo_on HG.out hweq (by rw [← HX.out]; exact h), ← HP.out, ← HLF.out])
                have HQB := Lib.hid (show (!(wt == s)) = false by rw [hq]; rfl)
                have q5 : (16 : Int) ≤ 16 + (p : Int) := by omega
                have q6 : 16 + (p : Int) ≤ 128 := by omega
                clear hws hweq hq
                have hbase := hF7.size
                have hsrc8 : Rd w7 (fun b => b = gs) 1 (some ⟨gs, 16, none⟩) (16 + p - 16) (U8 (subB s 16 p)) := by rw [show 16 + p - 16 = p by omega]; exact hsrc7
                clear hsrc7
                have HSL := Lib.hid hsl
                cases la with
                | true =>
                  have HE := Lib.hid (HEND.out (HLX.out.1 rfl))
                  go_wp2_with (first
                    | (refine wpList_ldA ag_sec4 rfl _ rfl ⟨gw, 0, none⟩ (U8 wt) rfl hlu hb7.all ?_)
                    | (refine wpList_ldA ag_sec4 rfl _ rfl ⟨gs, 0, none⟩ (U8 s) rfl hus hs9.all ?_)
                    | (refine wpList_neqSec4 (xs := wt) (ys := s) hlw hls rfl rfl rfl rfl ?_; rw [HQB.out])
                    | (at_builtin; refine wpList_app_at so_u8 hown7 hsrc8 (U8_one _) (by omega) hbase rfl rfl rfl rfl ?_; intro v8 w8 hown8 hg8 hat8)
                    | fail)
                  rw [← U8_append, show acc.length + (16 + p - 16) = acc.length + p by omega] at hown8
                  have hf8 : Fr No w w8 := hF7.grown hg8 (fun q hq => .inl ((hown7.lt q hq).1))
                  go_ret3
                  refine ⟨.inr ⟨_, _, _, _, HE.out, rfl, ?_⟩, hf8⟩
                  rw [List.length_append, HSL.out]
                  exact hown8
                | false =>
                  have HE := Lib.hid (HON.out (fun h => by have := HLX.out.2 h; cases this))
                  go_wp2_with (first
                    | (refine wpList_ldA ag_sec4 rfl _ rfl ⟨gw, 0, none⟩ (U8 wt) rfl hlu hb7.all ?_)
                    | (refine wpList_ldA ag_sec4 rfl _ rfl ⟨gs, 0, none⟩ (U8 s) rfl hus hs9.all ?_)
                    | (refine wpList_neqSec4 (xs := wt) (ys := s) hlw hls rfl rfl rfl rfl ?_; rw [HQB.out])
                    | (at_builtin; refine wpList_app_at so_u8 hown7 hsrc8 (U8_one _) (by omega) hbase rfl rfl rfl rfl ?_; intro v8 w8 hown8 hg8 hat8)
                    | fail)
                  rw [← U8_append, show acc.length + (16 + p - 16) = acc.length + p by omega] at hown8
                  have hf8 : Fr No w w8 := hF7.grown hg8 (fun q hq => .inl ((hown7.lt q hq).1))
                  have hR8 := HR7.out.grown hg8 (fun g hg hb => by have := (hown7.lt g hg).1; omega)
                  go_roundw
                  case rel =>
                    refine ⟨j + 1, n2, c2, A2, lf, acc ++ subB s 16 p, by omega, rfl, Lib.hid (by have := HN.out; have := HN2.out; omega), by omega, by omega, by omega, by go_num, rfl, ?_, by rw [List.length_append, HSL.out]; omega, hR8, HE, hf8⟩
                    rw [List.length_append, HSL.out]
                    exact hown8
                  case measure => simp; have := HN2.out; omega
              · have hq : (wt == s) = false := by rw [beq_eq_false_iff_ne]; exact hws
                have HE : Hid (recGo seq 0 0 [] ss = none) := Lib.hid (by rw [HGO.out]; exact recGo_no (.inr (fun h => hws (by rw [HWE.out]; exact HGW.out.1 h))))
                have HQB := Lib.hid (show (!(wt == s)) = true by rw [hq]; rfl)
                clear hws hq
                go_wp2_with (first
                  | (refine wpList_ldA ag_sec4 rfl _ rfl ⟨gw, 0, none⟩ (U8 wt) rfl hlu hb7.all ?_)
                  | (refine wpList_ldA ag_sec4 rfl _ rfl ⟨gs, 0, none⟩ (U8 s) rfl hus hs9.all ?_)
                  | (refine wpList_neqSec4 (xs := wt) (ys := s) hlw hls rfl rfl rfl rfl ?_; rw [HQB.out])
                  | fail)
                go_ret3
                exact ⟨.inl ⟨HE.out, rfl⟩, hF7⟩
    · obtain rfl : j = ss.length := by omega
      obtain rfl : n = 0 := by omega
      have hgo := HR.out
      rw [List.drop_length] at hgo
      have HE := Lib.hid (show recGo seq 0 0 [] ss = none from hgo)
      have en : decide ((128 : Int) ≤ ((0 : Nat) : Int)) = false := by simp
      clear hgo hn0
      go_wp2_with fail
      go_ret3
      exact ⟨.inl ⟨HE.out, rfl⟩, hf⟩
end Go.Proofs.YtannkgglgmbkdaaDoor
namespace Go.Proofs.YtannkgglgmbkdaaDoor
set_option linter.unusedVariables false
set_option linter.unusedSimpArgs false
open Go.RowKit
section
variable {P : Program} {w : World} {ops : Array Oper} {rest : List Oper} {o : Oper} {a : Act} {Q : Exit → Act → World → Prop}
theorem wpList_addI (u v c : Int) (hs : u + v = c) (h0 : -9223372036854775808 ≤ c) (h1 : c ≤ 9223372036854775807) (hw : Region.wanted o (yielded ops a.tmps) = true) {x y : Operand} {t1 t2 : TypeId} (ho : o.op = .binOp .add t1 x y t2)
    (hx : a.eval x = .int .i64 u) (hy : a.eval y = .int .i64 v) (h : wpList P ops Q rest (a.put o.dst (.int .i64 c)) w) : wpList P ops Q (o :: rest) a w := by
  have hwr : IntKind.i64.wrap (u + v) = c := by rw [IntKind.wrap_i64, hs]; omega
  refine BigFrame.wpList_want hw fun K hK => ?_
  unfold Oper.wp execOp
  simp [ho, hx, hy, binOp_add, Op.intArith, hwr, eqGuard]
  exact hK _ _ h
theorem wpList_mulI (u v c : Int) (hs : u * v = c) (h0 : -9223372036854775808 ≤ c) (h1 : c ≤ 9223372036854775807) (hw : Region.wanted o (yielded ops a.tmps) = true) {x y : Operand} {t1 t2 : TypeId} (ho : o.op = .binOp .mul t1 x y t2)
    (hx : a.eval x = .int .i64 u) (hy : a.eval y = .int .i64 v) (h : wpList P ops Q rest (a.put o.dst (.int .i64 c)) w) : wpList P ops Q (o :: rest) a w := by
  have hwr : IntKind.i64.wrap (u * v) = c := by rw [IntKind.wrap_i64, hs]; omega
  refine BigFrame.wpList_want hw fun K hK => ?_
  unfold Oper.wp execOp
  simp [ho, hx, hy, binOp_mul, Op.intArith, hwr, eqGuard]
  exact hK _ _ h
end
end Go.Proofs.YtannkgglgmbkdaaDoor
