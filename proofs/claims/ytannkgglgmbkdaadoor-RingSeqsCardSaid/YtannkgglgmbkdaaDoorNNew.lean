/- ring.Format, newest. No condition but size. -/
import Derived.Test.YtannkgglgmbkdaaDoorNSafe
import Derived.Laws.Cover3
namespace Go.Proofs.YtannkgglgmbkdaaDoor
set_option linter.unusedVariables false
set_option linter.unusedSimpArgs false
open Go.RowKit

section
variable {P : Program} {t e : TypeId} {z : Value} {size bytes : Nat}
/-- 'append' onto a slice that has no room: a new row. -/
theorem wp_app_arg {w : World} {o : Oper} {a : Act} {K : Act → World → Prop} {Q : Exit → Act → World → Prop} (he : SliceOf P t e z size bytes)
    {b : Addr} {n cap : Nat} {olds : List Value} (hlo : olds.length = n * size) (holds : ∀ j u, olds[j]? = some u → w.cell? (b.add j) = some u)
    {ad : Addr} {m c : Nat} {news : List Value} (hl : news.length = m * size) (hnews : ∀ j u, news[j]? = some u → w.cell? (ad.add j) = some u)
    (hg : cap < n + m) (h63 : n + m ≤ maxLen) (hbytes : (n + m) * bytes ≤ 140737488355328)
    {s x : Operand} (ho : o.op = .call { callee := .builtin .append, args := #[s, x], argTypes := #[t, t] })
    (hs : a.eval s = .slice (some b) n cap) (hx : a.eval x = .slice (some ad) m c)
    (h : ∀ v' w', w'.ownsRow w.heap.size e size v' (n + m) (olds ++ news) → w.grownBy w' none → K (a.put o.dst v') w') : o.wp P a w K Q := by
  obtain ⟨i, hi, hz, hsz, hby⟩ := info_parts he.info
  obtain ⟨v', w', hrun, h2, h3⟩ := run_append_arg_grows (P := P) w t o.type e i z size bytes he.ut hi hz hsz hby he.zs he.pos b n cap olds hlo holds ad m c news hl hnews hg h63 hbytes
  unfold Oper.wp execOp
  simp only [ho, resolve, invoke, builtin, Sem.run_bind, Sem.run_pure, Result.andThen_ok, List.map_toArray, List.map_cons, List.map_nil, hs, hx, hrun]
  exact h v' w' h2 h3
end
def formatM (d : DiskM) : DiskM × Bool := safelyM d 0 [zsec, headB ⟨1, 0, 1, 1⟩]
set_option maxRecDepth 100000 in
set_option maxHeartbeats 4000000 in
theorem format_calls (w : World) (X : Nat → Prop) (H : Nat) (d : DiskM) (hd : DiskAt w X H d) (h4 : 4 ≤ d.now.length) (hway : d.way.length ≤ 50000) (hleft : d.left ≤ 1000000) :
    Calls Tryd.prog 13 #[.pointer (some ⟨H, 0, none⟩)] w (WriteR w X (Wid X w) H (formatM d)) := by
  have hfm : formatM d = safelyM d 0 [zsec, headB ⟨1, 0, 1, 1⟩] := rfl
  have hhd : ∀ w, Calls Tryd.prog 29 #[.agg #[.int .i64 1, .int .i64 0, .int .i64 1, .int .i64 1]] w fun e w' => e = .returned (.agg (U8 (headB ⟨1, 0, 1, 1⟩)).toArray) ∧ Fr No w w' := fun w => head_calls w ⟨1, 0, 1, 1⟩
  have hlb := headB_len ⟨1, 0, 1, 1⟩
  have hwr := wrong_calls w X H d hd
  rw [if_neg (by omega)] at hwr
  generalize formatM d = r at *
  generalize headB ⟨1, 0, 1, 1⟩ = hB at *
  go_enter Tryd.func13, Tryd.ntmps13
  go_wp2_with fail
  refine hwr.mono ?_
  rintro e w1 ⟨rfl, hw1⟩
  replace hw1 := hw1.symm
  subst hw1
  have hbz := Blk.new w tSec (U8 zsec).toArray
  have hfz : Fr No w (w.alloc (.cells (U8 zsec).toArray tSec)) := (Fr.refl No w).alloc _
  go_wp2_with (first
    | (refine wpList_allocA (show (Tryd.prog.info? tSec).bind (·.zero) = some (.agg (U8 zsec).toArray) from zero_sec) rfl rfl ?_)
    | fail)
  refine (hhd _).mono ?_
  rintro e w2 ⟨rfl, hf2⟩
  have hbz2 := hbz.fr0 hf2
  have hF2 := hfz.tr hf2
  have hz2 := hbz2.lt
  clear hfz hf2 hbz
  have hlu : (U8 hB).length = 128 := by rw [U8_length]; exact hlb
  have hb3 := Blk.new w2 tSec (U8 zsec).toArray
  go_upto_region 6 with (first
    | (refine wpList_allocA (show (Tryd.prog.info? tSec).bind (·.zero) = some (.agg (U8 zsec).toArray) from zero_sec) rfl rfl ?_)
    | (refine wpList_stA ag_sec4.info rfl _ _ rfl w2.heap.size 0 _ _ (U8 hB) _ rfl rfl rfl hlu (U8_one hB) hb3 (by rw [List.size_toArray, U8_length, zsec_len]; decide) ?_; intro w4 hb4 hg4 hz4)
    | fail)
  rw [splice_all _ _ (by rw [hlu, List.size_toArray, U8_length, zsec_len])] at hb4
  have hf4 : Fr No w2 w4 := ((Fr.refl No w2).alloc _).grown hg4 (fun q hq => by injection hq with hq; exact .inl (by rw [← hq]; exact Nat.le_refl _))
  have hbz4 := hbz2.fr0 hf4
  have hF4 := hF2.tr hf4
  have hsz := hF2.size
  obtain ⟨gs, hgs⟩ : ∃ gs, gs = w2.heap.size := ⟨_, rfl⟩
  have hgw : w.heap.size < gs := by omega
  have hg4s : gs < w4.heap.size := by rw [hgs]; exact hb4.lt
  try simp only [Act.put, List.setIfInBounds_toArray, List.set_cons_zero, List.set_cons_succ]
  rw [← hgs] at hb4 ⊢
  clear hgs hb3 hg4 hz4 hf4 hbz2 hF2 hsz hz2
  have hd5 : DiskAt w4 (fun b => X b ∧ b < w.heap.size) H d := by
    have h1 : DiskAt w (fun b => X b ∧ b < w.heap.size) H d := hd.mono (fun b hb hx => ⟨hx, hb⟩)
    exact h1.fr0 hF4
  go_wp2_with fail
  (refine T_begin (fun b => (X b ∧ b < w.heap.size) ∨ w4.heap.size ≤ b) [0, 1, 2, 3, 4, 5] [3, 4] (by kernel_rfl) (by kernel_rfl) ?_; simp only [pickOps, List.filterMap_cons, List.filterMap_nil, List.getElem?_cons_zero, List.getElem?_cons_succ, Act.put])
  (first | (refine T_skip (by rfl) (by rfl) (fun _ _ _ h => h) ?_; try simp only [Act.put, List.setIfInBounds_toArray, List.set_cons_zero, List.set_cons_succ]) | (refine T_pass (by rfl) (by rfl) ?_; try simp only [Act.put, List.setIfInBounds_toArray, List.set_cons_zero, List.set_cons_succ]) | (refine T_load (by assumption) (by rfl) (by rfl) (fun _ _ _ _ h => h) rfl rfl (by assumption) (by first | exact (fun hn => hn) | assumption) ?_; try simp only [Act.put, List.setIfInBounds_toArray, List.set_cons_zero, List.set_cons_succ]) | (refine T_nil (by rfl) (by rfl) (fun _ _ _ _ h => h) rfl rfl ?_; try simp only [Act.put, List.setIfInBounds_toArray, List.set_cons_zero, List.set_cons_succ]) | (refine T_quietN (by rfl) (by rfl) (by rfl) (by rfl) (fun _ _ _ _ h => h) (fun K hK => ?_); go_big_quiet_op; refine hK _ ?_; clear hK K) | (refine T_two (by rfl) (by rfl) (by rfl) (by rfl) (fun _ _ _ _ h => h) (fun K hK => ?_); go_big_quiet_op; refine ⟨_, fun _ _ => rfl, ?_⟩; refine hK _ ?_; clear hK K; try simp only [Act.put, List.setIfInBounds_toArray, List.set_cons_zero, List.set_cons_succ]) | fail)
  (first | (refine T_skip (by rfl) (by rfl) (fun _ _ _ h => h) ?_; try simp only [Act.put, List.setIfInBounds_toArray, List.set_cons_zero, List.set_cons_succ]) | (refine T_pass (by rfl) (by rfl) ?_; try simp only [Act.put, List.setIfInBounds_toArray, List.set_cons_zero, List.set_cons_succ]) | (refine T_load (by assumption) (by rfl) (by rfl) (fun _ _ _ _ h => h) rfl rfl (by assumption) (by first | exact (fun hn => hn) | assumption) ?_; try simp only [Act.put, List.setIfInBounds_toArray, List.set_cons_zero, List.set_cons_succ]) | (refine T_nil (by rfl) (by rfl) (fun _ _ _ _ h => h) rfl rfl ?_; try simp only [Act.put, List.setIfInBounds_toArray, List.set_cons_zero, List.set_cons_succ]) | (refine T_quietN (by rfl) (by rfl) (by rfl) (by rfl) (fun _ _ _ _ h => h) (fun K hK => ?_); go_big_quiet_op; refine hK _ ?_; clear hK K) | (refine T_two (by rfl) (by rfl) (by rfl) (by rfl) (fun _ _ _ _ h => h) (fun K hK => ?_); go_big_quiet_op; refine ⟨_, fun _ _ => rfl, ?_⟩; refine hK _ ?_; clear hK K; try simp only [Act.put, List.setIfInBounds_toArray, List.set_cons_zero, List.set_cons_succ]) | fail)
  (first | (refine T_skip (by rfl) (by rfl) (fun _ _ _ h => h) ?_; try simp only [Act.put, List.setIfInBounds_toArray, List.set_cons_zero, List.set_cons_succ]) | (refine T_pass (by rfl) (by rfl) ?_; try simp only [Act.put, List.setIfInBounds_toArray, List.set_cons_zero, List.set_cons_succ]) | (refine T_load (by assumption) (by rfl) (by rfl) (fun _ _ _ _ h => h) rfl rfl (by assumption) (by first | exact (fun hn => hn) | assumption) ?_; try simp only [Act.put, List.setIfInBounds_toArray, List.set_cons_zero, List.set_cons_succ]) | (refine T_nil (by rfl) (by rfl) (fun _ _ _ _ h => h) rfl rfl ?_; try simp only [Act.put, List.setIfInBounds_toArray, List.set_cons_zero, List.set_cons_succ]) | (refine T_quietN (by rfl) (by rfl) (by rfl) (by rfl) (fun _ _ _ _ h => h) (fun K hK => ?_); go_big_quiet_op; refine hK _ ?_; clear hK K) | (refine T_two (by rfl) (by rfl) (by rfl) (by rfl) (fun _ _ _ _ h => h) (fun K hK => ?_); go_big_quiet_op; refine ⟨_, fun _ _ => rfl, ?_⟩; refine hK _ ?_; clear hK K; try simp only [Act.put, List.setIfInBounds_toArray, List.set_cons_zero, List.set_cons_succ]) | fail)
  refine T_call (by rfl) (by rfl) (fun K hK => ?_)
  refine wp_app_arg so_u8 (b := ⟨w.heap.size, 0, none⟩) (olds := U8 zsec) (ad := ⟨gs, 0, none⟩) (news := U8 hB) (by rw [U8_length, zsec_len]) (fun j u hu => hbz4.drew.all j u (by simpa using hu)) (by rw [hlu]) (fun j u hu => hb4.drew.all j u (by simpa using hu)) (by decide) (by decide) (by decide) rfl rfl rfl ?_
  intro v5 w5 hown5 hg5
  have hf5 : Fr No w4 w5 := (Fr.refl No w4).drew.grown hg5 (fun q hq => by cases hq)
  (refine hK.out _ _ ((Fr.refl _ _).grown hg5 (fun q hq => by cases hq)) ?_; clear hK K; try simp only [Act.put, List.setIfInBounds_toArray, List.set_cons_zero, List.set_cons_succ])
  rw [← U8_append] at hown5
  have hrd5 : ∀ A c, v5 = .slice A 256 c → Rd w5 (fun b => ¬ (X b ∧ b < w.heap.size)) 1 A 256 (U8 (zsec ++ hB)) := fun A c e => by
    subst e
    refine (own_rd hown5 (by decide)).mono (fun b _ hb hx => ?_) (by decide)
    have h1 := (hown5.lt b (by rcases A with _ | ad; cases hb; injection hb with hb; exact congrArg some hb)).1
    have h2 := hF4.size
    have h3 : w4.heap.size ≤ b := h1
    omega
  obtain ⟨A5, c5, rfl, hc5, hc5m, _⟩ := own_form hown5
  have hrd := hrd5 A5 c5 rfl
  have hfl : [zsec, hB].flatten = zsec ++ hB := by simp
  rw [← hfl] at hrd
  (refine T_call (by rfl) (by rfl) (fun K hK => ?_); go_wp2_with fail)
  refine (safely_calls _ _ H d 0 [zsec, hB] A5 c5 (hd5.fr0 hf5) hrd (fun s hs => by rcases List.mem_cons.1 hs with rfl | hs; exact zsec_len; rw [List.mem_singleton.1 hs]; exact hlb) hc5 hc5m (by show 1 ≤ 2; decide) (by show 0 + 2 ≤ _; omega) hway hleft).mono ?_
  rintro e w9 ⟨he9, hd9, hf9⟩
  obtain ⟨en, HEN⟩ : ∃ en : Int, Hid (en = if (safelyM d 0 [zsec, hB]).2 = true then 0 else 14) := ⟨_, Lib.hid rfl⟩
  rw [← HEN.out] at he9
  subst he9
  go_wp2_with fail
  (refine hK.out _ _ (hf9.mono (fun b _ hb => .inl hb)) ?_; clear hK K; try simp only [Act.put, List.setIfInBounds_toArray, List.set_cons_zero, List.set_cons_succ])
  (first | (refine T_skip (by rfl) (by rfl) (fun _ _ _ h => h) ?_; try simp only [Act.put, List.setIfInBounds_toArray, List.set_cons_zero, List.set_cons_succ]) | (refine T_pass (by rfl) (by rfl) ?_; try simp only [Act.put, List.setIfInBounds_toArray, List.set_cons_zero, List.set_cons_succ]) | (refine T_load (by assumption) (by rfl) (by rfl) (fun _ _ _ _ h => h) rfl rfl (by assumption) (by first | exact (fun hn => hn) | assumption) ?_; try simp only [Act.put, List.setIfInBounds_toArray, List.set_cons_zero, List.set_cons_succ]) | (refine T_nil (by rfl) (by rfl) (fun _ _ _ _ h => h) rfl rfl ?_; try simp only [Act.put, List.setIfInBounds_toArray, List.set_cons_zero, List.set_cons_succ]) | (refine T_quietN (by rfl) (by rfl) (by rfl) (by rfl) (fun _ _ _ _ h => h) (fun K hK => ?_); go_big_quiet_op; refine hK _ ?_; clear hK K) | (refine T_two (by rfl) (by rfl) (by rfl) (by rfl) (fun _ _ _ _ h => h) (fun K hK => ?_); go_big_quiet_op; refine ⟨_, fun _ _ => rfl, ?_⟩; refine hK _ ?_; clear hK K; try simp only [Act.put, List.setIfInBounds_toArray, List.set_cons_zero, List.set_cons_succ]) | fail)
  refine T_done ?_
  go_wp2_with fail
  go_ret
  rw [hfm]
  refine ⟨by rw [← HEN.out]; rfl, hd9.mono (fun b _ hb => hb.elim (fun h => .inl h.1) (fun h => .inr (Nat.le_trans (hF4.tr hf5).size h))), ((hF4.tr hf5).mono (T := X) (fun _ _ hn => hn.elim)).trans hf9 (fun b _ hb => hb.1)⟩
/-- A slice's first bytes as a sector. -/
theorem wpList_arr4 {w : World} {ops : Array Oper} {rest : List Oper} {o : Oper} {a : Act} {Q : Exit → Act → World → Prop} (hw : Region.wanted o (yielded ops a.tmps) = true) (x : Operand) (ho : o.op = .sliceToArrayPointer tSec x)
    (A : Option Addr) (n c : Nat) (hx : a.eval x = .slice A n c) (hn : 128 ≤ n)
    (h : wpList Tryd.prog ops Q rest (a.put o.dst (.pointer A)) w) : wpList Tryd.prog ops Q (o :: rest) a w := by
  have hr := run_arrayAt (P := Tryd.prog) w tSec 5 128 A n c Tryd.underlying61 hn
  refine BigFrame.wpList_want hw fun K hK => ?_
  unfold Oper.wp execOp
  simp only [ho, hx, Sem.run_bind, hr, Result.andThen_ok, Sem.run_pure]
  exact hK _ _ h
/-- The head of a device: of two sectors. -/
def newestM (a b : Sec) : HeadM × Bool :=
  if headOk b = true ∧ (headOk a = false ∨ (getH a).life < (getH b).life) then (getH b, true) else (getH a, headOk a)
set_option maxRecDepth 100000 in
set_option maxHeartbeats 4000000 in
theorem newest_calls (w : World) (g : Nat) (ss : List Sec) (a b : Sec) (m c : Nat) (hb : Blk w g 5 (U8 ss.flatten).toArray) (hss : Len128 ss) (ha : ss[0]? = some a) (hbb : ss[1]? = some b) (hm : 256 ≤ m) (hmc : m ≤ c) :
    Calls Tryd.prog 33 #[.slice (some ⟨g, 0, none⟩) m c] w fun e w' => e = .returned (.tuple #[headV (newestM a b).1, .bool (newestM a b).2]) ∧ Fr No w w' := by
  obtain ⟨x, y, rest, rfl⟩ : ∃ x y rest, ss = x :: y :: rest := by
    rcases ss with _ | ⟨x, _ | ⟨y, rest⟩⟩
    · cases ha
    · cases hbb
    · exact ⟨x, y, rest, rfl⟩
  obtain rfl : x = a := by simpa using ha
  obtain rfl : y = b := by simpa using hbb
  have g1 : ∀ w, (isAgg 2).run Tryd.prog w = .ok false w := plain_of Tryd.underlying2 rfl
  have hlx : x.length = 128 := hss x (by simp)
  have hly : y.length = 128 := hss y (by simp)
  have hcx : ∀ w', Blk w' g 5 (U8 (x :: y :: rest).flatten).toArray → ∀ j u, (U8 x)[j]? = some u → w'.cell? ((⟨g, 0, none⟩ : Addr).add j) = some u := fun w' h => h.cells 0 _ (fun j u hu => by
    have hj := (List.getElem?_eq_some_iff.1 hu).1
    rw [Nat.zero_add, List.getElem?_toArray, List.flatten_cons, U8_append, List.getElem?_append_left hj]
    exact hu)
  have hcy : ∀ w', Blk w' g 5 (U8 (x :: y :: rest).flatten).toArray → ∀ j u, (U8 y)[j]? = some u → w'.cell? ((⟨g, 128, none⟩ : Addr).add j) = some u := fun w' h => h.cells 128 _ (fun j u hu => by
    have hj := (List.getElem?_eq_some_iff.1 hu).1
    have hx2 : (U8 x).length = 128 := by rw [U8_length]; exact hlx
    rw [List.getElem?_toArray, List.flatten_cons, List.flatten_cons, U8_append, U8_append, List.getElem?_append_right (by omega), hx2, show 128 + j - 128 = j by omega, List.getElem?_append_left hj]
    exact hu)
  have hnm : newestM x y = if headOk y = true ∧ (headOk x = false ∨ (getH x).life < (getH y).life) then (getH y, true) else (getH x, headOk x) := rfl
  have hox : ∀ w, Calls Tryd.prog 47 #[.agg (U8 x).toArray] w fun e w' => e = .returned (.tuple #[headV (getH x), .bool (headOk x)]) ∧ Fr No w w' := fun w => headOf_calls w x hlx
  have hoy : ∀ w, Calls Tryd.prog 47 #[.agg (U8 y).toArray] w fun e w' => e = .returned (.tuple #[headV (getH y), .bool (headOk y)]) ∧ Fr No w w' := fun w => headOf_calls w y hly
  have hux : (U8 x).length = 128 := by rw [U8_length]; exact hlx
  have huy : (U8 y).length = 128 := by rw [U8_length]; exact hly
  generalize newestM x y = r at *
  generalize (U8 (x :: y :: rest).flatten).toArray = cur at *
  unfold headV at *
  obtain ⟨hx, hhx⟩ : ∃ h, h = getH x := ⟨_, rfl⟩
  obtain ⟨hy, hhy⟩ : ∃ h, h = getH y := ⟨_, rfl⟩
  obtain ⟨ox, hoox⟩ : ∃ h, h = headOk x := ⟨_, rfl⟩
  obtain ⟨oy, hooy⟩ : ∃ h, h = headOk y := ⟨_, rfl⟩
  rw [← hhx, ← hhy, ← hoox, ← hooy] at hnm
  rw [← hhx, ← hoox] at hox
  rw [← hhy, ← hooy] at hoy
  clear hhx hhy hoox hooy hss ha hbb hlx hly
  obtain ⟨xl, xh, xf, xs⟩ := hx
  obtain ⟨yl, yh, yf, ys⟩ := hy
  simp only at hnm hox hoy
  go_enter Tryd.func33, Tryd.ntmps33
  have hb0 : Blk (w.alloc (.cells #[.int .i64 0, .int .i64 0, .int .i64 0, .int .i64 0] 63)) g 5 cur := hb.alloc _
  have hr0 := Blk.new w 63 #[.int .i64 0, .int .i64 0, .int .i64 0, .int .i64 0]
  have hf0 : Fr No w (w.alloc (.cells #[.int .i64 0, .int .i64 0, .int .i64 0, .int .i64 0] 63)) := (Fr.refl No w).alloc _
  go_wp2_with (first
    | (refine wpList_arr4 rfl _ rfl _ _ _ rfl (by first | done | omega) ?_)
    | (refine wpList_ldA ag_sec4 rfl _ rfl ⟨g, 0, none⟩ (U8 x) rfl hux (hcx _ hb0) ?_)
    | fail)
  refine (hox _).mono ?_
  rintro e w1 ⟨rfl, hf1⟩
  have hb1 := hb0.fr0 hf1
  have hr1 := hr0.fr0 hf1
  have hF1 := hf0.tr hf1
  have hz1 := hr1.lt
  have hx1 := Blk.new w1 63 #[.int .i64 0, .int .i64 0, .int .i64 0, .int .i64 0]
  clear hf0 hf1 hb0 hr0
  go_upto_region 2 with (first
    | (refine wpList_stA ag_head.info rfl _ _ rfl w1.heap.size 0 _ _ [.int .i64 xl, .int .i64 xh, .int .i64 xf, .int .i64 xs] _ rfl rfl rfl rfl (by intro u hu; simp at hu; rcases hu with rfl | rfl | rfl | rfl <;> rfl) hx1 (by decide) ?_; intro w2 hx2 hg2 hz2)
    | fail)
  rw [splice_all _ _ (by rfl)] at hx2
  have hf2 : Fr No w1 w2 := ((Fr.refl No w1).alloc _).grown hg2 (fun q hq => by injection hq with hq; exact .inl (by rw [← hq]; exact Nat.le_refl _))
  have hb2 := hb1.fr0 hf2
  have hr2 := hr1.fr0 hf2
  have hF2 := hF1.tr hf2
  obtain ⟨gx, hgx⟩ : ∃ gx, gx = w1.heap.size := ⟨_, rfl⟩
  have hxw : w.heap.size < gx := by omega
  try simp only [Act.put, List.setIfInBounds_toArray, List.set_cons_zero, List.set_cons_succ]
  rw [← hgx] at hx2 ⊢
  clear hgx hx1 hg2 hz2 hf2 hb1 hr1 hF1 hz1
  go_wp2_with (first
    | (refine wpList_arr4 rfl _ rfl _ _ _ rfl (by first | done | omega) ?_)
    | (refine wpList_ldA ag_sec4 rfl _ rfl ⟨g, 128, none⟩ (U8 y) rfl huy (hcy _ hb2) ?_)
    | fail)
  refine (hoy _).mono ?_
  rintro e w3 ⟨rfl, hf3⟩
  have hx3 := hx2.fr0 hf3
  have hr3 := hr2.fr0 hf3
  have hF3 := hF2.tr hf3
  have hz3 := hx3.lt
  have hy3 := Blk.new w3 63 #[.int .i64 0, .int .i64 0, .int .i64 0, .int .i64 0]
  clear hf3 hb2 hr2 hF2 hx2
  go_upto_region 3 with (first
    | (refine wpList_stA ag_head.info rfl _ _ rfl w3.heap.size 0 _ _ [.int .i64 yl, .int .i64 yh, .int .i64 yf, .int .i64 ys] _ rfl rfl rfl rfl (by intro u hu; simp at hu; rcases hu with rfl | rfl | rfl | rfl <;> rfl) hy3 (by decide) ?_; intro w4 hy4 hg4 hz4)
    | fail)
  rw [splice_all _ _ (by rfl)] at hy4
  have hf4 : Fr No w3 w4 := ((Fr.refl No w3).alloc _).grown hg4 (fun q hq => by injection hq with hq; exact .inl (by rw [← hq]; exact Nat.le_refl _))
  have hx4 := hx3.fr0 hf4
  have hr4 := hr3.fr0 hf4
  have hF4 := hF3.tr hf4
  obtain ⟨gy, hgy⟩ : ∃ gy, gy = w3.heap.size := ⟨_, rfl⟩
  have hyw : w.heap.size < gy := by omega
  try simp only [Act.put, List.setIfInBounds_toArray, List.set_cons_zero, List.set_cons_succ]
  rw [← hgy] at hy4 ⊢
  clear hgy hy3 hg4 hz4 hf4 hr3 hF3 hz3 hx3
  (have p0 := hx4.cell 0; have p1 := hx4.cell 1; have p2 := hx4.cell 2; have p3 := hx4.cell 3; have pf0 := hx4.frozen 0; have pf1 := hx4.frozen 1; have pf2 := hx4.frozen 2; have pf3 := hx4.frozen 3; simp only [List.getElem?_toArray, List.getElem?_cons_zero, List.getElem?_cons_succ] at p0 p1 p2 p3)
  (have q0 := hy4.cell 0; have q1 := hy4.cell 1; have q2 := hy4.cell 2; have q3 := hy4.cell 3; have qf0 := hy4.frozen 0; have qf1 := hy4.frozen 1; have qf2 := hy4.frozen 2; have qf3 := hy4.frozen 3; simp only [List.getElem?_toArray, List.getElem?_cons_zero, List.getElem?_cons_succ] at q0 q1 q2 q3)
  have hend : ∀ (w' : World) (l1 l2 l3 l4 : Int), Blk w' w.heap.size 63 (splice #[.int .i64 0, .int .i64 0, .int .i64 0, .int .i64 0] 0 [.int .i64 l1, .int .i64 l2, .int .i64 l3, .int .i64 l4]) → w4.grownBy w' (some w.heap.size) → Blk w' w.heap.size 63 #[.int .i64 l1, .int .i64 l2, .int .i64 l3, .int .i64 l4] ∧ Fr No w w' := fun w' l1 l2 l3 l4 hb hg => by
    rw [splice_all _ _ (by rfl)] at hb
    exact ⟨hb, hF4.grown hg (fun q hq => by injection hq with hq; exact .inl (by rw [← hq]; exact Nat.le_refl _))⟩
  cases oy with
  | false =>
    rw [if_neg (by simp)] at hnm
    subst hnm
    go_wp2_with (first
      | (refine wpList_ldA ag_head rfl _ rfl ⟨gx, 0, none⟩ [.int .i64 xl, .int .i64 xh, .int .i64 xf, .int .i64 xs] rfl rfl hx4.all ?_)
      | (refine wpList_stA ag_head.info rfl _ _ rfl w.heap.size 0 _ _ [.int .i64 xl, .int .i64 xh, .int .i64 xf, .int .i64 xs] _ rfl rfl rfl rfl (by intro u hu; simp at hu; rcases hu with rfl | rfl | rfl | rfl <;> rfl) hr4 (by decide) ?_; intro w5 hr5 hg5 hz5)
      | fail)
    obtain ⟨hr6, hF6⟩ := hend _ _ _ _ _ hr5 hg5
    exact bodyPost_ret (results_blk2 ag_head rfl _ _ _ _ _ _ rfl rfl hr6 rfl) rfl ⟨rfl, hF6⟩
  | true =>
    cases ox with
    | false =>
      rw [if_pos (by simp)] at hnm
      subst hnm
      go_wp2_with (first
        | (refine wpList_ldA ag_head rfl _ rfl ⟨gy, 0, none⟩ [.int .i64 yl, .int .i64 yh, .int .i64 yf, .int .i64 ys] rfl rfl hy4.all ?_)
        | (refine wpList_stA ag_head.info rfl _ _ rfl w.heap.size 0 _ _ [.int .i64 yl, .int .i64 yh, .int .i64 yf, .int .i64 ys] _ rfl rfl rfl rfl (by intro u hu; simp at hu; rcases hu with rfl | rfl | rfl | rfl <;> rfl) hr4 (by decide) ?_; intro w5 hr5 hg5 hz5)
        | fail)
      obtain ⟨hr6, hF6⟩ := hend _ _ _ _ _ hr5 hg5
      exact bodyPost_ret (results_blk2 ag_head rfl _ _ _ _ _ _ rfl rfl hr6 rfl) rfl ⟨rfl, hF6⟩
    | true =>
      by_cases hlt : xl < yl
      · have e1 : decide (xl < yl) = true := by simpa using hlt
        rw [if_pos ⟨rfl, .inr hlt⟩] at hnm
        subst hnm
        clear hlt
        go_wp2_with (first
          | (refine wpList_ldA ag_head rfl _ rfl ⟨gy, 0, none⟩ [.int .i64 yl, .int .i64 yh, .int .i64 yf, .int .i64 ys] rfl rfl hy4.all ?_)
          | (refine wpList_stA ag_head.info rfl _ _ rfl w.heap.size 0 _ _ [.int .i64 yl, .int .i64 yh, .int .i64 yf, .int .i64 ys] _ rfl rfl rfl rfl (by intro u hu; simp at hu; rcases hu with rfl | rfl | rfl | rfl <;> rfl) hr4 (by decide) ?_; intro w5 hr5 hg5 hz5)
          | fail)
        obtain ⟨hr6, hF6⟩ := hend _ _ _ _ _ hr5 hg5
        exact bodyPost_ret (results_blk2 ag_head rfl _ _ _ _ _ _ rfl rfl hr6 rfl) rfl ⟨rfl, hF6⟩
      · have e1 : decide (xl < yl) = false := by simpa using hlt
        rw [if_neg (by rintro ⟨_, h | h⟩; cases h; exact hlt h)] at hnm
        subst hnm
        clear hlt
        go_wp2_with (first
          | (refine wpList_ldA ag_head rfl _ rfl ⟨gx, 0, none⟩ [.int .i64 xl, .int .i64 xh, .int .i64 xf, .int .i64 xs] rfl rfl hx4.all ?_)
          | (refine wpList_stA ag_head.info rfl _ _ rfl w.heap.size 0 _ _ [.int .i64 xl, .int .i64 xh, .int .i64 xf, .int .i64 xs] _ rfl rfl rfl rfl (by intro u hu; simp at hu; rcases hu with rfl | rfl | rfl | rfl <;> rfl) hr4 (by decide) ?_; intro w5 hr5 hg5 hz5)
          | fail)
        obtain ⟨hr6, hF6⟩ := hend _ _ _ _ _ hr5 hg5
        exact bodyPost_ret (results_blk2 ag_head rfl _ _ _ _ _ _ rfl rfl hr6 rfl) rfl ⟨rfl, hF6⟩
end Go.Proofs.YtannkgglgmbkdaaDoor
