/- The walk of lapidarylaw05.ValueRecords. No condition but that the memory can hold the record. -/
import Derived.Test.YtfgkioigbnlkkaaPutR
import Derived.Test.YtfgkioigbnlkkaaGivenR
import Derived.Test.YtfgkioigbnlkkaaValKnown
namespace Go.Proofs.Ytfgkioigbnlkkaa
set_option linter.unusedVariables false
set_option linter.unusedSimpArgs false
open Go.RowKit

theorem T_neqSame {S : Nat → Prop} {ops : Array Oper} {Q : Exit → Act → World → Prop} {ms : List Nat} {ord calls : List Nat} {k : Nat} {l : List Oper} {o : Oper} {a : Act} {w : World} {s : ByteArray} {x y : Operand} {ty : TypeId}
    (hc : calls.contains (ord.getD k 0) = false) (hw : Region.wanted o (yielded ops a.tmps) = true) (hQ : ∀ v c a w, Q (.panic c) (a.put o.dst v) w → Q (.panic c) a w)
    (ho : o.op = .binOp .neq 9 x y ty) (hx : a.eval x = .string s) (hy : a.eval y = .string s)
    (h : wpT Try.prog S ops Q ms ord calls (k + 1) l (a.put o.dst (.bool false)) w) (hxm : calls.contains (ord.getD k 0 + 1000) = false := by rfl) : wpT Try.prog S ops Q ms ord calls k (o :: l) a w := by
  refine T_take hc hw (hQ _) (fun w' hf => ?_) h hxm
  unfold execOp
  simp [ho, hx, hy, eqGuard, binOp, Op.stringOp]
theorem putR_cases (r : RecM) : (∃ l, putR r = (l, 0) ∧ getR l = some r ∧ l.length ≤ 60000) ∨ putR r = ([], 1) ∨ putR r = ([], 3) := by
  cases hr : rightR r with
  | false => exact .inr (.inl (putR_no hr))
  | true =>
    by_cases h : 60000 < (recB r).length
    · exact .inr (.inr (putR_big hr h))
    · exact .inl ⟨_, putR_ok hr h, getR_put r hr, by omega⟩
theorem RecC.lit {w : World} {S : Nat → Prop} {cs : List Value} {r : RecM} (h : RecC w S cs r) : ∃ A c, cs = [.int .i64 r.commit, .slice A r.chs.length c] := by
  obtain ⟨A, c, e, _⟩ := h; exact ⟨A, c, e⟩
set_option maxHeartbeats 8000000 in
set_option maxRecDepth 100000 in
theorem law_ValueRecords (W : World) (cs : List Value) (r : RecM) (h : RecC W (fun b => b < W.heap.size) cs r) (ok : RecOk r) :
    Calls Try.prog 7 #[.agg cs.toArray] W fun e w' => e = .returned (.bool true) ∧ Fr No W w' := by
  obtain ⟨A0, c0, rfl⟩ := h.lit
  have hf0 : Fr No W (W.alloc (.cells #[.int .i64 r.commit, .slice A0 r.chs.length c0] 49)) := (Fr.refl No W).alloc _
  have hx0 := Blk.new W 49 #[.int .i64 r.commit, .slice A0 r.chs.length c0]
  go_enter Try.func7, Try.ntmps7
  go_upto_region 1 with fail
  generalize hw0 : W.alloc (.cells #[.int .i64 r.commit, .slice A0 r.chs.length c0] 49) = w0 at *
  clear hw0
  have x0 := hx0.all
  go_wp2_with (first
    | (refine wpList_ldA ag_recr rfl _ rfl ⟨W.heap.size, 0, none⟩ [.int .i64 r.commit, .slice A0 r.chs.length c0] rfl rfl x0 ?_)
    | fail)
  refine (given5_calls _ _ r _ (h.fr0 hf0) ok).mono ?_
  rintro e w1 ⟨cs1, rfl, hrec1, hf1⟩
  obtain ⟨A1, c1, rfl⟩ := hrec1.lit
  have hx1 := Blk.new w1 52 #[.int .i64 r.commit, .slice A1 r.chs.length c1]
  have hfA : Fr No w1 (w1.alloc (.cells #[.int .i64 r.commit, .slice A1 r.chs.length c1] 52)) := (Fr.refl No w1).alloc _
  have hrec2 := hrec1.fr0 hfA
  have hx02 := hx0.fr0 (hf1.tr hfA)
  have hF2 := hf0.tr (hf1.tr hfA)
  go_upto_region 2 with fail
  generalize hw2 : w1.alloc (.cells #[.int .i64 r.commit, .slice A1 r.chs.length c1] 52) = w2 at *
  clear hw2 hrec1
  have x1 := hx1.all
  go_wp2_with (first
    | (refine wpList_ldA ag_recp rfl _ rfl ⟨w1.heap.size, 0, none⟩ [.int .i64 r.commit, .slice A1 r.chs.length c1] rfl rfl x1 ?_)
    | fail)
  refine (vputr_calls _ _ r _ hrec2).mono ?_
  rintro e w3 ⟨v3, rfl, hown3, hf3⟩
  have x03 := (hx02.fr0 hf3).all
  go_wp2_with (first
    | (refine wpList_ldA ag_recr rfl _ rfl ⟨W.heap.size, 0, none⟩ [.int .i64 r.commit, .slice A0 r.chs.length c0] rfl rfl x03 ?_)
    | fail)
  refine (refputr_calls _ _ r _ (h.fr0 (hF2.tr hf3))).mono ?_
  rintro e w4 ⟨v4, rfl, hown4, hf4⟩
  have hF4 := hF2.tr (hf3.tr hf4)
  have hlen : (putR r).1.length ≤ 60000 := by
    rcases putR_cases r with ⟨l, h1, _, h2⟩ | h1 | h1
    · rw [h1]; exact h2
    · rw [h1]; simp
    · rw [h1]; simp
  have hcas := putR_cases r
  obtain ⟨⟨l, er⟩, hq⟩ : ∃ p, putR r = p := ⟨_, rfl⟩
  rw [hq] at hcas
  simp only [hq] at hown3 hown4 hlen ⊢
  have HC := Lib.hid hcas
  clear hq hcas
  obtain ⟨A3, c3, rfl, hc3, hcm3, hA3⟩ := own_form hown3
  obtain ⟨A4, c4, rfl, hc4, hcm4, _⟩ := own_form hown4
  have hr3 := Rd.fr0 (own_rd hown3 (by omega)) hf4
  have hr4 := own_rd hown4 (by omega)
  have hx14 := hx1.fr0 (hf3.tr hf4)
  have hx04 := hx02.fr0 (hf3.tr hf4)
  have hrec4 := hrec2.fr0 (hf3.tr hf4)
  have h4 := h.fr0 hF4
  obtain ⟨bq, hbq⟩ : ∃ b, rightR r = b := ⟨_, rfl⟩
  have HB := Lib.hid hbq
  clear hbq
  go_wp2_with fail
  (refine T_begin No [0, 1, 2, 3, 4, 5, 6, 7, 8, 9, 10, 11, 13, 12, 14, 15, 16, 17, 18, 20, 19, 21, 22, 23] [12, 14, 19, 21] (by kernel_rfl) (by kernel_rfl) ?_; simp only [pickOps, List.filterMap_cons, List.filterMap_nil, List.getElem?_cons_zero, List.getElem?_cons_succ, Act.put])
  (first | (refine T_skip (by rfl) (by rfl) (fun _ _ _ h => h) ?_; try simp only [Act.put, List.setIfInBounds_toArray, List.set_cons_zero, List.set_cons_succ]) | (refine T_pass (by rfl) (by rfl) ?_; try simp only [Act.put, List.setIfInBounds_toArray, List.set_cons_zero, List.set_cons_succ]) | (refine T_load (by assumption) (by rfl) (by rfl) (fun _ _ _ _ h => h) rfl rfl (by assumption) (by first | exact (fun hn => hn) | assumption) ?_; try simp only [Act.put, List.setIfInBounds_toArray, List.set_cons_zero, List.set_cons_succ]) | (refine T_nil (by rfl) (by rfl) (fun _ _ _ _ h => h) rfl rfl ?_; try simp only [Act.put, List.setIfInBounds_toArray, List.set_cons_zero, List.set_cons_succ]) | (refine T_quietN (by rfl) (by rfl) (by rfl) (by rfl) (fun _ _ _ _ h => h) (fun K hK => ?_); go_big_quiet_op; refine hK _ ?_; clear hK K) | (refine T_two (by rfl) (by rfl) (by rfl) (by rfl) (fun _ _ _ _ h => h) (fun K hK => ?_); go_big_quiet_op; refine ⟨_, fun _ _ => rfl, ?_⟩; refine hK _ ?_; clear hK K; try simp only [Act.put, List.setIfInBounds_toArray, List.set_cons_zero, List.set_cons_succ]) | fail)
  (refine T_str Try.underlying23 Try.underlying5 Try.underlying9 (Rd.drew hr3) (fun _ _ hn => hn) (by rfl) (by rfl) (fun _ _ _ _ h => h) rfl (by rfl) rfl ?_; try simp only [Act.put, List.setIfInBounds_toArray, List.set_cons_zero, List.set_cons_succ])
  (first | (refine T_skip (by rfl) (by rfl) (fun _ _ _ h => h) ?_; try simp only [Act.put, List.setIfInBounds_toArray, List.set_cons_zero, List.set_cons_succ]) | (refine T_pass (by rfl) (by rfl) ?_; try simp only [Act.put, List.setIfInBounds_toArray, List.set_cons_zero, List.set_cons_succ]) | (refine T_load (by assumption) (by rfl) (by rfl) (fun _ _ _ _ h => h) rfl rfl (by assumption) (by first | exact (fun hn => hn) | assumption) ?_; try simp only [Act.put, List.setIfInBounds_toArray, List.set_cons_zero, List.set_cons_succ]) | (refine T_nil (by rfl) (by rfl) (fun _ _ _ _ h => h) rfl rfl ?_; try simp only [Act.put, List.setIfInBounds_toArray, List.set_cons_zero, List.set_cons_succ]) | (refine T_quietN (by rfl) (by rfl) (by rfl) (by rfl) (fun _ _ _ _ h => h) (fun K hK => ?_); go_big_quiet_op; refine hK _ ?_; clear hK K) | (refine T_two (by rfl) (by rfl) (by rfl) (by rfl) (fun _ _ _ _ h => h) (fun K hK => ?_); go_big_quiet_op; refine ⟨_, fun _ _ => rfl, ?_⟩; refine hK _ ?_; clear hK K; try simp only [Act.put, List.setIfInBounds_toArray, List.set_cons_zero, List.set_cons_succ]) | fail)
  (refine T_str Try.underlying23 Try.underlying5 Try.underlying9 (Rd.drew hr4) (fun _ _ hn => hn) (by rfl) (by rfl) (fun _ _ _ _ h => h) rfl (by rfl) rfl ?_; try simp only [Act.put, List.setIfInBounds_toArray, List.set_cons_zero, List.set_cons_succ])
  refine T_neqSame (by rfl) (by rfl) (fun _ _ _ _ h => h) rfl rfl rfl ?_
  try simp only [Act.put, List.setIfInBounds_toArray, List.set_cons_zero, List.set_cons_succ]
  repeat (first | (refine T_skip (by rfl) (by rfl) (fun _ _ _ h => h) ?_; try simp only [Act.put, List.setIfInBounds_toArray, List.set_cons_zero, List.set_cons_succ]) | (refine T_pass (by rfl) (by rfl) ?_; try simp only [Act.put, List.setIfInBounds_toArray, List.set_cons_zero, List.set_cons_succ]) | (refine T_load (by assumption) (by rfl) (by rfl) (fun _ _ _ _ h => h) rfl rfl (by assumption) (by first | exact (fun hn => hn) | assumption) ?_; try simp only [Act.put, List.setIfInBounds_toArray, List.set_cons_zero, List.set_cons_succ]) | (refine T_nil (by rfl) (by rfl) (fun _ _ _ _ h => h) rfl rfl ?_; try simp only [Act.put, List.setIfInBounds_toArray, List.set_cons_zero, List.set_cons_succ]) | (refine T_quietN (by rfl) (by rfl) (by rfl) (by rfl) (fun _ _ _ _ h => h) (fun K hK => ?_); go_big_quiet_op; refine hK _ ?_; clear hK K) | (refine T_two (by rfl) (by rfl) (by rfl) (by rfl) (fun _ _ _ _ h => h) (fun K hK => ?_); go_big_quiet_op; refine ⟨_, fun _ _ => rfl, ?_⟩; refine hK _ ?_; clear hK K; try simp only [Act.put, List.setIfInBounds_toArray, List.set_cons_zero, List.set_cons_succ]) | fail)
  (refine T_loadA (cs := [.int .i64 r.commit, .slice A1 r.chs.length c1]) ag_recp (by rfl) (by rfl) (fun _ _ _ _ h => h) rfl rfl rfl hx14.all (fun hn => hn) ?_; try simp only [Act.put, List.setIfInBounds_toArray, List.set_cons_zero, List.set_cons_succ])
  (refine T_loadA (cs := [.int .i64 r.commit, .slice A0 r.chs.length c0]) ag_recr (by rfl) (by rfl) (fun _ _ _ _ h => h) rfl rfl rfl hx04.all (fun hn => hn) ?_; try simp only [Act.put, List.setIfInBounds_toArray, List.set_cons_zero, List.set_cons_succ])
  (refine T_call (by rfl) (by rfl) (fun K hK => ?_); go_wp2_with fail)
  refine (vrightr_calls _ _ r _ (hrec4.fr0 (Fr.refl No w4).drew)).mono ?_
  rw [HB.out]
  rintro e w5 ⟨rfl, hf5⟩
  (refine hK.out _ _ (hf5) ?_; clear hK K; try simp only [Act.put, List.setIfInBounds_toArray, List.set_cons_zero, List.set_cons_succ])
  (refine T_call (by rfl) (by rfl) (fun K hK => ?_); go_wp2_with fail)
  refine (refrightr_calls _ _ r _ (h4.fr0 ((Fr.refl No w4).drew.tr hf5))).mono ?_
  rw [HB.out]
  rintro e w6 ⟨rfl, hf6⟩
  (refine hK.out _ _ (hf6) ?_; clear hK K; try simp only [Act.put, List.setIfInBounds_toArray, List.set_cons_zero, List.set_cons_succ])
  repeat (first | (refine T_skip (by rfl) (by rfl) (fun _ _ _ h => h) ?_; try simp only [Act.put, List.setIfInBounds_toArray, List.set_cons_zero, List.set_cons_succ]) | (refine T_pass (by rfl) (by rfl) ?_; try simp only [Act.put, List.setIfInBounds_toArray, List.set_cons_zero, List.set_cons_succ]) | (refine T_load (by assumption) (by rfl) (by rfl) (fun _ _ _ _ h => h) rfl rfl (by assumption) (by first | exact (fun hn => hn) | assumption) ?_; try simp only [Act.put, List.setIfInBounds_toArray, List.set_cons_zero, List.set_cons_succ]) | (refine T_nil (by rfl) (by rfl) (fun _ _ _ _ h => h) rfl rfl ?_; try simp only [Act.put, List.setIfInBounds_toArray, List.set_cons_zero, List.set_cons_succ]) | (refine T_quietN (by rfl) (by rfl) (by rfl) (by rfl) (fun _ _ _ _ h => h) (fun K hK => ?_); go_big_quiet_op; refine hK _ ?_; clear hK K) | (refine T_two (by rfl) (by rfl) (by rfl) (by rfl) (fun _ _ _ _ h => h) (fun K hK => ?_); go_big_quiet_op; refine ⟨_, fun _ _ => rfl, ?_⟩; refine hK _ ?_; clear hK K; try simp only [Act.put, List.setIfInBounds_toArray, List.set_cons_zero, List.set_cons_succ]) | fail)
  have hf46 : Fr No w4 w6 := ((Fr.refl No w4).drew.tr hf5).tr hf6
  (refine T_loadA (cs := [.int .i64 r.commit, .slice A1 r.chs.length c1]) ag_recp (by rfl) (by rfl) (fun _ _ _ _ h => h) rfl rfl rfl (hx14.fr0 hf46).all (fun hn => hn) ?_; try simp only [Act.put, List.setIfInBounds_toArray, List.set_cons_zero, List.set_cons_succ])
  (refine T_loadA (cs := [.int .i64 r.commit, .slice A0 r.chs.length c0]) ag_recr (by rfl) (by rfl) (fun _ _ _ _ h => h) rfl rfl rfl (hx04.fr0 hf46).all (fun hn => hn) ?_; try simp only [Act.put, List.setIfInBounds_toArray, List.set_cons_zero, List.set_cons_succ])
  (refine T_call (by rfl) (by rfl) (fun K hK => ?_); go_wp2_with fail)
  refine (taken5_calls _ _ r _ (hrec4.fr0 hf46).lt ok (fun b hb => hb.2)).mono ?_
  rintro e w7 ⟨cs7, rfl, hrec7, hf7⟩
  (refine hK.out _ _ (hf7) ?_; clear hK K; try simp only [Act.put, List.setIfInBounds_toArray, List.set_cons_zero, List.set_cons_succ])
  (refine T_call (by rfl) (by rfl) (fun K hK => ?_); go_wp2_with fail)
  refine (samer_calls _ _ _ _ r _ hrec7 (h4.fr0 (hf46.tr hf7))).mono ?_
  rintro e w8 ⟨rfl, hf8⟩
  (refine hK.out _ _ (hf8) ?_; clear hK K; try simp only [Act.put, List.setIfInBounds_toArray, List.set_cons_zero, List.set_cons_succ])
  repeat (first | (refine T_skip (by rfl) (by rfl) (fun _ _ _ h => h) ?_; try simp only [Act.put, List.setIfInBounds_toArray, List.set_cons_zero, List.set_cons_succ]) | (refine T_pass (by rfl) (by rfl) ?_; try simp only [Act.put, List.setIfInBounds_toArray, List.set_cons_zero, List.set_cons_succ]) | (refine T_load (by assumption) (by rfl) (by rfl) (fun _ _ _ _ h => h) rfl rfl (by assumption) (by first | exact (fun hn => hn) | assumption) ?_; try simp only [Act.put, List.setIfInBounds_toArray, List.set_cons_zero, List.set_cons_succ]) | (refine T_nil (by rfl) (by rfl) (fun _ _ _ _ h => h) rfl rfl ?_; try simp only [Act.put, List.setIfInBounds_toArray, List.set_cons_zero, List.set_cons_succ]) | (refine T_quietN (by rfl) (by rfl) (by rfl) (by rfl) (fun _ _ _ _ h => h) (fun K hK => ?_); go_big_quiet_op; refine hK _ ?_; clear hK K) | (refine T_two (by rfl) (by rfl) (by rfl) (by rfl) (fun _ _ _ _ h => h) (fun K hK => ?_); go_big_quiet_op; refine ⟨_, fun _ _ => rfl, ?_⟩; refine hK _ ?_; clear hK K; try simp only [Act.put, List.setIfInBounds_toArray, List.set_cons_zero, List.set_cons_succ]) | fail)
  refine T_done ?_
  have hf48 := hf46.tr (hf7.tr hf8)
  rcases HC.out with ⟨l', hq, hg, _⟩ | hq | hq
  · injection hq with h1 h2
    subst h1 h2
    have HG := Lib.hid hg
    clear hg
    have hx08 := hx04.fr0 hf48
    go_wp2_with fail
    refine (vgetr_calls _ A4 c4 l _ (Rd.fr0 hr4 hf48) hc4 hcm4).mono ?_
    rw [HG.out]
    rintro e w9 ⟨cs9, rfl, hrec9, hf9⟩
    simp only [Option.getD_some, Option.isSome_some, if_true] at hrec9 ⊢
    obtain ⟨A9, c9, rfl⟩ := hrec9.lit
    have hx9 := Blk.new w9 52 #[.int .i64 r.commit, .slice A9 r.chs.length c9]
    have hf9A : Fr No w9 (w9.alloc (.cells #[.int .i64 r.commit, .slice A9 r.chs.length c9] 52)) := (Fr.refl No w9).alloc _
    have hrecA := hrec9.fr0 hf9A
    have hx0A := hx08.fr0 (hf9.tr hf9A)
    have hFA := hF4.tr (hf48.tr (hf9.tr hf9A))
    go_upto_region 9 with fail
    generalize hwA : w9.alloc (.cells #[.int .i64 r.commit, .slice A9 r.chs.length c9] 52) = wA at *
    clear hwA hrec9
    go_wp2_with fail
    (refine T_begin No [0, 1, 2, 3, 5, 4, 6, 7, 8, 9, 10, 11] [4, 6, 9] (by kernel_rfl) (by kernel_rfl) ?_; simp only [pickOps, List.filterMap_cons, List.filterMap_nil, List.getElem?_cons_zero, List.getElem?_cons_succ, Act.put])
    repeat (first | (refine T_skip (by rfl) (by rfl) (fun _ _ _ h => h) ?_; try simp only [Act.put, List.setIfInBounds_toArray, List.set_cons_zero, List.set_cons_succ]) | (refine T_pass (by rfl) (by rfl) ?_; try simp only [Act.put, List.setIfInBounds_toArray, List.set_cons_zero, List.set_cons_succ]) | (refine T_load (by assumption) (by rfl) (by rfl) (fun _ _ _ _ h => h) rfl rfl (by assumption) (by first | exact (fun hn => hn) | assumption) ?_; try simp only [Act.put, List.setIfInBounds_toArray, List.set_cons_zero, List.set_cons_succ]) | (refine T_nil (by rfl) (by rfl) (fun _ _ _ _ h => h) rfl rfl ?_; try simp only [Act.put, List.setIfInBounds_toArray, List.set_cons_zero, List.set_cons_succ]) | (refine T_quietN (by rfl) (by rfl) (by rfl) (by rfl) (fun _ _ _ _ h => h) (fun K hK => ?_); go_big_quiet_op; refine hK _ ?_; clear hK K) | (refine T_two (by rfl) (by rfl) (by rfl) (by rfl) (fun _ _ _ _ h => h) (fun K hK => ?_); go_big_quiet_op; refine ⟨_, fun _ _ => rfl, ?_⟩; refine hK _ ?_; clear hK K; try simp only [Act.put, List.setIfInBounds_toArray, List.set_cons_zero, List.set_cons_succ]) | fail)
    (refine T_loadA (cs := [.int .i64 r.commit, .slice A9 r.chs.length c9]) ag_recp (by rfl) (by rfl) (fun _ _ _ _ h => h) rfl rfl rfl hx9.all (fun hn => hn) ?_; try simp only [Act.put, List.setIfInBounds_toArray, List.set_cons_zero, List.set_cons_succ])
    (refine T_loadA (cs := [.int .i64 r.commit, .slice A0 r.chs.length c0]) ag_recr (by rfl) (by rfl) (fun _ _ _ _ h => h) rfl rfl rfl hx0A.all (fun hn => hn) ?_; try simp only [Act.put, List.setIfInBounds_toArray, List.set_cons_zero, List.set_cons_succ])
    (refine T_call (by rfl) (by rfl) (fun K hK => ?_); go_wp2_with fail)
    refine (taken5_calls _ _ r _ (hrecA.fr0 (Fr.refl No wA).drew).lt ok (fun b hb => hb.2)).mono ?_
    rintro e wB ⟨csB, rfl, hrecB, hfB⟩
    (refine hK.out _ _ (hfB) ?_; clear hK K; try simp only [Act.put, List.setIfInBounds_toArray, List.set_cons_zero, List.set_cons_succ])
    (refine T_call (by rfl) (by rfl) (fun K hK => ?_); go_wp2_with fail)
    refine (samer_calls _ _ _ _ r _ hrecB (h.fr0 (hFA.tr ((Fr.refl No wA).drew.tr hfB)))).mono ?_
    rintro e wC ⟨rfl, hfC⟩
    (refine hK.out _ _ (hfC) ?_; clear hK K; try simp only [Act.put, List.setIfInBounds_toArray, List.set_cons_zero, List.set_cons_succ])
    repeat (first | (refine T_skip (by rfl) (by rfl) (fun _ _ _ h => h) ?_; try simp only [Act.put, List.setIfInBounds_toArray, List.set_cons_zero, List.set_cons_succ]) | (refine T_pass (by rfl) (by rfl) ?_; try simp only [Act.put, List.setIfInBounds_toArray, List.set_cons_zero, List.set_cons_succ]) | (refine T_load (by assumption) (by rfl) (by rfl) (fun _ _ _ _ h => h) rfl rfl (by assumption) (by first | exact (fun hn => hn) | assumption) ?_; try simp only [Act.put, List.setIfInBounds_toArray, List.set_cons_zero, List.set_cons_succ]) | (refine T_nil (by rfl) (by rfl) (fun _ _ _ _ h => h) rfl rfl ?_; try simp only [Act.put, List.setIfInBounds_toArray, List.set_cons_zero, List.set_cons_succ]) | (refine T_quietN (by rfl) (by rfl) (by rfl) (by rfl) (fun _ _ _ _ h => h) (fun K hK => ?_); go_big_quiet_op; refine hK _ ?_; clear hK K) | (refine T_two (by rfl) (by rfl) (by rfl) (by rfl) (fun _ _ _ _ h => h) (fun K hK => ?_); go_big_quiet_op; refine ⟨_, fun _ _ => rfl, ?_⟩; refine hK _ ?_; clear hK K; try simp only [Act.put, List.setIfInBounds_toArray, List.set_cons_zero, List.set_cons_succ]) | fail)
    (refine T_call (by rfl) (by rfl) (fun K hK => ?_); go_wp2_with fail)
    refine (known_calls _).mono ?_
    rintro e wD ⟨rfl, hfD⟩
    (refine hK.out _ _ (hfD) ?_; clear hK K; try simp only [Act.put, List.setIfInBounds_toArray, List.set_cons_zero, List.set_cons_succ])
    repeat (first | (refine T_skip (by rfl) (by rfl) (fun _ _ _ h => h) ?_; try simp only [Act.put, List.setIfInBounds_toArray, List.set_cons_zero, List.set_cons_succ]) | (refine T_pass (by rfl) (by rfl) ?_; try simp only [Act.put, List.setIfInBounds_toArray, List.set_cons_zero, List.set_cons_succ]) | (refine T_load (by assumption) (by rfl) (by rfl) (fun _ _ _ _ h => h) rfl rfl (by assumption) (by first | exact (fun hn => hn) | assumption) ?_; try simp only [Act.put, List.setIfInBounds_toArray, List.set_cons_zero, List.set_cons_succ]) | (refine T_nil (by rfl) (by rfl) (fun _ _ _ _ h => h) rfl rfl ?_; try simp only [Act.put, List.setIfInBounds_toArray, List.set_cons_zero, List.set_cons_succ]) | (refine T_quietN (by rfl) (by rfl) (by rfl) (by rfl) (fun _ _ _ _ h => h) (fun K hK => ?_); go_big_quiet_op; refine hK _ ?_; clear hK K) | (refine T_two (by rfl) (by rfl) (by rfl) (by rfl) (fun _ _ _ _ h => h) (fun K hK => ?_); go_big_quiet_op; refine ⟨_, fun _ _ => rfl, ?_⟩; refine hK _ ?_; clear hK K; try simp only [Act.put, List.setIfInBounds_toArray, List.set_cons_zero, List.set_cons_succ]) | fail)
    refine T_done ?_
    go_wp2
    go_ret
    exact ⟨rfl, hFA.tr ((((Fr.refl No wA).drew.tr hfB).tr hfC).tr hfD)⟩
  · injection hq with h1 h2
    subst h1 h2
    go_wp2_with fail
    refine (known_calls _).mono ?_
    rintro e w9 ⟨rfl, hf9⟩
    go_wp2
    go_ret
    exact ⟨rfl, hF4.tr (hf48.tr hf9)⟩
  · injection hq with h1 h2
    subst h1 h2
    go_wp2_with fail
    refine (known_calls _).mono ?_
    rintro e w9 ⟨rfl, hf9⟩
    go_wp2
    go_ret
    exact ⟨rfl, hF4.tr (hf48.tr hf9)⟩
end Go.Proofs.Ytfgkioigbnlkkaa
