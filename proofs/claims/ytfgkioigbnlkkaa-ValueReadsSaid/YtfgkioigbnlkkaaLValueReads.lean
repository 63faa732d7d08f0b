/- The walk of lapidarylaw05.ValueReads. No condition but that a slice can hold the bytes. -/
import Derived.Test.YtfgkioigbnlkkaaLValueRecords
import Derived.Test.YtfgkioigbnlkkaaWLent
namespace Go.Proofs.Ytfgkioigbnlkkaa
set_option linter.unusedVariables false
set_option linter.unusedSimpArgs false
open Go.RowKit

def getRR (l : List UInt8) : RecM := (getR l).getD ⟨0, []⟩
def getRE (l : List UInt8) : Int := if (getR l).isSome = true then 0 else 11
theorem getRR_ok (l : List UInt8) : RecOk (getRR l) := by
  unfold getRR
  cases h : getR l with
  | none => exact ⟨by simp, fun c hc => by cases hc⟩
  | some r =>
    obtain ⟨h1, h2, h3, h4⟩ := rightR_parts (getR_get l r h).1
    refine ⟨by simp only [Option.getD_some]; omega, fun c hc => ?_⟩
    have h5 := (chsRight_oops r.chs 0 h4 c hc).2
    obtain ⟨oop, gone, ob⟩ := c
    cases gone with
    | true =>
      have : ob = noObj := by simpa [rightC] using h5
      subst this
      simp [noObj]
    | false =>
      obtain ⟨_, _, h6, h7, _⟩ := rightO_parts (show rightO ob = true from h5)
      simp only
      omega
theorem getRR_cases (l : List UInt8) : (getRE l = 0 ∧ (l.length ≤ 60000 → putR (getRR l) = (l, 0))) ∨ getRE l = 11 := by
  unfold getRE getRR
  cases h : getR l with
  | none => exact .inr rfl
  | some r =>
    obtain ⟨h1, h2⟩ := getR_get l r h
    refine .inl ⟨rfl, fun hl => ?_⟩
    rw [Option.getD_some, putR_ok h1 (by rw [h2]; omega), h2]
theorem RetR.out {w w' : World} {e : Ending} {l : List UInt8} (h : RetR w w' e (getR l)) : ∃ A c, e = .returned (.tuple #[.agg #[.int .i64 (getRR l).commit, .slice A (getRR l).chs.length c], .int .i64 (getRE l)]) ∧
    RecC w' (fun b => w.heap.size ≤ b) [.int .i64 (getRR l).commit, .slice A (getRR l).chs.length c] (getRR l) ∧ Fr No w w' := by
  obtain ⟨cs, he, hrec, hf⟩ := h
  obtain ⟨A, c, rfl⟩ := hrec.lit
  exact ⟨A, c, he, hrec, hf⟩
set_option maxHeartbeats 8000000 in
set_option maxRecDepth 100000 in
theorem law_ValueReads (W : World) (a0 : Option Addr) (cap0 : Nat) (l : List UInt8) (h0 : RdB W (fun b => b < W.heap.size) a0 l) (b0 : l.length ≤ 140737488351232) (c0 : l.length ≤ cap0) (m0 : cap0 ≤ maxLen) :
    Calls Try.prog 8 #[.slice a0 l.length cap0] W fun e w' => e = .returned (.bool true) ∧ Fr No W w' := by
  go_enter Try.func8, Try.ntmps8
  go_wp2_with fail
  refine (lent_calls _ _ _ l _ h0).mono ?_
  rintro e w1 ⟨g, rfl, hgW, hg, hf1⟩
  go_wp2_with fail
  refine (vgetr_calls _ _ (l.length + 8) l _ (LentAt.rd hg (by omega)) (by omega) (by unfold maxLen; omega)).mono ?_
  rintro e w2 hret
  obtain ⟨A2, c2, rfl, hrec2, hf2⟩ := hret.out
  clear hret
  have hok := getRR_ok l
  have HC := Lib.hid (getRR_cases l)
  have hrefg := fun w hr => refgetr_calls (fun b => b < W.heap.size) a0 cap0 l w hr c0 m0
  obtain ⟨r, hr⟩ : ∃ r, getRR l = r := ⟨_, rfl⟩
  obtain ⟨er, her⟩ : ∃ er, getRE l = er := ⟨_, rfl⟩
  have HR := Lib.hid hr
  have HE := Lib.hid her
  simp only [hr, her] at hrec2 hok HC ⊢
  clear hr her
  have HOK := Lib.hid hok
  clear hok
  have hx2 := Blk.new w2 52 #[.int .i64 r.commit, .slice A2 r.chs.length c2]
  have hfA : Fr No w2 (w2.alloc (.cells #[.int .i64 r.commit, .slice A2 r.chs.length c2] 52)) := (Fr.refl No w2).alloc _
  have hrec3 := hrec2.fr0 hfA
  have hF3 := hf1.tr (hf2.tr hfA)
  have hg3 := Blk.fr0 hg (hf2.tr hfA)
  go_upto_region 3 with fail
  generalize hw3 : w2.alloc (.cells #[.int .i64 r.commit, .slice A2 r.chs.length c2] 52) = w3 at *
  clear hw3 hrec2
  go_wp2_with fail
  refine (hrefg _ (Rd.fr0 h0 hF3)).mono ?_
  rintro e w4 hret
  obtain ⟨A4, c4, rfl, hrec4, hf4⟩ := hret.out
  clear hret hrefg
  rw [HR.out] at hrec4
  rw [HR.out, HE.out]
  have hx4 := Blk.new w4 49 #[.int .i64 r.commit, .slice A4 r.chs.length c4]
  have hfB : Fr No w4 (w4.alloc (.cells #[.int .i64 r.commit, .slice A4 r.chs.length c4] 49)) := (Fr.refl No w4).alloc _
  have hrec5 := hrec4.fr0 hfB
  have hF5 := hF3.tr (hf4.tr hfB)
  have hg5 := Blk.fr0 hg3 (hf4.tr hfB)
  have hrec35 := hrec3.fr0 (hf4.tr hfB)
  have hx5 := hx2.fr0 (hf4.tr hfB)
  go_upto_region 4 with fail
  generalize hw5 : w4.alloc (.cells #[.int .i64 r.commit, .slice A4 r.chs.length c4] 49) = w5 at *
  clear hw5 hrec4
  go_wp2_with fail
  (refine T_begin No [0, 2, 1, 3, 4, 5, 6, 7, 8, 9, 10, 11, 12, 13, 14, 15] [1, 3, 13] (by kernel_rfl) (by kernel_rfl) ?_; simp only [pickOps, List.filterMap_cons, List.filterMap_nil, List.getElem?_cons_zero, List.getElem?_cons_succ, Act.put])
  (refine T_loadA (cs := [.int .i64 r.commit, .slice A2 r.chs.length c2]) ag_recp (by rfl) (by rfl) (fun _ _ _ _ h => h) rfl rfl rfl hx5.all (fun hn => hn) ?_; try simp only [Act.put, List.setIfInBounds_toArray, List.set_cons_zero, List.set_cons_succ])
  (refine T_loadA (cs := [.int .i64 r.commit, .slice A4 r.chs.length c4]) ag_recr (by rfl) (by rfl) (fun _ _ _ _ h => h) rfl rfl rfl hx4.all (fun hn => hn) ?_; try simp only [Act.put, List.setIfInBounds_toArray, List.set_cons_zero, List.set_cons_succ])
  (refine T_call (by rfl) (by rfl) (fun K hK => ?_); go_wp2_with fail)
  refine (taken5_calls _ _ r _ (hrec35.fr0 (Fr.refl No w5).drew).lt HOK.out (fun b hb => hb.2)).mono ?_
  rintro e w6 ⟨cs6, rfl, hrec6, hf6⟩
  (refine hK.out _ _ (hf6) ?_; clear hK K; try simp only [Act.put, List.setIfInBounds_toArray, List.set_cons_zero, List.set_cons_succ])
  (refine T_call (by rfl) (by rfl) (fun K hK => ?_); go_wp2_with fail)
  refine (samer_calls _ _ _ _ r _ hrec6 (hrec5.fr0 ((Fr.refl No w5).drew.tr hf6))).mono ?_
  rintro e w7 ⟨rfl, hf7⟩
  (refine hK.out _ _ (hf7) ?_; clear hK K; try simp only [Act.put, List.setIfInBounds_toArray, List.set_cons_zero, List.set_cons_succ])
  repeat (first | (refine T_skip (by rfl) (by rfl) (fun _ _ _ h => h) ?_; try simp only [Act.put, List.setIfInBounds_toArray, List.set_cons_zero, List.set_cons_succ]) | (refine T_pass (by rfl) (by rfl) ?_; try simp only [Act.put, List.setIfInBounds_toArray, List.set_cons_zero, List.set_cons_succ]) | (refine T_load (by assumption) (by rfl) (by rfl) (fun _ _ _ _ h => h) rfl rfl (by assumption) (by first | exact (fun hn => hn) | assumption) ?_; try simp only [Act.put, List.setIfInBounds_toArray, List.set_cons_zero, List.set_cons_succ]) | (refine T_nil (by rfl) (by rfl) (fun _ _ _ _ h => h) rfl rfl ?_; try simp only [Act.put, List.setIfInBounds_toArray, List.set_cons_zero, List.set_cons_succ]) | (refine T_quietN (by rfl) (by rfl) (by rfl) (by rfl) (fun _ _ _ _ h => h) (fun K hK => ?_); go_big_quiet_op; refine hK _ ?_; clear hK K) | (refine T_two (by rfl) (by rfl) (by rfl) (by rfl) (fun _ _ _ _ h => h) (fun K hK => ?_); go_big_quiet_op; refine ⟨_, fun _ _ => rfl, ?_⟩; refine hK _ ?_; clear hK K; try simp only [Act.put, List.setIfInBounds_toArray, List.set_cons_zero, List.set_cons_succ]) | fail)
  have hf57 : Fr No w5 w7 := ((Fr.refl No w5).drew.tr hf6).tr hf7
  (refine T_call (by rfl) (by rfl) (fun K hK => ?_); go_wp2_with fail)
  refine (kept_calls _ _ g cap0 l _ (Blk.fr0 hg5 hf57) (Rd.fr0 h0 (hF5.tr hf57)) (by omega)).mono ?_
  rintro e w8 ⟨rfl, hf8⟩
  (refine hK.out _ _ (hf8) ?_; clear hK K; try simp only [Act.put, List.setIfInBounds_toArray, List.set_cons_zero, List.set_cons_succ])
  repeat (first | (refine T_skip (by rfl) (by rfl) (fun _ _ _ h => h) ?_; try simp only [Act.put, List.setIfInBounds_toArray, List.set_cons_zero, List.set_cons_succ]) | (refine T_pass (by rfl) (by rfl) ?_; try simp only [Act.put, List.setIfInBounds_toArray, List.set_cons_zero, List.set_cons_succ]) | (refine T_load (by assumption) (by rfl) (by rfl) (fun _ _ _ _ h => h) rfl rfl (by assumption) (by first | exact (fun hn => hn) | assumption) ?_; try simp only [Act.put, List.setIfInBounds_toArray, List.set_cons_zero, List.set_cons_succ]) | (refine T_nil (by rfl) (by rfl) (fun _ _ _ _ h => h) rfl rfl ?_; try simp only [Act.put, List.setIfInBounds_toArray, List.set_cons_zero, List.set_cons_succ]) | (refine T_quietN (by rfl) (by rfl) (by rfl) (by rfl) (fun _ _ _ _ h => h) (fun K hK => ?_); go_big_quiet_op; refine hK _ ?_; clear hK K) | (refine T_two (by rfl) (by rfl) (by rfl) (by rfl) (fun _ _ _ _ h => h) (fun K hK => ?_); go_big_quiet_op; refine ⟨_, fun _ _ => rfl, ?_⟩; refine hK _ ?_; clear hK K; try simp only [Act.put, List.setIfInBounds_toArray, List.set_cons_zero, List.set_cons_succ]) | fail)
  refine T_done ?_
  have hF8 := hF5.tr (hf57.tr hf8)
  have x8 := (hx5.fr0 (hf57.tr hf8)).all
  have hrec8 := hrec35.fr0 (hf57.tr hf8)
  rcases HC.out with ⟨h1, h2⟩ | h1
  · subst h1
    by_cases hbig : 60000 < l.length
    · have eb : decide ((60000 : Int) < l.length) = true := by simpa using (by omega : (60000 : Int) < l.length)
      clear HC h2 hbig
      go_wp2_with fail
      refine (known_calls _).mono ?_
      rintro e wB ⟨rfl, hfB2⟩
      go_wp2
      go_ret
      exact ⟨rfl, hF8.tr hfB2⟩
    · have eb : decide ((60000 : Int) < l.length) = false := by simpa using (by omega : ¬ (60000 : Int) < l.length)
      have HP := Lib.hid (h2 (by omega))
      clear HC h2 hbig
      go_wp2_with (first
        | (refine wpList_ldA ag_recp rfl _ rfl ⟨w2.heap.size, 0, none⟩ [.int .i64 r.commit, .slice A2 r.chs.length c2] rfl rfl x8 ?_)
        | fail)
      refine (vputr_calls _ _ r _ hrec8).mono ?_
      rw [HP.out]
      rintro e wA ⟨vA, rfl, hownA, hfA2⟩
      simp only at hownA ⊢
      obtain ⟨AA, cA, rfl, hcA, hcmA, _⟩ := own_form hownA
      have hrA := own_rd hownA (by omega)
      go_wp2_with (first
        | (refine wpList_str Try.underlying23 Try.underlying5 Try.underlying9 rfl (.tmp 54) rfl rfl rfl hrA ?_)
        | (refine wpList_str Try.underlying23 Try.underlying5 Try.underlying9 rfl (.tmp 56) rfl rfl rfl (Rd.fr0 h0 (hF8.tr hfA2)) ?_)
        | fail)
      refine (known_calls _).mono ?_
      rintro e wB ⟨rfl, hfB2⟩
      go_wp2
      go_ret
      exact ⟨rfl, hF8.tr (hfA2.tr hfB2)⟩
  · subst h1
    clear HC
    go_wp2_with fail
    refine (known_calls _).mono ?_
    rintro e wB ⟨rfl, hfB2⟩
    go_wp2
    go_ret
    exact ⟨rfl, hF8.tr hfB2⟩
end Go.Proofs.Ytfgkioigbnlkkaa
