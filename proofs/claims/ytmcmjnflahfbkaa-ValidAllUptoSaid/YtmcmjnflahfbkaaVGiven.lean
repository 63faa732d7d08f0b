/- The law's given. No condition but room. -/
import Derived.Test.YtmcmjnflahfbkaaVOne
namespace Go.Proofs.Ytmcmjnflahfbkaa
set_option linter.unusedVariables false
set_option linter.unusedSimpArgs false
open Go.RowKit Go.Maps

theorem so_vtxn : SliceOf Try.prog 30 32 (.agg #[.int .i64 0, .int .i64 0, .slice none 0 0, .slice none 0 0]) 4 64 := ⟨Try.underlying30, by kernel_rfl, rfl, by decide, by decide, by decide⟩
/-- The k-th session's cells. -/
theorem RdT.atC {w : World} {S : Nat → Prop} {A : Option Addr} {ts : List Txn} {k : Nat} (h : RdT w S A ts) (hk : k < ts.length) :
    ∃ g o Ar cr Aw cw, A = some ⟨g, o, none⟩ ∧ S g ∧ (∀ j u, [Value.int .i64 ts[k].base, .int .i64 ts[k].commit, .slice Ar ts[k].reads.length cr, .slice Aw ts[k].writes.length cw][j]? = some u → w.cell? ((⟨g, o + k * 4, none⟩ : Addr).add j) = some u) ∧
      TxnC w S [Value.int .i64 ts[k].base, .int .i64 ts[k].commit, .slice Ar ts[k].reads.length cr, .slice Aw ts[k].writes.length cw] ts[k] := by
  obtain ⟨g, o, Ar, cr, Aw, cw, hA, hS, h0, h1, h2, h3, hr, hw⟩ := h.at_ hk
  refine ⟨g, o, Ar, cr, Aw, cw, hA, hS, fun j u hu => ?_, Ar, cr, Aw, cw, rfl, hr, hw⟩
  rw [Addr.add_lit]
  match j, hu with
  | 0, hu => obtain rfl := Option.some.inj hu; exact h0
  | 1, hu => obtain rfl := Option.some.inj hu; exact h1
  | 2, hu => obtain rfl := Option.some.inj hu; exact h2
  | 3, hu => obtain rfl := Option.some.inj hu; exact h3
  | j + 4, hu => simp at hu
/-- A row of sessions of the call's own, with rows of their own behind. -/
def GivenAt (w : World) (B : Nat) (v : Value) (ts : List Txn) : Prop :=
  ∃ xs, w.ownsRow B 32 4 v ts.length xs ∧ TxnsC w (fun b => B ≤ b ∧ v.ownBlock ≠ some b) xs ts
theorem GivenAt.rdT {w : World} {B n c : Nat} {A : Option Addr} {ts : List Txn} (h : GivenAt w B (.slice A n c) ts) (hn : ts.length ≤ 211106232532992) : RdT w (fun b => B ≤ b) A ts := by
  obtain ⟨xs, hown, hx⟩ := h
  obtain ⟨A', c', e, _, _, hA⟩ := own_form hown
  injection e with e1 e2 e3
  subst e1 e2 e3
  refine ⟨xs, (own_rd hown hn).mono (fun b _ hb => (hown.lt b ((hA b).2 hb)).1) (by decide), hx.mono (fun b _ hb => hb.1)⟩
theorem TxnsC.snoc {w : World} {S : Nat → Prop} : ∀ {ts : List Txn} {xs cs : List Value} {t : Txn}, TxnsC w S xs ts → TxnC w S cs t → TxnsC w S (xs ++ cs) (ts ++ [t])
  | [], xs, cs, t, h, hc => by
    have h : xs = [] := h
    subst h
    exact ⟨cs, [], by simp, hc, rfl⟩
  | d :: ts, xs, cs, t, ⟨c0, rest, e, hd, hr⟩, hc => ⟨c0, rest ++ cs, by rw [e, List.append_assoc], hd, TxnsC.snoc hr hc⟩
set_option maxHeartbeats 1000000 in
theorem given_calls (S : Nat → Prop) (A : Option Addr) (c : Nat) (ts : List Txn) (w : World) (h : RdT w S A ts) (hS : ∀ b, S b → b < w.heap.size) (h64 : ts.length * 64 ≤ 140737488355328)
    (h8 : ∀ d ∈ ts, d.reads.length * 8 ≤ 211106232532992 ∧ d.writes.length * 8 ≤ 211106232532992) :
    Calls Try.prog 11 #[.slice A ts.length c] w fun e w' => ∃ v, e = .returned v ∧ GivenAt w' w.heap.size v ts ∧ Fr No w w' := by
  have hle := h.le
  have H64 := Lib.hid h64
  have H8 := Lib.hid h8
  clear h64 h8
  go_enter Try.func11, Try.ntmps11
  go_wp2
  go_loopw [3, 4] (fun o i wr => ∃ (k : Nat) (xs : List Value), k ≤ ts.length ∧ i = .int .i64 k ∧ wr.ownsRow w.heap.size 32 4 o k xs ∧ TxnsC wr (fun b => w.heap.size ≤ b ∧ o.ownBlock ≠ some b) xs (ts.take k) ∧ Fr No w wr) (fun _ i _ => ts.length - (intOf i).toNat)
  case atStart => exact ⟨0, [], by omega, rfl, World.ownsRow_nil _ _ _ _, rfl, Fr.refl _ _⟩
  case round =>
    obtain ⟨k, xs, hk, rfl, hown, hx, hf⟩ := hrel
    by_cases hlt : k < ts.length
    · obtain ⟨g, of, Ar, cr, Aw, cw, rfl, _, hk4, htc⟩ := (h.fr0 hf).atC hlt
      have htk : ts.take (k + 1) = ts.take k ++ [ts[k]] := by rw [List.take_add_one, List.getElem?_eq_getElem hlt]; rfl
      have HT := Lib.hid htk
      obtain ⟨hr8, hw8⟩ := H8.out _ (List.getElem_mem hlt)
      clear htk
      generalize ts[k] = d at *
      obtain ⟨A0, c0, rfl, hc0, _, hA0⟩ := own_form hown
      have ek : decide ((k : Int) < ts.length) = true := by simpa using (by omega : (k : Int) < ts.length)
      go_wp2_with (first
        | (refine wpList_ldA ag_txn rfl _ rfl ⟨g, of + k * 4, none⟩ [.int .i64 d.base, .int .i64 d.commit, .slice Ar d.reads.length cr, .slice Aw d.writes.length cw] rfl rfl hk4 ?_)
        | fail)
      refine (one_calls S [.int .i64 d.base, .int .i64 d.commit, .slice Ar d.reads.length cr, .slice Aw d.writes.length cw] d wr htc hr8 hw8).mono ?_
      rintro e w2 ⟨vr, vw, M, rfl, hM, hownr, hM2, hownw, hf2⟩
      obtain ⟨A1, c1, rfl, hc1, _, hA1⟩ := own_form hownr
      obtain ⟨A2, c2, rfl, hc2, _, hA2⟩ := own_form hownw
      have hown2 := own_fr0 hown (hf2.alloc (.cells #[.int .i64 d.base, .int .i64 d.commit, .slice A1 d.reads.length c1, .slice A2 d.writes.length c2] 32))
      have h64 := H64.out
      go_wp2_with (first
        | (at_builtin; refine wpList_app_at so_vtxn hown2 ((Blk.new w2 _ _).rd (size := 4) (n := 1) (by rfl) (by decide)) (by intro u hu; simp at hu; rcases hu with rfl | rfl | rfl | rfl <;> rfl) (by omega) (by have := hf.size; have := hf2.size; simp; omega) rfl rfl rfl rfl ?_; intro v3 w3 hown3 hg3 hat3)
        | fail)
      have hs2 := hf2.size
      have hsw := hf.size
      have hv0 : ∀ b, (Value.slice A0 k c0).ownBlock = some b → w.heap.size ≤ b ∧ b < wr.heap.size := fun b hb => hown.lt b hb
      have hfT : Fr (fun b => (Value.slice A0 k c0).ownBlock = some b) wr w3 := ((hf2.alloc _).mono (fun _ _ hn => hn.elim)).grown hg3 (fun q hq => .inr hq)
      have hv3 : ∀ b, v3.ownBlock = some b → (Value.slice A0 k c0).ownBlock = some b ∨ b = w2.heap.size + 1 := by
        intro b hb
        rcases hat3 with h3 | h3
        · exact .inl (h3 ▸ hb)
        · rw [h3] at hb; simp at hb; exact .inr hb.symm
      go_roundw
      case rel =>
        refine ⟨k + 1, _, by omega, by go_num, hown3, ?_, hf.trans hfT (fun b hb hT => by have := (hv0 b hT).1; omega)⟩
        rw [HT.out]
        refine TxnsC.snoc ?_ ⟨A1, c1, A2, c2, rfl, ?_, ?_⟩
        · refine TxnsC.mono (S := fun b => (w.heap.size ≤ b ∧ (Value.slice A0 k c0).ownBlock ≠ some b) ∧ b < wr.heap.size) (fun b _ hb => ⟨hb.1.1, fun h3 => ?_⟩) (TxnsC.keep hfT (fun b hb hT => hb.1.2 hT) (hx.mono (fun b hlt hb => ⟨hb, hlt⟩)))
          rcases hv3 b h3 with h4 | h4
          · exact hb.1.2 h4
          · omega
        · refine Rd.mono (Rd.fr ((own_rd hownr (by omega)).lt (by decide)) (((Fr.refl No w2).alloc _).mono (fun _ _ hn => hn.elim) |>.grown hg3 (fun q hq => .inr hq)) (T := fun b => (Value.slice A0 k c0).ownBlock = some b) (fun b hb hT => by have := (hownr.lt b ((hA1 b).2 hb.1)).1; have := (hv0 b hT).2; omega)) (fun b _ hb => ⟨by have := (hownr.lt b ((hA1 b).2 hb.1)).1; omega, fun h3 => ?_⟩) (by decide)
          rcases hv3 b h3 with h4 | h4
          · have := (hownr.lt b ((hA1 b).2 hb.1)).1; have := (hv0 b h4).2; omega
          · omega
        · refine Rd.mono (Rd.fr ((own_rd hownw (by omega)).lt (by decide)) (((Fr.refl No w2).alloc _).mono (fun _ _ hn => hn.elim) |>.grown hg3 (fun q hq => .inr hq)) (T := fun b => (Value.slice A0 k c0).ownBlock = some b) (fun b hb hT => by have := (hownw.lt b ((hA2 b).2 hb.1)).1; have := (hv0 b hT).2; omega)) (fun b _ hb => ⟨by have := (hownw.lt b ((hA2 b).2 hb.1)).1; omega, fun h3 => ?_⟩) (by decide)
          rcases hv3 b h3 with h4 | h4
          · have := (hownw.lt b ((hA2 b).2 hb.1)).1; have := (hv0 b h4).2; omega
          · omega
      case measure => simp [intOf]; omega
    · obtain rfl : k = ts.length := by omega
      rw [List.take_length] at hx
      go_wp2
      go_ret
      exact ⟨_, rfl, ⟨xs, hown, hx⟩, hf⟩

theorem one_reads (S : Nat → Prop) (cs : List Value) (t : Txn) (w : World) (ht : TxnC w S cs t) (h1 : t.reads.length * 8 ≤ 211106232532992) (h2 : t.writes.length * 8 ≤ 211106232532992) :
    Calls Try.prog 12 #[.agg cs.toArray] w fun e w' => ∃ Ar cr Aw cw M, e = .returned (.agg #[.int .i64 t.base, .int .i64 t.commit, .slice Ar t.reads.length cr, .slice Aw t.writes.length cw]) ∧ (w.heap.size ≤ M ∧ M ≤ w'.heap.size) ∧
      w'.ownsRow w.heap.size 2 1 (.slice Ar t.reads.length cr) t.reads.length (I64 t.reads) ∧ (∀ b, Ar.map (·.block) = some b → b < M) ∧ w'.ownsRow M 2 1 (.slice Aw t.writes.length cw) t.writes.length (I64 t.writes) ∧
      TxnC w' (fun b => w.heap.size ≤ b) [.int .i64 t.base, .int .i64 t.commit, .slice Ar t.reads.length cr, .slice Aw t.writes.length cw] t ∧ Fr No w w' := by
  refine (one_calls S cs t w ht h1 h2).mono ?_
  rintro e w' ⟨vr, vw, M, rfl, hM, hr, hM2, hw, hf⟩
  obtain ⟨Ar, cr, rfl, _, _, hA⟩ := own_form hr
  obtain ⟨Aw, cw, rfl, _, _, hA2⟩ := own_form hw
  exact ⟨Ar, cr, Aw, cw, M, rfl, hM, hr, fun b hb => hM2 b ((hA b).2 hb), hw, ⟨Ar, cr, Aw, cw, rfl, (own_rd hr (by omega)).mono (fun b _ hb => (hr.lt b ((hA b).2 hb)).1) (by decide), (own_rd hw (by omega)).mono (fun b _ hb => by have := (hw.lt b ((hA2 b).2 hb)).1; omega) (by decide)⟩, hf⟩
theorem given_reads (S : Nat → Prop) (A : Option Addr) (c : Nat) (ts : List Txn) (w : World) (h : RdT w S A ts) (hS : ∀ b, S b → b < w.heap.size) (h64 : ts.length * 64 ≤ 140737488355328)
    (h8 : ∀ d ∈ ts, d.reads.length * 8 ≤ 211106232532992 ∧ d.writes.length * 8 ≤ 211106232532992) :
    Calls Try.prog 11 #[.slice A ts.length c] w fun e w' => ∃ A' c', e = .returned (.slice A' ts.length c') ∧ GivenAt w' w.heap.size (.slice A' ts.length c') ts ∧ RdT w' (fun b => w.heap.size ≤ b) A' ts ∧ Fr No w w' := by
  refine (given_calls S A c ts w h hS h64 h8).mono ?_
  rintro e w' ⟨v, rfl, hg, hf⟩
  obtain ⟨xs, hown, hx⟩ := id hg
  obtain ⟨A', c', rfl, _, _, _⟩ := own_form hown
  exact ⟨A', c', rfl, hg, hg.rdT (by omega), hf⟩
end Go.Proofs.Ytmcmjnflahfbkaa
