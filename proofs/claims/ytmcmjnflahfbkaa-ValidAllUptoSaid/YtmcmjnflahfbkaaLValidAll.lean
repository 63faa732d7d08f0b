/- The walk of lapidarylaw17.ValidAll. Condition: what came in is of bulk at most 1048576. -/
import Derived.Test.YtmcmjnflahfbkaaVAll
import Derived.Test.YtmcmjnflahfbkaaVKnown
namespace Go.Proofs.Ytmcmjnflahfbkaa
set_option linter.unusedVariables false
set_option linter.unusedSimpArgs false
open Go.RowKit Go.Maps

theorem bnd_all (ts : List Txn) (ok : ∀ d ∈ ts, TxnOk d) : ∀ k, k ≤ ts.length → BndA ts k (allS (ts.take k))
  | 0, _ => by rw [List.take_zero]; exact bnd_start ts
  | k + 1, h => by
    have htk : ts.take (k + 1) = ts.take k ++ [ts[k]] := by rw [List.take_add_one, List.getElem?_eq_getElem (by omega)]; rfl
    have h1 := bnd_step (by omega) ok (bnd_all ts ok k (by omega))
    rw [htk, allS_snoc]; exact h1
theorem all_calls2 (A : Option Addr) (c : Nat) (ts ds : List Txn) (hds : (allS ts).1 = ds) (w : World) (h : RdT w (fun b => b < w.heap.size) A ts) (ok : ∀ d ∈ ts, TxnOk d) (hb : bulkT ts ≤ 1048576) (hl : ts.length ≤ 100) :
    Calls Try.prog 19 #[.slice A ts.length c] w fun e w' => ∃ A' c' xs, e = .returned (.slice A' ds.length c') ∧ w'.ownsRow w.heap.size 32 4 (.slice A' ds.length c') ds.length xs ∧
      TxnsC w' (fun b => w.heap.size ≤ b ∧ (Value.slice A' ds.length c').ownBlock ≠ some b) xs ds ∧ AllW w' (fun b => w.heap.size ≤ b ∧ (Value.slice A' ds.length c').ownBlock ≠ some b) xs ∧ Fr No w w' := by
  subst hds; exact all_calls A c ts w h ok hb hl
theorem refall_calls2 (A : Option Addr) (c : Nat) (ts ds : List Txn) (hds : (allS ts).1 = ds) (w : World) (h : RdT w (fun b => b < w.heap.size) A ts) (ok : ∀ d ∈ ts, TxnOk d) (hb : bulkT ts ≤ 1048576) (hl : ts.length ≤ 100) :
    Calls Try.prog 20 #[.slice A ts.length c] w fun e w' => ∃ A' c', e = .returned (.slice A' ds.length c') ∧ RdT w' (fun _ => True) A' ds ∧ Fr No w w' := by
  subst hds; exact refall_calls A c ts w h ok hb hl
/-- Rows of the call's own that are written over. -/
def InvW (B : Nat) (v : Value) (n : Nat) (xs : List Value) (W0 w : World) : Prop :=
  w.ownsRow B 32 4 v n xs ∧ AllW w (fun b => B ≤ b ∧ v.ownBlock ≠ some b) xs ∧ Fr (fun b => B ≤ b) W0 w
theorem InvW.set {B : Nat} {v : Value} {n : Nat} {xs : List Value} {W0 w : World} (h : InvW B v n xs W0 w) {g : Nat} (hg : B ≤ g) (hv : v.ownBlock ≠ some g) (i : Nat) (u : Value) : InvW B v n xs W0 (w.setCell ⟨g, i, none⟩ u) :=
  ⟨own_fr h.1 ((Fr.refl (fun b => b = g) w).set (p := ⟨g, i, none⟩) (.inr rfl) u) (fun b hb hT => hv (hT ▸ hb)), h.2.1.set g i u, h.2.2.set (p := ⟨g, i, none⟩) (.inr hg) u⟩

set_option maxHeartbeats 4000000 in
theorem law_ValidAll (W : World) (a0 : Option Addr) (cap0 : Nat) (ts : List Txn) (h0 : RdT W (fun b => b < W.heap.size) a0 ts) (ok0 : ∀ d ∈ ts, TxnOk d) (hcap : ts.length ≤ cap0) (hmax : cap0 ≤ maxLen) (hbulk : bulkT ts ≤ 1048576) :
    Calls Try.prog 7 #[.slice a0 ts.length cap0] W fun e w' => e = .returned (.bool true) ∧ Fr No W w' := by
  have hle := h0.le
  have hbl := bulkT_len ts
  have OK0 := Lib.hid ok0
  have HB := Lib.hid hbulk
  clear hbulk
  by_cases h100 : 100 < ts.length
  · have e0 : decide ((100 : Int) < ts.length) = true := by simpa using (by omega : (100 : Int) < ts.length)
    go_enter Try.func7, Try.ntmps7
    go_wp2_with fail
    refine (known_calls _).mono ?_
    rintro e w2 ⟨rfl, hf2⟩
    go_wp2
    go_ret
    exact ⟨rfl, hf2⟩
  · have e0 : decide ((100 : Int) < ts.length) = false := by simpa using (by omega : (ts.length : Int) ≤ 100)
    have hbnd := bnd_all ts ok0 ts.length (Nat.le_refl _)
    rw [List.take_length] at hbnd
    have hser := serM_inv hbnd.1
    obtain ⟨_, _, hdl, hdb, okd⟩ := hbnd
    rw [List.take_length] at hdb
    obtain ⟨ds, hds⟩ : ∃ ds, (allS ts).1 = ds := ⟨_, rfl⟩
    rw [hds] at hser hdl hdb okd
    have HDS := Lib.hid hds
    have HSER := Lib.hid hser
    have OKD := Lib.hid okd
    clear hds hser okd ok0
    go_enter Try.func7, Try.ntmps7
    go_wp2_with fail
    refine (given_reads _ a0 cap0 ts _ h0 (fun b hb => hb) (by omega) (fun d hd => ⟨by have := (OK0.out d hd).2.2.1; omega, by have := (OK0.out d hd).2.2.2; omega⟩)).mono ?_
    rintro e w2 ⟨A2, c2, rfl, _, hgr, hf2⟩
    have hgr2 := hgr.mono (T := fun b => b < w2.heap.size) (fun b hb _ => hb)
    go_wp2_with fail
    refine (all_calls2 A2 c2 ts ds HDS.out w2 hgr2 OK0.out HB.out (by omega)).mono ?_
    rintro e w3 ⟨A3, c3, xs, rfl, hown3, hx3, hall3, hf3⟩
    have hrd3 : RdT w3 (fun b => b < w3.heap.size) A3 ds := ⟨xs, (own_rd hown3 (by omega)).mono (fun b hb _ => hb) (by decide), hx3.mono (fun b hb _ => hb)⟩
    go_wp2_with fail
    refine (taken_calls (fun b => b < w3.heap.size) A3 c3 ds w3 hrd3 (fun b hb => hb) (by omega)).mono ?_
    rintro e w4 ⟨A4, c4, rfl, h4, hf4⟩
    have hf24 := hf3.tr hf4
    have hW4 := hf2.tr hf24
    go_wp2_with fail
    refine (refall_calls2 a0 cap0 ts ds HDS.out w4 ((h0.fr0 hW4).mono (fun b hb _ => hb)) OK0.out HB.out (by omega)).mono ?_
    rintro e w5 ⟨A5, c5, rfl, h5, hf5⟩
    go_wp2_with fail
    refine (same_calls _ _ A4 A5 c4 c5 ds _ (h4.fr0 hf5) h5).mono ?_
    rintro e w6 ⟨rfl, hf6⟩
    have hf26 := hf24.tr (hf5.tr hf6)
    go_wp2_with fail
    have hs26 := hf26.size
    refine (taken_calls (fun b => b < w2.heap.size) A2 c2 ts w6 (hgr2.fr0 hf26) (fun b hb => by omega) (by omega)).mono ?_
    rintro e w7 ⟨A7, c7, rfl, h7, hf7⟩
    have hf27 := hf26.tr hf7
    go_wp2_with fail
    refine (same_calls _ _ A7 a0 c7 cap0 ts _ h7 (h0.fr0 (hf2.tr hf27))).mono ?_
    rintro e w8 ⟨rfl, hf8⟩
    have hf28 := hf27.tr hf8
    have hf38 : Fr No w3 w8 := hf4.tr (hf5.tr (hf6.tr (hf7.tr hf8)))
    go_wp2_with fail
    refine (serial_calls _ A3 c3 ds w8 (hrd3.fr0 hf38) OKD.out (by have := HB.out; omega)).mono ?_
    intro e w9 hret
    rw [HSER.out] at hret
    obtain ⟨rfl, hf9⟩ := hret
    have hf29 := hf28.tr hf9
    have hinv : InvW w2.heap.size (.slice A3 ds.length c3) ds.length xs w9 w9 := ⟨own_fr0 hown3 (hf38.tr hf9), hall3.keep (hf38.tr hf9) (fun _ _ hn => hn), Fr.refl _ _⟩
    have hs29 := hf29.size
    have hdl100 : ds.length ≤ 100 := by omega
    simp only
    go_wp2_with fail
    go_loopw [8] (fun i wr => ∃ k : Nat, k ≤ ds.length ∧ i = .int .i64 k ∧ InvW w2.heap.size (.slice A3 ds.length c3) ds.length xs w9 wr) (fun i _ => ds.length - (intOf i).toNat)
    case atStart => exact ⟨0, by omega, rfl, hinv⟩
    case round =>
      obtain ⟨k, hk, rfl, hinv⟩ := hrel
      by_cases hlt : k < ds.length
      · have ek : decide ((k : Int) < ds.length) = true := by simpa using (by omega : (k : Int) < ds.length)
        obtain ⟨Aw, n, cw, hx, hn, hrow⟩ := hinv.2.1 k (by rw [hinv.1.1]; omega)
        obtain ⟨g, cap, hv, _, hglt⟩ := hinv.1.form (by omega)
        have hA : A3 = some ⟨g, 0, none⟩ := by injection hv
        subst hA
        have hcell : ∀ wr, InvW w2.heap.size (.slice (some ⟨g, 0, none⟩) ds.length c3) ds.length xs w9 wr → wr.cell? ⟨g, k * 4 + 3, none⟩ = some (.slice Aw n cw) := fun wr h => by
          have := (h.1.cells (g := g) rfl) _ _ hx
          rwa [add_plain] at this
        have hxl : k * 4 + 3 < xs.length := (List.getElem?_eq_some_iff.1 hx).1
        have HC := Lib.hid hcell
        have HX := Lib.hid hx
        clear hcell hx hrow hv
        go_wp2_with fail
        go_loopw [9] (fun j wr2 => ∃ m : Nat, m ≤ n ∧ j = .int .i64 m ∧ InvW w2.heap.size (.slice (some ⟨g, 0, none⟩) ds.length c3) ds.length xs w9 wr2) (fun j _ => n - (intOf j).toNat)
        case atStart => exact ⟨0, by omega, rfl, hinv⟩
        case round =>
          obtain ⟨m, hm, rfl, hinv2⟩ := hrel
          have hc := HC.out _ hinv2
          by_cases hltm : m < n
          · obtain ⟨Aw', n', cw', hx', _, hrow⟩ := hinv2.2.1 k hxl
            have he : some (Value.slice Aw' n' cw') = some (.slice Aw n cw) := hx'.symm.trans HX.out
            simp only [Option.some.injEq, Value.slice.injEq] at he
            obtain ⟨rfl, rfl, rfl⟩ := he
            obtain ⟨q, cur, tq, rfl, ⟨hqB, hqv⟩, hbq0, hql⟩ := hrow (by omega)
            have hbq : Blk wr q tq cur := hbq0
            have hcm := (hbq.cell m).trans (Array.getElem?_eq_getElem (by omega))
            have hzm := hbq.frozen m
            have HQV := Lib.hid hqv
            clear hx' hbq0 hqv
            generalize cur[m]'(by omega) = old at hcm
            go_wp2
            go_roundw
            case rel => exact ⟨m + 1, by omega, by go_num, hinv2.set hqB HQV.out m _⟩
            case measure => simp [intOf]; omega
          · obtain rfl : m = n := by omega
            have ekm : decide ((m : Int) < m) = false := by simp
            go_wp2
            go_roundw
            case rel => exact ⟨k + 1, by omega, by go_num, hinv2⟩
            case measure => simp [intOf]; omega
      · obtain rfl : k = ds.length := by omega
        have ek : decide ((ds.length : Int) < ds.length) = false := by simp
        have hfr : Fr (fun b => w2.heap.size ≤ b) w9 _ := hinv.2.2
        have hf2E : Fr (fun b => w2.heap.size ≤ b) w2 _ := (hf29.mono (fun _ _ hn => hn.elim)).trans hfr (fun _ _ hb => hb)
        have hsE := hf2E.size
        have hs2 := hf2.size
        go_wp2_with fail
        refine (taken_calls (fun b => b < w2.heap.size) A2 c2 ts _ (hgr2.fr hf2E (fun b hb hT => by omega)) (fun b hb => by omega) (by omega)).mono ?_
        rintro e w10 ⟨A10, c10, rfl, h10, hf10⟩
        have hfE : Fr No W w10 := (hf2.trans hf2E (fun b hb hT => by omega)).tr hf10
        go_wp2_with fail
        refine (same_calls _ _ A10 a0 c10 cap0 ts _ h10 (h0.fr0 hfE)).mono ?_
        rintro e w11 ⟨rfl, hf11⟩
        go_wp2_with fail
        refine (known_calls _).mono ?_
        rintro e w12 ⟨rfl, hf12⟩
        go_wp2
        go_ret
        exact ⟨rfl, hfE.tr (hf11.tr hf12)⟩
end Go.Proofs.Ytmcmjnflahfbkaa
