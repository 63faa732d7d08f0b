/- GetRecord of the reference. No condition but that a slice can hold the bytes. -/
import Derived.Test.YtfgkioigbnlkkaaGetR
namespace Go.Proofs.Ytfgkioigbnlkkaa
set_option linter.unusedVariables false
set_option linter.unusedSimpArgs false
open Go.RowKit

/-- Behind k rounds. -/
def CInv (n : Nat) (s2 : St) (k : Nat) (acc : List ChM) (sK : St) : Prop := (sK.isSome = true → acc.length = k ∧ chsO n s2 = (acc ++ (chsO (n - k) sK).1, (chsO (n - k) sK).2)) ∧ (sK = none → (chsO n s2).2 = none)
theorem CInv.start {n : Nat} {s2 : St} : CInv n s2 0 [] s2 := ⟨fun _ => by simp, fun h => by subst h; exact chsO_none n⟩
theorem CInv.step {n k : Nat} {s2 : St} {acc : List ChM} {l : List UInt8} (h : CInv n s2 k acc (some l)) (hk : k < n) : CInv n s2 (k + 1) (acc ++ [(chO (some l)).1]) (chO (some l)).2 := by
  obtain ⟨h0, h1⟩ := h.1 rfl
  obtain ⟨m, hm⟩ : ∃ m, n - k = m + 1 := ⟨n - k - 1, by omega⟩
  rw [hm] at h1
  have hm2 : n - (k + 1) = m := by omega
  refine ⟨fun hs => ⟨by simp [h0], ?_⟩, fun hs => ?_⟩
  · obtain ⟨r, hr⟩ := Option.isSome_iff_exists.1 hs
    rw [h1, chsO_go hr, hr, hm2]; simp
  · rw [h1, chsO_stop hs]
theorem CInv.end_ {n k : Nat} {s2 : St} {acc : List ChM} {sK : St} (h : CInv n s2 k acc sK) (hk : k = n ∨ sK = none) : (chsO n s2).2 = sK ∧ (sK.isSome = true → acc = (chsO n s2).1) := by
  cases sK with
  | none => exact ⟨h.2 rfl, fun hh => by cases hh⟩
  | some l =>
    rcases hk with rfl | hk
    · obtain ⟨_, h1⟩ := h.1 rfl
      rw [Nat.sub_self] at h1
      rw [h1]
      exact ⟨rfl, fun _ => by simp [chsO]⟩
    · cases hk
/-- A row of k changes; where all went well it reads as acc. -/
def RowJ (w : World) (base : Nat) (v : Value) (k : Nat) (acc : List ChM) (b : Bool) : Prop :=
  ∃ xs, w.ownsRow base 78 5 v k xs ∧ (b = true → acc.length = k ∧ ChsC w (fun b => base ≤ b ∧ ¬ v.ownBlock = some b) xs acc)
theorem RowJ.fr {S : Nat → Prop} {w w' : World} {base k : Nat} {v : Value} {acc : List ChM} {g : Bool} (h : RowJ w base v k acc g) (hf : Fr S w w') (hS : ∀ b, base ≤ b → b < w.heap.size → ¬ S b) : RowJ w' base v k acc g := by
  obtain ⟨xs, h1, h2⟩ := h
  exact ⟨xs, own_fr h1 hf (fun b hb => hS b (h1.lt b hb).1 (h1.lt b hb).2), fun hg => ⟨(h2 hg).1, ((h2 hg).2.lt.keep hf (fun b hb => hS b hb.1.1 hb.2)).mono (fun b _ hb => hb.1)⟩⟩
theorem RowJ.fr0 {w w' : World} {base k : Nat} {v : Value} {acc : List ChM} {g : Bool} (h : RowJ w base v k acc g) (hf : Fr No w w') : RowJ w' base v k acc g := h.fr hf (fun _ _ _ hn => hn)

set_option maxHeartbeats 8000000 in
set_option maxRecDepth 100000 in
theorem refgetr_calls (S : Nat → Prop) (A : Option Addr) (c : Nat) (l : List UInt8) (w : World) (h : RdB w S A l) (hc : l.length ≤ c) (hcm : c ≤ maxLen) :
    Calls Try.prog 37 #[.slice A l.length c] w fun e w' => RetR w w' e (getR l) := by
  have hlen := h.le
  replace h : RdB w (fun b => S b ∧ b < w.heap.size) A l := Rd.lt h (by decide)
  have g1 := plain_int
  have g2 := plain_i64
  have g4 := plain_lval
  have g5 := plain_lu8
  have g6 := plain_bool
  have g7 := plain_lchr
  have hbr : Blk ((w.alloc (.cells #[.int .i64 0, .slice none 0 0] 49)).alloc (.cells #[.slice none 0 0, .bool false] 72)) w.heap.size 49 #[.int .i64 0, .slice none 0 0] := (Blk.new w _ _).alloc _
  have hz0 : ((w.alloc (.cells #[.int .i64 0, .slice none 0 0] 49)).alloc (.cells #[.slice none 0 0, .bool false] 72)).heap.size = w.heap.size + 2 := by simp
  go_enter Try.func37, Try.ntmps37
  go_wp2_with (first
    | (refine wpList_app so_u8 (World.ownsRow_nil _ (w.heap.size + 2) _ _) (Rd.alloc (Rd.alloc h _) _) (U8_one _) (by omega) (by simp) rfl rfl rfl rfl ?_; intro v5 w5 hown5 hg5 hat5; obtain ⟨A5, c5, rfl, hc5, hc5m, hA5⟩ := own_form hown5; have hb15 : Blk w5 (w.heap.size + 1) 72 #[.slice none 0 0, .bool false] := (Blk.newAt (by simp)).grown hg5 (fun hh => by cases hh); (have z0 := hb15.cell 0; have z1 := hb15.cell 1; have zf0 := hb15.frozen 0; have zf1 := hb15.frozen 1; simp only [List.getElem?_toArray, List.getElem?_cons_zero, List.getElem?_cons_succ] at z0 z1))
    | fail)
  have hf0 : Fr No w w5 := ((((Fr.refl No w).alloc _).alloc _).grown hg5 (fun q hq => by cases hq))
  have hbr5 := hbr.grown hg5 (fun hh => by cases hh)
  have hsz5 := hg5.size
  rw [hz0] at hsz5
  simp only [Nat.zero_add, List.nil_append] at hown5
  have hb16 : Blk (w5.setCell ⟨w.heap.size + 1, 0, none⟩ (.slice A5 l.length c5)) (w.heap.size + 1) 72 #[.slice A5 l.length c5, .bool false] := hb15.put 0 _
  have hf56 : Fr (fun b => b = w.heap.size + 1) w5 (w5.setCell ⟨w.heap.size + 1, 0, none⟩ (.slice A5 l.length c5)) := (Fr.refl _ w5).set1 0 _
  have hfW6 : Fr No w (w5.setCell ⟨w.heap.size + 1, 0, none⟩ (.slice A5 l.length c5)) := hf0.trans hf56 (fun b hb hT => by omega)
  have hbr6 := hbr5.fr hf56 (by omega)
  obtain ⟨A5', c5', e9, _, _, hA9⟩ := own_form hown5
  injection e9 with e91 e92 e93
  subst e91 e93
  have hr6 := Rd.fr (own_rd hown5 (by omega)) hf56 (fun b hb hT => by have := (hown5.lt b ((hA9 b).2 hb)).1; omega)
  have hr6' := (Rd.mono hr6 (T := fun b => w.heap.size + 2 ≤ b) (fun b hl hb => (hown5.lt b ((hA9 b).2 hb)).1) (by decide)).lt (by decide)
  have hzc := hf56.size
  clear e92
  generalize hw6 : w5.setCell ⟨w.heap.size + 1, 0, none⟩ (.slice A5 l.length c5) = w0 at *
  clear hw6 hA9
  have hs0 : ScanAt 72 w0 (fun b => w.heap.size + 2 ≤ b ∧ b < w0.heap.size) (w.heap.size + 1) (some l) :=
    ⟨A5, l, c5, hb16, hr6', by omega, hc5m, (fun l' h => by injection h with h; exact h.symm), fun hh => by omega⟩
  have hl0 := hs0.lt
  refine (refnum_calls _ (w.heap.size + 1) 1099511627776 (some l) _ hs0 (by decide)).mono ?_
  rintro e w1 ⟨rfl, hs1, hf1⟩
  have hb0 := hbr6.fr hf1 (by omega)
  have hl1 := hs1.lt
  have hz01 := hf1.size
  have hF1 : Fr No w w1 := hfW6.trans hf1 (fun b hb hT => by omega)
  have hle1 := numO_le 1099511627776 (some l)
  obtain ⟨⟨cm, s1⟩, hq⟩ : ∃ p, numO 1099511627776 (some l) = p := ⟨_, rfl⟩
  simp only [hq] at hs1 hle1 ⊢
  have HQ1 := Lib.hid hq
  clear hq hs0 hbr hbr5 hbr6 hb15 hb16 hown5 hg5 hf0 hf56 hfW6 hr6 hr6' z0 z1 zf0 zf1 hA5 hc5 hc5m
  go_wp2_with fail
  refine (refnum_calls _ (w.heap.size + 1) 4096 s1 _ (hs1.fr0 ((Fr.refl No w1).alloc _)) (by decide)).mono ?_
  rintro e w2 ⟨rfl, hs2, hf2⟩
  have hb1 := (Blk.new w1 49 #[.int .i64 cm, .slice none 0 0]).fr hf2 (by omega)
  replace hb0 := (hb0.alloc (.cells #[.int .i64 cm, .slice none 0 0] 49)).fr hf2 (by omega)
  have hF2 : Fr No w w2 := (hF1.alloc (.cells #[.int .i64 cm, .slice none 0 0] 49)).trans hf2 (fun b hb hT => by omega)
  have hle2 := numO_le 4096 s1
  obtain ⟨⟨n, s2⟩, hq⟩ : ∃ p, numO 4096 s1 = p := ⟨_, rfl⟩
  simp only [hq] at hs2 hle2 ⊢
  have HQ2 := Lib.hid hq
  obtain ⟨B0, hB0⟩ : ∃ B0, w.heap.size = B0 := ⟨_, rfl⟩
  obtain ⟨B1, hB1⟩ : ∃ B1, w1.heap.size = B1 := ⟨_, rfl⟩
  obtain ⟨g, hg⟩ : ∃ g, B0 + 1 = g := ⟨_, rfl⟩
  obtain ⟨Z0, hZ0⟩ : ∃ Z0, w0.heap.size = Z0 := ⟨_, rfl⟩
  have hB01 : B0 < B1 := by omega
  have hgB0 : B0 < g := by omega
  have hgB1 : g < B1 := by omega
  have hZB1 : Z0 ≤ B1 := by omega
  have HB0 := Lib.hid hB0
  simp only [hB0, hB1, hg, hZ0] at hb0 hb1 hs2 hl1 ⊢
  clear hq hs1 hf1 hf2 h hF1 hB0 hB1 hg hl0 hl1 hZ0 hz0 hsz5 hzc hz01
  go_upto_block 0 with fail
  go_cut [] (fun wx => ∃ (k : Nat) (acc : List ChM) (A : Option Addr) (c : Nat), k ≤ 4096 ∧ ScanAt 72 wx (fun b => B0 + 2 ≤ b ∧ b < Z0) g (chsO n s2).2 ∧ Hid ((chsO n s2).2.isSome = true → acc = (chsO n s2).1) ∧
      Blk wx B0 49 #[.int .i64 0, .slice none 0 0] ∧ Blk wx B1 49 #[.int .i64 cm, .slice A k c] ∧ RowJ wx (B1 + 1) (.slice A k c) k acc (chsO n s2).2.isSome ∧ Fr No w wx)
  case first =>
    go_wp2_with fail
    go_loopw [7] (fun i wr => ∃ (k : Nat) (acc : List ChM) (A : Option Addr) (c : Nat) (sK : St), k ≤ n ∧ i = .int .u64 (k : Int) ∧ ScanAt 72 wr (fun b => B0 + 2 ≤ b ∧ b < Z0) g sK ∧ Hid (CInv n s2 k acc sK) ∧
      Blk wr B0 49 #[.int .i64 0, .slice none 0 0] ∧ Blk wr B1 49 #[.int .i64 cm, .slice A k c] ∧ RowJ wr (B1 + 1) (.slice A k c) k acc sK.isSome ∧ Fr No w wr) (fun i _ => n - (intOf i).toNat)
    case atStart => exact ⟨0, [], none, 0, s2, by omega, rfl, hs2, Lib.hid CInv.start, hb0, hb1, ⟨[], World.ownsRow_nil _ _ _ _, fun _ => ⟨rfl, rfl⟩⟩, hF2⟩
    case round =>
      obtain ⟨k, acc, A, c, sK, hk, rfl, hsK, HV, hb0', hb1', hrow, hfr⟩ := hrel
      have hsKc := hsK
      obtain ⟨Ag, lg, cg, hbg, hrg, hcg, hcmg, hhg, hSg⟩ := hsKc
      (have p0 := hbg.cell 0; have p1 := hbg.cell 1; have pf0 := hbg.frozen 0; have pf1 := hbg.frozen 1; simp only [List.getElem?_toArray, List.getElem?_cons_zero, List.getElem?_cons_succ] at p0 p1)
      by_cases hlt : k < n
      rotate_left
      · have ek : decide (k < n) = false := by simpa using hlt
        have hend := HV.out.end_ (.inl (by omega))
        go_wp2
        go_meet
        case rel =>
          exact ⟨k, acc, A, c, by omega, by rw [hend.1]; exact hsK, Lib.hid (by rw [hend.1]; exact hend.2), hb0', hb1', by rw [hend.1]; exact hrow, hfr⟩
      have ek : decide (k < n) = true := by simpa using hlt
      cases sK with
      | none =>
        have hend := HV.out.end_ (.inr rfl)
        simp only [Option.isNone_none] at p1
        go_wp2
        go_meet
        case rel =>
          exact ⟨k, acc, A, c, by omega, by rw [hend.1]; exact hsK, Lib.hid (by rw [hend.1]; exact hend.2), hb0', hb1', by rw [hend.1]; exact hrow, hfr⟩
      | some l =>
        simp only [Option.isNone_some] at p1
        have HSTEP := Lib.hid (HV.out.step hlt)
        have hle4 := oneO_le 1 (numO 4096 (some l)).2
        have hlea := numO_le 4096 (some l)
        have hCG := @chO_gone (some l)
        have hCH := @chO_here (some l)
        have HCG := Lib.hid hCG
        have HCHE := Lib.hid hCH
        clear hCG hCH
        go_wp2_with fail
        refine (refnum_calls _ g 4096 (some l) _ hsK (by decide)).mono ?_
        rintro e w3 ⟨rfl, hs3, hf3⟩
        have hb03 := hb0'.fr hf3 (by omega)
        have hb13 := hb1'.fr hf3 (by omega)
        have hrow3 := hrow.fr hf3 (fun b hb _ hT => by omega)
        have hfr3 : Fr No w w3 := hfr.trans hf3 (fun b hb hT => by have := HB0.out; omega)
        have hl13 := hb13.lt
        clear p0 p1 pf0 pf1 hbg hrg hsK hrow hfr hb0' hb1'
        obtain ⟨⟨a, s1'⟩, hq⟩ : ∃ p, numO 4096 (some l) = p := ⟨_, rfl⟩
        simp only [hq] at hs3 hle4 hlea HCG HCHE ⊢
        clear hq
        go_wp2_with fail
        refine (refone_calls _ g 1 s1' _ (hs3.fr0 ((Fr.refl No w3).alloc _)) (by decide)).mono ?_
        rintro e w4 ⟨rfl, hs4, hf4⟩
        have hV4 := (Blk.new w3 78 #[.int .i64 (a : Int), .bool false, .int .i64 0, .slice none 0 0, .slice none 0 0]).fr hf4 (by omega)
        have hb04 := (hb03.alloc (.cells #[.int .i64 (a : Int), .bool false, .int .i64 0, .slice none 0 0, .slice none 0 0] 78)).fr hf4 (by omega)
        have hb14 := (hb13.alloc (.cells #[.int .i64 (a : Int), .bool false, .int .i64 0, .slice none 0 0, .slice none 0 0] 78)).fr hf4 (by omega)
        have hfr4 : Fr No w w4 := (hfr3.alloc (.cells #[.int .i64 (a : Int), .bool false, .int .i64 0, .slice none 0 0, .slice none 0 0] 78)).trans hf4 (fun b hb hT => by have := HB0.out; omega)
        have hlV4 := hV4.lt
        have HROW2 := Lib.hid (show ∀ wv, Fr (fun b => b = w3.heap.size) w4 wv → ∀ w6, Fr (fun b => b = g) wv w6 → ∀ w7, Fr (fun b => b = w3.heap.size) w6 w7 → RowJ w7 (B1 + 1) (.slice A k c) k acc (some l).isSome from fun wv h5 w6 h6 w7 h7 =>
          hrow3.fr (S := fun b => b = g ∨ b = w3.heap.size) (((((Fr.refl No w3).alloc _).mono (fun _ _ hn => hn.elim)).trans (hf4.mono (fun b _ h => .inl h)) (fun b _ h => h)).trans (h5.mono (fun b _ h => .inr h)) (fun b _ h => h) |>.trans (h6.mono (fun b _ h => .inl h)) (fun b _ h => h) |>.trans (h7.mono (fun b _ h => .inr h)) (fun b _ h => h)) (fun b hb hl hT => by omega))
        have hrow4 := Lib.hid (show ∀ wv, Fr (fun b => b = w3.heap.size) w4 wv → RowJ wv (B1 + 1) (.slice A k c) k acc (some l).isSome from fun wv h5 => HROW2.out wv h5 wv (Fr.refl _ _) wv (Fr.refl _ _))
        have hrowlt := Lib.hid (show ∀ b, (Value.slice A k c).ownBlock = some b → b < w3.heap.size from fun b hb => by obtain ⟨xs, h1, _⟩ := hrow3; exact (h1.lt b hb).2)
        obtain ⟨⟨bb, s2'⟩, hq⟩ : ∃ p, oneO 1 s1' = p := ⟨_, rfl⟩
        simp only [hq] at hs4 hle4 HCG HCHE ⊢
        clear hq hb03 hb13 hrow3 hfr3 hs3
        by_cases hb1e : bb = 1
        · subst hb1e
          have hch := HCG.out rfl
          have HCH := Lib.hid (show (chO (some l)).1 = _ by rw [hch])
          have HSTT := Lib.hid (show (chO (some l)).2 = _ by rw [hch])
          simp only at HCH HSTT
          clear hch HCG HCHE
          have hfV1 : Fr (fun b => b = w3.heap.size) w4 (w4.setCell ⟨w3.heap.size, 1, none⟩ (.bool true)) := (Fr.refl _ w4).set1 1 _
          have hV1 : Blk (w4.setCell ⟨w3.heap.size, 1, none⟩ (.bool true)) w3.heap.size 78 #[.int .i64 (a : Int), .bool true, .int .i64 0, .slice none 0 0, .slice none 0 0] := hV4.put 1 _
          have hb0V := hb04.fr hfV1 (by omega)
          have hb1V := hb14.fr hfV1 (by omega)
          have hrowV := hrow4.out (w4.setCell ⟨w3.heap.size, 1, none⟩ (.bool true)) hfV1
          have hfrV : Fr No w (w4.setCell ⟨w3.heap.size, 1, none⟩ (.bool true)) := hfr4.trans hfV1 (fun b hb hT => by have := HB0.out; omega)
          have hsV := hs4.fr hfV1 (by omega) (fun b hb => by have := hb.2; omega)
          (have v0 := hV4.cell 0; have v1 := hV4.cell 1; have v2 := hV4.cell 2; have v3 := hV4.cell 3; have v4 := hV4.cell 4; have vf0 := hV4.frozen 0; have vf1 := hV4.frozen 1; have vf2 := hV4.frozen 2; have vf3 := hV4.frozen 3; have vf4 := hV4.frozen 4; simp only [List.getElem?_toArray, List.getElem?_cons_zero, List.getElem?_cons_succ] at v0 v1 v2 v3 v4)
          have hvZ := hV1
          have hb0Z := hb0V
          have hb1Z := hb1V
          have hrowZ := hrowV
          have hfrZ := hfrV
          have hsZ := hsV
          have HCC : Hid (s2'.isSome = true → ChC (w4.setCell ⟨w3.heap.size, 1, none⟩ (.bool true)) (fun b => B1 + 1 ≤ b ∧ ¬ (Value.slice A k c).ownBlock = some b) [.int .i64 (a : Int), .bool true, .int .i64 0, .slice none 0 0, .slice none 0 0] ⟨a, true, noObj⟩) := Lib.hid (fun _ => ⟨none, 0, none, 0, rfl, Rd.nil_, Rd.nil_⟩)
          go_upto_region 12 with fail
          generalize hwQ : w4.setCell ⟨w3.heap.size, 1, none⟩ (.bool true) = wQ at *
          clear hwQ
          obtain ⟨xs, hxs, hxc⟩ := hrowZ
          have hv4' := hvZ.all
          have hl14 := hb1Z.lt
          (have r0 := hb1Z.cell 0; have r1 := hb1Z.cell 1; have rf0 := hb1Z.frozen 0; have rf1 := hb1Z.frozen 1; simp only [List.getElem?_toArray, List.getElem?_cons_zero, List.getElem?_cons_succ] at r0 r1)
          go_wp2_with (first
            | (refine wpList_ldA ag_chr rfl _ rfl ⟨w3.heap.size, 0, none⟩ [.int .i64 (a : Int), .bool true, .int .i64 0, .slice none 0 0, .slice none 0 0] rfl rfl hv4' ?_)
            | (refine wpList_app_hid so_chr rfl (hxs.alloc _) ((Blk.new _ _ _).rd (size := 5) (n := 1) (by rfl) (by decide)) (by intro u hu; simp at hu; rcases hu with rfl | rfl | rfl | rfl | rfl <;> rfl) (by omega) (by simp; omega) rfl rfl rfl ?_; intro v5 w5 hown5 hg5 hat5; obtain ⟨A5, c5, rfl, hc5, hc5m, _⟩ := own_form hown5; have hb15 := (hb1Z.alloc (.cells #[.int .i64 (a : Int), .bool true, .int .i64 0, .slice none 0 0, .slice none 0 0] 78)).grown hg5 (fun hh => by have := (hxs.lt B1 hh.symm).1; omega); (have z0 := hb15.cell 0; have z1 := hb15.cell 1; have zf0 := hb15.frozen 0; have zf1 := hb15.frozen 1; simp only [List.getElem?_toArray, List.getElem?_cons_zero, List.getElem?_cons_succ] at z0 z1))
            | fail)
          have hfA5 : Fr No wQ (wQ.alloc (.cells #[.int .i64 (a : Int), .bool true, .int .i64 0, .slice none 0 0, .slice none 0 0] 78)) := (Fr.refl No wQ).alloc _
          have hb05 := (hb0Z.alloc (.cells #[.int .i64 (a : Int), .bool true, .int .i64 0, .slice none 0 0, .slice none 0 0] 78)).grown hg5 (fun hh => by have := (hxs.lt B0 hh.symm).1; omega)
          have hlw := fun b (hb : (Value.slice A k c).ownBlock = some b) => (hxs.lt b hb).1
          have hf45 : Fr (fun b => (Value.slice A k c).ownBlock = some b) wQ w5 := (hfA5.mono (fun _ _ hn => hn.elim)).trans ((Fr.refl _ _).grown hg5 (fun q hq => .inr hq)) (fun b hb hh => hh)
          have hfB : Fr No w w5 := (hfrZ.alloc _).grown hg5 (fun q hq => .inl (by have := hlw q hq; have := HB0.out; omega))
          go_roundw
          case rel =>
            refine ⟨k + 1, acc ++ [⟨a, true, noObj⟩], A5, c5, s2', by omega, by go_num, (hsZ.fr hf45 (fun hh => by have := hlw g hh; omega) (fun b hb hh => by have := hlw b hh; have := hb.2; omega)).fr ((Fr.refl (fun b => b = B1) w5).set1 1 _) (by omega) (fun b hb => by have := hb.2; omega), Lib.hid ?_, hb05.far (by simp; omega) _, hb15.put 1 (.slice A5 (k + 1) c5), ?_, hfB.set (.inl (by simp; have := HB0.out; omega)) _⟩
            · have h9 := HSTEP.out
              rw [HCH.out, HSTT.out] at h9; exact h9
            · refine RowJ.fr (S := fun b => b = B1) ⟨xs ++ [.int .i64 (a : Int), .bool true, .int .i64 0, .slice none 0 0, .slice none 0 0], hown5, fun hg => ?_⟩ ((Fr.refl (fun b => b = B1) w5).set1 1 _) (fun b hb _ hT => by omega)
              obtain ⟨e1, e2⟩ := hxc rfl
              have hrow5 := ChRow.app (T := 78) (base := B1 + 1) (e2.keep hfA5 (fun _ _ hn => hn)) ((HCC.out hg).keep hfA5 (fun _ _ hn => hn)) (by rw [e1]; exact hown5) hg5 hat5
              obtain ⟨ys, k1, k2⟩ := hrow5
              refine ⟨by rw [List.length_append, e1]; rfl, ?_⟩
              have h8 := (ChsC.snoc ((HCC.out hg).keep hfA5 (fun _ _ hn => hn)) (e2.keep hfA5 (fun _ _ hn => hn))).lt
              have hfG : Fr (fun b => (Value.slice A k c).ownBlock = some b) (wQ.alloc (.cells #[.int .i64 (a : Int), .bool true, .int .i64 0, .slice none 0 0, .slice none 0 0] 78)) w5 := (Fr.refl _ _).grown hg5 (fun q hq => .inr hq)
              refine (h8.keep hfG (fun b hb hT => hb.1.2 hT)).mono (fun b _ hb => ⟨hb.1.1, fun e => ?_⟩)
              rcases hat5.out with h3 | h3
              · exact hb.1.2 (h3 ▸ e)
              · rw [h3] at e; injection e with e; have := hb.2; omega
          case measure => simp [intOf]; omega
        · have eb : ((bb : Int) == 1) = false := by simp; omega
          have hch := HCHE.out hb1e
          clear hb1e
          have HCH := Lib.hid (show (chO (some l)).1 = _ by rw [hch])
          have HSTT := Lib.hid (show (chO (some l)).2 = _ by rw [hch])
          simp only at HCH HSTT
          clear hch HCG HCHE
          have hfV1 : Fr (fun b => b = w3.heap.size) w4 (w4.setCell ⟨w3.heap.size, 1, none⟩ (.bool false)) := (Fr.refl _ w4).set1 1 _
          have hV1 : Blk (w4.setCell ⟨w3.heap.size, 1, none⟩ (.bool false)) w3.heap.size 78 #[.int .i64 (a : Int), .bool false, .int .i64 0, .slice none 0 0, .slice none 0 0] := hV4.put 1 _
          have hb0V := hb04.fr hfV1 (by omega)
          have hb1V := hb14.fr hfV1 (by omega)
          have hrowV := hrow4.out (w4.setCell ⟨w3.heap.size, 1, none⟩ (.bool false)) hfV1
          have hfrV : Fr No w (w4.setCell ⟨w3.heap.size, 1, none⟩ (.bool false)) := hfr4.trans hfV1 (fun b hb hT => by have := HB0.out; omega)
          have hsV := hs4.fr hfV1 (by omega) (fun b hb => by have := hb.2; omega)
          (have v0 := hV4.cell 0; have v1 := hV4.cell 1; have v2 := hV4.cell 2; have v3 := hV4.cell 3; have v4 := hV4.cell 4; have vf0 := hV4.frozen 0; have vf1 := hV4.frozen 1; have vf2 := hV4.frozen 2; have vf3 := hV4.frozen 3; have vf4 := hV4.frozen 4; simp only [List.getElem?_toArray, List.getElem?_cons_zero, List.getElem?_cons_succ] at v0 v1 v2 v3 v4)
          go_wp2_with fail
          refine (refobj_calls _ g s2' _ hsV).mono ?_
          rintro e w6 ⟨cs6, rfl, hret6, hs6, hf6⟩
          obtain ⟨⟨n1, A1, L1, c1, D1, m1, d1, rfl⟩, hown6⟩ := id hret6
          clear v0 v1 v2 v3 v4 vf0 vf1 vf2 vf3 vf4
          have hV6 := hV1.fr hf6 (by omega)
          have hb06 := hb0V.fr hf6 (by omega)
          have hb16 := hb1V.fr hf6 (by omega)
          have hfr6 : Fr No w w6 := hfrV.trans hf6 (fun b hb hT => by have := HB0.out; omega)
          have hzV := hfV1.size
          have hlV := hV6.lt
          have hol := objO_len s2'
          obtain ⟨⟨ob, s3'⟩, hq⟩ : ∃ p, objO s2' = p := ⟨_, rfl⟩
          rw [hq] at HCH HSTT hret6
          simp only [hq] at hs6 hol
          simp only at HCH HSTT
          clear hq hown6
          have hfS : Fr (fun b => b = w3.heap.size) w6 (((w6.setCell ⟨w3.heap.size, 2, none⟩ (.int .i64 n1)).setCell ⟨w3.heap.size, 3, none⟩ (.slice A1 L1 c1)).setCell ⟨w3.heap.size, 4, none⟩ (.slice D1 m1 d1)) := (((Fr.refl _ w6).set1 _ _).set1 _ _).set1 _ _
          have hvZ : Blk (((w6.setCell ⟨w3.heap.size, 2, none⟩ (.int .i64 n1)).setCell ⟨w3.heap.size, 3, none⟩ (.slice A1 L1 c1)).setCell ⟨w3.heap.size, 4, none⟩ (.slice D1 m1 d1)) w3.heap.size 78 #[.int .i64 (a : Int), .bool false, .int .i64 n1, .slice A1 L1 c1, .slice D1 m1 d1] := ((hV6.put 2 _).put 3 _).put 4 _
          have hb0Z := hb06.fr hfS (by omega)
          have hb1Z := hb16.fr hfS (by omega)
          have hrowZ := HROW2.out (w4.setCell ⟨w3.heap.size, 1, none⟩ (.bool false)) hfV1 w6 hf6 (((w6.setCell ⟨w3.heap.size, 2, none⟩ (.int .i64 n1)).setCell ⟨w3.heap.size, 3, none⟩ (.slice A1 L1 c1)).setCell ⟨w3.heap.size, 4, none⟩ (.slice D1 m1 d1)) hfS
          have hfrZ : Fr No w _ := hfr6.trans hfS (fun b hb hT => by have := HB0.out; omega)
          have hsZ := hs6.fr hfS (by omega) (fun b hb => by have := hb.2; omega)
          have HCC : Hid (s3'.isSome = true → ChC (((w6.setCell ⟨w3.heap.size, 2, none⟩ (.int .i64 n1)).setCell ⟨w3.heap.size, 3, none⟩ (.slice A1 L1 c1)).setCell ⟨w3.heap.size, 4, none⟩ (.slice D1 m1 d1)) (fun b => B1 + 1 ≤ b ∧ ¬ (Value.slice A k c).ownBlock = some b) [.int .i64 (a : Int), .bool false, .int .i64 n1, .slice A1 L1 c1, .slice D1 m1 d1] ⟨a, false, ob⟩) := Lib.hid (fun hg =>
            ((ObjRet.ch (n := a) (g := false) hret6 hg (by have := hol hg; simp only; omega) (by have := hol hg; simp only; omega)).keep hfS (fun b hb hT => by omega)).mono (fun b hl hb => ⟨by omega, fun e => by have := hrowlt.out b e; omega⟩))
          (have v0 := hV6.cell 0; have v1 := hV6.cell 1; have v2 := hV6.cell 2; have v3 := hV6.cell 3; have v4 := hV6.cell 4; have vf0 := hV6.frozen 0; have vf1 := hV6.frozen 1; have vf2 := hV6.frozen 2; have vf3 := hV6.frozen 3; have vf4 := hV6.frozen 4; simp only [List.getElem?_toArray, List.getElem?_cons_zero, List.getElem?_cons_succ] at v0 v1 v2 v3 v4)
          go_upto_region 12 with fail
          generalize hwQ : ((w6.setCell ⟨w3.heap.size, 2, none⟩ (.int .i64 n1)).setCell ⟨w3.heap.size, 3, none⟩ (.slice A1 L1 c1)).setCell ⟨w3.heap.size, 4, none⟩ (.slice D1 m1 d1) = wQ at *
          clear hwQ
          obtain ⟨xs, hxs, hxc⟩ := hrowZ
          have hv4' := hvZ.all
          have hl14 := hb1Z.lt
          (have r0 := hb1Z.cell 0; have r1 := hb1Z.cell 1; have rf0 := hb1Z.frozen 0; have rf1 := hb1Z.frozen 1; simp only [List.getElem?_toArray, List.getElem?_cons_zero, List.getElem?_cons_succ] at r0 r1)
          go_wp2_with (first
            | (refine wpList_ldA ag_chr rfl _ rfl ⟨w3.heap.size, 0, none⟩ [.int .i64 (a : Int), .bool false, .int .i64 n1, .slice A1 L1 c1, .slice D1 m1 d1] rfl rfl hv4' ?_)
            | (refine wpList_app_hid so_chr rfl (hxs.alloc _) ((Blk.new _ _ _).rd (size := 5) (n := 1) (by rfl) (by decide)) (by intro u hu; simp at hu; rcases hu with rfl | rfl | rfl | rfl | rfl <;> rfl) (by omega) (by simp; omega) rfl rfl rfl ?_; intro v5 w5 hown5 hg5 hat5; obtain ⟨A5, c5, rfl, hc5, hc5m, _⟩ := own_form hown5; have hb15 := (hb1Z.alloc (.cells #[.int .i64 (a : Int), .bool false, .int .i64 n1, .slice A1 L1 c1, .slice D1 m1 d1] 78)).grown hg5 (fun hh => by have := (hxs.lt B1 hh.symm).1; omega); (have z0 := hb15.cell 0; have z1 := hb15.cell 1; have zf0 := hb15.frozen 0; have zf1 := hb15.frozen 1; simp only [List.getElem?_toArray, List.getElem?_cons_zero, List.getElem?_cons_succ] at z0 z1))
            | fail)
          have hfA5 : Fr No wQ (wQ.alloc (.cells #[.int .i64 (a : Int), .bool false, .int .i64 n1, .slice A1 L1 c1, .slice D1 m1 d1] 78)) := (Fr.refl No wQ).alloc _
          have hb05 := (hb0Z.alloc (.cells #[.int .i64 (a : Int), .bool false, .int .i64 n1, .slice A1 L1 c1, .slice D1 m1 d1] 78)).grown hg5 (fun hh => by have := (hxs.lt B0 hh.symm).1; omega)
          have hlw := fun b (hb : (Value.slice A k c).ownBlock = some b) => (hxs.lt b hb).1
          have hf45 : Fr (fun b => (Value.slice A k c).ownBlock = some b) wQ w5 := (hfA5.mono (fun _ _ hn => hn.elim)).trans ((Fr.refl _ _).grown hg5 (fun q hq => .inr hq)) (fun b hb hh => hh)
          have hfB : Fr No w w5 := (hfrZ.alloc _).grown hg5 (fun q hq => .inl (by have := hlw q hq; have := HB0.out; omega))
          go_roundw
          case rel =>
            refine ⟨k + 1, acc ++ [⟨a, false, ob⟩], A5, c5, s3', by omega, by go_num, (hsZ.fr hf45 (fun hh => by have := hlw g hh; omega) (fun b hb hh => by have := hlw b hh; have := hb.2; omega)).fr ((Fr.refl (fun b => b = B1) w5).set1 1 _) (by omega) (fun b hb => by have := hb.2; omega), Lib.hid ?_, hb05.far (by simp; omega) _, hb15.put 1 (.slice A5 (k + 1) c5), ?_, hfB.set (.inl (by simp; have := HB0.out; omega)) _⟩
            · have h9 := HSTEP.out
              rw [HCH.out, HSTT.out] at h9; exact h9
            · refine RowJ.fr (S := fun b => b = B1) ⟨xs ++ [.int .i64 (a : Int), .bool false, .int .i64 n1, .slice A1 L1 c1, .slice D1 m1 d1], hown5, fun hg => ?_⟩ ((Fr.refl (fun b => b = B1) w5).set1 1 _) (fun b hb _ hT => by omega)
              obtain ⟨e1, e2⟩ := hxc rfl
              have hrow5 := ChRow.app (T := 78) (base := B1 + 1) (e2.keep hfA5 (fun _ _ hn => hn)) ((HCC.out hg).keep hfA5 (fun _ _ hn => hn)) (by rw [e1]; exact hown5) hg5 hat5
              obtain ⟨ys, k1, k2⟩ := hrow5
              refine ⟨by rw [List.length_append, e1]; rfl, ?_⟩
              have h8 := (ChsC.snoc ((HCC.out hg).keep hfA5 (fun _ _ hn => hn)) (e2.keep hfA5 (fun _ _ hn => hn))).lt
              have hfG : Fr (fun b => (Value.slice A k c).ownBlock = some b) (wQ.alloc (.cells #[.int .i64 (a : Int), .bool false, .int .i64 n1, .slice A1 L1 c1, .slice D1 m1 d1] 78)) w5 := (Fr.refl _ _).grown hg5 (fun q hq => .inr hq)
              refine (h8.keep hfG (fun b hb hT => hb.1.2 hT)).mono (fun b _ hb => ⟨hb.1.1, fun e => ?_⟩)
              rcases hat5.out with h3 | h3
              · exact hb.1.2 (h3 ▸ e)
              · rw [h3] at e; injection e with e; have := hb.2; omega
          case measure => simp [intOf]; omega
  case rest =>
    obtain ⟨k, acc, A, c, hac, hsc, HA, hb0', hb1', hrow, hfr⟩ := hcut
    clear hb0 hb1 hs2
    obtain ⟨⟨vs, s3⟩, hq⟩ : ∃ p, chsO n s2 = p := ⟨_, rfl⟩
    simp only [hq] at hsc HA hrow
    have HQ3 := Lib.hid hq
    clear hq
    obtain ⟨Ag, lg, cg, hbg, hrg, hcg, hcmg, hhg, hSg⟩ := hsc
    (have p0 := hbg.cell 0; have p1 := hbg.cell 1; have pf0 := hbg.frozen 0; have pf1 := hbg.frozen 1; simp only [List.getElem?_toArray, List.getElem?_cons_zero, List.getElem?_cons_succ] at p0 p1)
    (have q0 := hb0'.cell 0; have q1 := hb0'.cell 1; have qf0 := hb0'.frozen 0; have qf1 := hb0'.frozen 1; simp only [List.getElem?_toArray, List.getElem?_cons_zero, List.getElem?_cons_succ] at q0 q1)
    (have r0 := hb1'.cell 0; have r1 := hb1'.cell 1; have rf0 := hb1'.frozen 0; have rf1 := hb1'.frozen 1; simp only [List.getElem?_toArray, List.getElem?_cons_zero, List.getElem?_cons_succ] at r0 r1)
    cases s3 with
    | none =>
      simp only [Option.isNone_none] at p1
      have HE := Lib.hid (getR_none HQ1.out HQ2.out HQ3.out)
      go_wp2_with fail
      have hbz := (hb0'.put 0 (.int .i64 0)).put 1 (.slice none 0 0)
      have hfz : Fr (fun b => b = B0) wc ((wc.setCell ⟨B0, 0, none⟩ (.int .i64 0)).setCell ⟨B0, 1, none⟩ (.slice none 0 0)) := ((Fr.refl _ wc).set1 _ _).set1 _ _
      refine bodyPost_ret (results_blk2 ag_recr rfl _ _ _ _ _ _ rfl rfl hbz rfl) rfl ?_
      rw [HE.out]
      exact ⟨[.int .i64 0, .slice none 0 0], rfl, ⟨none, 0, rfl, RdCh.nil_⟩, hfr.trans hfz (fun b hb hT => by have := HB0.out; omega)⟩
    | some l3 =>
      obtain rfl : lg = l3 := (hhg l3 rfl).symm
      simp only [Option.isNone_some] at p1
      clear hhg
      have hav := HA.out rfl
      subst hav
      clear HA
      obtain ⟨xs, hx1, hx2⟩ := hrow
      obtain ⟨rfl, hx3⟩ := hx2 rfl
      have hrow : ChRow wc 78 (B1 + 1) (.slice A acc.length c) acc := ⟨xs, hx1, hx3⟩
      clear hx1 hx2 hx3
      cases lg with
      | cons x t =>
        have HE := Lib.hid (getR_more HQ1.out HQ2.out HQ3.out)
        simp only [List.length_cons] at p0
        have e1 : decide ((0 : Int) < (t.length : Int) + 1) = true := by first | (simp; done) | (simp; omega)
        go_wp2_with fail
        have hbz := (hb0'.put 0 (.int .i64 0)).put 1 (.slice none 0 0)
        have hfz : Fr (fun b => b = B0) wc ((wc.setCell ⟨B0, 0, none⟩ (.int .i64 0)).setCell ⟨B0, 1, none⟩ (.slice none 0 0)) := ((Fr.refl _ wc).set1 _ _).set1 _ _
        refine bodyPost_ret (results_blk2 ag_recr rfl _ _ _ _ _ _ rfl rfl hbz rfl) rfl ?_
        rw [HE.out]
        exact ⟨[.int .i64 0, .slice none 0 0], rfl, ⟨none, 0, rfl, RdCh.nil_⟩, hfr.trans hfz (fun b hb hT => by have := HB0.out; omega)⟩
      | nil =>
        have HE0 := Lib.hid (getR_end HQ1.out HQ2.out HQ3.out)
        simp only [List.length_nil] at p0
        have hrec : RecC wc (fun b => B1 + 1 ≤ b) [.int .i64 cm, .slice A acc.length c] ⟨cm, acc⟩ := ⟨A, c, rfl, hrow.rd (by omega)⟩
        have hball := hb1'.all
        go_wp2_with (first
          | (refine wpList_ldA ag_recr rfl _ rfl ⟨B1, 0, none⟩ [.int .i64 cm, .slice A acc.length c] rfl rfl hball ?_)
          | fail)
        refine (refrightr_calls _ _ ⟨cm, acc⟩ _ hrec).mono ?_
        rintro e w8 ⟨rfl, hf8⟩
        have hb08 := hb0'.fr0 hf8
        have hb18 := hb1'.fr0 hf8
        have hrec8 := hrec.fr0 hf8
        have hfr8 := hfr.tr hf8
        clear q0 q1 qf0 qf1 r0 r1 rf0 rf1 p0 p1 pf0 pf1
        (have q0 := hb08.cell 0; have q1 := hb08.cell 1; have qf0 := hb08.frozen 0; have qf1 := hb08.frozen 1; simp only [List.getElem?_toArray, List.getElem?_cons_zero, List.getElem?_cons_succ] at q0 q1)
        (have r0 := hb18.cell 0; have r1 := hb18.cell 1; have rf0 := hb18.frozen 0; have rf1 := hb18.frozen 1; simp only [List.getElem?_toArray, List.getElem?_cons_zero, List.getElem?_cons_succ] at r0 r1)
        cases hr : rightR ⟨cm, acc⟩ with
        | false =>
          rw [hr, if_neg (by decide)] at HE0
          have HE := HE0
          clear hr
          go_wp2_with fail
          have hbz := (hb08.put 0 (.int .i64 0)).put 1 (.slice none 0 0)
          have hfz : Fr (fun b => b = B0) w8 ((w8.setCell ⟨B0, 0, none⟩ (.int .i64 0)).setCell ⟨B0, 1, none⟩ (.slice none 0 0)) := ((Fr.refl _ w8).set1 _ _).set1 _ _
          refine bodyPost_ret (results_blk2 ag_recr rfl _ _ _ _ _ _ rfl rfl hbz rfl) rfl ?_
          rw [HE.out]
          exact ⟨[.int .i64 0, .slice none 0 0], rfl, ⟨none, 0, rfl, RdCh.nil_⟩, hfr8.trans hfz (fun b hb hT => by have := HB0.out; omega)⟩
        | true =>
          rw [hr, if_pos rfl] at HE0
          clear hr
          go_wp2_with fail
          have hbz := (hb08.put 0 (.int .i64 cm)).put 1 (.slice A acc.length c)
          have hfz : Fr (fun b => b = B0) w8 ((w8.setCell ⟨B0, 0, none⟩ (.int .i64 cm)).setCell ⟨B0, 1, none⟩ (.slice A acc.length c)) := ((Fr.refl _ w8).set1 _ _).set1 _ _
          refine bodyPost_ret (results_blk2 ag_recr rfl _ _ _ _ _ _ rfl rfl hbz rfl) rfl ?_
          rw [HE0.out]
          refine ⟨[.int .i64 cm, .slice A acc.length c], rfl, ?_, hfr8.trans hfz (fun b hb hT => by have := HB0.out; omega)⟩
          rw [HB0.out]
          exact (hrec8.fr hfz (fun b hb hT => by omega)).mono (fun b _ hb => by omega)
end Go.Proofs.Ytfgkioigbnlkkaa
