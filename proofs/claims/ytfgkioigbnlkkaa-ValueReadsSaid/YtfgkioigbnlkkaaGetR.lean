/- GetRecord of value. No condition but that a slice can hold the bytes. -/
import Derived.Test.YtfgkioigbnlkkaaRightR
import Derived.Test.YtfgkioigbnlkkaaGet
namespace Go.Proofs.Ytfgkioigbnlkkaa
set_option linter.unusedVariables false
set_option linter.unusedSimpArgs false
open Go.RowKit

theorem so_chp : SliceOf Try.prog 50 79 (.agg #[.int .i64 0, .bool false, .int .i64 0, .slice none 0 0, .slice none 0 0]) 5 72 := ⟨Try.underlying50, by kernel_rfl, rfl, by decide, by decide, by decide⟩
theorem so_chr : SliceOf Try.prog 47 78 (.agg #[.int .i64 0, .bool false, .int .i64 0, .slice none 0 0, .slice none 0 0]) 5 72 := ⟨Try.underlying47, by kernel_rfl, rfl, by decide, by decide, by decide⟩
/-- What GetRecord hands back: a record that reads from new memory, or none and an error. -/
def RetR (w w' : World) (e : Ending) (r : Option RecM) : Prop :=
  ∃ cs : List Value, e = .returned (.tuple #[.agg cs.toArray, .int .i64 (if r.isSome = true then 0 else 11)]) ∧ RecC w' (fun b => w.heap.size ≤ b) cs (r.getD ⟨0, []⟩) ∧ Fr No w w'
theorem chO_gone {s : St} (h : (oneO 1 (numO 4096 s).2).1 = 1) : chO s = (⟨(numO 4096 s).1, true, noObj⟩, (oneO 1 (numO 4096 s).2).2) := by unfold chO; rw [if_pos h]
theorem chO_here {s : St} (h : ¬ (oneO 1 (numO 4096 s).2).1 = 1) : chO s = (⟨(numO 4096 s).1, false, (objO (oneO 1 (numO 4096 s).2).2).1⟩, (objO (oneO 1 (numO 4096 s).2).2).2) := by unfold chO; rw [if_neg h]
theorem getR_none {l : List UInt8} {a b : Nat} {s1 s2 : St} {cs : List ChM} (h1 : numO 1099511627776 (some l) = (a, s1)) (h2 : numO 4096 s1 = (b, s2)) (h3 : chsO b s2 = (cs, none)) : getR l = none := by
  unfold getR recO; rw [h1]; simp only; rw [h2]; simp only; rw [h3]
theorem getR_more {l : List UInt8} {a b : Nat} {s1 s2 : St} {cs : List ChM} {x : UInt8} {t : List UInt8} (h1 : numO 1099511627776 (some l) = (a, s1)) (h2 : numO 4096 s1 = (b, s2)) (h3 : chsO b s2 = (cs, some (x :: t))) : getR l = none := by
  unfold getR recO; rw [h1]; simp only; rw [h2]; simp only; rw [h3]
theorem getR_end {l : List UInt8} {a b : Nat} {s1 s2 : St} {cs : List ChM} (h1 : numO 1099511627776 (some l) = (a, s1)) (h2 : numO 4096 s1 = (b, s2)) (h3 : chsO b s2 = (cs, some [])) : getR l = if rightR ⟨a, cs⟩ then some ⟨a, cs⟩ else none := by
  unfold getR recO; rw [h1]; simp only; rw [h2]; simp only; rw [h3]
/-- What an object's call hands back, where it went well, reads so. -/
theorem ObjRet.ch {w : World} {B n : Nat} {g : Bool} {cs : List Value} {r : ObjM × St} (h : ObjRet w B cs r) (hs : r.2.isSome = true) (h1 : r.1.slots.length ≤ 211106232532992) (h2 : r.1.bytes.length ≤ 211106232532992) : ChC w (fun b => B ≤ b) (.int .i64 (n : Int) :: .bool g :: cs) ⟨n, g, r.1⟩ := by
  have h3 := (h.2 hs).rd h1 h2
  obtain ⟨A, c, D, d, rfl, h4, h5⟩ := h3
  exact ⟨A, c, D, d, rfl, h4, h5⟩
theorem objO_len (s : St) (h : (objO s).2.isSome = true) : (objO s).1.slots.length ≤ 256 ∧ (objO s).1.bytes.length ≤ 1024 := by
  cases s with
  | none => unfold objO at h; cases h
  | some l =>
    obtain ⟨r, hr⟩ := Option.isSome_iff_exists.1 h
    obtain ⟨h1, _⟩ := objO_get l r (objO (some l)).1 (by rw [← hr])
    obtain ⟨_, _, h3, h4, _⟩ := rightO_parts h1
    exact ⟨h3, h4⟩

set_option maxHeartbeats 8000000 in
set_option maxRecDepth 100000 in
theorem vgetr_calls (S : Nat → Prop) (A : Option Addr) (c : Nat) (l : List UInt8) (w : World) (h : RdB w S A l) (hc : l.length ≤ c) (hcm : c ≤ maxLen) :
    Calls Try.prog 36 #[.slice A l.length c] w fun e w' => RetR w w' e (getR l) := by
  have hlen := h.le
  replace h : RdB w (fun b => S b ∧ b < w.heap.size) A l := Rd.lt h (by decide)
  have g1 := plain_int
  have g2 := plain_i64
  have g4 := plain_lval
  have g5 := plain_lu8
  have g6 := plain_bool
  have g7 := plain_lchp
  have hs0 : ScanAt 68 ((w.alloc (.cells #[.int .i64 0, .slice none 0 0] 52)).alloc (.cells #[.slice A l.length c, .bool false] 68)) (fun b => S b ∧ b < w.heap.size) (w.heap.size + 1) (some l) :=
    ⟨A, l, c, Blk.newAt (by simp), Rd.alloc (Rd.alloc h _) _, hc, hcm, (fun l' h => by injection h with h; exact h.symm), fun hh => by have := hh.2; omega⟩
  have hbr : Blk ((w.alloc (.cells #[.int .i64 0, .slice none 0 0] 52)).alloc (.cells #[.slice A l.length c, .bool false] 68)) w.heap.size 52 #[.int .i64 0, .slice none 0 0] := (Blk.new w _ _).alloc _
  have hf0 : Fr No w ((w.alloc (.cells #[.int .i64 0, .slice none 0 0] 52)).alloc (.cells #[.slice A l.length c, .bool false] 68)) := ((Fr.refl No w).alloc _).alloc _
  go_enter Try.func36, Try.ntmps36
  go_wp2_with fail
  go_step3
  go_wp2_with fail
  generalize hw0 : (w.alloc (.cells #[.int .i64 0, .slice none 0 0] 52)).alloc (.cells #[.slice A l.length c, .bool false] 68) = w0 at *
  clear hw0
  have hl0 := hs0.lt
  refine (num_calls _ (w.heap.size + 1) 1099511627776 (some l) _ hs0 (by decide)).mono ?_
  rintro e w1 ⟨rfl, hs1, hf1⟩
  have hb0 := hbr.fr hf1 (by omega)
  have hl1 := hs1.lt
  have hF1 : Fr No w w1 := hf0.trans hf1 (fun b hb hT => by omega)
  have hle1 := numO_le 1099511627776 (some l)
  obtain ⟨⟨cm, s1⟩, hq⟩ : ∃ p, numO 1099511627776 (some l) = p := ⟨_, rfl⟩
  simp only [hq] at hs1 hle1 ⊢
  have HQ1 := Lib.hid hq
  clear hq hs0 hbr
  go_wp2_with fail
  go_step3
  go_wp2_with fail
  refine (num_calls _ (w.heap.size + 1) 4096 s1 _ (hs1.fr0 ((Fr.refl No w1).alloc _)) (by decide)).mono ?_
  rintro e w2 ⟨rfl, hs2, hf2⟩
  have hb1 := (Blk.new w1 52 #[.int .i64 cm, .slice none 0 0]).fr hf2 (by omega)
  replace hb0 := (hb0.alloc (.cells #[.int .i64 cm, .slice none 0 0] 52)).fr hf2 (by omega)
  have hF2 : Fr No w w2 := (hF1.alloc (.cells #[.int .i64 cm, .slice none 0 0] 52)).trans hf2 (fun b hb hT => by omega)
  have hle2 := numO_le 4096 s1
  have hnn : (numO 4096 s1).2 = none → (numO 4096 s1).1 = 0 := fun hh => by
    unfold numO at hh ⊢
    split
    · rfl
    · split
      · rename_i l _ hc; simp only at hh; rw [if_pos hc] at hh; cases hh
      · rfl
  obtain ⟨⟨n, s2⟩, hq⟩ : ∃ p, numO 4096 s1 = p := ⟨_, rfl⟩
  simp only [hq] at hs2 hle2 hnn ⊢
  have HQ2 := Lib.hid hq
  have HNN := Lib.hid hnn
  obtain ⟨B0, hB0⟩ : ∃ B0, w.heap.size = B0 := ⟨_, rfl⟩
  obtain ⟨B1, hB1⟩ : ∃ B1, w1.heap.size = B1 := ⟨_, rfl⟩
  obtain ⟨g, hg⟩ : ∃ g, B0 + 1 = g := ⟨_, rfl⟩
  have hB01 : B0 < B1 := by omega
  have hgB0 : B0 < g := by omega
  have hgB1 : g < B1 := by omega
  have HB0 := Lib.hid hB0
  simp only [hB0, hB1, hg] at hb0 hb1 hs2 hl1 ⊢
  clear hq hnn hs1 hf1 hf2 h hF1 hf0 hB0 hB1 hg hl0 hl1
  go_upto_block 0 with fail
  go_cut [] (fun wx => ∃ (acc : List ChM) (A : Option Addr) (c : Nat), acc.length ≤ 4096 ∧ ScanAt 68 wx (fun b => S b ∧ b < B0) g (chsO n s2).2 ∧ Hid ((chsO n s2).2.isSome = true → acc = (chsO n s2).1) ∧
      Blk wx B0 52 #[.int .i64 0, .slice none 0 0] ∧ Blk wx B1 52 #[.int .i64 cm, .slice A acc.length c] ∧ ChRow wx 79 (B1 + 1) (.slice A acc.length c) acc ∧ Fr No w wx)
  case first =>
    go_wp2_with fail
    go_loopw [6] (fun i wr => ∃ (m : Nat) (acc : List ChM) (A : Option Addr) (c : Nat) (sK : St), i = .int .u64 (m : Int) ∧ acc.length + m ≤ 4096 ∧ ScanAt 68 wr (fun b => S b ∧ b < B0) g sK ∧ Hid (sK = none → m = 0) ∧ Hid (chsO n s2 = (acc ++ (chsO m sK).1, (chsO m sK).2)) ∧
      Blk wr B0 52 #[.int .i64 0, .slice none 0 0] ∧ Blk wr B1 52 #[.int .i64 cm, .slice A acc.length c] ∧ ChRow wr 79 (B1 + 1) (.slice A acc.length c) acc ∧ Fr No w wr) (fun i _ => (intOf i).toNat)
    case atStart => exact ⟨n, [], none, 0, s2, rfl, by simpa using hle2, hs2, HNN, Lib.hid (by simp), hb0, hb1, ChRow.start _ _ _, hF2⟩
    case round =>
      obtain ⟨m, acc, A, c, sK, rfl, hm, hsK, HZ, HV, hb0', hb1', hrow, hfr⟩ := hrel
      cases m with
      | zero =>
        go_wp2
        go_meet
        case rel =>
          refine ⟨acc, A, c, by omega, ?_, Lib.hid (fun _ => ?_), hb0', hb1', hrow, hfr⟩
          · rw [HV.out]; exact hsK
          · rw [HV.out]; simp [chsO]
      | succ m =>
        cases sK with
        | none => have := HZ.out rfl; omega
        | some l =>
        have hm1 : ((m + 1 : Nat) : Int) = (m : Int) + 1 := by omega
        rw [hm1]
        clear hm1
        have hle4 := oneO_le 1 (numO 4096 (some l)).2
        have hlea := numO_le 4096 (some l)
        have hCG := @chO_gone (some l)
        have hCH := @chO_here (some l)
        go_wp2_with fail
        refine (num_calls _ g 4096 (some l) _ hsK (by decide)).mono ?_
        rintro e w3 ⟨rfl, hs3, hf3⟩
        have hb03 := hb0'.fr hf3 (by omega)
        have hb13 := hb1'.fr hf3 (by omega)
        have hrow3 := hrow.fr hf3 (fun b hb hT => by omega)
        have hfr3 : Fr No w w3 := hfr.trans hf3 (fun b hb hT => by have := HB0.out; omega)
        obtain ⟨⟨a, s1'⟩, hq⟩ : ∃ p, numO 4096 (some l) = p := ⟨_, rfl⟩
        simp only [hq] at hs3 hle4 hlea hCG hCH ⊢
        clear hq
        go_wp2_with fail
        refine (one_calls _ g 1 s1' _ hs3 (by decide)).mono ?_
        rintro e w4 ⟨rfl, hs4, hf4⟩
        have hb04 := hb03.fr hf4 (by omega)
        have hb14 := hb13.fr hf4 (by omega)
        have hrow4 := hrow3.fr hf4 (fun b hb hT => by omega)
        have hfr4 : Fr No w w4 := hfr3.trans hf4 (fun b hb hT => by have := HB0.out; omega)
        have hl4 := hb14.lt
        obtain ⟨⟨bb, s2'⟩, hq⟩ : ∃ p, oneO 1 s1' = p := ⟨_, rfl⟩
        simp only [hq] at hs4 hle4 hCG hCH ⊢
        clear hq hb03 hb13 hrow3 hfr3 hb0' hb1' hrow hfr hsK hs3
        by_cases hb1e : bb = 1
        · subst hb1e
          have hch := hCG rfl
          clear hCG hCH
          have HCH := Lib.hid (show (chO (some l)).1 = _ by rw [hch])
          have HSTT := Lib.hid (show (chO (some l)).2 = _ by rw [hch])
          simp only at HCH HSTT
          clear hch
          have hfA : Fr No w4 (w4.alloc (.cells #[.int .i64 (a : Int), .bool true, .int .i64 0, .slice none 0 0, .slice none 0 0] 79)) := (Fr.refl No w4).alloc _
          have hvZ := Blk.new w4 79 #[.int .i64 (a : Int), .bool true, .int .i64 0, .slice none 0 0, .slice none 0 0]
          have hb0Z := hb04.fr0 hfA
          have hb1Z := hb14.fr0 hfA
          have hrowZ := hrow4.fr0 hfA
          have hfrZ := hfr4.tr hfA
          have hsZ := hs4.fr0 hfA
          have hcc : ChC (w4.alloc (.cells #[.int .i64 (a : Int), .bool true, .int .i64 0, .slice none 0 0, .slice none 0 0] 79)) (fun b => B1 + 1 ≤ b ∧ ¬ (Value.slice A acc.length c).ownBlock = some b) [.int .i64 (a : Int), .bool true, .int .i64 0, .slice none 0 0, .slice none 0 0] ⟨a, true, noObj⟩ := ⟨none, 0, none, 0, rfl, Rd.nil_, Rd.nil_⟩
          cases s2' with
          | none =>
            have HST := HSTT
            obtain ⟨Az, lz, cz, hbz, hrz, hcz, hcmz, hhz, hSz⟩ := hsZ
            simp only [Option.isNone_none] at hbz
            have hsN : ScanAt 68 _ (fun b => S b ∧ b < B0) g none := ⟨Az, lz, cz, hbz, hrz, hcz, hcmz, hhz, hSz⟩
            (have y0 := hbz.cell 0; have y1 := hbz.cell 1; have yf0 := hbz.frozen 0; have yf1 := hbz.frozen 1; simp only [List.getElem?_toArray, List.getElem?_cons_zero, List.getElem?_cons_succ] at y0 y1)
            go_wp2
            go_meet
            case rel =>
              refine ⟨acc, A, c, by omega, ?_, Lib.hid (fun hh => ?_), hb0Z, hb1Z, hrowZ, hfrZ⟩
              · rw [HV.out, chsO_stop HST.out]; exact hsN
              · rw [HV.out, chsO_stop HST.out] at hh; cases hh
          | some l3 =>
            have HGO := HSTT
            have hsN := hsZ
            obtain ⟨Az, lz, cz, hbz, hrz, hcz, hcmz, hhz, hSz⟩ := hsZ
            simp only [Option.isNone_some] at hbz
            clear hhz hrz
            (have y0 := hbz.cell 0; have y1 := hbz.cell 1; have yf0 := hbz.frozen 0; have yf1 := hbz.frozen 1; simp only [List.getElem?_toArray, List.getElem?_cons_zero, List.getElem?_cons_succ] at y0 y1)
            go_upto_region 10 with fail
            generalize hwQ : w4.alloc (.cells #[.int .i64 (a : Int), .bool true, .int .i64 0, .slice none 0 0, .slice none 0 0] 79) = wQ at *
            clear hwQ
            clear y0 y1 yf0 yf1 hbz
            obtain ⟨xs, hxs, hxc⟩ := hrowZ
            have hv4' := hvZ.all
            have hl14 := hb1Z.lt
            (have r0 := hb1Z.cell 0; have r1 := hb1Z.cell 1; have rf0 := hb1Z.frozen 0; have rf1 := hb1Z.frozen 1; simp only [List.getElem?_toArray, List.getElem?_cons_zero, List.getElem?_cons_succ] at r0 r1)
            go_wp2_with (first
              | (refine wpList_ldA ag_chp rfl _ rfl ⟨w4.heap.size, 0, none⟩ [.int .i64 (a : Int), .bool true, .int .i64 0, .slice none 0 0, .slice none 0 0] rfl rfl hv4' ?_)
              | (refine wpList_app_hid so_chp rfl (hxs.alloc _) ((Blk.new _ _ _).rd (size := 5) (n := 1) (by rfl) (by decide)) (by intro u hu; simp at hu; rcases hu with rfl | rfl | rfl | rfl | rfl <;> rfl) (by omega) (by simp; omega) rfl rfl rfl ?_; intro v5 w5 hown5 hg5 hat5; obtain ⟨A5, c5, rfl, hc5, hc5m, _⟩ := own_form hown5; have hb15 := (hb1Z.alloc (.cells #[.int .i64 (a : Int), .bool true, .int .i64 0, .slice none 0 0, .slice none 0 0] 79)).grown hg5 (fun hh => by have := (hxs.lt B1 hh.symm).1; omega); (have z0 := hb15.cell 0; have z1 := hb15.cell 1; have zf0 := hb15.frozen 0; have zf1 := hb15.frozen 1; simp only [List.getElem?_toArray, List.getElem?_cons_zero, List.getElem?_cons_succ] at z0 z1))
              | fail)
            have hfA5 : Fr No wQ (wQ.alloc (.cells #[.int .i64 (a : Int), .bool true, .int .i64 0, .slice none 0 0, .slice none 0 0] 79)) := (Fr.refl No wQ).alloc _
            have hrow5 := ChRow.app (hxc.keep hfA5 (fun _ _ hn => hn)) (hcc.keep hfA5 (fun _ _ hn => hn)) hown5 hg5 hat5
            have hb05 := (hb0Z.alloc (.cells #[.int .i64 (a : Int), .bool true, .int .i64 0, .slice none 0 0, .slice none 0 0] 79)).grown hg5 (fun hh => by have := (hxs.lt B0 hh.symm).1; omega)
            have hlw := fun b (hb : (Value.slice A acc.length c).ownBlock = some b) => (hxs.lt b hb).1
            have hf45 : Fr (fun b => (Value.slice A acc.length c).ownBlock = some b) wQ w5 := (hfA5.mono (fun _ _ hn => hn.elim)).trans ((Fr.refl _ _).grown hg5 (fun q hq => .inr hq)) (fun b hb hh => hh)
            have hfB : Fr No w w5 := (hfrZ.alloc _).grown hg5 (fun q hq => .inl (by have := hlw q hq; have := HB0.out; omega))
            go_roundw
            case rel =>
              refine ⟨m, acc ++ [⟨a, true, noObj⟩], A5, c5, some l3, by go_num, by simp; omega, ?_, Lib.hid (fun hh => by cases hh), Lib.hid ?_, hb05.far (by simp; omega) _, ?_, ?_, ?_⟩
              · refine (hsN.fr hf45 (fun hh => by have := hlw g hh; omega) (fun b hb hh => by have := hlw b hh; omega)).fr ((Fr.refl (fun b => b = B1) w5).set1 1 _) (by omega) (fun b hb => by omega)
              · rw [HV.out, chsO_go HGO.out, HCH.out]; simp
              · have := hb15.put 1 (.slice A5 (acc.length + 1) c5)
                rw [List.length_append]; exact this
              · have hr5 := hrow5.fr ((Fr.refl (fun b => b = B1) w5).set1 1 (.slice A5 (acc.length + 1) c5)) (fun b hb hT => by omega)
                rw [List.length_append]; exact hr5
              · exact hfB.set (.inl (by simp; have := HB0.out; omega)) _
            case measure => simp [intOf]
        · have eb : ((bb : Int) == 1) = false := by simp; omega
          have hch := hCH hb1e
          clear hCG hCH hb1e
          have HCH := Lib.hid (show (chO (some l)).1 = _ by rw [hch])
          have HSTT := Lib.hid (show (chO (some l)).2 = _ by rw [hch])
          simp only at HCH HSTT
          clear hch
          have HROWV := Lib.hid (show ∀ w6, Fr (fun b => b = g) (w4.alloc (.cells #[.int .i64 (a : Int), .bool false, .int .i64 0, .slice none 0 0, .slice none 0 0] 79)) w6 → ∀ w7, Fr (fun b => b = w4.heap.size) w6 w7 → ChRow w7 79 (B1 + 1) (.slice A acc.length c) acc from fun w6 h6 w7 h7 => by
            obtain ⟨xs, k1, k2⟩ := hrow4
            have hfa : Fr (fun b => b = g ∨ b = w4.heap.size) w4 w7 := (((Fr.refl No w4).alloc _).mono (fun _ _ hn => hn.elim)).trans (h6.mono (fun b _ h => .inl h)) (fun b _ h => h) |>.trans (h7.mono (fun b _ h => .inr h)) (fun b _ h => h)
            exact ⟨xs, own_fr k1 hfa (fun b hb hT => by have := k1.lt b hb; omega), k2.lt.keep hfa (fun b hb hT => by have := hb.2; have := hb.1.1; omega) |>.mono (fun b _ hb => hb.1)⟩)
          go_wp2_with fail
          refine (obj_calls _ g s2' _ (hs4.fr0 ((Fr.refl No w4).alloc _))).mono ?_
          rintro e w6 ⟨cs6, rfl, hret6, hs6, hf6⟩
          obtain ⟨⟨n1, A1, L1, c1, D1, m1, d1, rfl⟩, hown6⟩ := id hret6
          have hV0 := (Blk.new w4 79 #[.int .i64 (a : Int), .bool false, .int .i64 0, .slice none 0 0, .slice none 0 0]).fr hf6 (by have := hs4.lt; omega)
          have hb06 := (hb04.alloc (.cells #[.int .i64 (a : Int), .bool false, .int .i64 0, .slice none 0 0, .slice none 0 0] 79)).fr hf6 (by omega)
          have hb16 := (hb14.alloc (.cells #[.int .i64 (a : Int), .bool false, .int .i64 0, .slice none 0 0, .slice none 0 0] 79)).fr hf6 (by omega)
          have hrow6 := (hrow4.fr0 ((Fr.refl No w4).alloc (.cells #[.int .i64 (a : Int), .bool false, .int .i64 0, .slice none 0 0, .slice none 0 0] 79))).fr hf6 (fun b hb hT => by omega)
          have hfr6 : Fr No w w6 := (hfr4.alloc (.cells #[.int .i64 (a : Int), .bool false, .int .i64 0, .slice none 0 0, .slice none 0 0] 79)).trans hf6 (fun b hb hT => by have := HB0.out; omega)
          have hz4 : (w4.alloc (.cells #[.int .i64 (a : Int), .bool false, .int .i64 0, .slice none 0 0, .slice none 0 0] 79)).heap.size = w4.heap.size + 1 := by simp
          rw [hz4] at hret6
          have hlV := hV0.lt
          have hgV := hs4.lt
          have hol := objO_len s2'
          obtain ⟨⟨ob, s3'⟩, hq⟩ : ∃ p, objO s2' = p := ⟨_, rfl⟩
          rw [hq] at HCH HSTT hret6
          simp only [hq] at hs6 hol
          simp only at HCH HSTT
          clear hq hz4 hown6
          have hfS : Fr (fun b => b = w4.heap.size) w6 (((w6.setCell ⟨w4.heap.size, 2, none⟩ (.int .i64 n1)).setCell ⟨w4.heap.size, 3, none⟩ (.slice A1 L1 c1)).setCell ⟨w4.heap.size, 4, none⟩ (.slice D1 m1 d1)) := (((Fr.refl _ w6).set1 _ _).set1 _ _).set1 _ _
          have hvZ : Blk (((w6.setCell ⟨w4.heap.size, 2, none⟩ (.int .i64 n1)).setCell ⟨w4.heap.size, 3, none⟩ (.slice A1 L1 c1)).setCell ⟨w4.heap.size, 4, none⟩ (.slice D1 m1 d1)) w4.heap.size 79 #[.int .i64 (a : Int), .bool false, .int .i64 n1, .slice A1 L1 c1, .slice D1 m1 d1] := ((hV0.put 2 _).put 3 _).put 4 _
          have hb0Z := hb06.fr hfS (by omega)
          have hb1Z := hb16.fr hfS (by omega)
          have hrowlt := Lib.hid (show ∀ b, (Value.slice A acc.length c).ownBlock = some b → b < w4.heap.size from fun b hb => by obtain ⟨xs, h1, _⟩ := hrow4; exact (h1.lt b hb).2)
          have hrowZ : ChRow (((w6.setCell ⟨w4.heap.size, 2, none⟩ (.int .i64 n1)).setCell ⟨w4.heap.size, 3, none⟩ (.slice A1 L1 c1)).setCell ⟨w4.heap.size, 4, none⟩ (.slice D1 m1 d1)) 79 (B1 + 1) (.slice A acc.length c) acc := HROWV.out w6 hf6 _ hfS
          have hfrZ : Fr No w _ := hfr6.trans hfS (fun b hb hT => by have := HB0.out; omega)
          have hsZ := hs6.fr hfS (by omega) (fun b hb => by omega)
          (have v0 := hV0.cell 0; have v1 := hV0.cell 1; have v2 := hV0.cell 2; have v3 := hV0.cell 3; have v4 := hV0.cell 4; have vf0 := hV0.frozen 0; have vf1 := hV0.frozen 1; have vf2 := hV0.frozen 2; have vf3 := hV0.frozen 3; have vf4 := hV0.frozen 4; simp only [List.getElem?_toArray, List.getElem?_cons_zero, List.getElem?_cons_succ] at v0 v1 v2 v3 v4)
          cases s3' with
          | none =>
            have HST := HSTT
            obtain ⟨Az, lz, cz, hbz, hrz, hcz, hcmz, hhz, hSz⟩ := hsZ
            simp only [Option.isNone_none] at hbz
            have hsN : ScanAt 68 _ (fun b => S b ∧ b < B0) g none := ⟨Az, lz, cz, hbz, hrz, hcz, hcmz, hhz, hSz⟩
            (have y0 := hbz.cell 0; have y1 := hbz.cell 1; have yf0 := hbz.frozen 0; have yf1 := hbz.frozen 1; simp only [List.getElem?_toArray, List.getElem?_cons_zero, List.getElem?_cons_succ] at y0 y1)
            go_wp2
            go_meet
            case rel =>
              refine ⟨acc, A, c, by omega, ?_, Lib.hid (fun hh => ?_), hb0Z, hb1Z, hrowZ, hfrZ⟩
              · rw [HV.out, chsO_stop HST.out]; exact hsN
              · rw [HV.out, chsO_stop HST.out] at hh; cases hh
          | some l3 =>
            have HGO := HSTT
            have hcc : ChC (((w6.setCell ⟨w4.heap.size, 2, none⟩ (.int .i64 n1)).setCell ⟨w4.heap.size, 3, none⟩ (.slice A1 L1 c1)).setCell ⟨w4.heap.size, 4, none⟩ (.slice D1 m1 d1)) (fun b => B1 + 1 ≤ b ∧ ¬ (Value.slice A acc.length c).ownBlock = some b) [.int .i64 (a : Int), .bool false, .int .i64 n1, .slice A1 L1 c1, .slice D1 m1 d1] ⟨a, false, ob⟩ :=
              ((ObjRet.ch (n := a) (g := false) hret6 rfl (by have := hol rfl; simp only; omega) (by have := hol rfl; simp only; omega)).keep hfS (fun b hb hT => by omega)).mono (fun b hl hb => ⟨by omega, fun e => by have := hrowlt.out b e; omega⟩)
            have hsN := hsZ
            obtain ⟨Az, lz, cz, hbz, hrz, hcz, hcmz, hhz, hSz⟩ := hsZ
            simp only [Option.isNone_some] at hbz
            clear hhz hrz
            (have y0 := hbz.cell 0; have y1 := hbz.cell 1; have yf0 := hbz.frozen 0; have yf1 := hbz.frozen 1; simp only [List.getElem?_toArray, List.getElem?_cons_zero, List.getElem?_cons_succ] at y0 y1)
            go_upto_region 10 with fail
            generalize hwQ : ((w6.setCell ⟨w4.heap.size, 2, none⟩ (.int .i64 n1)).setCell ⟨w4.heap.size, 3, none⟩ (.slice A1 L1 c1)).setCell ⟨w4.heap.size, 4, none⟩ (.slice D1 m1 d1) = wQ at *
            clear hwQ
            clear y0 y1 yf0 yf1 hbz
            obtain ⟨xs, hxs, hxc⟩ := hrowZ
            have hv4' := hvZ.all
            have hl14 := hb1Z.lt
            (have r0 := hb1Z.cell 0; have r1 := hb1Z.cell 1; have rf0 := hb1Z.frozen 0; have rf1 := hb1Z.frozen 1; simp only [List.getElem?_toArray, List.getElem?_cons_zero, List.getElem?_cons_succ] at r0 r1)
            go_wp2_with (first
              | (refine wpList_ldA ag_chp rfl _ rfl ⟨w4.heap.size, 0, none⟩ [.int .i64 (a : Int), .bool false, .int .i64 n1, .slice A1 L1 c1, .slice D1 m1 d1] rfl rfl hv4' ?_)
              | (refine wpList_app_hid so_chp rfl (hxs.alloc _) ((Blk.new _ _ _).rd (size := 5) (n := 1) (by rfl) (by decide)) (by intro u hu; simp at hu; rcases hu with rfl | rfl | rfl | rfl | rfl <;> rfl) (by omega) (by simp; omega) rfl rfl rfl ?_; intro v5 w5 hown5 hg5 hat5; obtain ⟨A5, c5, rfl, hc5, hc5m, _⟩ := own_form hown5; have hb15 := (hb1Z.alloc (.cells #[.int .i64 (a : Int), .bool false, .int .i64 n1, .slice A1 L1 c1, .slice D1 m1 d1] 79)).grown hg5 (fun hh => by have := (hxs.lt B1 hh.symm).1; omega); (have z0 := hb15.cell 0; have z1 := hb15.cell 1; have zf0 := hb15.frozen 0; have zf1 := hb15.frozen 1; simp only [List.getElem?_toArray, List.getElem?_cons_zero, List.getElem?_cons_succ] at z0 z1))
              | fail)
            have hfA5 : Fr No wQ (wQ.alloc (.cells #[.int .i64 (a : Int), .bool false, .int .i64 n1, .slice A1 L1 c1, .slice D1 m1 d1] 79)) := (Fr.refl No wQ).alloc _
            have hrow5 := ChRow.app (hxc.keep hfA5 (fun _ _ hn => hn)) (hcc.keep hfA5 (fun _ _ hn => hn)) hown5 hg5 hat5
            have hb05 := (hb0Z.alloc (.cells #[.int .i64 (a : Int), .bool false, .int .i64 n1, .slice A1 L1 c1, .slice D1 m1 d1] 79)).grown hg5 (fun hh => by have := (hxs.lt B0 hh.symm).1; omega)
            have hlw := fun b (hb : (Value.slice A acc.length c).ownBlock = some b) => (hxs.lt b hb).1
            have hf45 : Fr (fun b => (Value.slice A acc.length c).ownBlock = some b) wQ w5 := (hfA5.mono (fun _ _ hn => hn.elim)).trans ((Fr.refl _ _).grown hg5 (fun q hq => .inr hq)) (fun b hb hh => hh)
            have hfB : Fr No w w5 := (hfrZ.alloc _).grown hg5 (fun q hq => .inl (by have := hlw q hq; have := HB0.out; omega))
            go_roundw
            case rel =>
              refine ⟨m, acc ++ [⟨a, false, ob⟩], A5, c5, some l3, by go_num, by simp; omega, ?_, Lib.hid (fun hh => by cases hh), Lib.hid ?_, hb05.far (by simp; omega) _, ?_, ?_, ?_⟩
              · refine (hsN.fr hf45 (fun hh => by have := hlw g hh; omega) (fun b hb hh => by have := hlw b hh; omega)).fr ((Fr.refl (fun b => b = B1) w5).set1 1 _) (by omega) (fun b hb => by omega)
              · rw [HV.out, chsO_go HGO.out, HCH.out]; simp
              · have := hb15.put 1 (.slice A5 (acc.length + 1) c5)
                rw [List.length_append]; exact this
              · have hr5 := hrow5.fr ((Fr.refl (fun b => b = B1) w5).set1 1 (.slice A5 (acc.length + 1) c5)) (fun b hb hT => by omega)
                rw [List.length_append]; exact hr5
              · exact hfB.set (.inl (by simp; have := HB0.out; omega)) _
            case measure => simp [intOf]
  case rest =>
    obtain ⟨acc, A, c, hac, hsc, HA, hb0', hb1', hrow, hfr⟩ := hcut
    clear hb0 hb1 hs2
    obtain ⟨⟨vs, s3⟩, hq⟩ : ∃ p, chsO n s2 = p := ⟨_, rfl⟩
    simp only [hq] at hsc HA
    have HQ3 := Lib.hid hq
    clear hq HNN
    obtain ⟨Ag, lg, cg, hbg, hrg, hcg, hcmg, hhg, hSg⟩ := hsc
    (have p0 := hbg.cell 0; have p1 := hbg.cell 1; have pf0 := hbg.frozen 0; have pf1 := hbg.frozen 1; simp only [List.getElem?_toArray, List.getElem?_cons_zero, List.getElem?_cons_succ] at p0 p1)
    (have q0 := hb0'.cell 0; have q1 := hb0'.cell 1; have qf0 := hb0'.frozen 0; have qf1 := hb0'.frozen 1; simp only [List.getElem?_toArray, List.getElem?_cons_zero, List.getElem?_cons_succ] at q0 q1)
    (have r0 := hb1'.cell 0; have r1 := hb1'.cell 1; have rf0 := hb1'.frozen 0; have rf1 := hb1'.frozen 1; simp only [List.getElem?_toArray, List.getElem?_cons_zero, List.getElem?_cons_succ] at r0 r1)
    cases s3 with
    | none =>
      simp only [Option.isNone_none] at p1
      have HE := Lib.hid (getR_none HQ1.out HQ2.out HQ3.out)
      go_wp2_with fail
      have hbz := (hb0'.put 0 (.int .i64 0)).put 1 (.slice none 0 0)
      have hfz : Fr (fun b => b = B0) wc ((wc.setCell ⟨B0, 0, none⟩ (.int .i64 0)).setCell ⟨B0, 1, none⟩ (.slice none 0 0)) := ((Fr.refl _ wc).set1 _ _).set1 _ _
      try rw [Exit.noGoto_ret]
      refine bodyPost_ret (results_blk2 ag_recp rfl _ _ _ _ _ _ rfl rfl hbz rfl) rfl ?_
      rw [HE.out]
      exact ⟨[.int .i64 0, .slice none 0 0], rfl, ⟨none, 0, rfl, RdCh.nil_⟩, hfr.trans hfz (fun b hb hT => by have := HB0.out; omega)⟩
    | some l3 =>
      obtain rfl : lg = l3 := (hhg l3 rfl).symm
      simp only [Option.isNone_some] at p1
      clear hhg
      have hav := HA.out rfl
      subst hav
      clear HA
      cases lg with
      | cons x t =>
        have HE := Lib.hid (getR_more HQ1.out HQ2.out HQ3.out)
        simp only [List.length_cons] at p0
        have e1 : decide ((0 : Int) < (t.length : Int) + 1) = true := by first | (simp; done) | (simp; omega)
        go_wp2_with fail
        have hbz := (hb0'.put 0 (.int .i64 0)).put 1 (.slice none 0 0)
        have hfz : Fr (fun b => b = B0) wc ((wc.setCell ⟨B0, 0, none⟩ (.int .i64 0)).setCell ⟨B0, 1, none⟩ (.slice none 0 0)) := ((Fr.refl _ wc).set1 _ _).set1 _ _
        try rw [Exit.noGoto_ret]
        refine bodyPost_ret (results_blk2 ag_recp rfl _ _ _ _ _ _ rfl rfl hbz rfl) rfl ?_
        rw [HE.out]
        exact ⟨[.int .i64 0, .slice none 0 0], rfl, ⟨none, 0, rfl, RdCh.nil_⟩, hfr.trans hfz (fun b hb hT => by have := HB0.out; omega)⟩
      | nil =>
        have HE0 := Lib.hid (getR_end HQ1.out HQ2.out HQ3.out)
        simp only [List.length_nil] at p0
        have hrec : RecC wc (fun b => B1 + 1 ≤ b) [.int .i64 cm, .slice A acc.length c] ⟨cm, acc⟩ := ⟨A, c, rfl, hrow.rd (by omega)⟩
        have hball := hb1'.all
        go_wp2_with (first
          | (refine wpList_ldA ag_recp rfl _ rfl ⟨B1, 0, none⟩ [.int .i64 cm, .slice A acc.length c] rfl rfl hball ?_)
          | fail)
        refine (vrightr_calls _ _ ⟨cm, acc⟩ _ hrec).mono ?_
        rintro e w8 ⟨rfl, hf8⟩
        have hb08 := hb0'.fr0 hf8
        have hb18 := hb1'.fr0 hf8
        have hrec8 := hrec.fr0 hf8
        have hfr8 := hfr.tr hf8
        clear q0 q1 qf0 qf1 r0 r1 rf0 rf1 p0 p1 pf0 pf1
        (have q0 := hb08.cell 0; have q1 := hb08.cell 1; have qf0 := hb08.frozen 0; have qf1 := hb08.frozen 1; simp only [List.getElem?_toArray, List.getElem?_cons_zero, List.getElem?_cons_succ] at q0 q1)
        (have r0 := hb18.cell 0; have r1 := hb18.cell 1; have rf0 := hb18.frozen 0; have rf1 := hb18.frozen 1; simp only [List.getElem?_toArray, List.getElem?_cons_zero, List.getElem?_cons_succ] at r0 r1)
        cases hr : rightR ⟨cm, acc⟩ with
        | false =>
          rw [hr, if_neg (by decide)] at HE0
          have HE := HE0
          clear hr
          go_wp2_with fail
          have hbz := (hb08.put 0 (.int .i64 0)).put 1 (.slice none 0 0)
          have hfz : Fr (fun b => b = B0) w8 ((w8.setCell ⟨B0, 0, none⟩ (.int .i64 0)).setCell ⟨B0, 1, none⟩ (.slice none 0 0)) := ((Fr.refl _ w8).set1 _ _).set1 _ _
          try rw [Exit.noGoto_ret]
          refine bodyPost_ret (results_blk2 ag_recp rfl _ _ _ _ _ _ rfl rfl hbz rfl) rfl ?_
          rw [HE.out]
          exact ⟨[.int .i64 0, .slice none 0 0], rfl, ⟨none, 0, rfl, RdCh.nil_⟩, hfr8.trans hfz (fun b hb hT => by have := HB0.out; omega)⟩
        | true =>
          rw [hr, if_pos rfl] at HE0
          clear hr
          go_wp2_with fail
          have hbz := (hb08.put 0 (.int .i64 cm)).put 1 (.slice A acc.length c)
          have hfz : Fr (fun b => b = B0) w8 ((w8.setCell ⟨B0, 0, none⟩ (.int .i64 cm)).setCell ⟨B0, 1, none⟩ (.slice A acc.length c)) := ((Fr.refl _ w8).set1 _ _).set1 _ _
          try rw [Exit.noGoto_ret]
          refine bodyPost_ret (results_blk2 ag_recp rfl _ _ _ _ _ _ rfl rfl hbz rfl) rfl ?_
          rw [HE0.out]
          refine ⟨[.int .i64 cm, .slice A acc.length c], rfl, ?_, hfr8.trans hfz (fun b hb hT => by have := HB0.out; omega)⟩
          rw [HB0.out]
          exact (hrec8.fr hfz (fun b hb hT => by omega)).mono (fun b _ hb => by omega)
end Go.Proofs.Ytfgkioigbnlkkaa
