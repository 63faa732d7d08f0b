/- Put: an object's bytes behind others: value's, and the reference's. No condition but that the object can be kept. -/
import Derived.Test.YtfgkioigbnlkkaaRightO
import Derived.Test.YtfgkioigbnlkkaaPVal
import Derived.Test.YtfgkioigbnlkkaaWText
namespace Go.Proofs.Ytfgkioigbnlkkaa
set_option linter.unusedVariables false
set_option linter.unusedSimpArgs false
open Go.RowKit

/-- Bytes that are gathered, in a row of the call's own. -/
def Buf (w0 w : World) (B : Nat) (X : Nat → Prop) (v : Value) (l : List UInt8) : Prop :=
  w.ownsRow B 5 1 v l.length (U8 l) ∧ (∀ b, v.ownBlock = some b → X b ∨ w0.heap.size ≤ b) ∧ Fr X w0 w
section
variable {w0 w w' : World} {B : Nat} {X : Nat → Prop} {v v' : Value} {l m : List UInt8}
theorem Buf.fr0 (h : Buf w0 w B X v l) (hf : Fr No w w') : Buf w0 w' B X v l := ⟨own_fr0 h.1 hf, h.2.1, h.2.2.trans hf (fun _ _ hn => hn.elim)⟩
theorem Buf.app (h : Buf w0 w B X v l) (hown : w'.ownsRow B 5 1 v' (l.length + m.length) (U8 l ++ U8 m)) (hg : w.grownBy w' v.ownBlock) (hat : Hid (v'.ownBlock = v.ownBlock ∨ v'.ownBlock = some w.heap.size)) : Buf w0 w' B X v' (l ++ m) := by
  refine ⟨by rw [List.length_append, U8_append]; exact hown, fun b hb => ?_, h.2.2.grown hg (fun k hk => (h.2.1 k hk).symm)⟩
  rcases hat.out with h1 | h1
  · exact h.2.1 b (h1 ▸ hb)
  · rw [h1] at hb; injection hb with hb; subst hb; exact .inr h.2.2.size
theorem Buf.base (h : Buf w0 w B X v l) (hB : B ≤ w0.heap.size) : B ≤ w.heap.size := Nat.le_trans hB h.2.2.size
theorem Buf.start (hB : B ≤ w.heap.size) : Buf w w B X (.slice none 0 0) [] := ⟨World.ownsRow_nil _ _ _ _, (fun b hb => by cases hb), Fr.refl _ _⟩
end
theorem rd_oneAt {w : World} {g : Nat} {v : Value} {e : TypeId} (h : g = w.heap.size) : Rd (w.alloc (.cells #[v] e)) (fun b => b = g) 1 (some ⟨g, 0, none⟩) 1 [v] := by subst h; exact rd_one _ _ _
theorem objB_eq (cl : Nat) (slots : List VL) (bytes : List UInt8) : objB ⟨cl, slots, bytes⟩ = uintL cl ++ uintL slots.length ++ valsB slots ++ (uintL bytes.length ++ bytes) := rfl
theorem take_snocV (l : List VL) (k : Nat) (h : k < l.length) : valsB (l.take (k + 1)) = valsB (l.take k) ++ valB l[k] := by
  rw [List.take_succ_eq_append_getElem h, valsB_append]; simp [valsB]
theorem valB_int (n : Int) (m : Nat) (h : foldZ n = m) : valB ⟨3, n⟩ = [3] ++ uintL m := by
  unfold valB; simp only; rw [if_pos trivial, h, Int.toNat_natCast]; rfl
theorem valB_ref (m : Nat) : valB ⟨4, m⟩ = [4] ++ uintL m := by
  unfold valB; simp only; rw [if_neg (by decide), if_pos trivial, Int.toNat_natCast]; rfl
theorem valB_small (c : UInt8) (n : Int) (h : c.toNat ≤ 2) : valB ⟨c.toNat, n⟩ = [c] := by
  unfold valB; simp only; rw [if_neg (by omega), if_neg (by omega), Int.toNat_natCast, ofNat_self]
/-- A value that can be kept, by its kind. -/
theorem rightV_cases {v : VL} (h : rightV v = true) : (∃ n m : Int, v = ⟨3, n⟩ ∧ -1152921504606846976 ≤ n ∧ n < 1152921504606846976) ∨ (∃ m : Nat, v = ⟨4, m⟩ ∧ 1 ≤ m ∧ m ≤ 4096) ∨ (∃ c : UInt8, v = ⟨c.toNat, 0⟩ ∧ c.toNat ≤ 2) := by
  obtain ⟨k, n⟩ := v
  unfold rightV at h
  simp only at h
  split at h
  · rename_i hk
    have hn : n = 0 := by simpa using h
    subst hn
    rcases hk with rfl | rfl | rfl
    · exact .inr (.inr ⟨0, rfl, by decide⟩)
    · exact .inr (.inr ⟨1, rfl, by decide⟩)
    · exact .inr (.inr ⟨2, rfl, by decide⟩)
  · split at h
    · rename_i h3
      subst h3
      simp only [Bool.and_eq_true, decide_eq_true_eq] at h
      exact .inl ⟨n, 0, rfl, h.1, h.2⟩
    · split at h
      · rename_i h4
        subst h4
        simp only [oopB, Bool.and_eq_true, decide_eq_true_eq] at h
        exact .inr (.inl ⟨n.toNat, by rw [Int.toNat_of_nonneg (by omega)], by omega, by omega⟩)
      · cases h

set_option maxHeartbeats 4000000 in
set_option maxRecDepth 100000 in
theorem add_calls (S X : Nat → Prop) (B : Nat) (A : Option Addr) (c : Nat) (l0 : List UInt8) (cs : List Value) (o : ObjM) (w : World) (hown : w.ownsRow B 5 1 (.slice A l0.length c) l0.length (U8 l0)) (hXA : ∀ b, (Value.slice A l0.length c).ownBlock = some b → X b) (hBw : B ≤ w.heap.size) (h : ObjC w S cs o) (hX : ∀ b, S b → ¬ X b) (hXw : ∀ b, X b → b < w.heap.size) (hr : rightO o = true) (hl0 : l0.length ≤ 1099511627776) :
    Calls Try.prog 38 #[.slice A l0.length c, .agg cs.toArray] w fun e w' => ∃ v, e = .returned v ∧ Buf w w' B X v (l0 ++ objB o) := by
  obtain ⟨cls, slots, bytes⟩ := o
  obtain ⟨hr1, hr2, hr3, hr4, hr5⟩ := rightO_parts hr
  simp only at hr1 hr2 hr3 hr4 hr5
  obtain ⟨cl, rfl⟩ := Int.eq_ofNat_of_zero_le (show 0 ≤ cls by omega)
  obtain ⟨A2, c2, D, d2, rfl, hs, hb⟩ := h
  simp only at hs hb
  have g1 := plain_i64
  have g2 := plain_lval
  have g3 := plain_lu8
  have g4 := plain_int
  have ht1 := uintL_ten cl (by omega)
  have ht2 := uintL_ten slots.length (by omega)
  have HO := Lib.hid (objB_eq cl slots bytes)
  have HR := Lib.hid (List.all_eq_true.1 hr5)
  have hle2 := RdB.le hb
  have hbox := Blk.new w 25 #[.int .i64 (cl : Int), .slice A2 slots.length c2, .slice D bytes.length d2]
  have hf0 : Fr No w (w.alloc (.cells #[.int .i64 (cl : Int), .slice A2 slots.length c2, .slice D bytes.length d2] 25)) := (Fr.refl No w).alloc _
  have hz0 : (w.alloc (.cells #[.int .i64 (cl : Int), .slice A2 slots.length c2, .slice D bytes.length d2] 25)).heap.size = w.heap.size + 1 := by simp
  clear hr hr5
  have hXb : ¬ X w.heap.size := fun hh => by have := hXw _ hh; omega
  have hbuf : Buf (w.alloc (.cells #[.int .i64 (cl : Int), .slice A2 slots.length c2, .slice D bytes.length d2] 25)) (w.alloc (.cells #[.int .i64 (cl : Int), .slice A2 slots.length c2, .slice D bytes.length d2] 25)) B X (.slice A l0.length c) l0 := ⟨own_fr0 hown hf0, fun b hb => .inl (hXA b hb), Fr.refl _ _⟩
  have hB0 : B ≤ (w.alloc (.cells #[.int .i64 (cl : Int), .slice A2 slots.length c2, .slice D bytes.length d2] 25)).heap.size := by omega
  go_enter Try.func38, Try.ntmps38
  go_wp2_with fail
  generalize hw0 : w.alloc (.cells #[.int .i64 (cl : Int), .slice A2 slots.length c2, .slice D bytes.length d2] 25) = w0 at *
  clear hw0
  have HZ0 := Lib.hid hz0
  clear hz0
  have hs0 := Rd.fr0 hs hf0
  have hbb0 := Rd.fr0 hb hf0
  refine (uint_calls cl _ (by omega)).mono ?_
  rintro e w1 ⟨v1, rfl, hown1, hf1⟩
  obtain ⟨A1, c1, rfl, hc1, _, _⟩ := own_form hown1
  have hb1 := hbuf.fr0 hf1
  have hbx1 := hbox.fr0 hf1
  (have q0 := hbx1.cell 0; have q1 := hbx1.cell 1; have q2 := hbx1.cell 2; have qf0 := hbx1.frozen 0; have qf1 := hbx1.frozen 1; have qf2 := hbx1.frozen 2; simp only [List.getElem?_toArray, List.getElem?_cons_zero, List.getElem?_cons_succ] at q0 q1 q2)
  go_wp2_with (first
    | (refine wpList_app_hid so_u8 rfl hb1.1 (own_rd hown1 (by omega)) (U8_one _) (by omega) (hb1.base hB0) rfl rfl rfl ?_; intro v2 w2 hown2 hg2 hat2; have hb2 := hb1.app hown2 hg2 hat2; have hbx2 := hbox.fr hb2.2.2 hXb; (have p0 := hbx2.cell 0; have p1 := hbx2.cell 1; have p2 := hbx2.cell 2; have pf0 := hbx2.frozen 0; have pf1 := hbx2.frozen 1; have pf2 := hbx2.frozen 2; simp only [List.getElem?_toArray, List.getElem?_cons_zero, List.getElem?_cons_succ] at p0 p1 p2))
    | fail)
  refine (uint_calls slots.length _ (by omega)).mono ?_
  rintro e w3 ⟨v3, rfl, hown3, hf3⟩
  obtain ⟨A3, c3, rfl, hc3, _, _⟩ := own_form hown3
  have hb3 := hb2.fr0 hf3
  have hbx3 := hbx2.fr0 hf3
  clear hbx2 p0 p1 p2 pf0 pf1 pf2 q0 q1 q2 qf0 qf1 qf2
  (have r0 := hbx3.cell 0; have r1 := hbx3.cell 1; have r2 := hbx3.cell 2; have rf0 := hbx3.frozen 0; have rf1 := hbx3.frozen 1; have rf2 := hbx3.frozen 2; simp only [List.getElem?_toArray, List.getElem?_cons_zero, List.getElem?_cons_succ] at r0 r1 r2)
  have hlen2 : (l0 ++ uintL cl).length ≤ 1099511627776 + 10 := by first | (simp only [List.length_append]; omega) | omega
  go_wp2_with (first
    | (refine wpList_app_hid so_u8 rfl hb3.1 (own_rd hown3 (by omega)) (U8_one _) (by omega) (hb3.base hB0) rfl rfl rfl ?_; intro v4 w4 hown4 hg4 hat4; have hb4 := hb3.app hown4 hg4 hat4; have hbx4 := hbox.fr hb4.2.2 hXb; (have t0 := hbx4.cell 0; have t1 := hbx4.cell 1; have t2 := hbx4.cell 2; have tf0 := hbx4.frozen 0; have tf1 := hbx4.frozen 1; have tf2 := hbx4.frozen 2; simp only [List.getElem?_toArray, List.getElem?_cons_zero, List.getElem?_cons_succ] at t0 t1 t2))
    | fail)
  have hlen4 : (l0 ++ uintL cl ++ uintL slots.length).length ≤ 1099511627776 + 20 := by rw [List.length_append]; omega
  clear hown3 hown4 hg4 hat4 hb3 hbx3 hb2 r0 r1 r2 rf0 rf1 rf2
  go_loopw [0, 26] (fun v i wr => ∃ (k : Nat) (L : List UInt8), k ≤ slots.length ∧ i = .int .i64 (k : Int) ∧ L.length ≤ 1099511627776 + 20 + 11 * k ∧ Hid (L = l0 ++ uintL cl ++ uintL slots.length ++ valsB (slots.take k)) ∧ Buf w0 wr B X v L) (fun _ i _ => slots.length - (intOf i).toNat)
  case atStart => exact ⟨0, l0 ++ uintL cl ++ uintL slots.length, by omega, rfl, by omega, Lib.hid (by simp [valsB]), hb4⟩
  case round =>
    obtain ⟨k, L, hk, rfl, hL, HL, hbf⟩ := hrel
    have hbxr := hbox.fr hbf.2.2 hXb
    (have p0 := hbxr.cell 0; have p1 := hbxr.cell 1; have p2 := hbxr.cell 2; have pf0 := hbxr.frozen 0; have pf1 := hbxr.frozen 1; have pf2 := hbxr.frozen 2; simp only [List.getElem?_toArray, List.getElem?_cons_zero, List.getElem?_cons_succ] at p0 p1 p2)
    by_cases hlt : k < slots.length
    · have ek : decide ((k : Int) < slots.length) = true := by simpa using (by omega : (k : Int) < slots.length)
      obtain ⟨ga, of, rfl, hSg, hk0, hk1, hv'⟩ := RdV.at_ (Rd.fr hs0 hbf.2.2 hX) hlt
      have hx := HR.out _ (List.getElem_mem hlt)
      have HT := Lib.hid (take_snocV slots k hlt)
      generalize slots[k] = x at *
      rcases rightV_cases hx with ⟨n, _, rfl, hn1, hn2⟩ | ⟨n, rfl, hn1, hn2⟩ | ⟨ch, rfl, hch⟩
      · clear hx
        unfold vcells at hv'
        simp only at hv' hk0 hk1
        obtain ⟨m, hm⟩ := Int.eq_ofNat_of_zero_le (foldZ_lt n (by omega) (by omega)).1
        have hm2 := (foldZ_lt n (by omega) (by omega)).2
        have hmlt : m < 18446744073709551616 := by omega
        have HM := Lib.hid hm
        have HVB := Lib.hid (valB_int n m hm)
        have hfo := fold_calls n
        rw [hm] at hfo
        clear hm hm2
        have hfA : Fr No wr (wr.alloc (.cells #[.int .i64 3, .int .i64 n] 41)) := (Fr.refl No wr).alloc _
        have hbfA := hbf.fr0 hfA
        have hbV := Blk.new wr 41 #[.int .i64 3, .int .i64 n]
        have hbfB := hbfA.fr0 ((Fr.refl No _).alloc (.cells #[.int .u8 3] 5))
        go_wp2_with (first
          | (refine wpList_app_hid so_u8 rfl hbfB.1 (rd_oneAt (by simp)) (by simp [Value.oneCell']) (by omega) (hbfB.base hB0) rfl rfl rfl ?_; intro v5 w5 hown5 hg5 hat5; have hb5 := hbfB.app (m := [3]) hown5 hg5 hat5; have hbV5 := (hbV.alloc (.cells #[.int .u8 3] 5)).grown hg5 (fun hh => by have h7 := (hbf.1.lt _ hh.symm).2; omega); (have z0 := hbV5.cell 0; have z1 := hbV5.cell 1; have zf0 := hbV5.frozen 0; have zf1 := hbV5.frozen 1; simp only [List.getElem?_toArray, List.getElem?_cons_zero, List.getElem?_cons_succ] at z0 z1))
          | fail)
        refine (hfo _ (by omega) (by omega)).mono ?_
        rintro e _ ⟨rfl, rfl⟩
        have ht6 := uintL_ten m hmlt
        go_wp2_with fail
        refine (uint_calls m _ hmlt).mono ?_
        rintro e w6 ⟨v6, rfl, hown6, hf6⟩
        obtain ⟨A6, c6, rfl, hc6, _, _⟩ := own_form hown6
        have hb6 := hb5.fr0 hf6
        have hlen5 : (L ++ [3]).length = L.length + 1 := by simp
        have HL5 := Lib.hid hlen5
        have hlb5 : (L ++ [3]).length ≤ 1099511627776 + 21 + 11 * k := by omega
        clear hlen5
        have hbV6 := hbV5.fr0 hf6
        clear z0 z1 zf0 zf1
        (have z0 := hbV6.cell 0; have z1 := hbV6.cell 1; have zf0 := hbV6.frozen 0; have zf1 := hbV6.frozen 1; simp only [List.getElem?_toArray, List.getElem?_cons_zero, List.getElem?_cons_succ] at z0 z1)
        go_wp2_with (first
          | (refine wpList_app_hid so_u8 rfl hb6.1 (own_rd hown6 (by omega)) (U8_one _) (by omega) (hb6.base hB0) rfl rfl rfl ?_; intro v7 w7 hown7 hg7 hat7; have hb7 := hb6.app hown7 hg7 hat7; have hbV7 := hbV6.grown hg7 (fun hh => by have h7 := hat5.out; rw [← hh] at h7; rcases h7 with h7 | h7; exact absurd (hbf.1.lt _ h7.symm).2 (by omega); exact absurd (Option.some.inj h7) (by simp; omega)); (have y0 := hbV7.cell 0; have y1 := hbV7.cell 1; have yf0 := hbV7.frozen 0; have yf1 := hbV7.frozen 1; simp only [List.getElem?_toArray, List.getElem?_cons_zero, List.getElem?_cons_succ] at y0 y1))
          | fail)
        go_roundw
        case rel =>
          refine ⟨k + 1, L ++ [3] ++ uintL m, by omega, by go_num, ?_, Lib.hid ?_, hb7⟩
          · rw [List.length_append, HL5.out]; omega
          · rw [HT.out, HVB.out, HL.out]; simp
        case measure => simp [intOf]; omega
      · clear hx
        unfold vcells at hv'
        simp only at hv' hk0 hk1
        have hmlt : n < 18446744073709551616 := by omega
        have HVB := Lib.hid (valB_ref n)
        have hfA : Fr No wr (wr.alloc (.cells #[.int .i64 4, .int .i64 n] 41)) := (Fr.refl No wr).alloc _
        have hbfA := hbf.fr0 hfA
        have hbV := Blk.new wr 41 #[.int .i64 4, .int .i64 n]
        have hbfB := hbfA.fr0 ((Fr.refl No _).alloc (.cells #[.int .u8 4] 5))
        go_wp2_with (first
          | (refine wpList_app_hid so_u8 rfl hbfB.1 (rd_oneAt (by simp)) (by simp [Value.oneCell']) (by omega) (hbfB.base hB0) rfl rfl rfl ?_; intro v5 w5 hown5 hg5 hat5; have hb5 := hbfB.app (m := [4]) hown5 hg5 hat5; have hbV5 := (hbV.alloc (.cells #[.int .u8 4] 5)).grown hg5 (fun hh => by have h7 := (hbf.1.lt _ hh.symm).2; omega); (have z0 := hbV5.cell 0; have z1 := hbV5.cell 1; have zf0 := hbV5.frozen 0; have zf1 := hbV5.frozen 1; simp only [List.getElem?_toArray, List.getElem?_cons_zero, List.getElem?_cons_succ] at z0 z1))
          | fail)
        have ht6 := uintL_ten n hmlt
        refine (uint_calls n _ hmlt).mono ?_
        rintro e w6 ⟨v6, rfl, hown6, hf6⟩
        obtain ⟨A6, c6, rfl, hc6, _, _⟩ := own_form hown6
        have hb6 := hb5.fr0 hf6
        have hlen5 : (L ++ [4]).length = L.length + 1 := by simp
        have HL5 := Lib.hid hlen5
        have hlb5 : (L ++ [4]).length ≤ 1099511627776 + 21 + 11 * k := by omega
        clear hlen5
        go_wp2_with (first
          | (refine wpList_app_hid so_u8 rfl hb6.1 (own_rd hown6 (by omega)) (U8_one _) (by omega) (hb6.base hB0) rfl rfl rfl ?_; intro v7 w7 hown7 hg7 hat7; have hb7 := hb6.app hown7 hg7 hat7)
          | fail)
        go_roundw
        case rel =>
          refine ⟨k + 1, L ++ [4] ++ uintL n, by omega, by go_num, ?_, Lib.hid ?_, hb7⟩
          · rw [List.length_append, HL5.out]; omega
          · rw [HT.out, HVB.out, HL.out]; simp
        case measure => simp [intOf]; omega
      · clear hx
        unfold vcells at hv'
        simp only at hv' hk0 hk1
        have HVB := Lib.hid (valB_small ch 0 hch)
        have e3 : ((ch.toNat : Int) == 3) = false := by simp; omega
        have e4 : ((ch.toNat : Int) == 4) = false := by simp; omega
        have hfA : Fr No wr (wr.alloc (.cells #[.int .i64 ch.toNat, .int .i64 0] 41)) := (Fr.refl No wr).alloc _
        have hbfA := hbf.fr0 hfA
        have hbV := Blk.new wr 41 #[.int .i64 ch.toNat, .int .i64 0]
        have hbfB := hbfA.fr0 ((Fr.refl No _).alloc (.cells #[.int .u8 ch.toNat] 5))
        go_wp2_with (first
          | (refine wpList_app_hid so_u8 rfl hbfB.1 (rd_oneAt (by simp)) (by simp [Value.oneCell']) (by omega) (hbfB.base hB0) rfl rfl rfl ?_; intro v5 w5 hown5 hg5 hat5; have hb5 := hbfB.app (m := [ch]) hown5 hg5 hat5; have hbV5 := (hbV.alloc (.cells #[.int .u8 ch.toNat] 5)).grown hg5 (fun hh => by have h7 := (hbf.1.lt _ hh.symm).2; omega); (have z0 := hbV5.cell 0; have z1 := hbV5.cell 1; have zf0 := hbV5.frozen 0; have zf1 := hbV5.frozen 1; simp only [List.getElem?_toArray, List.getElem?_cons_zero, List.getElem?_cons_succ] at z0 z1))
          | fail)
        go_roundw
        case rel =>
          refine ⟨k + 1, L ++ [ch], by omega, by go_num, ?_, Lib.hid ?_, hb5⟩
          · simp; omega
          · rw [HT.out, HVB.out, HL.out]; simp
        case measure => simp [intOf]; omega
    · obtain rfl : k = slots.length := by omega
      have ek : decide ((slots.length : Int) < slots.length) = false := by simp
      go_wp2_with fail
      have hrT := Rd.fr hbb0 hbf.2.2 hX
      refine (text_calls _ _ _ bytes _ hrT).mono ?_
      rw [textM_ok bytes (by omega)]
      have ht8 := uintL_ten bytes.length (by omega)
      have hl8 : (uintL bytes.length ++ bytes).length ≤ 2000 := by rw [List.length_append]; omega
      obtain ⟨tx, htx⟩ : ∃ tx, tx = uintL bytes.length ++ bytes := ⟨_, rfl⟩
      rw [← htx] at hl8 ⊢
      have HTX := Lib.hid htx
      clear htx
      rintro e w8 ⟨v8, rfl, hown8, hf8⟩
      simp only at hown8 ⊢
      obtain ⟨A8, c8, rfl, hc8, _, _⟩ := own_form hown8
      have hb8 := hbf.fr0 hf8
      go_wp2_with (first
        | (refine wpList_app_hid so_u8 rfl hb8.1 (own_rd hown8 (by omega)) (U8_one _) (by omega) (hb8.base hB0) rfl rfl rfl ?_; intro v9 w9 hown9 hg9 hat9; have hb9 := hb8.app hown9 hg9 hat9)
        | fail)
      go_ret
      have hfin := HL.out
      rw [List.take_length] at hfin
      refine ⟨_, rfl, ?_⟩
      rw [HO.out]
      rw [← HTX.out]
      have e9 : L ++ tx = l0 ++ (uintL cl ++ uintL slots.length ++ valsB slots ++ tx) := by rw [hfin, HTX.out]; simp
      rw [← e9]
      exact ⟨hb9.1, fun b hb => (hb9.2.1 b hb).imp id (fun h => by have := HZ0.out; omega), (hf0.mono (fun _ _ hn => hn.elim)).trans hb9.2.2 (fun b _ h => h)⟩

set_option maxHeartbeats 4000000 in
set_option maxRecDepth 100000 in
theorem refbytes_calls (S : Nat → Prop) (cs : List Value) (o : ObjM) (w : World) (h : ObjC w S cs o) (hr : rightO o = true) :
    Calls Try.prog 39 #[.agg cs.toArray] w fun e w' => ∃ v, e = .returned v ∧ w'.ownsRow w.heap.size 5 1 v (objB o).length (U8 (objB o)) ∧ Fr No w w' := by
  obtain ⟨cls, slots, bytes⟩ := o
  obtain ⟨hr1, hr2, hr3, hr4, hr5⟩ := rightO_parts hr
  simp only at hr1 hr2 hr3 hr4 hr5
  obtain ⟨cl, rfl⟩ := Int.eq_ofNat_of_zero_le (show 0 ≤ cls by omega)
  obtain ⟨A2, c2, D, d2, rfl, hs, hb⟩ := h
  simp only at hs hb
  have g1 := plain_i64
  have g2 := plain_lval
  have g3 := plain_lu8
  have g4 := plain_int
  have ht1 := uintL_ten cl (by omega)
  have ht2 := uintL_ten slots.length (by omega)
  have HO := Lib.hid (objB_eq cl slots bytes)
  have HR := Lib.hid (List.all_eq_true.1 hr5)
  have hle2 := RdB.le hb
  have hbox := Blk.new w 25 #[.int .i64 (cl : Int), .slice A2 slots.length c2, .slice D bytes.length d2]
  have hf0 : Fr No w (w.alloc (.cells #[.int .i64 (cl : Int), .slice A2 slots.length c2, .slice D bytes.length d2] 25)) := (Fr.refl No w).alloc _
  have hz0 : (w.alloc (.cells #[.int .i64 (cl : Int), .slice A2 slots.length c2, .slice D bytes.length d2] 25)).heap.size = w.heap.size + 1 := by simp
  clear hr hr5
  obtain ⟨B, hBd⟩ : ∃ B, B = w.heap.size := ⟨_, rfl⟩
  have hB0 : B ≤ (w.alloc (.cells #[.int .i64 (cl : Int), .slice A2 slots.length c2, .slice D bytes.length d2] 25)).heap.size := by omega
  have HBd := Lib.hid hBd
  clear hBd
  go_enter Try.func39, Try.ntmps39
  go_wp2_with fail
  generalize hw0 : w.alloc (.cells #[.int .i64 (cl : Int), .slice A2 slots.length c2, .slice D bytes.length d2] 25) = w0 at *
  clear hw0
  have HZ0 := Lib.hid hz0
  clear hz0
  have hs0 := Rd.fr0 hs hf0
  have hbb0 := Rd.fr0 hb hf0
  refine (refuint_calls cl _ (by omega)).mono ?_
  rintro e w1 ⟨v1, rfl, hown1, hf1⟩
  have hb2 : Buf w0 w1 B No v1 (uintL cl) := ⟨own_down hown1 hB0, fun b hb => .inr (hown1.lt b hb).1, hf1⟩
  obtain ⟨w2, hw2⟩ : ∃ w2, w2 = w1 := ⟨_, rfl⟩
  rw [← hw2] at hb2 ⊢
  clear hw2 hown1 hf1
  have hbx2 := hbox.fr0 hb2.2.2
  (have p0 := hbx2.cell 0; have p1 := hbx2.cell 1; have p2 := hbx2.cell 2; have pf0 := hbx2.frozen 0; have pf1 := hbx2.frozen 1; have pf2 := hbx2.frozen 2; simp only [List.getElem?_toArray, List.getElem?_cons_zero, List.getElem?_cons_succ] at p0 p1 p2)
  go_wp2_with fail
  refine (refuint_calls slots.length _ (by omega)).mono ?_
  rintro e w3 ⟨v3, rfl, hown3, hf3⟩
  obtain ⟨A3, c3, rfl, hc3, _, _⟩ := own_form hown3
  have hb3 := hb2.fr0 hf3
  have hbx3 := hbx2.fr0 hf3
  clear hbx2 p0 p1 p2 pf0 pf1 pf2 
  (have r0 := hbx3.cell 0; have r1 := hbx3.cell 1; have r2 := hbx3.cell 2; have rf0 := hbx3.frozen 0; have rf1 := hbx3.frozen 1; have rf2 := hbx3.frozen 2; simp only [List.getElem?_toArray, List.getElem?_cons_zero, List.getElem?_cons_succ] at r0 r1 r2)
  have hlen2 : (uintL cl).length ≤ 0 + 10 := by first | (simp only [List.length_append]; omega) | omega
  go_wp2_with (first
    | (refine wpList_app_hid so_u8 rfl hb3.1 (own_rd hown3 (by omega)) (U8_one _) (by omega) (hb3.base hB0) rfl rfl rfl ?_; intro v4 w4 hown4 hg4 hat4; have hb4 := hb3.app hown4 hg4 hat4; have hbx4 := hbox.fr hb4.2.2 (fun hn => hn); (have t0 := hbx4.cell 0; have t1 := hbx4.cell 1; have t2 := hbx4.cell 2; have tf0 := hbx4.frozen 0; have tf1 := hbx4.frozen 1; have tf2 := hbx4.frozen 2; simp only [List.getElem?_toArray, List.getElem?_cons_zero, List.getElem?_cons_succ] at t0 t1 t2))
    | fail)
  have hlen4 : (uintL cl ++ uintL slots.length).length ≤ 0 + 20 := by rw [List.length_append]; omega
  clear hown3 hown4 hg4 hat4 hb3 hbx3 hb2 r0 r1 r2 rf0 rf1 rf2
  go_loopw [3, 4] (fun v i wr => ∃ (k : Nat) (L : List UInt8), k ≤ slots.length ∧ i = .int .i64 (k : Int) ∧ L.length ≤ 0 + 20 + 11 * k ∧ Hid (L = uintL cl ++ uintL slots.length ++ valsB (slots.take k)) ∧ Buf w0 wr B No v L) (fun _ i _ => slots.length - (intOf i).toNat)
  case atStart => exact ⟨0, uintL cl ++ uintL slots.length, by omega, rfl, by omega, Lib.hid (by simp [valsB]), hb4⟩
  case round =>
    obtain ⟨k, L, hk, rfl, hL, HL, hbf⟩ := hrel
    have hbxr := hbox.fr hbf.2.2 (fun hn => hn)
    (have p0 := hbxr.cell 0; have p1 := hbxr.cell 1; have p2 := hbxr.cell 2; have pf0 := hbxr.frozen 0; have pf1 := hbxr.frozen 1; have pf2 := hbxr.frozen 2; simp only [List.getElem?_toArray, List.getElem?_cons_zero, List.getElem?_cons_succ] at p0 p1 p2)
    by_cases hlt : k < slots.length
    · have ek : decide ((k : Int) < slots.length) = true := by simpa using (by omega : (k : Int) < slots.length)
      obtain ⟨ga, of, rfl, hSg, hk0, hk1, hv'⟩ := RdV.at_ (Rd.fr hs0 hbf.2.2 (fun _ _ hn => hn)) hlt
      have hx := HR.out _ (List.getElem_mem hlt)
      have HT := Lib.hid (take_snocV slots k hlt)
      generalize slots[k] = x at *
      rcases rightV_cases hx with ⟨n, _, rfl, hn1, hn2⟩ | ⟨n, rfl, hn1, hn2⟩ | ⟨ch, rfl, hch⟩
      · clear hx
        unfold vcells at hv'
        simp only at hv' hk0 hk1
        obtain ⟨m, hm⟩ := Int.eq_ofNat_of_zero_le (foldZ_lt n (by omega) (by omega)).1
        have hm2 := (foldZ_lt n (by omega) (by omega)).2
        have hmlt : m < 18446744073709551616 := by omega
        have HM := Lib.hid hm
        have HVB := Lib.hid (valB_int n m hm)
        have hfo := reffold_calls n
        rw [hm] at hfo
        clear hm hm2
        have hfA : Fr No wr (wr.alloc (.cells #[.int .i64 3, .int .i64 n] 41)) := (Fr.refl No wr).alloc _
        have hbfA := hbf.fr0 hfA
        have hbV := Blk.new wr 41 #[.int .i64 3, .int .i64 n]
        have hbfB := hbfA.fr0 ((Fr.refl No _).alloc (.cells #[.int .u8 3] 5))
        go_wp2_with (first
          | (refine wpList_app_hid so_u8 rfl hbfB.1 (rd_oneAt (by simp)) (by simp [Value.oneCell']) (by omega) (hbfB.base hB0) rfl rfl rfl ?_; intro v5 w5 hown5 hg5 hat5; have hb5 := hbfB.app (m := [3]) hown5 hg5 hat5; have hbV5 := (hbV.alloc (.cells #[.int .u8 3] 5)).grown hg5 (fun hh => by have h7 := (hbf.1.lt _ hh.symm).2; omega); (have z0 := hbV5.cell 0; have z1 := hbV5.cell 1; have zf0 := hbV5.frozen 0; have zf1 := hbV5.frozen 1; simp only [List.getElem?_toArray, List.getElem?_cons_zero, List.getElem?_cons_succ] at z0 z1))
          | fail)
        refine (hfo _ (by omega) (by omega)).mono ?_
        rintro e _ ⟨rfl, rfl⟩
        have ht6 := uintL_ten m hmlt
        go_wp2_with fail
        refine (refuint_calls m _ hmlt).mono ?_
        rintro e w6 ⟨v6, rfl, hown6, hf6⟩
        obtain ⟨A6, c6, rfl, hc6, _, _⟩ := own_form hown6
        have hb6 := hb5.fr0 hf6
        have hlen5 : (L ++ [3]).length = L.length + 1 := by simp
        have HL5 := Lib.hid hlen5
        have hlb5 : (L ++ [3]).length ≤ 0 + 21 + 11 * k := by omega
        clear hlen5
        have hbV6 := hbV5.fr0 hf6
        clear z0 z1 zf0 zf1
        (have z0 := hbV6.cell 0; have z1 := hbV6.cell 1; have zf0 := hbV6.frozen 0; have zf1 := hbV6.frozen 1; simp only [List.getElem?_toArray, List.getElem?_cons_zero, List.getElem?_cons_succ] at z0 z1)
        go_wp2_with (first
          | (refine wpList_app_hid so_u8 rfl hb6.1 (own_rd hown6 (by omega)) (U8_one _) (by omega) (hb6.base hB0) rfl rfl rfl ?_; intro v7 w7 hown7 hg7 hat7; have hb7 := hb6.app hown7 hg7 hat7; have hbV7 := hbV6.grown hg7 (fun hh => by have h7 := hat5.out; rw [← hh] at h7; rcases h7 with h7 | h7; exact absurd (hbf.1.lt _ h7.symm).2 (by omega); exact absurd (Option.some.inj h7) (by simp; omega)); (have y0 := hbV7.cell 0; have y1 := hbV7.cell 1; have yf0 := hbV7.frozen 0; have yf1 := hbV7.frozen 1; simp only [List.getElem?_toArray, List.getElem?_cons_zero, List.getElem?_cons_succ] at y0 y1))
          | fail)
        go_roundw
        case rel =>
          refine ⟨k + 1, L ++ [3] ++ uintL m, by omega, by go_num, ?_, Lib.hid ?_, hb7⟩
          · rw [List.length_append, HL5.out]; omega
          · rw [HT.out, HVB.out, HL.out]; simp
        case measure => simp [intOf]; omega
      · clear hx
        unfold vcells at hv'
        simp only at hv' hk0 hk1
        have hmlt : n < 18446744073709551616 := by omega
        have HVB := Lib.hid (valB_ref n)
        have hfA : Fr No wr (wr.alloc (.cells #[.int .i64 4, .int .i64 n] 41)) := (Fr.refl No wr).alloc _
        have hbfA := hbf.fr0 hfA
        have hbV := Blk.new wr 41 #[.int .i64 4, .int .i64 n]
        have hbfB := hbfA.fr0 ((Fr.refl No _).alloc (.cells #[.int .u8 4] 5))
        go_wp2_with (first
          | (refine wpList_app_hid so_u8 rfl hbfB.1 (rd_oneAt (by simp)) (by simp [Value.oneCell']) (by omega) (hbfB.base hB0) rfl rfl rfl ?_; intro v5 w5 hown5 hg5 hat5; have hb5 := hbfB.app (m := [4]) hown5 hg5 hat5; have hbV5 := (hbV.alloc (.cells #[.int .u8 4] 5)).grown hg5 (fun hh => by have h7 := (hbf.1.lt _ hh.symm).2; omega); (have z0 := hbV5.cell 0; have z1 := hbV5.cell 1; have zf0 := hbV5.frozen 0; have zf1 := hbV5.frozen 1; simp only [List.getElem?_toArray, List.getElem?_cons_zero, List.getElem?_cons_succ] at z0 z1))
          | fail)
        have ht6 := uintL_ten n hmlt
        refine (refuint_calls n _ hmlt).mono ?_
        rintro e w6 ⟨v6, rfl, hown6, hf6⟩
        obtain ⟨A6, c6, rfl, hc6, _, _⟩ := own_form hown6
        have hb6 := hb5.fr0 hf6
        have hlen5 : (L ++ [4]).length = L.length + 1 := by simp
        have HL5 := Lib.hid hlen5
        have hlb5 : (L ++ [4]).length ≤ 0 + 21 + 11 * k := by omega
        clear hlen5
        go_wp2_with (first
          | (refine wpList_app_hid so_u8 rfl hb6.1 (own_rd hown6 (by omega)) (U8_one _) (by omega) (hb6.base hB0) rfl rfl rfl ?_; intro v7 w7 hown7 hg7 hat7; have hb7 := hb6.app hown7 hg7 hat7)
          | fail)
        go_roundw
        case rel =>
          refine ⟨k + 1, L ++ [4] ++ uintL n, by omega, by go_num, ?_, Lib.hid ?_, hb7⟩
          · rw [List.length_append, HL5.out]; omega
          · rw [HT.out, HVB.out, HL.out]; simp
        case measure => simp [intOf]; omega
      · clear hx
        unfold vcells at hv'
        simp only at hv' hk0 hk1
        have HVB := Lib.hid (valB_small ch 0 hch)
        have e3 : ((ch.toNat : Int) == 3) = false := by simp; omega
        have e4 : ((ch.toNat : Int) == 4) = false := by simp; omega
        have hfA : Fr No wr (wr.alloc (.cells #[.int .i64 ch.toNat, .int .i64 0] 41)) := (Fr.refl No wr).alloc _
        have hbfA := hbf.fr0 hfA
        have hbV := Blk.new wr 41 #[.int .i64 ch.toNat, .int .i64 0]
        have hbfB := hbfA.fr0 ((Fr.refl No _).alloc (.cells #[.int .u8 ch.toNat] 5))
        go_wp2_with (first
          | (refine wpList_app_hid so_u8 rfl hbfB.1 (rd_oneAt (by simp)) (by simp [Value.oneCell']) (by omega) (hbfB.base hB0) rfl rfl rfl ?_; intro v5 w5 hown5 hg5 hat5; have hb5 := hbfB.app (m := [ch]) hown5 hg5 hat5; have hbV5 := (hbV.alloc (.cells #[.int .u8 ch.toNat] 5)).grown hg5 (fun hh => by have h7 := (hbf.1.lt _ hh.symm).2; omega); (have z0 := hbV5.cell 0; have z1 := hbV5.cell 1; have zf0 := hbV5.frozen 0; have zf1 := hbV5.frozen 1; simp only [List.getElem?_toArray, List.getElem?_cons_zero, List.getElem?_cons_succ] at z0 z1))
          | fail)
        go_roundw
        case rel =>
          refine ⟨k + 1, L ++ [ch], by omega, by go_num, ?_, Lib.hid ?_, hb5⟩
          · simp; omega
          · rw [HT.out, HVB.out, HL.out]; simp
        case measure => simp [intOf]; omega
    · obtain rfl : k = slots.length := by omega
      have ek : decide ((slots.length : Int) < slots.length) = false := by simp
      go_wp2_with fail
      have hrT := Rd.fr hbb0 hbf.2.2 (fun _ _ hn => hn)
      refine (reftext_calls _ _ _ bytes _ hrT).mono ?_
      rw [textM_ok bytes (by omega)]
      have ht8 := uintL_ten bytes.length (by omega)
      have hl8 : (uintL bytes.length ++ bytes).length ≤ 2000 := by rw [List.length_append]; omega
      obtain ⟨tx, htx⟩ : ∃ tx, tx = uintL bytes.length ++ bytes := ⟨_, rfl⟩
      rw [← htx] at hl8 ⊢
      have HTX := Lib.hid htx
      clear htx
      rintro e w8 ⟨v8, rfl, hown8, hf8⟩
      simp only at hown8 ⊢
      obtain ⟨A8, c8, rfl, hc8, _, _⟩ := own_form hown8
      have hb8 := hbf.fr0 hf8
      go_wp2_with (first
        | (refine wpList_app_hid so_u8 rfl hb8.1 (own_rd hown8 (by omega)) (U8_one _) (by omega) (hb8.base hB0) rfl rfl rfl ?_; intro v9 w9 hown9 hg9 hat9; have hb9 := hb8.app hown9 hg9 hat9)
        | fail)
      go_ret
      have hfin := HL.out
      rw [List.take_length] at hfin
      refine ⟨_, rfl, ?_, hf0.tr hb9.2.2⟩
      rw [HO.out, ← HTX.out, ← hfin, ← HBd.out]
      exact hb9.1
end Go.Proofs.Ytfgkioigbnlkkaa
