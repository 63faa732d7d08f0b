/- The walk of lapidarylaw05.ValuePuts. No condition but that the memory can hold the object. -/
import Derived.Test.YtfgkioigbnlkkaaValKnown
namespace Go.Proofs.Ytfgkioigbnlkkaa
set_option linter.unusedVariables false
set_option linter.unusedSimpArgs false
open Go.RowKit

/-- That the memory can hold it. -/
def ObjOk (o : ObjM) : Prop := o.slots.length * 16 ≤ 140737488351232 ∧ o.bytes.length ≤ 140737488351232
theorem putM_len (o : ObjM) : (putM o).1.length ≤ 60000 := by
  unfold putM
  split
  · rename_i h
    obtain ⟨h1, h2, h3, h4, h5⟩ := rightO_parts h
    have hv : ∀ l : List VL, l.all rightV = true → (valsB l).length ≤ l.length * 11 := by
      intro l
      induction l with
      | nil => intro _; simp [valsB]
      | cons v l ih =>
        intro hl
        rw [List.all_cons, Bool.and_eq_true] at hl
        rw [valsB_cons, List.length_append, List.length_cons]
        have h6 := ih hl.2
        have h7 : (valB v).length ≤ 11 := by
          rcases rightV_cases hl.1 with ⟨n, _, rfl, hn1, hn2⟩ | ⟨n, rfl, hn1, hn2⟩ | ⟨ch, rfl, hch⟩
          · obtain ⟨m, hm⟩ := Int.eq_ofNat_of_zero_le (foldZ_lt n (by omega) (by omega)).1
            have hm2 := (foldZ_lt n (by omega) (by omega)).2
            rw [valB_int n m hm]
            have := uintL_ten m (by omega)
            simp; omega
          · rw [valB_ref]
            have := uintL_ten n (by omega)
            simp; omega
          · rw [valB_small _ _ hch]; simp
        omega
    have h6 := hv o.slots h5
    have h7 := uintL_ten o.cls.toNat (by omega)
    have h8 := uintL_ten o.slots.length (by omega)
    have h9 := uintL_ten o.bytes.length (by omega)
    simp only [objB, List.length_append]
    omega
  · simp
theorem ObjOk.cases (o : ObjM) : (∃ l, putM o = (l, 0) ∧ rightO o = true ∧ getM l = some o) ∨ putM o = ([], 1) := by
  cases hr : rightO o with
  | true => exact .inl ⟨_, putM_ok hr, rfl, getM_put o hr⟩
  | false => exact .inr (putM_no hr)
theorem ObjOwn.lit {w : World} {B : Nat} {cs : List Value} {o : ObjM} (h : ObjOwn w B cs o) : ∃ A c D d, cs = [.int .i64 o.cls, .slice A o.slots.length c, .slice D o.bytes.length d] := by
  obtain ⟨A, c, D, d, M, e, _⟩ := h; exact ⟨A, c, D, d, e⟩
set_option maxHeartbeats 4000000 in
set_option maxRecDepth 100000 in
theorem law_ValuePuts (W : World) (cs : List Value) (o : ObjM) (h : ObjC W (fun b => b < W.heap.size) cs o) (ok : ObjOk o) :
    Calls Try.prog 3 #[.agg cs.toArray] W fun e w' => e = .returned (.bool true) ∧ Fr No W w' := by
  obtain ⟨ok1, ok2⟩ := ok
  have HS := Lib.hid (sameO_self o)
  have hlen := putM_len o
  have hc := h
  obtain ⟨A0, c0, D0, d0, rfl, hs0, hb0⟩ := hc
  have hf0 : Fr No W (W.alloc (.cells #[.int .i64 o.cls, .slice A0 o.slots.length c0, .slice D0 o.bytes.length d0] 25)) := (Fr.refl No W).alloc _
  have hx0 := Blk.new W 25 #[.int .i64 o.cls, .slice A0 o.slots.length c0, .slice D0 o.bytes.length d0]
  go_enter Try.func3, Try.ntmps3
  go_upto_region 1 with fail
  generalize hw0 : W.alloc (.cells #[.int .i64 o.cls, .slice A0 o.slots.length c0, .slice D0 o.bytes.length d0] 25) = w0 at *
  clear hw0
  have x0 := hx0.all
  go_wp2_with (first
    | (refine wpList_ldA ag_obj rfl _ rfl ⟨W.heap.size, 0, none⟩ [.int .i64 o.cls, .slice A0 o.slots.length c0, .slice D0 o.bytes.length d0] rfl rfl x0 ?_)
    | fail)
  refine (refcopy_calls _ _ o _ (h.fr0 hf0) (by omega)).mono ?_
  rintro e w1 ⟨cs1, rfl, hown1, hf1⟩
  obtain ⟨A1, c1, D1, d1, rfl⟩ := hown1.lit
  have hx1 := Blk.new w1 25 #[.int .i64 o.cls, .slice A1 o.slots.length c1, .slice D1 o.bytes.length d1]
  have hfA : Fr No w1 (w1.alloc (.cells #[.int .i64 o.cls, .slice A1 o.slots.length c1, .slice D1 o.bytes.length d1] 25)) := (Fr.refl No w1).alloc _
  have hoc2 := (hown1.rd (by omega) (by omega)).fr0 hfA
  have hx02 := (hx0.fr0 hf1).fr0 hfA
  have hF2 := hf0.tr (hf1.tr hfA)
  have hl1 : w1.heap.size < (w1.alloc (.cells #[.int .i64 o.cls, .slice A1 o.slots.length c1, .slice D1 o.bytes.length d1] 25)).heap.size := by simp
  go_upto_region 2 with fail
  generalize hw2 : w1.alloc (.cells #[.int .i64 o.cls, .slice A1 o.slots.length c1, .slice D1 o.bytes.length d1] 25) = w2 at *
  clear hw2 hown1
  have x1 := hx1.all
  go_wp2_with (first
    | (refine wpList_ldA ag_obj rfl _ rfl ⟨w1.heap.size, 0, none⟩ [.int .i64 o.cls, .slice A1 o.slots.length c1, .slice D1 o.bytes.length d1] rfl rfl x1 ?_)
    | fail)
  refine (vput_calls _ _ o _ hoc2).mono ?_
  rintro e w3 ⟨v3, rfl, hown3, hf3⟩
  have x03 := (hx02.fr0 hf3).all
  go_wp2_with (first
    | (refine wpList_ldA ag_obj rfl _ rfl ⟨W.heap.size, 0, none⟩ [.int .i64 o.cls, .slice A0 o.slots.length c0, .slice D0 o.bytes.length d0] rfl rfl x03 ?_)
    | fail)
  refine (refput_calls _ _ o _ (h.fr0 (hF2.tr hf3))).mono ?_
  rintro e w4 ⟨v4, rfl, hown4, hf4⟩
  have hF4 := hF2.tr (hf3.tr hf4)
  have hcas := ObjOk.cases o
  obtain ⟨⟨l, er⟩, hq⟩ : ∃ p, putM o = p := ⟨_, rfl⟩
  rw [hq] at hcas
  simp only [hq] at hown3 hown4 hlen ⊢
  clear hq
  obtain ⟨A3, c3, rfl, hc3, hcm3, hA3⟩ := own_form hown3
  obtain ⟨A4, c4, rfl, hc4, hcm4, _⟩ := own_form hown4
  have hr3 := Rd.fr0 (own_rd hown3 (by omega)) hf4
  have hr4 := own_rd hown4 (by omega)
  have x14 := (hx1.fr0 (hf3.tr hf4)).all
  have x04 := (hx02.fr0 (hf3.tr hf4)).all
  go_wp2_with (first
    | (refine wpList_str Try.underlying23 Try.underlying5 Try.underlying9 rfl (.tmp 22) rfl rfl rfl hr3 ?_)
    | (refine wpList_str Try.underlying23 Try.underlying5 Try.underlying9 rfl (.tmp 24) rfl rfl rfl hr4 ?_)
    | (refine wpList_ldA ag_obj rfl _ rfl ⟨w1.heap.size, 0, none⟩ [.int .i64 o.cls, .slice A1 o.slots.length c1, .slice D1 o.bytes.length d1] rfl rfl x14 ?_)
    | (refine wpList_ldA ag_obj rfl _ rfl ⟨W.heap.size, 0, none⟩ [.int .i64 o.cls, .slice A0 o.slots.length c0, .slice D0 o.bytes.length d0] rfl rfl x04 ?_)
    | fail)
  refine (refsame_calls _ _ _ _ o o _ (hoc2.fr0 (hf3.tr hf4)) (h.fr0 hF4)).mono ?_
  rw [HS.out]
  rintro e w5 ⟨rfl, hf5⟩
  rcases hcas with ⟨l', hq, hr, hg⟩ | hq
  · injection hq with h1 h2
    subst h1 h2
    have HG := Lib.hid hg
    clear hr hg
    go_wp2_with fail
    have hown35 := own_fr0 hown3 (hf4.tr hf5)
    refine (spoil_calls A3 c3 l.length _ _ w5 hown35 (by omega)).mono ?_
    rintro e w6 ⟨rfl, hf6⟩
    have hlt3 : ∀ b, A3.map (·.block) = some b → w2.heap.size ≤ b ∧ b < w3.heap.size := fun b hb => hown3.lt b ((hA3 b).2 hb)
    have hHL := Lib.hid hlt3
    have hs2 := hF2.size
    have hs34 := hf4.size
    have hown46 := own_fr (own_fr0 hown4 hf5) hf6 (fun b hb hT => by have := (hlt3 b hT).2; have := (hown4.lt b hb).1; omega)
    have hr46 := own_rd hown46 (by omega)
    have hF6 : Fr No W w6 := (hF4.tr hf5).trans hf6 (fun b hb hT => by have := (hlt3 b hT).1; omega)
    have hoc6 := (hoc2.lt).fr0 ((hf3.tr hf4).tr hf5) |>.keep hf6 (fun b hb hT => by have := (hlt3 b hT).1; have := hb.2; omega)
    clear hlt3
    go_wp2_with fail
    refine (valueget_calls _ A4 c4 l _ hr46 hc4 hcm4).mono ?_
    rw [HG.out]
    rintro e w7 ⟨cs7, rfl, hown7, hf7⟩
    simp only [Option.getD_some, Option.isSome_some, if_true] at hown7 ⊢
    obtain ⟨A7, c7, D7, d7, rfl⟩ := hown7.lit
    have hx7 := Blk.new w7 25 #[.int .i64 o.cls, .slice A7 o.slots.length c7, .slice D7 o.bytes.length d7]
    have hf8 : Fr No w7 (w7.alloc (.cells #[.int .i64 o.cls, .slice A7 o.slots.length c7, .slice D7 o.bytes.length d7] 25)) := (Fr.refl No w7).alloc _
    have hoc7 := (hown7.rd (by omega) (by omega)).fr0 hf8
    have hoc8 := hoc6.fr0 (hf7.tr hf8)
    have h8 := h.fr0 (hF6.tr (hf7.tr hf8))
    have hx18 := (((hx1.fr0 ((hf3.tr hf4).tr hf5)).fr hf6 (fun hT => by have := (hHL.out _ hT).1; omega)).fr0 hf7).fr0 hf8
    have hlx := hx0.lt
    have hx08 := (((hx02.fr0 ((hf3.tr hf4).tr hf5)).fr hf6 (fun hT => by have := (hHL.out _ hT).1; have := hx02.lt; omega)).fr0 hf7).fr0 hf8
    have hF8 := hF6.tr (hf7.tr hf8)
    go_upto_region 10 with fail
    generalize hw8 : w7.alloc (.cells #[.int .i64 o.cls, .slice A7 o.slots.length c7, .slice D7 o.bytes.length d7] 25) = w8 at *
    clear hw8
    have x7 := hx7.all
    have x18 := hx18.all
    have x08 := hx08.all
    go_wp2_with (first
      | (refine wpList_ldA ag_obj rfl _ rfl ⟨w7.heap.size, 0, none⟩ [.int .i64 o.cls, .slice A7 o.slots.length c7, .slice D7 o.bytes.length d7] rfl rfl x7 ?_)
      | (refine wpList_ldA ag_obj rfl _ rfl ⟨W.heap.size, 0, none⟩ [.int .i64 o.cls, .slice A0 o.slots.length c0, .slice D0 o.bytes.length d0] rfl rfl x08 ?_)
      | fail)
    refine (refsame_calls _ _ _ _ o o _ hoc7 h8).mono ?_
    rw [HS.out]
    rintro e w9 ⟨rfl, hf9⟩
    have x19 := (hx18.fr0 hf9).all
    have x09 := (hx08.fr0 hf9).all
    go_wp2_with (first
      | (refine wpList_ldA ag_obj rfl _ rfl ⟨w1.heap.size, 0, none⟩ [.int .i64 o.cls, .slice A1 o.slots.length c1, .slice D1 o.bytes.length d1] rfl rfl x19 ?_)
      | (refine wpList_ldA ag_obj rfl _ rfl ⟨W.heap.size, 0, none⟩ [.int .i64 o.cls, .slice A0 o.slots.length c0, .slice D0 o.bytes.length d0] rfl rfl x09 ?_)
      | fail)
    refine (refsame_calls _ _ _ _ o o _ (hoc8.fr0 hf9) (h8.fr0 hf9)).mono ?_
    rw [HS.out]
    rintro e wA ⟨rfl, hfA2⟩
    go_wp2_with fail
    refine (known_calls _).mono ?_
    rintro e wB ⟨rfl, hfB⟩
    go_wp2
    go_ret
    exact ⟨rfl, hF8.tr (hf9.tr (hfA2.tr hfB))⟩
  · injection hq with h1 h2
    subst h1 h2
    go_wp2_with fail
    refine (known_calls _).mono ?_
    rintro e w6 ⟨rfl, hf6⟩
    go_wp2
    go_ret
    exact ⟨rfl, hF4.tr (hf5.tr hf6)⟩
end Go.Proofs.Ytfgkioigbnlkkaa
