/- The walk of lapidarylaw05.ValueGets. No condition but that a slice can hold the bytes. -/
import Derived.Test.YtfgkioigbnlkkaaLValuePuts
import Derived.Test.YtfgkioigbnlkkaaSpoilO
import Derived.Test.YtfgkioigbnlkkaaWLent
namespace Go.Proofs.Ytfgkioigbnlkkaa
set_option linter.unusedVariables false
set_option linter.unusedSimpArgs false
open Go.RowKit

/-- What Get hands back, as an object. -/
def getO (l : List UInt8) : ObjM := (getM l).getD ⟨0, [], []⟩
theorem getO_len (l : List UInt8) : (getO l).slots.length ≤ 256 ∧ (getO l).bytes.length ≤ 1024 := by
  unfold getO
  cases h : getM l with
  | none => simp
  | some o =>
    obtain ⟨h1, h2, h3, h4, h5⟩ := rightO_parts (getM_get l o h).1
    exact ⟨h3, h4⟩
def getE (l : List UInt8) : Int := if (getM l).isSome = true then 0 else 11
theorem getO_cases (l : List UInt8) : (getE l = 0 ∧ putM (getO l) = (l, 0)) ∨ getE l = 11 := by
  unfold getE getO
  cases h : getM l with
  | none => exact .inr rfl
  | some o =>
    obtain ⟨h1, h2⟩ := getM_get l o h
    exact .inl ⟨rfl, by rw [Option.getD_some, putM_ok h1, h2]⟩
theorem RetO.out {w w' : World} {e : Ending} {l : List UInt8} (h : RetO w w' e (getM l)) : ∃ A c D d, e = .returned (.tuple #[.agg #[.int .i64 (getO l).cls, .slice A (getO l).slots.length c, .slice D (getO l).bytes.length d], .int .i64 (getE l)]) ∧
    ObjOwn w' w.heap.size [.int .i64 (getO l).cls, .slice A (getO l).slots.length c, .slice D (getO l).bytes.length d] (getO l) ∧ Fr No w w' := by
  obtain ⟨cs, he, hown, hf⟩ := h
  obtain ⟨A, c, D, d, rfl⟩ := hown.lit
  exact ⟨A, c, D, d, he, hown, hf⟩
set_option maxHeartbeats 4000000 in
set_option maxRecDepth 100000 in
theorem law_ValueGets (W : World) (a0 : Option Addr) (cap0 : Nat) (l : List UInt8) (h0 : RdB W (fun b => b < W.heap.size) a0 l) (b0 : l.length ≤ 140737488351232) (c0 : l.length ≤ cap0) (m0 : cap0 ≤ maxLen) :
    Calls Try.prog 4 #[.slice a0 l.length cap0] W fun e w' => e = .returned (.bool true) ∧ Fr No W w' := by
  go_enter Try.func4, Try.ntmps4
  go_wp2_with fail
  refine (lent_calls _ _ _ l _ h0).mono ?_
  rintro e w1 ⟨g, rfl, hgW, hg, hf1⟩
  go_wp2_with fail
  refine (valueget_calls _ _ (l.length + 8) l _ (LentAt.rd hg (by omega)) (by omega) (by unfold maxLen; omega)).mono ?_
  rintro e w2 hret
  obtain ⟨A2, c2, D2, d2, rfl, hown2, hf2⟩ := hret.out
  clear hret
  have hlo := getO_len l
  have HS := Lib.hid (sameO_self (getO l))
  have HC := Lib.hid (getO_cases l)
  have hrefg := fun w hr => refget_calls (fun b => b < W.heap.size) a0 cap0 l w hr c0 m0
  obtain ⟨o, ho⟩ : ∃ o, getO l = o := ⟨_, rfl⟩
  obtain ⟨er, her⟩ : ∃ er, getE l = er := ⟨_, rfl⟩
  have HO := Lib.hid ho
  have HE := Lib.hid her
  simp only [ho, her] at hown2 hlo HS HC ⊢
  clear ho her
  have hx2 := Blk.new w2 25 #[.int .i64 o.cls, .slice A2 o.slots.length c2, .slice D2 o.bytes.length d2]
  have hfA : Fr No w2 (w2.alloc (.cells #[.int .i64 o.cls, .slice A2 o.slots.length c2, .slice D2 o.bytes.length d2] 25)) := (Fr.refl No w2).alloc _
  have hin := hown2.in_
  have hoc2 := (hown2.rd (by omega) (by omega)).fr0 hfA
  have hinA := hin.fr0 hfA
  have hgl := Blk.lt hg
  have hs2 := hf2.size
  have hlA : w2.heap.size < (w2.alloc (.cells #[.int .i64 o.cls, .slice A2 o.slots.length c2, .slice D2 o.bytes.length d2] 25)).heap.size := by simp
  have hF3 := hf1.tr (hf2.tr hfA)
  have hg3 := Blk.fr0 hg (hf2.tr hfA)
  go_upto_region 3 with fail
  generalize hw3 : w2.alloc (.cells #[.int .i64 o.cls, .slice A2 o.slots.length c2, .slice D2 o.bytes.length d2] 25) = w3 at *
  clear hw3 hown2 hin
  go_wp2_with fail
  refine (hrefg _ (Rd.fr0 h0 hF3)).mono ?_
  rintro e w4 hret
  obtain ⟨A4, c4, D4, d4, rfl, hown4, hf4⟩ := hret.out
  clear hret hrefg
  rw [HO.out] at hown4
  rw [HO.out, HE.out]
  have hx4 := Blk.new w4 25 #[.int .i64 o.cls, .slice A4 o.slots.length c4, .slice D4 o.bytes.length d4]
  have hfB : Fr No w4 (w4.alloc (.cells #[.int .i64 o.cls, .slice A4 o.slots.length c4, .slice D4 o.bytes.length d4] 25)) := (Fr.refl No w4).alloc _
  have hocB := (hown4.rd (by omega) (by omega)).fr0 hfB
  have hs4 := hf4.size
  have hF5 := hF3.tr (hf4.tr hfB)
  have hg5 := Blk.fr0 hg3 (hf4.tr hfB)
  have hoc5 := hoc2.fr0 (hf4.tr hfB)
  have hin5 := hinA.fr0 (hf4.tr hfB)
  have hx5 := hx2.fr0 (hf4.tr hfB)
  go_upto_region 4 with fail
  generalize hw5 : w4.alloc (.cells #[.int .i64 o.cls, .slice A4 o.slots.length c4, .slice D4 o.bytes.length d4] 25) = w5 at *
  clear hw5 hown4
  have x5 := hx5.all
  have y5 := hx4.all
  go_wp2_with (first
    | (refine wpList_ldA ag_obj rfl _ rfl ⟨w2.heap.size, 0, none⟩ [.int .i64 o.cls, .slice A2 o.slots.length c2, .slice D2 o.bytes.length d2] rfl rfl x5 ?_)
    | (refine wpList_ldA ag_obj rfl _ rfl ⟨w4.heap.size, 0, none⟩ [.int .i64 o.cls, .slice A4 o.slots.length c4, .slice D4 o.bytes.length d4] rfl rfl y5 ?_)
    | fail)
  refine (refsame_calls _ _ _ _ o o _ hoc5 hocB).mono ?_
  rw [HS.out]
  rintro e w6 ⟨rfl, hf6⟩
  go_wp2_with fail
  refine (kept_calls _ _ g cap0 l _ (Blk.fr0 hg5 hf6) (Rd.fr0 h0 (hF5.tr hf6)) (by omega)).mono ?_
  rintro e w7 ⟨rfl, hf7⟩
  have x7 := (hx5.fr0 (hf6.tr hf7)).all
  go_wp2_with (first
    | (refine wpList_ldA ag_obj rfl _ rfl ⟨w2.heap.size, 0, none⟩ [.int .i64 o.cls, .slice A2 o.slots.length c2, .slice D2 o.bytes.length d2] rfl rfl x7 ?_)
    | fail)
  refine (spoilo_calls _ _ o _ (hin5.fr0 (hf6.tr hf7)) (by omega) (by omega)).mono ?_
  rintro e w8 ⟨rfl, hf8⟩
  have hs1 := hf1.size
  have hF8 : Fr No W w8 := (hF5.tr (hf6.tr hf7)).trans hf8 (fun b hb hT => by have := hT.1; omega)
  have hg8 : LentAt w8 g l := Blk.fr (Blk.fr0 hg5 (hf6.tr hf7)) hf8 (fun hT => by have := hT.1; omega)
  have hoc8 := ((hocB.fr0 (hf6.tr hf7))).keep hf8 (fun b hb hT => by have := hT.2; have hb2 : w3.heap.size ≤ b := hb; omega)
  have hx8 := (hx4.fr0 (hf6.tr hf7)).fr hf8 (fun hT => by have := hT.2; omega)
  go_wp2_with fail
  refine (kept_calls _ _ g cap0 l _ hg8 (Rd.fr0 h0 hF8) (by omega)).mono ?_
  rintro e w9 ⟨rfl, hf9⟩
  rcases HC.out with ⟨h1, h2⟩ | h1
  · subst h1
    have HP := Lib.hid h2
    clear HC h2
    have x9 := (hx8.fr0 hf9).all
    go_wp2_with (first
      | (refine wpList_ldA ag_obj rfl _ rfl ⟨w4.heap.size, 0, none⟩ [.int .i64 o.cls, .slice A4 o.slots.length c4, .slice D4 o.bytes.length d4] rfl rfl x9 ?_)
      | fail)
    refine (vput_calls _ _ o _ (hoc8.fr0 hf9)).mono ?_
    rw [HP.out]
    rintro e wA ⟨vA, rfl, hownA, hfA2⟩
    simp only at hownA ⊢
    obtain ⟨AA, cA, rfl, hcA, hcmA, _⟩ := own_form hownA
    have hrA := own_rd hownA (by omega)
    go_wp2_with (first
      | (refine wpList_str Try.underlying23 Try.underlying5 Try.underlying9 rfl (.tmp 61) rfl rfl rfl hrA ?_)
      | (refine wpList_str Try.underlying23 Try.underlying5 Try.underlying9 rfl (.tmp 63) rfl rfl rfl (Rd.fr0 h0 (hF8.tr (hf9.tr hfA2))) ?_)
      | fail)
    refine (known_calls _).mono ?_
    rintro e wB ⟨rfl, hfB2⟩
    go_wp2
    go_ret
    exact ⟨rfl, hF8.tr (hf9.tr (hfA2.tr hfB2))⟩
  · subst h1
    clear HC
    go_wp2_with fail
    refine (kept_calls _ _ g cap0 l _ (Blk.fr0 hg8 hf9) (Rd.fr0 h0 (hF8.tr hf9)) (by omega)).mono ?_
    rintro e wA ⟨rfl, hfA2⟩
    go_wp2_with fail
    refine (known_calls _).mono ?_
    rintro e wB ⟨rfl, hfB2⟩
    go_wp2
    go_ret
    exact ⟨rfl, hF8.tr (hf9.tr (hfA2.tr hfB2))⟩
end Go.Proofs.Ytfgkioigbnlkkaa
