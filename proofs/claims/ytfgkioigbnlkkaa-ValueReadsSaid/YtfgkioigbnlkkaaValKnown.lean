/- What must come of value's fixed calls. No condition. -/
import Derived.Test.YtfgkioigbnlkkaaRefCopy
namespace Go.Proofs.Ytfgkioigbnlkkaa
set_option linter.unusedVariables false
set_option linter.unusedSimpArgs false
open Go.RowKit

def kObj : ObjM := ⟨7, [⟨3, -1⟩, ⟨4, 300⟩], []⟩
theorem kObj_right : rightO kObj = true := by decide
theorem kObj_bytes : objB kObj = [7, 2, 3, 1, 4, 172, 2, 0] := by
  have h1 : uintL 7 = [7] := uintL_small 7 (by decide)
  have h2 : uintL 2 = [2] := uintL_small 2 (by decide)
  have h3 : uintL 1 = [1] := uintL_small 1 (by decide)
  have h4 : uintL 300 = [172, 2] := by rw [uintL_big 300 (by decide), show 300 / 128 = 2 from rfl, h2]; rfl
  have h0 : uintL 0 = [0] := uintL_small 0 (by decide)
  show uintL 7 ++ uintL 2 ++ (UInt8.ofNat 3 :: uintL 1 ++ (UInt8.ofNat 4 :: uintL 300 ++ [])) ++ (uintL 0 ++ []) = _
  rw [h1, h2, h3, h4, h0]; rfl
theorem kObj_put : putM kObj = ([7, 2, 3, 1, 4, 172, 2, 0], 0) := by rw [putM_ok kObj_right, kObj_bytes]
theorem kObj_get : getM [7, 2, 3, 1, 4, 172, 2, 0] = some kObj := by rw [← kObj_bytes]; exact getM_put kObj kObj_right
set_option maxHeartbeats 2000000 in
set_option maxRecDepth 100000 in
theorem known_calls (w : World) : Calls Try.prog 13 #[] w fun e w' => e = .returned (.bool true) ∧ Fr No w w' := by
  have hf1 : Fr No w ((w.alloc (.cells #[.int .i64 3, .int .i64 (-1), .int .i64 4, .int .i64 300] 41)).alloc (.cells #[.int .i64 7, .slice (some ⟨w.heap.size, 0, none⟩) 2 2, .slice none 0 0] 25)) := ((Fr.refl No w).alloc _).alloc _
  have hbs : Blk ((w.alloc (.cells #[.int .i64 3, .int .i64 (-1), .int .i64 4, .int .i64 300] 41)).alloc (.cells #[.int .i64 7, .slice (some ⟨w.heap.size, 0, none⟩) 2 2, .slice none 0 0] 25)) w.heap.size 41 #[.int .i64 3, .int .i64 (-1), .int .i64 4, .int .i64 300] := (Blk.new w _ _).alloc _
  have hbo : Blk ((w.alloc (.cells #[.int .i64 3, .int .i64 (-1), .int .i64 4, .int .i64 300] 41)).alloc (.cells #[.int .i64 7, .slice (some ⟨w.heap.size, 0, none⟩) 2 2, .slice none 0 0] 25)) (w.heap.size + 1) 25 #[.int .i64 7, .slice (some ⟨w.heap.size, 0, none⟩) 2 2, .slice none 0 0] := Blk.newAt (by simp)
  have hoc : ObjC ((w.alloc (.cells #[.int .i64 3, .int .i64 (-1), .int .i64 4, .int .i64 300] 41)).alloc (.cells #[.int .i64 7, .slice (some ⟨w.heap.size, 0, none⟩) 2 2, .slice none 0 0] 25)) (fun b => b = w.heap.size) [.int .i64 7, .slice (some ⟨w.heap.size, 0, none⟩) 2 2, .slice none 0 0] kObj :=
    ⟨_, 2, none, 0, rfl, hbs.rd (size := 2) (n := 2) rfl (by decide), Rd.nil_⟩
  have H1 := Lib.hid kObj_put
  have H2 := Lib.hid kObj_get
  have H3 := Lib.hid kObj_right
  go_enter Try.func13, Try.ntmps13
  go_upto_region 2 with fail
  generalize hw1 : ((w.alloc (.cells #[.int .i64 3, .int .i64 (-1), .int .i64 4, .int .i64 300] 41)).alloc (.cells #[.int .i64 7, .slice (some ⟨w.heap.size, 0, none⟩) 2 2, .slice none 0 0] 25)) = w1 at *
  clear hw1
  have hball := hbo.all
  go_wp2_with (first
    | (refine wpList_ldA ag_obj rfl _ rfl ⟨w.heap.size + 1, 0, none⟩ [.int .i64 7, .slice (some ⟨w.heap.size, 0, none⟩) 2 2, .slice none 0 0] rfl rfl hball ?_)
    | fail)
  refine (vput_calls _ _ kObj _ hoc).mono ?_
  rw [H1.out]
  rintro e w2 ⟨v2, rfl, hown2, hf2⟩
  simp only at hown2 ⊢
  obtain ⟨A2, c2, rfl, hc2, hcm2, _⟩ := own_form hown2
  have hr2 : RdB w2 _ A2 [7, 2, 3, 1, 4, 172, 2, 0] := own_rd hown2 (by decide)
  go_wp2_with fail
  refine (valueget_calls _ A2 c2 [7, 2, 3, 1, 4, 172, 2, 0] _ hr2 hc2 hcm2).mono ?_
  rw [H2.out]
  rintro e w3 ⟨cs3, rfl, hown3, hf3⟩
  simp only [Option.getD_some, Option.isSome_some, if_true] at hown3 ⊢
  have hoc3 := hown3.rd (by decide) (by decide)
  obtain ⟨A3, c3, D3, d3, rfl, hs3, hb3⟩ := hoc3
  have hnew := Blk.new w3 25 #[.int .i64 kObj.cls, .slice A3 kObj.slots.length c3, .slice D3 kObj.bytes.length d3]
  have hfA : Fr No w3 (w3.alloc (.cells #[.int .i64 kObj.cls, .slice A3 kObj.slots.length c3, .slice D3 kObj.bytes.length d3] 25)) := (Fr.refl No w3).alloc _
  have hoc4 : ObjC (w3.alloc (.cells #[.int .i64 kObj.cls, .slice A3 kObj.slots.length c3, .slice D3 kObj.bytes.length d3] 25)) _ _ kObj := ObjC.fr0 ⟨A3, c3, D3, d3, rfl, hs3, hb3⟩ hfA
  have hoc1 := (hoc.fr0 (hf2.tr hf3)).fr0 hfA
  have hbo4 := (hbo.fr0 (hf2.tr hf3)).fr0 hfA
  have hr4 := Rd.fr0 (Rd.fr0 hr2 hf3) hfA
  have hF := (hf1.tr (hf2.tr hf3)).tr hfA
  go_upto_region 4 with fail
  generalize hw4 : w3.alloc (.cells #[.int .i64 kObj.cls, .slice A3 kObj.slots.length c3, .slice D3 kObj.bytes.length d3] 25) = w4 at *
  clear hw4
  have hball4 := hbo4.all
  have hnall := hnew.all
  go_wp2_with (first
    | (refine wpList_str Try.underlying23 Try.underlying5 Try.underlying9 rfl (.tmp 23) rfl rfl rfl hr4 ?_)
    | (refine wpList_ldA ag_obj rfl _ rfl ⟨w3.heap.size, 0, none⟩ [.int .i64 kObj.cls, .slice A3 kObj.slots.length c3, .slice D3 kObj.bytes.length d3] rfl rfl hnall ?_)
    | (refine wpList_ldA ag_obj rfl _ rfl ⟨w.heap.size + 1, 0, none⟩ [.int .i64 7, .slice (some ⟨w.heap.size, 0, none⟩) 2 2, .slice none 0 0] rfl rfl hball4 ?_)
    | fail)
  refine (vsame_calls _ _ _ _ kObj kObj _ hoc4 hoc1).mono ?_
  rw [sameO_self]
  rintro e w5 ⟨rfl, hf5⟩
  have hball5 := (hbo4.fr0 hf5).all
  go_wp2_with (first
    | (refine wpList_ldA ag_obj rfl _ rfl ⟨w.heap.size + 1, 0, none⟩ [.int .i64 7, .slice (some ⟨w.heap.size, 0, none⟩) 2 2, .slice none 0 0] rfl rfl hball5 ?_)
    | fail)
  refine (righto_calls _ _ kObj _ (hoc1.fr0 hf5)).mono ?_
  rw [H3.out]
  rintro e w6 ⟨rfl, hf6⟩
  go_wp2
  go_ret
  exact ⟨rfl, hF.tr (hf5.tr hf6)⟩
end Go.Proofs.Ytfgkioigbnlkkaa
