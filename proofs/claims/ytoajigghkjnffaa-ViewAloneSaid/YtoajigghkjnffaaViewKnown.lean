/- lapidarylaw12.known. No condition. -/
import Derived.Test.YtoajigghkjnffaaViewMake
import Derived.Test.YtoajigghkjnffaaBoth
namespace Go.Proofs.Ytoajigghkjnffaa
set_option linter.unusedVariables false
set_option linter.unusedSimpArgs false
open Go.RowKit

def kc : ChM := ⟨5, false, ⟨1, [], []⟩⟩
def kr : RecM := ⟨1, [kc]⟩
def kt : TabM := tabOf [kr]
theorem kt_last : kt.last = 1 := by rfl
theorem kt_first : kt.first = 0 := by rfl
theorem kt_ok : TabOk kt := tabOf_ok _ _ tab0_ok
theorem kt_n : kt.n ≤ 1000000 := by show (1 : Nat) ≤ 1000000; decide
theorem kpeek0 : peekM kt (view0 1) 5 = (⟨1, [], []⟩, 0) := by rfl
def kv1 : ViewM := vput (view0 1) 5 ⟨2, [], []⟩
theorem kput : putV kt (view0 1) 5 ⟨2, [], []⟩ = (kv1, 0) := by rfl
def kv2 : ViewM := (makeM kv1 ⟨3, [], []⟩).1
theorem kmake : (makeM kv1 ⟨3, [], []⟩).2 = (4097, 0) := by rfl
theorem kpeek2 : peekM kt kv2 5 = (⟨2, [], []⟩, 0) := by rfl
theorem kv1_ok : ViewOk kv1 := ⟨Int.le_refl _, by show (0 : Int) ≤ 4096; decide, fun x o h => by
  have h' : (if x = 5 then some (⟨2, [], []⟩ : ObjM) else none) = some o := h
  split at h'
  · injection h' with h'; subst h'; exact ⟨by decide, by decide⟩
  · cases h'⟩
theorem kv2_ok : ViewOk kv2 := ⟨by show (0 : Int) ≤ 1; decide, by show (1 : Int) ≤ 4096; decide, fun x o h => by
  have h' : (if x = 4097 then some (⟨3, [], []⟩ : ObjM) else (if x = 5 then some ⟨2, [], []⟩ else none)) = some o := h
  split at h'
  · injection h' with h'; subst h'; exact ⟨by decide, by decide⟩
  · split at h'
    · injection h' with h'; subst h'; exact ⟨by decide, by decide⟩
    · cases h'⟩
theorem nilObj (w : World) (n : Int) : ObjC w No [.int .i64 n, .slice none 0 0, .slice none 0 0] ⟨n, [], []⟩ := ⟨none, 0, none, 0, rfl, Rd.nil_, Rd.nil_⟩
theorem kr_ok : ∀ r ∈ [kr], RecOk r := by
  intro r hr
  rw [List.mem_singleton] at hr
  subst hr
  refine ⟨by decide, fun c hc => ?_⟩
  have : c = kc := by simpa [kr] using hc
  subst this
  exact ⟨by decide, by decide⟩
/-- The record in memory. -/
theorem kr_rd {w : World} {g1 g2 : Nat} (h1 : Blk w g1 tChr #[.int .i64 5, .bool false, .int .i64 1, .slice none 0 0, .slice none 0 0]) (h2 : Blk w g2 tRecr #[.int .i64 1, .slice (some ⟨g1, 0, none⟩) 1 1]) :
    RdRec w (fun b => b < w.heap.size) (some ⟨g2, 0, none⟩) [kr] := by
  have r1 := h1.rd (size := 5) (n := 1) (by rfl) (by decide)
  have r2 := h2.rd (size := 2) (n := 1) (by rfl) (by decide)
  have l1 := h1.lt
  have l2 := h2.lt
  refine ⟨_, r2.mono (fun b _ e => by subst e; exact l2) (by decide), [.int .i64 1, .slice (some ⟨g1, 0, none⟩) 1 1], [], rfl, ⟨some ⟨g1, 0, none⟩, 1, rfl, ⟨_, r1.mono (fun b _ e => by subst e; exact l1) (by decide), [.int .i64 5, .bool false, .int .i64 1, .slice none 0 0, .slice none 0 0], [], rfl, ⟨none, 0, none, 0, rfl, Rd.nil_, Rd.nil_⟩, rfl⟩⟩, rfl⟩
set_option maxHeartbeats 4000000 in
set_option maxRecDepth 100000 in
theorem known_calls (w : World) :
    Calls Try.prog 14 #[] w fun e w' => e = .returned (.bool true) ∧ Fr No w w' := by
  have g1 := plain_i64
  go_enter Try.func14, Try.ntmps14
  go_wp2_with fail
  have hr1 : Blk ((w.alloc (.cells #[.int .i64 5, .bool false, .int .i64 1, .slice none 0 0, .slice none 0 0] tChr)).alloc (.cells #[.int .i64 1, .slice (some ⟨w.heap.size, 0, none⟩) 1 1] tRecr)) w.heap.size tChr #[.int .i64 5, .bool false, .int .i64 1, .slice none 0 0, .slice none 0 0] := (Blk.new w _ _).alloc _
  have hr2 : Blk ((w.alloc (.cells #[.int .i64 5, .bool false, .int .i64 1, .slice none 0 0, .slice none 0 0] tChr)).alloc (.cells #[.int .i64 1, .slice (some ⟨w.heap.size, 0, none⟩) 1 1] tRecr)) (w.heap.size + 1) tRecr #[.int .i64 1, .slice (some ⟨w.heap.size, 0, none⟩) 1 1] := Blk.newAt (by simp)
  have hf1 : Fr No w ((w.alloc (.cells #[.int .i64 5, .bool false, .int .i64 1, .slice none 0 0, .slice none 0 0] tChr)).alloc (.cells #[.int .i64 1, .slice (some ⟨w.heap.size, 0, none⟩) 1 1] tRecr)) := ((Fr.refl No w).alloc _).alloc _
  refine (both_calls _ (some ⟨w.heap.size + 1, 0, none⟩) 1 [kr] _ (kr_rd hr1 hr2) (fun b hb => hb) kr_ok).mono ?_
  rintro e w1 ⟨p, pr, T, O, T2, O2, rfl, hT1, _, hall, _, _, hf2⟩
  have hT1 : TabAt w1 T O p kt := hT1
  have hF1 := hf1.tr hf2
  have hz1 := hf1.size
  have hge : ∀ b, T b ∨ O b → w.heap.size ≤ b := fun b hb => by
    have := hall b (hb.elim .inl (fun h => .inr (.inl h)))
    omega
  clear hall hr1 hr2 hf1 hf2 hz1
  have hTl := hT1.lt
  obtain ⟨mb, wb, hbk⟩ := hT1.blk
  rw [kt_first, kt_last] at hbk
  go_wp2_with fail
  refine (vnew_calls w1 p 0 1 _ _ hbk).mono ?_
  rintro e w2 ⟨q, rfl, hV2, hf2⟩
  have hT2 := hT1.fr0 hf2
  have hz2 := hf2.size
  go_wp2_with fail
  refine (vnew_calls w2 p 0 1 _ _ (hbk.fr0 hf2)).mono ?_
  rintro e w3 ⟨q2, rfl, hU3, hf3⟩
  have hV3 := hV2.fr0 hf3
  have hT3 := hT2.fr0 hf3
  have hF3 := (hF1.tr hf2).tr hf3
  have hz3 := hf3.size
  have hV3l := hV3.lt
  have hU3l := hU3.lt
  clear hV2 hT2 hbk hT1
  generalize hVV : (fun b => w1.heap.size ≤ b ∧ b < w2.heap.size) = V at *
  generalize hUU : (fun b => w2.heap.size ≤ b ∧ b < w3.heap.size) = U at *
  have hVd : ∀ b, V b → w1.heap.size ≤ b ∧ b < w2.heap.size := fun b hb => by rw [← hVV] at hb; exact hb
  have hUd : ∀ b, U b → w2.heap.size ≤ b ∧ b < w3.heap.size := fun b hb => by rw [← hUU] at hb; exact hb
  clear hVV hUU
  go_wp2_with fail
  refine (vput_calls w3 V No T O No q p (view0 1) kt 5 _ ⟨2, [], []⟩ hV3 hT3 (nilObj w3 2) kt_ok (view0_ok 1) kt_n (by decide) (wf_of (by decide) (by decide)) (by decide)).mono ?_
  rintro e w4 ⟨rfl, O4, hV4, hO4, hf4⟩
  rw [kput] at hV4 ⊢
  simp only at hV4 ⊢
  have hT4 := hT3.fr hf4 (fun b hb hV => by have := hTl.1 b hb; have := hVd b hV; omega) (fun b hb hV => by have := hTl.2.1 b hb; have := hVd b hV; omega)
  have hU4 := hU3.fr hf4 (fun b hb hV => by have := hUd b hb; have := hVd b hV; omega) (fun b hb hV => hb)
  have hF4 : Fr No w w4 := hF3.trans hf4 (fun b hb hV => by have := hVd b hV; have := hF1.size; omega)
  have hz4 := hf4.size
  clear hV3 hT3 hU3
  go_wp2_with fail
  refine (vmake_calls w4 V O4 No q p kv1 _ ⟨3, [], []⟩ hV4 (nilObj w4 3) (fun b hb _ => hb) kv1_ok (by decide) (by decide)).mono ?_
  rintro e w5 ⟨rfl, O5, hV5, hO5, hf5⟩
  rw [kmake]
  simp only
  have hV5 : ViewAt w5 V O5 q p kv2 := hV5
  have hT5 := hT4.fr hf5 (fun b hb hV => by have := hTl.1 b hb; have := hVd b hV; omega) (fun b hb hV => by have := hTl.2.1 b hb; have := hVd b hV; omega)
  have hU5 := hU4.fr hf5 (fun b hb hV => by have := hUd b hb; have := hVd b hV; omega) (fun b hb hV => hb)
  have hF5 : Fr No w w5 := hF4.trans hf5 (fun b hb hV => by have := hVd b hV; have := hF1.size; omega)
  have hz5 := hf5.size
  clear hV4 hT4 hU4
  go_wp2_with fail
  refine (get_calls w5 V O5 T O q p kv2 kt 5 hV5 hT5 (fun b hV => ⟨fun hb => by have := hTl.1 b hb; have := hVd b hV; omega, fun hb => by have := hTl.2.1 b hb; have := hVd b hV; omega⟩) kt_ok kv2_ok kt_n (by decide) (wf_of (by decide) (by decide))).mono ?_
  rintro e w6 ⟨cs6, rfl, hown6, hV6, hf6⟩
  rw [kpeek2] at hown6 ⊢
  simp only at hown6 ⊢
  obtain ⟨A6, c6, D6, d6, rfl⟩ := hown6.lit3
  have hT6 := hT5.fr hf6 (fun b hb hV => by have := hTl.1 b hb; have := hVd b hV; omega) (fun b hb hV => by have := hTl.2.1 b hb; have := hVd b hV; omega)
  have hU6 := hU5.fr hf6 (fun b hb hV => by have := hUd b hb; have := hVd b hV; omega) (fun b hb hV => hb)
  have hF6 : Fr No w w6 := hF5.trans hf6 (fun b hb hV => by have := hVd b hV; have := hF1.size; omega)
  have hz6 := hf6.size
  clear hT5 hU5
  try simp only [List.length_nil]
  have hb8 := Blk.new w6 tObj #[.int .i64 2, .slice A6 0 c6, .slice D6 0 d6]
  have hfo : Fr No w6 (w6.alloc (.cells #[.int .i64 2, .slice A6 0 c6, .slice D6 0 d6] tObj)) := (Fr.refl No w6).alloc _
  have hV7 := hV6.fr0 hfo
  have hT7 := hT6.fr0 hfo
  have hU7 := hU6.fr0 hfo
  have hF7 := hF6.tr hfo
  have hz7 := hfo.size
  have hl7 := hb8.lt
  clear hV6 hT6 hU6 hfo hown6
  go_wp2_with fail
  generalize hw7 : w6.alloc (.cells #[.int .i64 2, .slice A6 0 c6, .slice D6 0 d6] tObj) = w7 at *
  try rw [hw7]
  clear hw7
  refine (get_calls w7 U No T O q2 p (view0 1) kt 5 hU7 hT7 (fun b hV => ⟨fun hb => by have := hTl.1 b hb; have := hUd b hV; omega, fun hb => by have := hTl.2.1 b hb; have := hUd b hV; omega⟩) kt_ok (view0_ok 1) kt_n (by decide) (wf_of (by decide) (by decide))).mono ?_
  rintro e w8 ⟨cs8, rfl, hown8, hU8, hf8⟩
  rw [kpeek0] at hown8 ⊢
  simp only at hown8 ⊢
  obtain ⟨A8, c8, D8, d8, rfl⟩ := hown8.lit3
  try simp only [List.length_nil]
  have hV8 := hV7.fr hf8 (fun b hb hV => by have := hUd b hV; have := hVd b hb; omega) (fun b hb hV => by
    have h1 := hUd b hV
    rcases hO5 b hb with h9 | h9
    · rcases hO4 b h9 with h7 | h7
      · exact h7
      · omega
    · omega)
  have hb9 := hb8.fr hf8 (fun hV => by have := hUd _ hV; omega)
  have hF8 : Fr No w w8 := hF7.trans hf8 (fun b hb hV => by have := hUd b hV; have := hF1.size; omega)
  have hba := Blk.new w8 tObj #[.int .i64 1, .slice A8 0 c8, .slice D8 0 d8]
  have hfa : Fr No w8 (w8.alloc (.cells #[.int .i64 1, .slice A8 0 c8, .slice D8 0 d8] tObj)) := (Fr.refl No w8).alloc _
  have hb10 := hb9.fr0 hfa
  obtain ⟨ob, rb, f, g, hP⟩ := hV8.fr0 hfa
  have hbv := hP.blk
  have hF9 := hF8.tr hfa
  generalize hw9 : w8.alloc (.cells #[.int .i64 1, .slice A8 0 c8, .slice D8 0 d8] tObj) = w9 at *
  have x0 := hb10.cell 0
  have y0 := hba.cell 0
  simp only [List.getElem?_toArray, List.getElem?_cons_zero] at x0 y0
  go_wp2_with fail
  refine (base_calls w9 q p 1 1 (.map (some ob)) (.map (some rb)) (show Blk w9 q 82 #[.pointer (some ⟨p, 0, none⟩), .int .i64 1, .map (some ob), .map (some rb), .int .i64 1] from hbv)).mono ?_
  rintro e wz ⟨rfl, hwz⟩
  have hwz := hwz.symm
  subst hwz
  go_wp2
  go_ret
  exact ⟨rfl, hF9⟩
end Go.Proofs.Ytoajigghkjnffaa
