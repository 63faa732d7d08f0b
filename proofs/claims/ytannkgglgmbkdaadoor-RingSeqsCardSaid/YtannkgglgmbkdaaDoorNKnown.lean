/- law04's device, known. No condition. -/
import Derived.Test.YtannkgglgmbkdaaDoorNPKnown
import Derived.Lib.SlBytesConst
namespace Go.Proofs.YtannkgglgmbkdaaDoor
set_option linter.unusedVariables false
set_option linter.unusedSimpArgs false
open Go.RowKit

set_option maxRecDepth 100000 in
theorem refnew_calls (n : Nat) (h1 : 1 ≤ n) (h2 : n ≤ 4096) (w : World) :
    Calls Tryd.prog 27 #[.int .i64 (n : Int)] w fun e w' => ∃ R, e = .returned (.pointer (some ⟨R, 0, none⟩)) ∧ w.heap.size ≤ R ∧ Fr No w w' := by
  have e1 : decide ((n : Int) < 1) = false := by simp; omega
  have e2 : decide ((4096 : Int) < n) = false := by simp; omega
  obtain ⟨m, hm⟩ : ∃ m, m = n * 128 := ⟨_, rfl⟩
  have HM := Lib.hid (show (n : Int) * 128 = (m : Int) by omega)
  have hm4 : m ≤ 524288 := by omega
  clear hm h1
  go_enter Tryd.func27, Tryd.ntmps27
  go_wp2_with (first
    | (refine wpList_make so_u8 (n := m) (c := m) (Nat.le_refl _) (by omega) rfl rfl (show _ = Value.int .i64 (m : Int) from congrArg _ HM.out) (show _ = Value.int .i64 (m : Int) from congrArg _ HM.out) ?_)
    | fail)
  go_ret
  exact ⟨_, rfl, by simp, ((Fr.refl No w).alloc _).alloc _⟩
set_option maxRecDepth 100000 in
theorem device_calls (n : Nat) (h1 : 1 ≤ n) (h2 : n ≤ 4096) (w : World) :
    Calls Tryd.prog 12 #[.int .i64 (n : Int)] w fun e w' => ∃ H R, e = .returned (.tuple #[.pointer (some ⟨H, 0, none⟩), .pointer (some ⟨R, 0, none⟩)]) ∧ DiskAt w' (fun b => w.heap.size ≤ b) H (zeroM n) ∧ Fr No w w' := by
  go_enter Tryd.func12, Tryd.ntmps12
  go_wp2_with fail
  refine (new_calls n h1 h2 _).mono ?_
  rintro e w1 ⟨H, hH, rfl, hd, hf⟩
  go_wp2_with fail
  refine (refnew_calls n h1 h2 _).mono ?_
  rintro e w2 ⟨R, rfl, hR, hf2⟩
  go_wp2_with fail
  go_ret2
  exact ⟨H, R, rfl, hd.fr0 hf2, hf.tr hf2⟩
/-- '[]byte("..")' of a constant. -/
theorem wpList_bytesC {w : World} {ops : Array Oper} {rest : List Oper} {o : Oper} {a : Act} {Q : Exit → Act → World → Prop} {C : Array Value} {n c : Nat} (hw : Region.wanted o (yielded ops a.tmps) = true) {x : Operand} (ho : o.op = .convert 40 40 x)
    (hx : a.eval x = .slice (some ⟨w.heap.size, 0, none⟩) n c) (h : wpList Tryd.prog ops Q rest (a.put o.dst (.slice (some ⟨w.heap.size, 0, none⟩) n c)) (w.alloc (.cells C 5 (C.size, C.size + 1)))) : wpList Tryd.prog ops Q (o :: rest) a (w.alloc (.cells C 5)) := by
  have hr := Lib.run_convert_bytes_const (P := Tryd.prog) w 40 5 C n c Tryd.underlying40 Tryd.underlying5
  refine BigFrame.wpList_want hw fun K hK => ?_
  unfold Oper.wp execOp
  simp only [ho, hx, hr, Sem.run_bind, Result.andThen_ok, Sem.run_pure]
  exact hK _ _ h
set_option maxHeartbeats 8000000 in
set_option maxRecDepth 100000 in
theorem known_calls (w : World) : Calls Tryd.prog 11 #[] w fun e w' => e = .returned (.bool true) ∧ Fr No w w' := by
  have hop1 : ∀ w' H, DiskAt w' (fun b => w.heap.size ≤ b) H (kD zsec (headB (kH 1)) zsec) → _ := fun w' H hd =>
    open_calls w' _ H _ (kD (headB (kH 2)) (headB (kH 1)) zsec) zsec (headB (kH 1)) (kH 1) 0 [] 1 0 hd (by decide) rfl (by decide) (by decide) rfl rfl kN1 rfl (by decide) (by decide) (by decide) kGo1 (by decide) kL1
  have hop2 : ∀ w' H, DiskAt w' (fun b => w.heap.size ≤ b) H (kD (headB (kH 2)) (headB (kH 1)) kSec) → _ := fun w' H hd =>
    open_calls w' _ H _ (kD (headB (kH 2)) (headB (kH 3)) kSec) (headB (kH 2)) (headB (kH 1)) (kH 2) 0 [[97]] 2 1 hd (by decide) rfl (by decide) (by decide) rfl rfl kN2 rfl (by decide) (by decide) (by decide) kGo2 (by decide) kL2
  have hfm : ∀ w' H, DiskAt w' (fun b => w.heap.size ≤ b) H (zeroM 10) → Calls Tryd.prog 13 #[.pointer (some ⟨H, 0, none⟩)] w' fun e w'' => e = .returned (.int .i64 0) ∧ Left w' (fun b => w.heap.size ≤ b) (Wid (fun b => w.heap.size ≤ b) w') H (kD zsec (headB (kH 1)) zsec) w'' := fun w' H hd => by
    have := format_calls w' _ H _ hd (by decide) (by decide) (by decide)
    rw [kF] at this
    exact this
  go_enter Tryd.func11, Tryd.ntmps11
  go_wp2_with fail
  refine (device_calls 10 (by decide) (by decide) _).mono ?_
  rintro e w1 ⟨H, R, rfl, hd1, hf1⟩
  go_wp2_with fail
  refine (hfm _ H hd1).mono ?_
  rintro e w2 ⟨rfl, hd2, hf2⟩
  have hz1 := hf1.size
  have hz2 := hf2.size
  have hF2 : Fr No w w2 := hf1.trans hf2 (fun b hb h => by omega)
  replace hd2 : DiskAt w2 (fun b => w.heap.size ≤ b) H (kD zsec (headB (kH 1)) zsec) := hd2.mono (fun b _ hb => hb.elim id (fun h => by omega))
  go_wp2_with fail
  refine (hop1 _ H hd2).mono ?_
  rintro e w3 ⟨L, N, v, cs, rfl, ⟨hle, hlt, hlN, hlog, hdisk, hown, hownN, hcells, hf3⟩⟩
  have hF3 : Fr No w w3 := hF2.trans hf3 (fun b hb h => by omega)
  have hz3 := hf3.size
  obtain ⟨A3, c3, rfl, _, _, _⟩ := own_form hown
  have hf4 : Fr No w3 (w3.alloc (.cells #[.int .u8 97] 5 (1, 2))) := (Fr.refl No w3).alloc _
  have hrd4 : RdB (w3.alloc (.cells #[.int .u8 97] 5 (1, 2))) (fun _ => True) (some ⟨w3.heap.size, 0, none⟩) [97] :=
    ⟨rfl, by decide, fun _ => ⟨_, rfl, trivial, fun j u hu => by
      rw [add_plain, cell_of_row _ _ j #[.int .u8 97] 5 (1, 2) (heap_alloc_new w3 _)]
      simpa [U8] using hu⟩⟩
  have hlog4 := hlog.fr0 hf4
  have hdisk4 := hdisk.fr0 hf4
  have hX4 : ¬ ((w.heap.size ≤ L ∧ L < w2.heap.size) ∨ N ≤ L) := fun h => h.elim (fun h => by omega) (fun h => by omega)
  have hap := append_calls (w3.alloc (.cells #[.int .u8 97] 5 (1, 2))) _ L H _ _ (kD (headB (kH 2)) (headB (kH 1)) kSec) (some ⟨w3.heap.size, 0, none⟩) 1 [97] 0 hlog4 rfl hX4 hdisk4 (by decide) rfl (by decide) hrd4 (by decide) (by decide) (by decide) (by decide) (by decide) ⟨by decide, by decide⟩ (by decide) (by decide) kA
  have hsz4 : (w3.alloc (.cells #[.int .u8 97] 5 (1, 2))).heap.size = w3.heap.size + 1 := by simp
  clear hlog hdisk hown hownN hcells hlog4 hdisk4 hrd4
  go_wp2_with (first
    | (refine wpList_bytesC (C := #[.int .u8 97]) rfl rfl rfl ?_)
    | fail)
  refine hap.mono ?_
  rintro e w5 ⟨rfl, hlog5, hd5, hf5⟩
  have hF5 : Fr No w w5 := (hF3.tr hf4).trans hf5 (fun b hb h => by rcases h with (h | h) | h <;> omega)
  replace hd5 : DiskAt w5 (fun b => w.heap.size ≤ b) H (kD (headB (kH 2)) (headB (kH 1)) kSec) := hd5.mono (fun b _ hb => by rcases hb with ⟨hb | hb, _⟩ | hb <;> omega)
  clear hap hf5 hf4
  go_wp2_with fail
  refine (crash_calls w5 _ No H _ [] none 0 hd5 Rd.nil_ (fun _ h => h.elim) (by decide)).mono ?_
  rintro e w6 ⟨rfl, hd6, hf6⟩
  rw [kC] at hd6
  have hF6 : Fr No w w6 := hF5.trans hf6 (fun b hb h => by omega)
  go_wp2_with fail
  refine (hop2 _ H hd6).mono ?_
  rintro e w7 ⟨L7, N7, v7, cs7, rfl, ⟨hle7, hlt7, hlN7, hlog7, hdisk7, hown7, hownN7, hcells7, hf7⟩⟩
  have hF7 : Fr No w w7 := hF6.trans hf7 (fun b hb h => by omega)
  obtain ⟨A7, c7, rfl, _, _, _⟩ := own_form hown7
  obtain ⟨g7, cap7, hv7, _, _⟩ := hown7.form (by decide)
  injection hv7 with hA7
  subst hA7
  obtain ⟨Ar, cr, hcr, hrr⟩ := hcells7.2 0 [97] rfl
  have hcell : w7.cell? ⟨g7, 0, none⟩ = some (.slice Ar 1 cr) := by
    have := hown7.cells (g := g7) rfl 0 _ hcr
    rwa [add_plain] at this
  have HST := Lib.hid (show (⟨([97] : List UInt8).toArray⟩ : ByteArray) = ⟨#[97]⟩ from rfl)
  clear hlog7 hdisk7 hown7 hownN7 hcells7 hf7 hf6 hd6 hd5 hlog5 hop1 hop2 hfm
  go_wp2_with (first
    | (refine wpList_str Tryd.underlying40 Tryd.underlying5 Tryd.underlying9 rfl _ rfl (n := 1) (l := [97]) rfl rfl hrr ?_)
    | fail)
  refine (sectors_calls 112 w7).mono ?_
  rintro e w8 ⟨rfl, hw8⟩
  replace hw8 := hw8.symm
  subst hw8
  rw [show sectorsM 112 = 1 from rfl]
  go_wp2_with fail
  refine (sectors_calls 113 w7).mono ?_
  rintro e w8 ⟨rfl, hw8⟩
  replace hw8 := hw8.symm
  subst hw8
  rw [show sectorsM 113 = 2 from rfl]
  go_wp2_with fail
  go_ret
  exact ⟨rfl, hF7⟩
end Go.Proofs.YtannkgglgmbkdaaDoor
