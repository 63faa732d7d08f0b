/- How acts and bools come in (chapter 04). No condition. disk.Disk.Read. No condition but size. ring.put, ring.get: a number into some bytes and back. No condition. The sum of bytes, as a plain function; no program in it. No condition. wire.Sum, lapidaryref01.Sum: the sum of any bytes. No condition. ring: a head's sector. No condition. ring: good, headOf. No condition. -/
import Derived.Test.YtannkgglgmbkdaaDoorJRRingAgainp0
import Derived.Test.YtannkgglgmbkdaaDoorJRRingAgainp1
import Derived.Test.YtannkgglgmbkdaaDoorProg
import Derived.Deep.CutBlock
import Derived.Deep.DeepCutAuto
import Derived.Lib.BufferWrite
namespace Go.Proofs.YtannkgglgmbkdaaDoor
set_option linter.unusedVariables false
set_option linter.unusedSimpArgs false
open Go.ChangeShapes Go.WideShapes Go.ChangeAt Go.RowKit

theorem opens_bool {t : TypeId} (ht : Tryd.prog.underlying t = some .bool) : Opens Tryd.prog t (fun _ cs (x : Bool) => cs = [.bool x]) (fun _ => 1) := by
  intro H enc w sp held fuel cs x h _
  obtain ⟨b, h1, h2⟩ := DataW.trod_bool ht h
  exact ⟨b, h1, bulk_pos _⟩
theorem opens_bools : Opens Tryd.prog 49 (fun w cs (l : List Bool) => (∃ A c, cs = [.slice A l.length c] ∧ Rd w (fun b => b < w.heap.size) 1 A l.length (BLs l)) ∧ l.length * 1 ≤ reachBytes) (fun l => (l.map (fun _ => 1)).sum + 1) := by
  intro H enc w sp held fuel cs x h hw
  obtain ⟨ys, ⟨⟨A, c, css, rfl, hrd, hall, hc, hm⟩, h8⟩, hb⟩ := opens_list Tryd.underlying49 (size := 1) (bytes := 1) (by kernel_rfl) (by kernel_rfl) (by decide) (by decide) (opens_bool Tryd.underlying4) (fun w cs y hy => by rw [hy]; rfl) H enc w sp held fuel cs x h hw
  have key : ∀ (css : List (List Value)) (ys : List Bool), All2 (fun cs (x : Bool) => cs = [Value.bool x]) css ys → css.flatten = BLs ys := by
    intro css
    induction css with
    | nil => intro ys h; cases ys with
      | nil => rfl
      | cons y ys => exact h.elim
    | cons c0 css ih => intro ys h; cases ys with
      | nil => exact h.elim
      | cons y ys => rw [List.flatten_cons, ih ys h.2, h.1]; rfl
  rw [key css ys hall] at hrd
  exact ⟨ys, ⟨⟨A, c, rfl, hrd⟩, h8⟩, hb⟩
def ActR (w : World) (cs : List Value) (a : ActM) : Prop := ActC w (fun b => b < w.heap.size) cs a ∧ ActOk a
theorem wf_int {n : Int} (h : (Lit.int .i64 n).wf = true) : I64R n := by simpa [I64R, Lit.wf, IntKind.min, IntKind.max, IntKind.signed, IntKind.bits] using h
set_option maxRecDepth 100000 in
theorem opens_act : Opens Tryd.prog 81 ActR (fun _ => 1) := by
  intro H enc w sp held fuel cs x h hw
  have hu := Tryd.underlying81
  obtain ⟨xs, n, _, rfl, hl, hxl, hf⟩ := DataW.trod_struct hu h
  have hc5 : Tryd.prog.cellsOf 81 = 5 := by kernel_rfl
  have hi1 : Tryd.prog.cellsOf 3 = 1 := by kernel_rfl
  have hi2 : Tryd.prog.cellsOf 5 = 1 := by kernel_rfl
  have hi3 : Tryd.prog.cellsOf 49 = 1 := by kernel_rfl
  rw [hc5] at hl
  have f0 := hf 0 _ rfl
  have f1 := hf 1 _ rfl
  have f2 := hf 2 _ rfl
  have f3 := hf 3 _ rfl
  have f4 := hf 4 _ rfl
  match cs, hl with
  | [c0, c1, c2, c3, c4], _ =>
  match xs, hxl with
  | [x0, x1, x2, x3, x4], _ =>
  simp only [hi1, hi2, hi3, List.drop_zero, List.drop_succ_cons, List.take_succ_cons, List.take_zero, List.getElem?_cons_zero, List.getElem?_cons_succ] at f0 f1 f2 f3 f4
  have hw4 : ∀ m, m ∈ DataW.weights Tryd.prog 49 x4.1 → m ≤ reachBytes := by
    intro m hm
    refine hw m ?_
    rw [DataW.weights, hu]
    simp only [DataW.weightsEach, List.map_cons, List.map_nil, List.mem_append]
    exact .inr (.inr (.inr (.inr (.inl hm))))
  obtain ⟨a0, e0, _, w0⟩ := DataW.trod_int Tryd.underlying3 f0
  obtain ⟨a1, e1, _, w1⟩ := DataW.trod_int Tryd.underlying3 f1
  obtain ⟨a2, e2, _, w2⟩ := DataW.trod_int Tryd.underlying3 f2
  obtain ⟨a3, e3, _, w3⟩ := DataW.trod_int Tryd.underlying5 f3
  obtain ⟨ks, ⟨⟨B, b, e4, r4⟩, _⟩, _⟩ := opens_bools H enc w sp held n [c4] x4 f4 hw4
  injection e0 with e0 _
  injection e1 with e1 _
  injection e2 with e2 _
  injection e3 with e3 _
  injection e4 with e4 _
  subst e0 e1 e2 e3 e4
  have b3 : 0 ≤ a3 ∧ a3 ≤ 255 := by simpa [Lit.wf, IntKind.min, IntKind.max, IntKind.signed, IntKind.bits] using w3
  have h3 : ((UInt8.ofNat a3.toNat).toNat : Int) = a3 := by rw [UInt8.toNat_ofNat']; omega
  exact ⟨⟨a0, a1, a2, UInt8.ofNat a3.toNat, ks⟩, ⟨⟨B, b, by simp only; rw [h3], r4⟩, wf_int w0, wf_int w1, wf_int w2⟩, bulk_pos _⟩
theorem acts_of_all2 {w : World} : ∀ {css : List (List Value)} {ts : List ActM}, All2 (ActR w) css ts → ActsC w (fun b => b < w.heap.size) css.flatten ts ∧ ∀ a ∈ ts, ActOk a
  | [], [], _ => ⟨rfl, fun d hd => by cases hd⟩
  | c :: css, t :: ts, h => by
    obtain ⟨h1, h2⟩ := acts_of_all2 h.2
    refine ⟨⟨c, css.flatten, rfl, h.1.1, h1⟩, fun d hd => ?_⟩
    rcases List.mem_cons.1 hd with rfl | hd
    · exact h.1.2
    · exact h2 d hd
set_option maxRecDepth 100000 in
theorem opens_acts : Opens Tryd.prog 45 (fun w cs (ts : List ActM) => (∃ A c, cs = [.slice A ts.length c] ∧ RdAct w (fun b => b < w.heap.size) A ts ∧ ts.length ≤ c ∧ c ≤ maxLen) ∧ ∀ a ∈ ts, ActOk a) (fun ts => (ts.map (fun _ => 1)).sum + 1) := by
  intro H enc w sp held fuel cs x h hw
  obtain ⟨ys, ⟨⟨A, c, css, rfl, hrd, hall, hc, hm⟩, h8⟩, hb⟩ := opens_list Tryd.underlying45 (size := 5) (bytes := 56) (by kernel_rfl) (by kernel_rfl) (by decide) (by decide) opens_act (fun w cs y hy => hy.1.len) H enc w sp held fuel cs x h hw
  obtain ⟨k1, k2⟩ := acts_of_all2 hall
  exact ⟨ys, ⟨⟨A, c, rfl, ⟨css.flatten, hrd, k1⟩, hc, hm⟩, k2⟩, hb⟩
section
variable {H : Type} {enc : TypeId × Value → H} {W : World} {held : Bool}
theorem weights_of {ts : List TypeId} {ds : List (DataW H)} (hsz : (DataW.weightsEach Tryd.prog ts ds).all (· ≤ reachBytes) = true) {j : Nat} {t : TypeId} {d : DataW H} (ht : ts[j]? = some t) (hd : ds[j]? = some d) : ∀ n ∈ DataW.weights Tryd.prog t d, n ≤ reachBytes :=
  fun n hn => by have := List.all_eq_true.1 hsz _ (DataW.weights_mem_each ht hd n hn); simpa using this
theorem open_acts {ts : List TypeId} {ds : List (DataW H)} (hsz : (DataW.weightsEach Tryd.prog ts ds).all (· ≤ reachBytes) = true) {j : Nat} {v : Value} {d : DataW H} {p : List MemPlace}
    (ht : ts[j]? = some 45) (hd : ds[j]? = some d) (h : DataW.Trod enc Tryd.prog W 0 (fun _ => true) held 45 v d p) (hv : ∃ A n c, v = .slice A n c) :
    ∃ (A : Option Addr) (c : Nat) (l : List ActM), v = .slice A l.length c ∧ RdAct W (fun b => b < W.heap.size) A l ∧ (∀ a ∈ l, ActOk a) := by
  obtain ⟨A, n, c, rfl⟩ := hv
  obtain ⟨fuel, hf⟩ := h
  obtain ⟨l, ⟨⟨A', c', e, h1, h2, h3⟩, h4⟩, h6⟩ := opens_acts H enc W (fun _ => true) held fuel _ _ hf (weights_of hsz ht hd)
  simp [Value.cells] at e
  obtain ⟨rfl, rfl, rfl⟩ := e
  exact ⟨_, _, l, rfl, h1, h4⟩
theorem open_bools {ts : List TypeId} {ds : List (DataW H)} (hsz : (DataW.weightsEach Tryd.prog ts ds).all (· ≤ reachBytes) = true) {j : Nat} {v : Value} {d : DataW H} {p : List MemPlace}
    (ht : ts[j]? = some 49) (hd : ds[j]? = some d) (h : DataW.Trod enc Tryd.prog W 0 (fun _ => true) held 49 v d p) (hv : ∃ A n c, v = .slice A n c) :
    ∃ (A : Option Addr) (c : Nat) (l : List Bool), v = .slice A l.length c ∧ Rd W (fun b => b < W.heap.size) 1 A l.length (BLs l) := by
  obtain ⟨A, n, c, rfl⟩ := hv
  obtain ⟨fuel, hf⟩ := h
  obtain ⟨l, ⟨⟨A', c', e, h1⟩, h5⟩, h6⟩ := opens_bools H enc W (fun _ => true) held fuel _ _ hf (weights_of hsz ht hd)
  simp [Value.cells] at e
  obtain ⟨rfl, rfl, rfl⟩ := e
  exact ⟨_, _, l, rfl, h1⟩
end
end Go.Proofs.YtannkgglgmbkdaaDoor
namespace Go.Proofs.YtannkgglgmbkdaaDoor
set_option linter.unusedVariables false
set_option linter.unusedSimpArgs false
open Go.RowKit

theorem read_dead (w : World) (X : Nat → Prop) (H : Nat) (d : DiskM) (a n : Nat) (h : DiskAt w X H d) (hfit : a + n ≤ d.now.length) (hdead : d.dead = true) :
    Calls Tryd.prog 31 #[.pointer (some ⟨H, 0, none⟩), .int .i64 (a : Int), .int .i64 (n : Int)] w fun e w' => e = .returned (.tuple #[.slice none 0 0, .int .i64 14]) ∧ w = w' := by
  obtain ⟨gs, cs, gn, cn, A', c', hP⟩ := h
  obtain ⟨hb, _, _, _, _, _, _, hlen, hmax, _⟩ := hP
  have q1 := hb.cell 1
  have q3 := hb.cell 3
  simp only [List.getElem?_toArray, List.getElem?_cons_zero, List.getElem?_cons_succ] at q1 q3
  rw [hdead] at q3
  have e1 : decide ((a : Int) < 0) = false := by simp
  have e2 : decide ((n : Int) < 0) = false := by simp
  have e3 : ¬ (d.now.length < a) := by omega
  have h4 : 0 ≤ (d.now.length : Int) - a := by omega
  have h5 : (d.now.length : Int) - a ≤ 4096 := by omega
  have e4 : decide ((d.now.length : Int) - a < n) = false := by simp; omega
  clear hdead hlen
  go_enter Tryd.func31, Tryd.ntmps31
  go_wp2
  go_ret2
  exact ⟨rfl, rfl⟩
theorem sub_step {L : List Sec} {a j : Nat} (h : a + j < L.length) : (L.drop a).take (j + 1) = (L.drop a).take j ++ [L[a + j]] := by
  rw [List.take_add_one, List.getElem?_drop, List.getElem?_eq_getElem h]; rfl
/-- A sector as bytes. -/
theorem SecAt.rdB {w : World} {g cap : Nat} {L : List Sec} (h : SecAt w g cap L) {k : Nat} (hk : k < L.length) : Rd w (fun b => b = g) 1 (some ⟨g, k * 128, none⟩) 128 (U8 L[k]) :=
  ⟨by rw [U8_length, h.1 _ (List.getElem_mem hk)], by omega, fun _ => ⟨_, rfl, rfl, fun j u hu => h.at_ hk j u hu⟩⟩
theorem splice_room (l s : List UInt8) (n : Nat) (hn : l.length + s.length ≤ n) : splice (U8 (l ++ List.replicate (n - l.length) 0)).toArray l.length (U8 s) = (U8 ((l ++ s) ++ List.replicate (n - (l ++ s).length) 0)).toArray := by
  unfold splice
  obtain ⟨m, rfl⟩ : ∃ m, n = l.length + s.length + m := ⟨n - (l.length + s.length), by omega⟩
  rw [show l.length + s.length + m - l.length = s.length + m by omega, show l.length + s.length + m - (l ++ s).length = m by rw [List.length_append]; omega]
  rw [← List.replicate_append_replicate, List.append_assoc l s, U8_append, U8_append, U8_append, U8_append]
  congr 1
  have e1 : (U8 l).length = l.length := U8_length l
  have e2 : (U8 (List.replicate s.length 0)).length = s.length := by rw [U8_length, List.length_replicate]
  rw [U8_length]
  rw [← e1, List.take_left, List.append_assoc]
  congr 2
  rw [← List.drop_drop, List.drop_left]
  conv => lhs; arg 1; rw [← e2]
  rw [List.drop_left]

set_option maxHeartbeats 4000000 in
set_option maxRecDepth 100000 in
theorem read_calls (w : World) (X : Nat → Prop) (H : Nat) (d : DiskM) (a n : Nat) (h : DiskAt w X H d) (hfit : a + n ≤ d.now.length) (hdead : d.dead = false) :
    Calls Tryd.prog 31 #[.pointer (some ⟨H, 0, none⟩), .int .i64 (a : Int), .int .i64 (n : Int)] w fun e w' => e = .returned (.tuple #[.slice (some ⟨w.heap.size, 0, none⟩) (n * 128) (n * 128), .int .i64 0]) ∧ Blk w' w.heap.size 5 (U8 ((d.now.drop a).take n).flatten).toArray ∧ Fr No w w' := by
  have hH : DiskAt w X H d := h
  obtain ⟨gs, cs, gn, cn, A', c', hP⟩ := h
  obtain ⟨hb, _, hnow, _, _, _, _, hlen, hmax, _⟩ := id hP
  have q1 := hb.cell 1
  have q3 := hb.cell 3
  simp only [List.getElem?_toArray, List.getElem?_cons_zero, List.getElem?_cons_succ] at q1 q3
  rw [hdead] at q3
  obtain ⟨m, hm⟩ : ∃ m, m = n * 128 := ⟨_, rfl⟩
  have hmi : (n : Int) * 128 = (m : Int) := by omega
  have e1 : decide ((a : Int) < 0) = false := by simp
  have e2 : decide ((n : Int) < 0) = false := by simp
  have e3 : ¬ (d.now.length < a) := by omega
  have h4 : 0 ≤ (d.now.length : Int) - a := by omega
  have h5 : (d.now.length : Int) - a ≤ 4096 := by omega
  have e4 : decide ((d.now.length : Int) - a < n) = false := by simp; omega
  have hn4 : n ≤ 4096 := by omega
  have hm4 : m ≤ 524288 := by omega
  have HM := Lib.hid hm
  have HMI := Lib.hid hmi
  rw [← hm]
  clear hdead hlen hm hmi
  go_enter Tryd.func31, Tryd.ntmps31
  go_wp2_with (first
    | (refine wpList_make so_u8 (n := 0) (c := m) (Nat.zero_le _) (by omega) rfl rfl rfl (show _ = Value.int .i64 (m : Int) from congrArg _ HMI.out) ?_)
    | fail)
  have hb0 : Blk (w.alloc (.cells (madeCells #[Value.int .u8 0] m) 5)) w.heap.size 5 (U8 ([] ++ List.replicate (m - 0) 0)).toArray := by
    have := Blk.new w 5 (madeCells #[Value.int .u8 0] m)
    rw [made_u8] at this
    simpa [made_u8] using this
  have hf0 : Fr No w (w.alloc (.cells (madeCells #[Value.int .u8 0] m) 5)) := (Fr.refl No w).alloc _
  clear e1 e2 e3 h4 h5 e4
  go_loopw [8, 49] (fun v i wr => ∃ (j q : Nat) (l : List UInt8), j ≤ n ∧ i = .int .i64 (j : Int) ∧ v = .slice (some ⟨w.heap.size, 0, none⟩) q m ∧ Hid (l = ((d.now.drop a).take j).flatten) ∧ Hid (q = l.length) ∧ Hid (q = j * 128) ∧ Blk wr w.heap.size 5 (U8 (l ++ List.replicate (m - l.length) 0)).toArray ∧ Fr No w wr) (fun _ i _ => n - (intOf i).toNat)
  case atStart => exact ⟨0, 0, [], by omega, rfl, rfl, Lib.hid (by simp), Lib.hid rfl, Lib.hid (by omega), hb0, hf0⟩
  case round =>
    obtain ⟨j, q, l, hj, rfl, rfl, HL, HQ, HJ, hbl, hf⟩ := hrel
    by_cases hlt : j < n
    · have ek : decide ((j : Int) < n) = true := by simpa using (by omega : (j : Int) < n)
      have q1r := hf.cell_some q1 (fun hn => hn)
      have hin : a + j < d.now.length := by omega
      have hnr := hnow.fr hf (fun hn => hn)
      have hrd := hnr.rdB hin
      have hcn := hnr.2.1
      have hls : d.now[a + j].length = 128 := hnr.1 _ (List.getElem_mem hin)
      have hst := sub_step hin
      have HST := Lib.hid hst
      have HLS := Lib.hid hls
      have hq1 : q = j * 128 := HJ.out
      have hq2 : q = l.length := HQ.out
      have hm1 : m = n * 128 := HM.out
      have hroom : q + 128 ≤ m := by omega
      obtain ⟨p, hp⟩ : ∃ p, p = a + j := ⟨_, rfl⟩
      have HP := Lib.hid (show (a : Int) + (j : Int) = (p : Int) by omega)
      have HLen := Lib.hid hq2
      have HM2 := Lib.hid hm1
      have HSp := Lib.hid (splice_room l d.now[a + j] m (by rw [hls]; omega))
      have hsz : (U8 (l ++ List.replicate (m - l.length) 0)).toArray.size = m := by rw [List.size_toArray, U8_length, List.length_append, List.length_replicate]; omega
      have HSZ := Lib.hid hsz
      clear hst hls hq1 hq2 hm1 hsz
      generalize d.now[a + j] = s at *
      go_wp2_with (first
        | (at_builtin; refine wpList_app_room so_u8 hbl hrd (U8_one _) hroom (by rw [HSZ.out]; omega) rfl rfl rfl rfl ?_; intro w2 hb2 hg2 hz2)
        | fail)
      rw [Nat.mul_one, HLen.out, HSp.out] at hb2
      go_roundw
      case rel => exact ⟨j + 1, q + 128, l ++ s, by omega, by go_num, rfl, Lib.hid (by rw [HST.out, List.flatten_append, ← HL.out]; simp), Lib.hid (by rw [List.length_append, HLS.out, ← HLen.out]), Lib.hid (by have := HJ.out; omega), hb2, hf.grown hg2 (fun b hb => by injection hb with hb; exact .inl (by omega))⟩
      case measure => simp [intOf]; omega
    · obtain rfl : j = n := by omega
      have hl : l = ((d.now.drop a).take j).flatten := HL.out
      have hq : q = m := by have := HJ.out; have := HM.out; omega
      have hb2 : Blk wr w.heap.size 5 (U8 ((d.now.drop a).take j).flatten).toArray := by
        rw [← hl]
        have e : m - l.length = 0 := by have := HQ.out; omega
        rw [e, List.replicate_zero, List.append_nil] at hbl
        exact hbl
      subst hq
      have ek : decide ((j : Int) < j) = false := by simp
      clear hl hbl
      go_wp2
      go_ret2
      exact ⟨rfl, hb2, hf⟩
end Go.Proofs.YtannkgglgmbkdaaDoor
namespace Go.Proofs.YtannkgglgmbkdaaDoor
set_option linter.unusedVariables false
set_option linter.unusedSimpArgs false
open Go.RowKit

/-- The i-th of k bytes of a number. -/
def byteAt (k : Nat) (n : Int) (i : Nat) : UInt8 := UInt8.ofNat ((n / (2 ^ (8 * (k - 1 - i)) : Nat)) % 256).toNat
def putL (k : Nat) (n : Int) : List UInt8 := (List.range k).map (byteAt k n)
theorem putL_len (k : Nat) (n : Int) : (putL k n).length = k := by simp [putL]
theorem splice_put (cur : Array Value) (o : Nat) (xs : List Value) (v : Value) (h : o + xs.length < cur.size) : (splice cur o xs).setIfInBounds (o + xs.length) v = splice cur o (xs ++ [v]) := by
  apply Array.toList_inj.1
  rw [Array.toList_setIfInBounds, splice_toList, splice_toList]
  have hl : (cur.toList.take o).length = o := by rw [List.length_take, Array.length_toList]; omega
  have hd : cur.toList.drop (o + xs.length) = cur.toList[o + xs.length]'(by simpa using h) :: cur.toList.drop (o + xs.length + 1) := List.drop_eq_getElem_cons (by simpa using h)
  rw [hd, List.set_append_right _ _ (by rw [List.length_append, hl]; exact Nat.le_refl _)]
  simp only [List.length_append, hl, Nat.sub_self, List.set_cons_zero, List.length_cons, List.length_nil]
  rw [← List.append_assoc, List.append_assoc _ [v]]
  rfl
theorem byteAt_int (k : Nat) (n : Int) (i : Nat) : ((byteAt k n i).toNat : Int) = n / (2 ^ (8 * (k - 1 - i)) : Nat) % 256 := by
  unfold byteAt
  rw [UInt8.toNat_ofNat']
  have h1 := Int.emod_nonneg (n / (2 ^ (8 * (k - 1 - i)) : Nat)) (show (256 : Int) ≠ 0 by decide)
  have h2 := Int.emod_lt_of_pos (n / (2 ^ (8 * (k - 1 - i)) : Nat)) (show (0 : Int) < 256 by decide)
  omega
theorem putL_take (k : Nat) (n : Int) {j : Nat} (h : j < k) : (putL k n).take (j + 1) = (putL k n).take j ++ [byteAt k n j] := by
  have hl : j < (putL k n).length := by rw [putL_len]; exact h
  rw [← List.take_append_getElem hl]
  congr 2
  simp [putL]
set_option maxHeartbeats 2000000 in
set_option maxRecDepth 100000 in
theorem put_calls (w : World) (g o k c : Nat) (t : TypeId) (cur : Array Value) (n : Int) (hb : Blk w g t cur) (hfit : o + k ≤ cur.size) (hk : k ≤ 8) :
    Calls Tryd.prog 43 #[.slice (some ⟨g, o, none⟩) k c, .int .i64 n] w fun e w' => e = .returned (.tuple #[]) ∧ Blk w' g t (splice cur o (U8 (putL k n))) ∧ Fr (fun b => b = g) w w' := by
  go_enter Tryd.func43, Tryd.ntmps43
  go_wp2_with fail
  go_loopw [7] (fun i wr => ∃ j : Nat, j ≤ k ∧ i = .int .i64 (j : Int) ∧ Blk wr g t (splice cur o (U8 ((putL k n).take j))) ∧ Fr (fun b => b = g) w wr) (fun i _ => k - (intOf i).toNat)
  case atStart => exact ⟨0, by omega, rfl, by simpa [splice, U8] using hb, Fr.refl _ _⟩
  case round =>
    obtain ⟨j, hj, rfl, hbj, hf⟩ := hrel
    have htl : (U8 ((putL k n).take j)).length = j := by rw [U8_length, List.length_take, putL_len]; omega
    have hsz : (splice cur o (U8 ((putL k n).take j))).size = cur.size := splice_size _ _ _ (by omega)
    by_cases hlt : j < k
    · have ek : decide ((j : Int) < k) = true := by simp; omega
      have hc := (hbj.cell (o + j)).trans (Array.getElem?_eq_getElem (by omega))
      have hz := hbj.frozen (o + j)
      have hp := hbj.put (o + j) (.int .u8 (n / (2 ^ (8 * (k - 1 - j)) : Nat) % 256))
      have hsp := splice_put cur o (U8 ((putL k n).take j)) (.int .u8 (n / (2 ^ (8 * (k - 1 - j)) : Nat) % 256)) (by omega)
      rw [htl] at hsp
      rw [hsp] at hp
      have HE := Lib.hid (show U8 ((putL k n).take j) ++ [.int .u8 (n / (2 ^ (8 * (k - 1 - j)) : Nat) % 256)] = U8 ((putL k n).take (j + 1)) by
        rw [putL_take k n hlt]
        unfold U8
        rw [List.map_append, List.map_cons, List.map_nil, byteAt_int])
      rw [HE.out] at hp
      have HP := Lib.hid hp
      clear hp hsp
      generalize (splice cur o (U8 ((putL k n).take j)))[o + j]'_ = old at hc
      go_wp2_with fail
      go_roundw
      case rel => exact ⟨j + 1, by omega, by go_num, HP.out, hf.set (.inr rfl) _⟩
      case measure => simp [intOf]; omega
    · obtain rfl : j = k := by omega
      have ek : decide ((j : Int) < j) = false := by simp
      have HB := Lib.hid (show Blk wr g t (splice cur o (U8 (putL j n))) by rw [List.take_of_length_le (by rw [putL_len]; exact Nat.le_refl _)] at hbj; exact hbj)
      go_wp2_with fail
      go_end0
      exact ⟨rfl, HB.out, hf⟩
/-- The number of some bytes, the first one the greatest. -/
def getN : List UInt8 → Int := fun l => l.foldl (fun n c => n * 256 + (c.toNat : Int)) 0
theorem getN_snoc (l : List UInt8) (c : UInt8) : getN (l ++ [c]) = getN l * 256 + (c.toNat : Int) := by unfold getN; rw [List.foldl_append]; rfl
theorem getN_aux : ∀ (l : List UInt8) (n : Int), 0 ≤ n → 0 ≤ l.foldl (fun n c => n * 256 + (c.toNat : Int)) n ∧ l.foldl (fun n c => n * 256 + (c.toNat : Int)) n < (n + 1) * (256 ^ l.length : Nat)
  | [], n, h => by simp; omega
  | c :: l, n, h => by
    have hc := c.toNat_lt
    obtain ⟨h1, h2⟩ := getN_aux l (n * 256 + (c.toNat : Int)) (by omega)
    refine ⟨h1, Int.lt_of_lt_of_le h2 ?_⟩
    have e : ((256 ^ (c :: l).length : Nat) : Int) = 256 * ((256 ^ l.length : Nat) : Int) := by rw [List.length_cons, Nat.pow_succ, Nat.mul_comm]; simp
    rw [e, ← Int.mul_assoc]
    exact Int.mul_le_mul_of_nonneg_right (by omega) (Int.natCast_nonneg _)
theorem getN_range (l : List UInt8) : 0 ≤ getN l ∧ getN l < (256 ^ l.length : Nat) := by
  have := getN_aux l 0 (by decide)
  simpa [getN] using this
theorem or_byte (y : Int) (c : UInt8) (h1 : 0 ≤ y) (h2 : y < 281474976710656) : bits BinOp.or IntKind.i64 (wrap64 (y * 256)) (wrap64 (c.toNat : Int)) = y * 256 + (c.toNat : Int) := by
  have hc := c.toNat_lt
  rw [show wrap64 (y * 256) = y * 256 by unfold wrap64; omega, show wrap64 (c.toNat : Int) = c.toNat by unfold wrap64; omega]
  obtain ⟨m, rfl⟩ : ∃ m : Nat, y = (m : Int) := ⟨y.toNat, by omega⟩
  have e : (m * 256 : Nat) ||| c.toNat = m * 256 + c.toNat := by
    have := Nat.shiftLeft_add_eq_or_of_lt (i := 8) (show c.toNat < 2 ^ 8 by omega) m
    rw [Nat.shiftLeft_eq] at this
    exact this.symm
  have e1 : ((m : Int) * 256) = ((m * 256 : Nat) : Int) := by omega
  have hb : (BitVec.ofInt 64 ((m * 256 : Nat) : Int) ||| BitVec.ofInt 64 ((c.toNat : Nat) : Int)).toNat = m * 256 + c.toNat := by
    rw [BitVec.ofInt_natCast, BitVec.ofInt_natCast, BitVec.toNat_or, BitVec.toNat_ofNat, BitVec.toNat_ofNat, Nat.mod_eq_of_lt (by omega), Nat.mod_eq_of_lt (by omega), e]
  unfold bits
  rw [e1]
  show IntKind.i64.wrap ((BitVec.ofInt 64 ((m * 256 : Nat) : Int) ||| BitVec.ofInt 64 ((c.toNat : Nat) : Int)).toNat : Int) = _
  rw [hb, IntKind.wrap_i64]
  omega
theorem emod_two (q M : Int) (hM : 0 < M) : q / 256 % M * 256 + q % 256 = q % (256 * M) := by
  have h1 : q = q % 256 + 256 * (q / 256) := (Int.emod_add_mul_ediv q 256).symm
  have h2 : q / 256 = (q / 256) % M + M * ((q / 256) / M) := (Int.emod_add_mul_ediv (q / 256) M).symm
  have h3 := Int.emod_nonneg (q / 256) (show M ≠ 0 by omega)
  have h4 := Int.emod_lt_of_pos (q / 256) hM
  have h5 := Int.emod_nonneg q (show (256 : Int) ≠ 0 by decide)
  have h6 := Int.emod_lt_of_pos q (show (0 : Int) < 256 by decide)
  generalize hr : (q / 256) % M = r at *
  generalize ht : (q / 256) / M = t at *
  generalize hs : q % 256 = s at *
  have h7 : q = (r * 256 + s) + (256 * M) * t := by
    rw [Int.mul_assoc]
    omega
  rw [h7, Int.add_mul_emod_self_left]
  exact (Int.emod_eq_of_lt (by omega) (by omega)).symm
theorem getN_putL : ∀ (j k : Nat) (n : Int), j ≤ k → getN ((putL k n).take j) = n / (2 ^ (8 * (k - j)) : Nat) % (256 ^ j : Nat)
  | 0, k, n, _ => by simp [getN] <;> omega
  | j + 1, k, n, h => by
    rw [putL_take k n (by omega), getN_snoc, getN_putL j k n (by omega), byteAt_int]
    obtain ⟨d, hd⟩ : ∃ d, k - (j + 1) = d := ⟨_, rfl⟩
    rw [show k - j = d + 1 by omega, show k - 1 - j = d by omega, hd]
    have e1 : ((2 ^ (8 * (d + 1)) : Nat) : Int) = ((2 ^ (8 * d) : Nat) : Int) * 256 := by rw [show 8 * (d + 1) = 8 * d + 8 by omega, Nat.pow_add]; simp
    have e2 : ((256 ^ (j + 1) : Nat) : Int) = 256 * ((256 ^ j : Nat) : Int) := by rw [Nat.pow_succ, Nat.mul_comm]; simp
    rw [e1, e2, ← Int.ediv_ediv_of_nonneg (Int.natCast_nonneg _)]
    generalize n / ((2 ^ (8 * d) : Nat) : Int) = q
    exact emod_two q _ (Int.natCast_pos.2 (Nat.pow_pos (by decide)))
theorem get_put (k : Nat) (n : Int) (h0 : 0 ≤ n) (h : n < (256 ^ k : Nat)) : getN (putL k n) = n := by
  have := getN_putL k k n (Nat.le_refl _)
  rw [List.take_of_length_le (by rw [putL_len]; exact Nat.le_refl _)] at this
  rw [this]
  simp only [Nat.sub_self, Nat.mul_zero, Nat.pow_zero]
  rw [Int.natCast_one, Int.ediv_one, Int.emod_eq_of_lt h0 h]
set_option maxHeartbeats 2000000 in
set_option maxRecDepth 100000 in
theorem get_calls (S : Nat → Prop) (A : Option Addr) (c : Nat) (l : List UInt8) (w : World) (h : RdB w S A l) (hl : l.length ≤ 7) :
    Calls Tryd.prog 48 #[.slice A l.length c] w fun e w' => e = .returned (.int .i64 (getN l)) ∧ w' = w := by
  go_enter Tryd.func48, Tryd.ntmps48
  go_wp2_with fail
  go_loopw [3, 8] (fun s3 s8 wr => ∃ j : Nat, j ≤ l.length ∧ s8 = .int .i64 (j : Int) ∧ s3 = .int .i64 (getN (l.take j)) ∧ wr = w) (fun _ i _ => l.length - (intOf i).toNat)
  case atStart => exact ⟨0, by omega, rfl, rfl, rfl⟩
  case round =>
    obtain ⟨j, hj, rfl, rfl, rfl⟩ := hrel
    by_cases hlt : j < l.length
    · have ek : decide ((j : Int) < l.length) = true := by simp; omega
      obtain ⟨ad, rfl, _, hc⟩ := h.at_ hlt
      have hr := getN_range (l.take j)
      have hgn : getN (l.take (j + 1)) = getN (l.take j) * 256 + (l[j].toNat : Int) := by rw [← List.take_append_getElem hlt, getN_snoc]
      have HG := Lib.hid hgn
      clear hgn
      generalize l[j] = x at *
      generalize getN (l.take j) = y at *
      have hy : y < 281474976710656 := by
        have h2 : (List.take j l).length = j := by rw [List.length_take]; omega
        rw [h2] at hr
        have h3 : (256 ^ j : Nat) ≤ 256 ^ 6 := Nat.pow_le_pow_right (by decide) (by omega)
        have h4 : (256 ^ 6 : Nat) = 281474976710656 := by decide
        have := hr.2
        omega
      have HOR := Lib.hid (or_byte y x hr.1 hy)
      clear hr hy
      go_wp2_with fail
      go_roundw
      case rel => exact ⟨j + 1, by omega, by go_num, by rw [HOR.out, HG.out], trivial⟩
      case measure => simp [intOf]; omega
    · obtain rfl : j = l.length := by omega
      have ek : decide ((l.length : Int) < l.length) = false := by simp
      rw [List.take_length]
      go_wp2_with fail
      go_ret
      exact ⟨rfl, rfl⟩
end Go.Proofs.YtannkgglgmbkdaaDoor
namespace Go.Proofs.YtannkgglgmbkdaaDoor
set_option linter.unusedVariables false
set_option linter.unusedSimpArgs false
open Go.RowKit

/-- One bit of the sum. -/
def crcBit (r : BitVec 32) : BitVec 32 := (r >>> 1) ^^^ (0xedb88320#32 &&& (0#32 - (r &&& 1#32)))
def crcBits : Nat → BitVec 32 → BitVec 32
  | 0, r => r
  | k + 1, r => crcBits k (crcBit r)
def crcByte (r : BitVec 32) (c : UInt8) : BitVec 32 := crcBits 8 (r ^^^ BitVec.ofNat 32 c.toNat)
def crcAll (r : BitVec 32) (l : List UInt8) : BitVec 32 := l.foldl crcByte r
def crc0 : BitVec 32 := BitVec.allOnes 32
def crc (l : List UInt8) : BitVec 32 := ~~~ (crcAll crc0 l)

theorem crcBits_succ (k : Nat) (r : BitVec 32) : crcBits (k + 1) r = crcBit (crcBits k r) := by
  induction k generalizing r with
  | zero => rfl
  | succ k ih => rw [crcBits, ih]; rfl

theorem u32n (r : BitVec 32) : (r.toNat : Int) < 4294967296 := by have := r.isLt; omega
theorem ofInt32 (r : BitVec 32) : BitVec.ofInt 32 (r.toNat : Int) = r := by simp
theorem wrap_u32_bv (r : BitVec 32) : IntKind.u32.wrap (r.toNat : Int) = r.toNat := by
  rw [IntKind.wrap_u32]; have := r.isLt; omega
theorem bits_xor32 (a b : BitVec 32) : bits .xor .u32 (a.toNat : Int) (b.toNat : Int) = ((a ^^^ b).toNat : Int) := by
  show IntKind.u32.wrap ((BitVec.ofInt 32 (a.toNat : Int) ^^^ BitVec.ofInt 32 (b.toNat : Int)).toNat : Int) = _
  rw [ofInt32, ofInt32, wrap_u32_bv]
theorem bits_and32 (a b : BitVec 32) : bits .and .u32 (a.toNat : Int) (b.toNat : Int) = ((a &&& b).toNat : Int) := by
  show IntKind.u32.wrap ((BitVec.ofInt 32 (a.toNat : Int) &&& BitVec.ofInt 32 (b.toNat : Int)).toNat : Int) = _
  rw [ofInt32, ofInt32, wrap_u32_bv]
theorem neg32 (a : BitVec 32) : -(a.toNat : Int) % 4294967296 = ((0#32 - a).toNat : Int) := by
  rw [BitVec.toNat_sub]
  have := a.isLt
  simp
  omega
theorem shr32 (a : BitVec 32) : ((a.toNat : Nat) : Int) / (2 : Int) = ((a >>> 1).toNat : Int) := by
  rw [BitVec.toNat_ushiftRight, Nat.shiftRight_eq_div_pow]; rfl
theorem crcBit_odd (r : BitVec 32) (h : (r &&& 1#32) = 1#32) : crcBit r = (r >>> 1) ^^^ 0xedb88320#32 := by
  unfold crcBit; rw [h]; rfl
theorem crcBit_even (r : BitVec 32) (h : (r &&& 1#32) ≠ 1#32) : crcBit r = r >>> 1 := by
  have h0 : r &&& 1#32 = 0#32 := by
    have hr : (r &&& 1#32).toNat = r.toNat % 2 := by
      rw [BitVec.toNat_and]; exact Nat.and_two_pow_sub_one_eq_mod r.toNat 1
    apply BitVec.eq_of_toNat_eq
    rcases Nat.mod_two_eq_zero_or_one r.toNat with h1 | h1
    · rw [hr, h1]; rfl
    · exact absurd (BitVec.eq_of_toNat_eq (by rw [hr, h1]; rfl)) h
  unfold crcBit; rw [h0]; simp
end Go.Proofs.YtannkgglgmbkdaaDoor
namespace Go.Proofs.YtannkgglgmbkdaaDoor
set_option linter.unusedVariables false
set_option linter.unusedSimpArgs false
open Go.RowKit

theorem u8_u32 (x : UInt8) : (x.toNat : Int) % 4294967296 = ((BitVec.ofNat 32 x.toNat).toNat : Int) := by
  have := x.toNat_lt
  rw [BitVec.toNat_ofNat]; omega
theorem crc_step (s : BitVec 32) : bits .xor .u32 ((s.toNat : Int) / 2) (bits .and .u32 3988292384 (-bits .and .u32 (s.toNat : Int) 1 % 4294967296)) = ((crcBit s).toNat : Int) := by
  have h1 : (1 : Int) = ((1#32).toNat : Int) := rfl
  have h2 : (3988292384 : Int) = ((0xedb88320#32).toNat : Int) := rfl
  rw [shr32, h1, h2, bits_and32, neg32, bits_and32, bits_xor32]
  rfl
theorem crc_take (l : List UInt8) (k : Nat) (hk : k < l.length) (r : BitVec 32) : crcAll r (l.take (k + 1)) = crcByte (crcAll r (l.take k)) l[k] := by
  rw [List.take_succ_eq_append_getElem hk, crcAll, List.foldl_append]
  rfl
theorem crc_end (l : List UInt8) : bits .xor .u32 IntKind.u32.max ((crcAll crc0 l).toNat : Int) = ((crc l).toNat : Int) := by
  have h2 : IntKind.u32.max = (crc0.toNat : Int) := rfl
  rw [h2, bits_xor32, crc]
  show _ = ((~~~ (crcAll crc0 l)).toNat : Int)
  rw [← BitVec.allOnes_xor]; rfl

theorem sum_calls (S : Nat → Prop) (A : Option Addr) (c : Nat) (l : List UInt8) (w : World) (h : RdB w S A l) :
    Calls Tryd.prog 44 #[.slice A l.length c] w fun e w' => e = .returned (.int .u32 ((crc l).toNat : Int)) ∧ w = w' := by
  have hle := h.le
  have hz : IntKind.u32.signed = false := rfl
  go_enter Tryd.func44, Tryd.ntmps44
  go_wp2
  go_loop [3, 8] (fun r i => ∃ k : Nat, k ≤ l.length ∧ i = .int .i64 k ∧ r = .int .u32 ((crcAll crc0 (l.take k)).toNat : Int)) (fun _ i => l.length - (intOf i).toNat)
  case atStart => exact ⟨0, Nat.zero_le _, rfl, rfl⟩
  case round =>
    obtain ⟨k, hk, rfl, rfl⟩ := hrel
    by_cases hlt : k < l.length
    · obtain ⟨ad, hA, _, hc⟩ := h.at_ hlt
      have HT := Lib.hid (crc_take l k hlt crc0)
      subst hA
      generalize hs : crcAll crc0 (l.take k) = s at HT
      clear hs
      go_wp2
      go_loop [3, 16] (fun r i => ∃ j : Nat, j ≤ 8 ∧ i = .int .i64 j ∧ r = .int .u32 ((crcBits j (s ^^^ BitVec.ofNat 32 l[k].toNat)).toNat : Int)) (fun _ i => 8 - (intOf i).toNat)
      case atStart => exact ⟨0, Nat.zero_le _, rfl, by rw [u8_u32, bits_xor32]; rfl⟩
      case round =>
        obtain ⟨j, hj, rfl, rfl⟩ := hrel
        have HS := Lib.hid (crcBits_succ j (s ^^^ BitVec.ofNat 32 l[k].toNat))
        by_cases hj8 : j < 8
        · generalize crcBits j (s ^^^ BitVec.ofNat 32 l[k].toNat) = t at HS
          go_wp2
          go_round
          case rel => exact ⟨j + 1, by omega, by go_num, by rw [HS.out]; exact congrArg _ (crc_step t)⟩
          case measure => simp [intOf]; omega
        · obtain rfl : j = 8 := by omega
          go_wp2
          go_round
          case rel => exact ⟨k + 1, by omega, by go_num, by rw [HT.out]; rfl⟩
          case measure => simp [intOf]; omega
    · obtain rfl : k = l.length := by omega
      go_wp2
      go_ret
      exact ⟨by rw [← crc_end l]; rfl, rfl⟩

end Go.Proofs.YtannkgglgmbkdaaDoor
namespace Go.Proofs.YtannkgglgmbkdaaDoor
set_option linter.unusedVariables false
set_option linter.unusedSimpArgs false
open Go.RowKit

structure HeadM where
  life : Int
  half : Int
  first : Int
  since : Int
deriving DecidableEq
/-- Its bytes ahead of the sum. -/
def headS (h : HeadM) : List UInt8 := [76, 65, 80, 73, 68, 65, 82, 89] ++ putL 6 h.life ++ [UInt8.ofNat (h.half % 256).toNat] ++ putL 6 h.first ++ putL 6 h.since
theorem headS_len (h : HeadM) : (headS h).length = 27 := by simp [headS, putL_len]
def headB (h : HeadM) : List UInt8 := headS h ++ putL 4 ((crc (headS h)).toNat : Int) ++ List.replicate 97 0
theorem headB_len (h : HeadM) : (headB h).length = 128 := by simp [headB, headS_len, putL_len]
theorem wpList_copyS {w : World} {ops : Array Oper} {rest : List Oper} {o : Oper} {a : Act} {Q : Exit → Act → World → Prop} (hw : Region.wanted o (yielded ops a.tmps) = true) {t2 : TypeId} {d : Operand} {str : ByteArray}
    (ho : o.op = .call { callee := .builtin .copy, args := #[d, .const (.string str)], argTypes := #[40, t2] }) {g off dLen dCap : Nat} {cur : Array Value} {tt : TypeId} (hb : Blk w g tt cur)
    (hd : a.eval d = .slice (some ⟨g, off, none⟩) dLen dCap) (hle : str.size ≤ dLen) (hfit : off + str.size ≤ cur.size)
    (h : ∀ w', Blk w' g tt (splice cur off (U8 str.data.toList)) → w.grownBy w' (some g) → wpList Tryd.prog ops Q rest (a.put o.dst (goInt str.size)) w') : wpList Tryd.prog ops Q (o :: rest) a w := by
  have hrun := Lib.run_copy_row_string (P := Tryd.prog) w 40 t2 o.type 5 g off dLen dCap str cur tt Tryd.underlying40 (by kernel_rfl) hb hle hfit
  have e : (cur.toList.take off ++ Lib.byteCells str.data.toList ++ cur.toList.drop (off + str.size)).toArray = splice cur off (U8 str.data.toList) := by
    apply Array.toList_inj.1
    rw [splice_toList, U8_length, ← Lib.size_eq]
    rfl
  rw [e] at hrun
  refine BigFrame.wpList_want hw fun K hK => ?_
  unfold Oper.wp execOp
  have hc : a.eval (.const (.string str)) = .string str := rfl
  simp only [ho, resolve, invoke, builtin, Sem.run_bind, Sem.run_pure, Result.andThen_ok, List.map_toArray, List.map_cons, List.map_nil, hd, hc, hrun]
  exact hK _ _ (h _ (setRow_heap w g cur _ tt _ hb) ⟨rfl, rfl, rfl, by simp, fun k _ hk => setRow_other w g k _ (fun e => hk (by rw [e]))⟩)
theorem splice_pre (a b : List UInt8) (m k o : Nat) (ho : a.length = o) (hm : m = b.length + k) : splice (U8 (a ++ List.replicate m 0)).toArray o (U8 b) = (U8 (a ++ b ++ List.replicate k 0)).toArray := by
  apply Array.toList_inj.1
  rw [splice_toList]
  simp only [U8, List.map_append, List.length_map]
  have h1 : (List.map (fun b : UInt8 => Value.int .u8 (b.toNat : Int)) a).length = o := by rw [List.length_map]; exact ho
  rw [← h1, List.take_left, List.drop_length_add_append, hm, List.map_replicate, List.map_replicate, List.drop_replicate, Nat.add_sub_cancel_left]
theorem set_pre (a : List UInt8) (c : UInt8) (k o : Nat) (ho : a.length = o) : (U8 (a ++ List.replicate (k + 1) 0)).toArray.setIfInBounds o (.int .u8 (c.toNat : Int)) = (U8 (a ++ [c] ++ List.replicate k 0)).toArray := by
  subst ho
  rw [List.replicate_succ]
  simp [U8, List.set_append]
abbrev tSec : TypeId := 61
theorem zero_sec : (Tryd.prog.info? tSec).bind (·.zero) = some (.agg (U8 (List.replicate 128 0)).toArray) := by kernel_rfl
theorem ag_sec4 : AggOf Tryd.prog tSec 128 := ⟨⟨_, Tryd.underlying61, rfl⟩, by kernel_rfl⟩
theorem T_u32 {S : Nat → Prop} {ops : Array Oper} {Q : Exit → Go.Act → World → Prop} {ms : List Nat} {ord calls : List Nat} {k : Nat} {l : List Oper} {o : Oper} {a : Go.Act} {w : World} {n : Int} (h0 : 0 ≤ n) (h1 : n < 4294967296)
    (hc : calls.contains (ord.getD k 0) = false) (hw : Region.wanted o (yielded ops a.tmps) = true) (hQ : ∀ v c a w, Q (.panic c) (a.put o.dst v) w → Q (.panic c) a w)
    {x : Operand} (ho : o.op = .convert 95 2 x) (hx : a.eval x = .int .u32 n)
    (h : wpT Tryd.prog S ops Q ms ord calls (k + 1) l (a.put o.dst (.int .i64 n)) w) (hxm : calls.contains (ord.getD k 0 + 1000) = false := by rfl) : wpT Tryd.prog S ops Q ms ord calls k (o :: l) a w := by
  refine T_take hc hw (hQ _) (fun w' hf => ?_) h hxm
  have hwr : IntKind.i64.wrap n = n := by rw [IntKind.wrap_i64]; omega
  unfold execOp
  simp [ho, hx, convert, run_underlying Tryd.underlying95, run_underlying Tryd.underlying2, Conv.intToInt, hwr]
set_option maxHeartbeats 4000000 in
set_option maxRecDepth 100000 in
theorem head_calls (w : World) (h : HeadM) :
    Calls Tryd.prog 29 #[.agg #[.int .i64 h.life, .int .i64 h.half, .int .i64 h.first, .int .i64 h.since]] w fun e w' => e = .returned (.agg (U8 (headB h)).toArray) ∧ Fr No w w' := by
  obtain ⟨life, half, first, since⟩ := h
  have g1 : ∀ w, (isAgg 2).run Tryd.prog w = .ok false w := plain_of Tryd.underlying2 rfl
  have g2 := plain_int
  go_enter Tryd.func29, Tryd.ntmps29
  go_upto_region 2 with (first
    | (refine wpList_allocA zero_sec rfl rfl ?_)
    | fail)
  have hf1 : Fr No w (((w.alloc (.cells #[.int .i64 life, .int .i64 half, .int .i64 first, .int .i64 since] 63)).alloc (.cells (U8 (List.replicate 128 0)).toArray tSec)).alloc (.cells (U8 (List.replicate 128 0)).toArray tSec)) := (((Fr.refl No w).alloc _).alloc _).alloc _
  have hbh : Blk (((w.alloc (.cells #[.int .i64 life, .int .i64 half, .int .i64 first, .int .i64 since] 63)).alloc (.cells (U8 (List.replicate 128 0)).toArray tSec)).alloc (.cells (U8 (List.replicate 128 0)).toArray tSec)) w.heap.size 63 #[.int .i64 life, .int .i64 half, .int .i64 first, .int .i64 since] := ((Blk.new w _ _).alloc _).alloc _
  have hbr : Blk (((w.alloc (.cells #[.int .i64 life, .int .i64 half, .int .i64 first, .int .i64 since] 63)).alloc (.cells (U8 (List.replicate 128 0)).toArray tSec)).alloc (.cells (U8 (List.replicate 128 0)).toArray tSec)) (w.heap.size + 1) tSec (U8 (List.replicate 128 0)).toArray := (Blk.newAt (by simp)).alloc _
  have hbs : Blk (((w.alloc (.cells #[.int .i64 life, .int .i64 half, .int .i64 first, .int .i64 since] 63)).alloc (.cells (U8 (List.replicate 128 0)).toArray tSec)).alloc (.cells (U8 (List.replicate 128 0)).toArray tSec)) (w.heap.size + 1 + 1) tSec (U8 (List.replicate 128 0)).toArray := Blk.newAt (by simp)
  have e1 : (w.alloc (.cells #[.int .i64 life, .int .i64 half, .int .i64 first, .int .i64 since] 63)).heap.size = w.heap.size + 1 := by simp
  have e2 : ((w.alloc (.cells #[.int .i64 life, .int .i64 half, .int .i64 first, .int .i64 since] 63)).alloc (.cells (U8 (List.replicate 128 0)).toArray tSec)).heap.size = w.heap.size + 1 + 1 := by simp
  simp only [Act.put, List.setIfInBounds_toArray, List.set_cons_zero, List.set_cons_succ]
  rw [e1, e2]
  clear e1 e2
  generalize ((w.alloc (.cells #[.int .i64 life, .int .i64 half, .int .i64 first, .int .i64 since] 63)).alloc (.cells (U8 (List.replicate 128 0)).toArray tSec)).alloc (.cells (U8 (List.replicate 128 0)).toArray tSec) = w1 at *
  go_upto_region 3 with (first
    | (refine wpList_copyS rfl rfl hbs rfl (by decide) (by rw [List.size_toArray, U8_length, List.length_replicate]; decide) ?_; intro w2 hb2 hg2)
    | fail)
  have e0 : (U8 (List.replicate 128 0)).toArray = (U8 ([] ++ List.replicate 128 0)).toArray := rfl
  rw [e0] at hb2
  have hb2 := hb2
  rw [splice_pre [] [76, 65, 80, 73, 68, 65, 82, 89] 128 120 0 rfl rfl] at hb2
  have hf2 : Fr (fun b => b = w.heap.size + 1 + 1) w1 w2 := (Fr.refl _ w1).grown hg2 (fun q hq => by injection hq with hq; exact .inr hq.symm)
  have hbh2 := hbh.fr hf2 (fun e => by omega)
  have hbr2 := hbr.fr hf2 (fun e => by omega)
  have hF2 : Fr No w w2 := hf1.trans hf2 (fun b hb e => by omega)
  clear hbs hbh hbr hg2 hf1 hf2 e0
  obtain ⟨gs, hgs⟩ : ∃ gs, gs = w.heap.size + 1 + 1 := ⟨_, rfl⟩
  have hne1 : ¬ (w.heap.size = gs) := by omega
  have hne2 : ¬ (w.heap.size + 1 = gs) := by omega
  rw [← hgs] at hb2 ⊢
  have hgl : w.heap.size < gs := by omega
  clear hgs
  (have y0 := hbh2.cell 0; have y1 := hbh2.cell 1; have y2 := hbh2.cell 2; have y3 := hbh2.cell 3; have yf0 := hbh2.frozen 0; have yf1 := hbh2.frozen 1; have yf2 := hbh2.frozen 2; have yf3 := hbh2.frozen 3; simp only [List.getElem?_toArray, List.getElem?_cons_zero, List.getElem?_cons_succ] at y0 y1 y2 y3)
  go_wp2_with fail
  (refine T_begin (fun b => b = gs) [0, 1, 2, 3] [3] (by kernel_rfl) (by kernel_rfl) ?_; simp only [pickOps, List.filterMap_cons, List.filterMap_nil, List.getElem?_cons_zero, List.getElem?_cons_succ, Act.put])
  repeat (first | (refine T_skip (by rfl) (by rfl) (fun _ _ _ h => h) ?_; try simp only [Act.put, List.setIfInBounds_toArray, List.set_cons_zero, List.set_cons_succ]) | (refine T_pass (by rfl) (by rfl) ?_; try simp only [Act.put, List.setIfInBounds_toArray, List.set_cons_zero, List.set_cons_succ]) | (refine T_load (by assumption) (by rfl) (by rfl) (fun _ _ _ _ h => h) rfl rfl (by assumption) (by first | exact (fun hn => hn) | assumption) ?_; try simp only [Act.put, List.setIfInBounds_toArray, List.set_cons_zero, List.set_cons_succ]) | (refine T_nil (by rfl) (by rfl) (fun _ _ _ _ h => h) rfl rfl ?_; try simp only [Act.put, List.setIfInBounds_toArray, List.set_cons_zero, List.set_cons_succ]) | (refine T_quietN (by rfl) (by rfl) (by rfl) (by rfl) (fun _ _ _ _ h => h) (fun K hK => ?_); go_big_quiet_op; refine hK _ ?_; clear hK K) | (refine T_two (by rfl) (by rfl) (by rfl) (by rfl) (fun _ _ _ _ h => h) (fun K hK => ?_); go_big_quiet_op; refine ⟨_, fun _ _ => rfl, ?_⟩; refine hK _ ?_; clear hK K; try simp only [Act.put, List.setIfInBounds_toArray, List.set_cons_zero, List.set_cons_succ]) | fail)
  (refine T_call (by rfl) (by rfl) (fun K hK => ?_); go_wp2_with fail)
  refine (put_calls _ gs 8 6 120 tSec _ life hb2.drew (by rw [List.size_toArray, U8_length]; simp [putL_len]) (by decide)).mono ?_
  rintro e w3 ⟨rfl, hb3, hf3⟩
  rw [splice_pre _ _ 120 114 8 (by simp [putL_len]) (by rw [putL_len])] at hb3
  go_wp2_with fail
  (refine hK.out _ _ (hf3) ?_; clear hK K; try simp only [Act.put, List.setIfInBounds_toArray, List.set_cons_zero, List.set_cons_succ])
  repeat (first | (refine T_skip (by rfl) (by rfl) (fun _ _ _ h => h) ?_; try simp only [Act.put, List.setIfInBounds_toArray, List.set_cons_zero, List.set_cons_succ]) | (refine T_pass (by rfl) (by rfl) ?_; try simp only [Act.put, List.setIfInBounds_toArray, List.set_cons_zero, List.set_cons_succ]) | (refine T_load (by assumption) (by rfl) (by rfl) (fun _ _ _ _ h => h) rfl rfl (by assumption) (by first | exact (fun hn => hn) | assumption) ?_; try simp only [Act.put, List.setIfInBounds_toArray, List.set_cons_zero, List.set_cons_succ]) | (refine T_nil (by rfl) (by rfl) (fun _ _ _ _ h => h) rfl rfl ?_; try simp only [Act.put, List.setIfInBounds_toArray, List.set_cons_zero, List.set_cons_succ]) | (refine T_quietN (by rfl) (by rfl) (by rfl) (by rfl) (fun _ _ _ _ h => h) (fun K hK => ?_); go_big_quiet_op; refine hK _ ?_; clear hK K) | (refine T_two (by rfl) (by rfl) (by rfl) (by rfl) (fun _ _ _ _ h => h) (fun K hK => ?_); go_big_quiet_op; refine ⟨_, fun _ _ => rfl, ?_⟩; refine hK _ ?_; clear hK K; try simp only [Act.put, List.setIfInBounds_toArray, List.set_cons_zero, List.set_cons_succ]) | fail)
  refine T_done ?_
  have hbh3 := hbh2.fr ((Fr.refl _ _).drew.trans hf3 (fun _ _ e => e)) (fun e => hne1 e)
  have hbr3 := hbr2.fr ((Fr.refl _ _).drew.trans hf3 (fun _ _ e => e)) (fun e => hne2 e)
  have hF3 : Fr No w w3 := hF2.trans ((Fr.refl _ _).drew.trans hf3 (fun _ _ e => e)) (fun b hb e => by omega)
  clear y0 y1 y2 y3 yf0 yf1 yf2 yf3
  (have y0 := hbh3.cell 0; have y1 := hbh3.cell 1; have y2 := hbh3.cell 2; have y3 := hbh3.cell 3; have yf0 := hbh3.frozen 0; have yf1 := hbh3.frozen 1; have yf2 := hbh3.frozen 2; have yf3 := hbh3.frozen 3; simp only [List.getElem?_toArray, List.getElem?_cons_zero, List.getElem?_cons_succ] at y0 y1 y2 y3)
  have hc14 := (hb3.cell 14).trans (Array.getElem?_eq_getElem (by rw [List.size_toArray, U8_length]; simp [putL_len]))
  have hz14 := hb3.frozen 14
  have hp := hb3.put 14 (.int .u8 (half % 256))
  have hbyte : half % 256 = ((UInt8.ofNat (half % 256).toNat).toNat : Int) := by
    rw [UInt8.toNat_ofNat']
    have h1 := Int.emod_nonneg half (show (256 : Int) ≠ 0 by decide)
    have h2 := Int.emod_lt_of_pos half (show (0 : Int) < 256 by decide)
    omega
  have hset := set_pre ([] ++ [76, 65, 80, 73, 68, 65, 82, 89] ++ putL 6 life) (UInt8.ofNat (half % 256).toNat) 113 14 (by simp [putL_len])
  rw [← hbyte] at hset
  rw [hset] at hp
  clear hset hbyte
  generalize (U8 ([] ++ [76, 65, 80, 73, 68, 65, 82, 89] ++ putL 6 life ++ List.replicate 114 0)).toArray[14]'_ = old at hc14
  go_upto_region 5 with fail
  have hf4 : Fr (fun b => b = gs) w3 (w3.setCell ⟨gs, 14, none⟩ (.int .u8 (half % 256))) := (Fr.refl (fun b => b = gs) w3).set (p := ⟨gs, 14, none⟩) (.inr rfl) _
  have hb4 := hp
  clear hp y0 y1 y2 y3 yf0 yf1 yf2 yf3 hc14 hz14
  generalize w3.setCell ⟨gs, 14, none⟩ (.int .u8 (half % 256)) = w4 at *
  have hbh4 := hbh3.fr hf4 (fun e => hne1 e)
  have hbr4 := hbr3.fr hf4 (fun e => hne2 e)
  have hF4 : Fr No w w4 := hF3.trans hf4 (fun b hb e => by omega)
  (have y0 := hbh4.cell 0; have y1 := hbh4.cell 1; have y2 := hbh4.cell 2; have y3 := hbh4.cell 3; have yf0 := hbh4.frozen 0; have yf1 := hbh4.frozen 1; have yf2 := hbh4.frozen 2; have yf3 := hbh4.frozen 3; simp only [List.getElem?_toArray, List.getElem?_cons_zero, List.getElem?_cons_succ] at y0 y1 y2 y3)
  go_wp2_with fail
  (refine T_begin (fun b => b = gs) [0, 1, 2, 3] [3] (by kernel_rfl) (by kernel_rfl) ?_; simp only [pickOps, List.filterMap_cons, List.filterMap_nil, List.getElem?_cons_zero, List.getElem?_cons_succ, Act.put])
  repeat (first | (refine T_skip (by rfl) (by rfl) (fun _ _ _ h => h) ?_; try simp only [Act.put, List.setIfInBounds_toArray, List.set_cons_zero, List.set_cons_succ]) | (refine T_pass (by rfl) (by rfl) ?_; try simp only [Act.put, List.setIfInBounds_toArray, List.set_cons_zero, List.set_cons_succ]) | (refine T_load (by assumption) (by rfl) (by rfl) (fun _ _ _ _ h => h) rfl rfl (by assumption) (by first | exact (fun hn => hn) | assumption) ?_; try simp only [Act.put, List.setIfInBounds_toArray, List.set_cons_zero, List.set_cons_succ]) | (refine T_nil (by rfl) (by rfl) (fun _ _ _ _ h => h) rfl rfl ?_; try simp only [Act.put, List.setIfInBounds_toArray, List.set_cons_zero, List.set_cons_succ]) | (refine T_quietN (by rfl) (by rfl) (by rfl) (by rfl) (fun _ _ _ _ h => h) (fun K hK => ?_); go_big_quiet_op; refine hK _ ?_; clear hK K) | (refine T_two (by rfl) (by rfl) (by rfl) (by rfl) (fun _ _ _ _ h => h) (fun K hK => ?_); go_big_quiet_op; refine ⟨_, fun _ _ => rfl, ?_⟩; refine hK _ ?_; clear hK K; try simp only [Act.put, List.setIfInBounds_toArray, List.set_cons_zero, List.set_cons_succ]) | fail)
  (refine T_call (by rfl) (by rfl) (fun K hK => ?_); go_wp2_with fail)
  refine (put_calls _ gs 15 6 113 tSec _ first hb4.drew (by rw [List.size_toArray, U8_length]; simp [putL_len]) (by decide)).mono ?_
  rintro e w5 ⟨rfl, hb5, hf5⟩
  rw [splice_pre _ _ 113 107 15 (by simp [putL_len]) (by rw [putL_len])] at hb5
  go_wp2_with fail
  (refine hK.out _ _ (hf5) ?_; clear hK K; try simp only [Act.put, List.setIfInBounds_toArray, List.set_cons_zero, List.set_cons_succ])
  repeat (first | (refine T_skip (by rfl) (by rfl) (fun _ _ _ h => h) ?_; try simp only [Act.put, List.setIfInBounds_toArray, List.set_cons_zero, List.set_cons_succ]) | (refine T_pass (by rfl) (by rfl) ?_; try simp only [Act.put, List.setIfInBounds_toArray, List.set_cons_zero, List.set_cons_succ]) | (refine T_load (by assumption) (by rfl) (by rfl) (fun _ _ _ _ h => h) rfl rfl (by assumption) (by first | exact (fun hn => hn) | assumption) ?_; try simp only [Act.put, List.setIfInBounds_toArray, List.set_cons_zero, List.set_cons_succ]) | (refine T_nil (by rfl) (by rfl) (fun _ _ _ _ h => h) rfl rfl ?_; try simp only [Act.put, List.setIfInBounds_toArray, List.set_cons_zero, List.set_cons_succ]) | (refine T_quietN (by rfl) (by rfl) (by rfl) (by rfl) (fun _ _ _ _ h => h) (fun K hK => ?_); go_big_quiet_op; refine hK _ ?_; clear hK K) | (refine T_two (by rfl) (by rfl) (by rfl) (by rfl) (fun _ _ _ _ h => h) (fun K hK => ?_); go_big_quiet_op; refine ⟨_, fun _ _ => rfl, ?_⟩; refine hK _ ?_; clear hK K; try simp only [Act.put, List.setIfInBounds_toArray, List.set_cons_zero, List.set_cons_succ]) | fail)
  refine T_done ?_
  have hbh5 := hbh4.fr ((Fr.refl _ _).drew.trans hf5 (fun _ _ e => e)) (fun e => hne1 e)
  have hbr5 := hbr4.fr ((Fr.refl _ _).drew.trans hf5 (fun _ _ e => e)) (fun e => hne2 e)
  have hF5 : Fr No w w5 := hF4.trans ((Fr.refl _ _).drew.trans hf5 (fun _ _ e => e)) (fun b hb e => by omega)
  clear y0 y1 y2 y3 yf0 yf1 yf2 yf3
  (have y0 := hbh5.cell 0; have y1 := hbh5.cell 1; have y2 := hbh5.cell 2; have y3 := hbh5.cell 3; have yf0 := hbh5.frozen 0; have yf1 := hbh5.frozen 1; have yf2 := hbh5.frozen 2; have yf3 := hbh5.frozen 3; simp only [List.getElem?_toArray, List.getElem?_cons_zero, List.getElem?_cons_succ] at y0 y1 y2 y3)
  go_wp2_with fail
  (refine T_begin (fun b => b = gs) [0, 1, 2, 3] [3] (by kernel_rfl) (by kernel_rfl) ?_; simp only [pickOps, List.filterMap_cons, List.filterMap_nil, List.getElem?_cons_zero, List.getElem?_cons_succ, Act.put])
  repeat (first | (refine T_skip (by rfl) (by rfl) (fun _ _ _ h => h) ?_; try simp only [Act.put, List.setIfInBounds_toArray, List.set_cons_zero, List.set_cons_succ]) | (refine T_pass (by rfl) (by rfl) ?_; try simp only [Act.put, List.setIfInBounds_toArray, List.set_cons_zero, List.set_cons_succ]) | (refine T_load (by assumption) (by rfl) (by rfl) (fun _ _ _ _ h => h) rfl rfl (by assumption) (by first | exact (fun hn => hn) | assumption) ?_; try simp only [Act.put, List.setIfInBounds_toArray, List.set_cons_zero, List.set_cons_succ]) | (refine T_nil (by rfl) (by rfl) (fun _ _ _ _ h => h) rfl rfl ?_; try simp only [Act.put, List.setIfInBounds_toArray, List.set_cons_zero, List.set_cons_succ]) | (refine T_quietN (by rfl) (by rfl) (by rfl) (by rfl) (fun _ _ _ _ h => h) (fun K hK => ?_); go_big_quiet_op; refine hK _ ?_; clear hK K) | (refine T_two (by rfl) (by rfl) (by rfl) (by rfl) (fun _ _ _ _ h => h) (fun K hK => ?_); go_big_quiet_op; refine ⟨_, fun _ _ => rfl, ?_⟩; refine hK _ ?_; clear hK K; try simp only [Act.put, List.setIfInBounds_toArray, List.set_cons_zero, List.set_cons_succ]) | fail)
  (refine T_call (by rfl) (by rfl) (fun K hK => ?_); go_wp2_with fail)
  refine (put_calls _ gs 21 6 107 tSec _ since hb5.drew (by rw [List.size_toArray, U8_length]; simp [putL_len]) (by decide)).mono ?_
  rintro e w6 ⟨rfl, hb6, hf6⟩
  rw [splice_pre _ _ 107 101 21 (by simp [putL_len]) (by rw [putL_len])] at hb6
  go_wp2_with fail
  (refine hK.out _ _ (hf6) ?_; clear hK K; try simp only [Act.put, List.setIfInBounds_toArray, List.set_cons_zero, List.set_cons_succ])
  repeat (first | (refine T_skip (by rfl) (by rfl) (fun _ _ _ h => h) ?_; try simp only [Act.put, List.setIfInBounds_toArray, List.set_cons_zero, List.set_cons_succ]) | (refine T_pass (by rfl) (by rfl) ?_; try simp only [Act.put, List.setIfInBounds_toArray, List.set_cons_zero, List.set_cons_succ]) | (refine T_load (by assumption) (by rfl) (by rfl) (fun _ _ _ _ h => h) rfl rfl (by assumption) (by first | exact (fun hn => hn) | assumption) ?_; try simp only [Act.put, List.setIfInBounds_toArray, List.set_cons_zero, List.set_cons_succ]) | (refine T_nil (by rfl) (by rfl) (fun _ _ _ _ h => h) rfl rfl ?_; try simp only [Act.put, List.setIfInBounds_toArray, List.set_cons_zero, List.set_cons_succ]) | (refine T_quietN (by rfl) (by rfl) (by rfl) (by rfl) (fun _ _ _ _ h => h) (fun K hK => ?_); go_big_quiet_op; refine hK _ ?_; clear hK K) | (refine T_two (by rfl) (by rfl) (by rfl) (by rfl) (fun _ _ _ _ h => h) (fun K hK => ?_); go_big_quiet_op; refine ⟨_, fun _ _ => rfl, ?_⟩; refine hK _ ?_; clear hK K; try simp only [Act.put, List.setIfInBounds_toArray, List.set_cons_zero, List.set_cons_succ]) | fail)
  refine T_done ?_
  have hbh6 := hbh5.fr ((Fr.refl _ _).drew.trans hf6 (fun _ _ e => e)) (fun e => hne1 e)
  have hbr6 := hbr5.fr ((Fr.refl _ _).drew.trans hf6 (fun _ _ e => e)) (fun e => hne2 e)
  have hF6 : Fr No w w6 := hF5.trans ((Fr.refl _ _).drew.trans hf6 (fun _ _ e => e)) (fun b hb e => by omega)
  clear y0 y1 y2 y3 yf0 yf1 yf2 yf3
  have hpre : ([] ++ [76, 65, 80, 73, 68, 65, 82, 89] ++ putL 6 life ++ [UInt8.ofNat (half % 256).toNat] ++ putL 6 first ++ putL 6 since) = headS ⟨life, half, first, since⟩ := rfl
  rw [hpre] at hb6
  clear hpre
  have hrd6 : RdB w6 (fun b => b = gs) (some ⟨gs, 0, none⟩) (headS ⟨life, half, first, since⟩) := by
    refine ⟨by rw [U8_length]; omega, by rw [headS_len]; decide, fun _ => ⟨_, rfl, rfl, hb6.cells 0 _ (fun j u hu => ?_)⟩⟩
    have hj := (List.getElem?_eq_some_iff.1 hu).1
    simp only [U8, List.map_append, List.getElem?_toArray, Nat.zero_add]
    rw [List.getElem?_append_left (by simpa [U8] using hj)]
    exact hu
  have hsl := headS_len ⟨life, half, first, since⟩
  obtain ⟨hh, hhd⟩ : ∃ hh, hh = headS ⟨life, half, first, since⟩ := ⟨_, rfl⟩
  have hB : headB ⟨life, half, first, since⟩ = hh ++ putL 4 ((crc hh).toNat : Int) ++ List.replicate 97 0 := by rw [hhd]; rfl
  rw [← hhd] at hb6 hrd6 hsl
  have HBB := Lib.hid hB
  clear hB hhd
  have hsum := sum_calls _ (some ⟨gs, 0, none⟩) 128 hh w6.drew hrd6.drew
  rw [hsl] at hsum
  have hcr := u32n (crc hh)
  have hcr0 : (0 : Int) ≤ ((crc hh).toNat : Int) := by omega
  generalize hcn : ((crc hh).toNat : Int) = cn at *
  go_wp2_with fail
  (refine T_begin (fun b => b = gs) [0, 1, 2, 3, 4] [2, 4] (by kernel_rfl) (by kernel_rfl) ?_; simp only [pickOps, List.filterMap_cons, List.filterMap_nil, List.getElem?_cons_zero, List.getElem?_cons_succ, Act.put])
  repeat (first | (refine T_skip (by rfl) (by rfl) (fun _ _ _ h => h) ?_; try simp only [Act.put, List.setIfInBounds_toArray, List.set_cons_zero, List.set_cons_succ]) | (refine T_pass (by rfl) (by rfl) ?_; try simp only [Act.put, List.setIfInBounds_toArray, List.set_cons_zero, List.set_cons_succ]) | (refine T_load (by assumption) (by rfl) (by rfl) (fun _ _ _ _ h => h) rfl rfl (by assumption) (by first | exact (fun hn => hn) | assumption) ?_; try simp only [Act.put, List.setIfInBounds_toArray, List.set_cons_zero, List.set_cons_succ]) | (refine T_nil (by rfl) (by rfl) (fun _ _ _ _ h => h) rfl rfl ?_; try simp only [Act.put, List.setIfInBounds_toArray, List.set_cons_zero, List.set_cons_succ]) | (refine T_quietN (by rfl) (by rfl) (by rfl) (by rfl) (fun _ _ _ _ h => h) (fun K hK => ?_); go_big_quiet_op; refine hK _ ?_; clear hK K) | (refine T_two (by rfl) (by rfl) (by rfl) (by rfl) (fun _ _ _ _ h => h) (fun K hK => ?_); go_big_quiet_op; refine ⟨_, fun _ _ => rfl, ?_⟩; refine hK _ ?_; clear hK K; try simp only [Act.put, List.setIfInBounds_toArray, List.set_cons_zero, List.set_cons_succ]) | fail)
  (refine T_call (by rfl) (by rfl) (fun K hK => ?_); go_wp2_with fail)
  refine hsum.mono ?_
  rintro e w7 ⟨rfl, hw7⟩
  subst hw7
  go_wp2_with fail
  (refine hK.out _ _ ((Fr.refl _ _)) ?_; clear hK K; try simp only [Act.put, List.setIfInBounds_toArray, List.set_cons_zero, List.set_cons_succ])
  refine T_u32 hcr0 hcr (by rfl) (by rfl) (fun _ _ _ _ h => h) rfl rfl ?_
  try simp only [Act.put, List.setIfInBounds_toArray, List.set_cons_zero, List.set_cons_succ]
  (refine T_call (by rfl) (by rfl) (fun K hK => ?_); go_wp2_with fail)
  refine (put_calls _ gs 27 4 101 tSec _ cn hb6.drew (by rw [List.size_toArray, U8_length, List.length_append, hsl, List.length_replicate]; decide) (by decide)).mono ?_
  rintro e w8 ⟨rfl, hb8, hf8⟩
  rw [splice_pre _ _ 101 97 27 hsl (by rw [putL_len])] at hb8
  go_wp2_with fail
  (refine hK.out _ _ (hf8) ?_; clear hK K; try simp only [Act.put, List.setIfInBounds_toArray, List.set_cons_zero, List.set_cons_succ])
  repeat (first | (refine T_skip (by rfl) (by rfl) (fun _ _ _ h => h) ?_; try simp only [Act.put, List.setIfInBounds_toArray, List.set_cons_zero, List.set_cons_succ]) | (refine T_pass (by rfl) (by rfl) ?_; try simp only [Act.put, List.setIfInBounds_toArray, List.set_cons_zero, List.set_cons_succ]) | (refine T_load (by assumption) (by rfl) (by rfl) (fun _ _ _ _ h => h) rfl rfl (by assumption) (by first | exact (fun hn => hn) | assumption) ?_; try simp only [Act.put, List.setIfInBounds_toArray, List.set_cons_zero, List.set_cons_succ]) | (refine T_nil (by rfl) (by rfl) (fun _ _ _ _ h => h) rfl rfl ?_; try simp only [Act.put, List.setIfInBounds_toArray, List.set_cons_zero, List.set_cons_succ]) | (refine T_quietN (by rfl) (by rfl) (by rfl) (by rfl) (fun _ _ _ _ h => h) (fun K hK => ?_); go_big_quiet_op; refine hK _ ?_; clear hK K) | (refine T_two (by rfl) (by rfl) (by rfl) (by rfl) (fun _ _ _ _ h => h) (fun K hK => ?_); go_big_quiet_op; refine ⟨_, fun _ _ => rfl, ?_⟩; refine hK _ ?_; clear hK K; try simp only [Act.put, List.setIfInBounds_toArray, List.set_cons_zero, List.set_cons_succ]) | fail)
  refine T_done ?_
  have hbr8 := hbr6.fr ((Fr.refl _ _).drew.trans hf8 (fun _ _ e => e)) (fun e => hne2 e)
  have hF8 : Fr No w w8 := hF6.trans ((Fr.refl _ _).drew.trans hf8 (fun _ _ e => e)) (fun b hb e => by omega)
  rw [← HBB.out] at hb8
  have hall := hb8.all
  have hlb : (U8 (headB ⟨life, half, first, since⟩)).length = 128 := by rw [U8_length, headB_len]
  obtain ⟨hB, hhB⟩ : ∃ hB, Hid (hB = headB ⟨life, half, first, since⟩) := ⟨_, Lib.hid rfl⟩
  rw [← hhB.out] at hb8 hall hlb
  go_wp2_with (first
    | (refine wpList_ldA ag_sec4 rfl _ rfl ⟨gs, 0, none⟩ (U8 hB) rfl hlb hall ?_)
    | (refine wpList_stA ag_sec4.info rfl _ _ rfl (w.heap.size + 1) 0 _ _ (U8 hB) _ rfl rfl rfl hlb (U8_one hB) hbr8 (by rw [List.size_toArray, U8_length, List.length_replicate]; first | done | omega) ?_; intro w9 hb9 hg9 hz9)
    | fail)
  rw [splice_all _ _ (by rw [hlb, List.size_toArray, U8_length, List.length_replicate])] at hb9
  have hf9 : Fr (fun b => b = w.heap.size + 1) w8 w9 := (Fr.refl _ w8).grown hg9 (fun q hq => by injection hq with hq; exact .inr hq.symm)
  refine bodyPost_ret (results_blk ag_sec4 rfl _ _ _ _ _ rfl hb9 (by rw [List.size_toArray]; exact hlb)) rfl ⟨by rw [hhB.out], hF8.trans hf9 (fun b hb e => by omega)⟩
end Go.Proofs.YtannkgglgmbkdaaDoor
namespace Go.Proofs.YtannkgglgmbkdaaDoor
set_option linter.unusedVariables false
set_option linter.unusedSimpArgs false
open Go.RowKit

def goodB (n : Int) : Bool := decide (1 ≤ n) && decide (n ≤ 1099511627776)
theorem good_calls (n : Int) (w : World) :
    Calls Tryd.prog 53 #[.int .i64 n] w fun e w' => e = .returned (.bool (goodB n)) ∧ w' = w := by
  unfold goodB
  by_cases h1 : 1 ≤ n
  · have e1 : decide (1 ≤ n) = true := by simpa using h1
    rw [e1, Bool.true_and]
    clear h1
    go_enter Tryd.func53, Tryd.ntmps53
    go_wp2
    go_ret
    exact ⟨rfl, rfl⟩
  · have e1 : decide (1 ≤ n) = false := by simpa using h1
    rw [e1, Bool.false_and]
    clear h1
    go_enter Tryd.func53, Tryd.ntmps53
    go_wp2
    go_ret
    exact ⟨rfl, rfl⟩
def sectorsM (n : Int) : Int := if n < 1 ∨ 60000 < n then 0 else (n - 1) / 112 + 1
theorem sectorsM_out {n : Int} (h : n < 1 ∨ 60000 < n) : sectorsM n = 0 := if_pos h
theorem sectorsM_in {n : Int} (h1 : 1 ≤ n) (h2 : n ≤ 60000) : sectorsM n = (n - 1) / 112 + 1 ∧ sectorsM n = (n + 111) / 112 := by
  unfold sectorsM
  rw [if_neg (by omega)]
  omega
theorem ret_int {a b : Int} (h : a = b) : Ending.returned (.int .i64 a) = .returned (.int .i64 b) := by rw [h]
theorem sectors_calls (n : Int) (w : World) :
    Calls Tryd.prog 9 #[.int .i64 n] w fun e w' => e = .returned (.int .i64 (sectorsM n)) ∧ w' = w := by
  by_cases h1 : n < 1
  · have e1 : decide (n < 1) = true := by simpa using h1
    have HS := Lib.hid (sectorsM_out (.inl h1))
    clear h1
    go_enter Tryd.func9, Tryd.ntmps9
    go_wp2
    go_ret
    exact ⟨ret_int HS.out.symm, rfl⟩
  · have e1 : decide (n < 1) = false := by simpa using h1
    by_cases h2 : 60000 < n
    · have e2 : decide (60000 < n) = true := by simpa using h2
      have HS := Lib.hid (sectorsM_out (.inr h2))
      clear h1 h2
      go_enter Tryd.func9, Tryd.ntmps9
      go_wp2
      go_ret
      exact ⟨ret_int HS.out.symm, rfl⟩
    · have e2 : decide (60000 < n) = false := by simpa using h2
      have HS := Lib.hid (sectorsM_in (n := n) (by omega) (by omega)).1
      go_enter Tryd.func9, Tryd.ntmps9
      go_wp2
      go_ret
      exact ⟨ret_int HS.out.symm, rfl⟩
theorem refsectors_calls (n : Int) (w : World) :
    Calls Tryd.prog 10 #[.int .i64 n] w fun e w' => e = .returned (.int .i64 (sectorsM n)) ∧ w' = w := by
  by_cases h1 : n < 1
  · have e1 : decide (n < 1) = true := by simpa using h1
    have HS := Lib.hid (sectorsM_out (.inl h1))
    clear h1
    go_enter Tryd.func10, Tryd.ntmps10
    go_wp2
    go_ret
    exact ⟨ret_int HS.out.symm, rfl⟩
  · have e1 : decide (n < 1) = false := by simpa using h1
    by_cases h2 : 60000 < n
    · have e2 : decide (60000 < n) = true := by simpa using h2
      have HS := Lib.hid (sectorsM_out (.inr h2))
      clear h1 h2
      go_enter Tryd.func10, Tryd.ntmps10
      go_wp2
      go_ret
      exact ⟨ret_int HS.out.symm, rfl⟩
    · have e2 : decide (60000 < n) = false := by simpa using h2
      have HS := Lib.hid (sectorsM_in (n := n) (by omega) (by omega)).2
      go_enter Tryd.func10, Tryd.ntmps10
      go_wp2
      go_ret
      exact ⟨ret_int HS.out.symm, rfl⟩
theorem half_calls (w : World) (X : Nat → Prop) (H : Nat) (d : DiskM) (h : DiskAt w X H d) (h2 : 2 ≤ d.now.length) (h3 : d.now.length ≤ 4096) :
    Calls Tryd.prog 35 #[.pointer (some ⟨H, 0, none⟩)] w fun e w' => e = .returned (.int .i64 ((d.now.length - 2) / 2 : Nat)) ∧ w' = w := by
  have HE := Lib.hid (show (((d.now.length - 2) / 2 : Nat) : Int) = ((d.now.length : Int) - 2) / 2 by omega)
  have hsz := size_calls w X H d h
  generalize d.now.length = n at *
  go_enter Tryd.func35, Tryd.ntmps35
  go_wp2_with fail
  refine hsz.mono ?_
  rintro e w2 ⟨rfl, hw2⟩
  subst hw2
  go_wp2_with fail
  go_ret
  exact ⟨ret_int HE.out.symm, rfl⟩
theorem start_calls (w : World) (X : Nat → Prop) (H : Nat) (d : DiskM) (half : Nat) (h : DiskAt w X H d) (h2 : 2 ≤ d.now.length) (h3 : d.now.length ≤ 4096) (hh : half ≤ 1) :
    Calls Tryd.prog 34 #[.pointer (some ⟨H, 0, none⟩), .int .i64 (half : Int)] w fun e w' => e = .returned (.int .i64 (2 + half * ((d.now.length - 2) / 2) : Nat)) ∧ w' = w := by
  have hsz := half_calls w X H d h h2 h3
  have hb : (d.now.length - 2) / 2 ≤ 4096 := by omega
  generalize (d.now.length - 2) / 2 = n at *
  obtain ⟨m, hm⟩ : ∃ m, m = half * n := ⟨_, rfl⟩
  have hm2 : (half : Int) * (n : Int) = (m : Int) := by rw [hm]; exact (Int.natCast_mul half n).symm
  have hm3 : m ≤ 4096 := by
    rw [hm]
    have : half * n ≤ 1 * n := Nat.mul_le_mul_right n hh
    omega
  have HE := Lib.hid (show ((2 + half * n : Nat) : Int) = 2 + (half : Int) * n by rw [hm2, ← hm]; omega)
  have HM := Lib.hid hm2
  clear hm hm2
  have r1 : -9223372036854775808 ≤ (half : Int) * n := by rw [HM.out]; omega
  have r2 : (half : Int) * n ≤ 9223372036854775807 := by rw [HM.out]; omega
  have r3 : -9223372036854775808 ≤ 2 + (half : Int) * n := by rw [HM.out]; omega
  have r4 : 2 + (half : Int) * n ≤ 9223372036854775807 := by rw [HM.out]; omega
  go_enter Tryd.func34, Tryd.ntmps34
  go_wp2_with fail
  refine hsz.mono ?_
  rintro e w2 ⟨rfl, hw2⟩
  have hw2 := hw2.symm
  subst hw2
  go_wp2_with fail
  go_ret
  exact ⟨ret_int HE.out.symm, rfl⟩
theorem wrong_calls (w : World) (X : Nat → Prop) (H : Nat) (d : DiskM) (h : DiskAt w X H d) :
    Calls Tryd.prog 28 #[.pointer (some ⟨H, 0, none⟩)] w fun e w' => e = .returned (.int .i64 (if d.now.length < 4 then 3 else 0)) ∧ w' = w := by
  have hsz := size_calls w X H d h
  generalize d.now.length = n at *
  by_cases h4 : n < 4
  · have e4 : decide ((n : Int) < 4) = true := by simp; omega
    rw [if_pos h4]
    go_enter Tryd.func28, Tryd.ntmps28
    go_wp2_with fail
    refine hsz.mono ?_
    rintro e w2 ⟨rfl, hw2⟩
    subst hw2
    go_wp2_with fail
    go_ret
    exact ⟨rfl, rfl⟩
  · have e4 : decide ((n : Int) < 4) = false := by simp; omega
    rw [if_neg h4]
    go_enter Tryd.func28, Tryd.ntmps28
    go_wp2_with fail
    refine hsz.mono ?_
    rintro e w2 ⟨rfl, hw2⟩
    subst hw2
    go_wp2_with fail
    go_ret
    exact ⟨rfl, rfl⟩
end Go.Proofs.YtannkgglgmbkdaaDoor
