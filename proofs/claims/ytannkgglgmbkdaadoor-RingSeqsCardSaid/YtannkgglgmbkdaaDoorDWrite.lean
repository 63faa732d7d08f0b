/- disk.Disk.Write. No condition but size. -/
import Derived.Test.YtannkgglgmbkdaaDoorDNew
namespace Go.Proofs.YtannkgglgmbkdaaDoor
set_option linter.unusedVariables false
set_option linter.unusedSimpArgs false
open Go.RowKit

/-- Sectors written one behind the other, up to the one that fails. -/
def putsM (d : DiskM) (k : Nat) : List Sec → DiskM × Bool
  | [] => (d, true)
  | s :: ss => if (oneM d k s).2 = true then putsM (oneM d k s).1 (k + 1) ss else ((oneM d k s).1, false)
theorem oneM_keeps (d : DiskM) (k : Nat) (s : Sec) : (oneM d k s).1.now.length = d.now.length ∧ (oneM d k s).1.way.length ≤ d.way.length + 1 ∧ (oneM d k s).1.left ≤ d.left := by
  unfold oneM
  split
  · simp
  · split <;> simp
def rawW (k : Nat) : List Value := way1 (k, zsec)
theorem run_buildW (k : Int) (w : World) : (Instr.build 90 #[(0, .int .i64 k)]).run Tryd.prog w = .ok (.agg (.int .i64 k :: U8 zsec).toArray) w := by kernel_rfl
theorem wpList_buildW {w : World} {ops : Array Oper} {rest : List Oper} {o : Oper} {a : Act} {Q : Exit → Act → World → Prop} (k : Nat) (hw : Region.wanted o (yielded ops a.tmps) = true) {x : Operand} (ho : o.op = .build 90 #[(0, x)]) (hx : a.eval x = .int .i64 (k : Int))
    (h : wpList Tryd.prog ops Q rest (a.put o.dst (.agg (way1 (k, zsec)).toArray)) w) : wpList Tryd.prog ops Q (o :: rest) a w := by
  refine BigFrame.wpList_want hw fun K hK => ?_
  unfold Oper.wp execOp
  simp only [ho, Sem.run_bind, List.map_toArray, List.map_cons, List.map_nil, hx, run_buildW, Result.andThen_ok, Sem.run_pure]
  exact hK _ _ h
theorem zero_wrote : (Tryd.prog.info? 90).bind (·.zero) = some (.agg (way1 (0, zsec)).toArray) := by kernel_rfl
theorem way1_len {k : Nat} {s : Sec} (hs : s.length = 128) : (way1 (k, s)).length = 129 := by simp [way1, U8_length, hs]
theorem splice_way1 (k : Nat) (s t : Sec) (hs : s.length = 128) (ht : t.length = 128) : splice (way1 (k, t)).toArray 1 (U8 s) = (way1 (k, s)).toArray := by
  unfold splice way1
  simp [U8_length, hs, ht]

def WriteR (w : World) (X Y : Nat → Prop) (H : Nat) (r : DiskM × Bool) (e : Ending) (w' : World) : Prop := e = .returned (.int .i64 (if r.2 = true then 0 else 14)) ∧ Left w X Y H r.1 w'
def BadR (w : World) (X Y : Nat → Prop) (H : Nat) (d : DiskM) (n : Int) (e : Ending) (w' : World) : Prop := e = .returned (.int .i64 n) ∧ Left w X Y H d w'
theorem WriteR.yes {w w' : World} {X Y : Nat → Prop} {H : Nat} {r : DiskM × Bool} (h : r.2 = true) (hl : Left w X Y H r.1 w') : WriteR w X Y H r (.returned (.int .i64 0)) w' := ⟨by rw [if_pos h], hl⟩
theorem WriteR.no {w w' : World} {X Y : Nat → Prop} {H : Nat} {r : DiskM × Bool} (h : r.2 = false) (hl : Left w X Y H r.1 w') : WriteR w X Y H r (.returned (.int .i64 14)) w' := ⟨by rw [if_neg (by rw [h]; exact Bool.false_ne_true)], hl⟩
set_option maxHeartbeats 4000000 in
set_option maxRecDepth 100000 in
/-- A write that has no such place. -/
theorem write_range (w : World) (X : Nat → Prop) (H : Nat) (d : DiskM) (k : Int) (m : Nat) (A : Option Addr) (c : Nat) (h : DiskAt w X H d) (hk : -9223372036854775808 ≤ k ∧ k ≤ 9223372036854775807) (hm : m ≤ 524288) (hbad : k < 0 ∨ (d.now.length : Int) < k ∨ ((d.now.length : Int) - k) * 128 < m) :
    Calls Tryd.prog 45 #[.pointer (some ⟨H, 0, none⟩), .int .i64 k, .slice A m c] w fun e w' => e = .returned (.int .i64 13) ∧ w = w' := by
  obtain ⟨gs, cs, gn, cn, A', c', hP⟩ := h
  obtain ⟨hb, _, _, _, _, _, _, hlen, hmax, _⟩ := hP
  have q1 := hb.cell 1
  simp only [List.getElem?_toArray, List.getElem?_cons_zero, List.getElem?_cons_succ] at q1
  by_cases h1 : k < 0
  · have e1 : decide (k < 0) = true := by simpa using h1
    go_enter Tryd.func45, Tryd.ntmps45
    go_wp2
    go_ret
    exact ⟨rfl, rfl⟩
  have e1 : decide (k < 0) = false := by simpa using h1
  by_cases h2 : (d.now.length : Int) < k
  · have e2 : decide ((d.now.length : Int) < k) = true := by simpa using h2
    go_enter Tryd.func45, Tryd.ntmps45
    go_wp2
    go_ret
    exact ⟨rfl, rfl⟩
  have e2 : decide ((d.now.length : Int) < k) = false := by simpa using h2
  have h3 : ((d.now.length : Int) - k) * 128 < m := by omega
  have e3 : decide (((d.now.length : Int) - k) * 128 < m) = true := by simpa using h3
  have h4 : 0 ≤ (d.now.length : Int) - k := by omega
  have h5 : (d.now.length : Int) - k ≤ 4096 := by omega
  go_enter Tryd.func45, Tryd.ntmps45
  go_wp2
  go_ret
  exact ⟨rfl, rfl⟩
theorem flat_head {ss : List Sec} (h : Len128 ss) {j : Nat} (hj : j < ss.length) : (U8 (ss.drop j).flatten).take 128 = U8 ss[j] ∧ (U8 (ss.drop j).flatten).drop 128 = U8 (ss.drop (j + 1)).flatten := by
  have hl : (U8 ss[j]).length = 128 := by rw [U8_length, h _ (List.getElem_mem hj)]
  rw [List.drop_eq_getElem_cons hj, List.flatten_cons, U8_append, ← hl]
  exact ⟨by simp, by simp⟩
theorem putsM_cons (d : DiskM) (k : Nat) (s : Sec) (ss : List Sec) : putsM d k (s :: ss) = if (oneM d k s).2 = true then putsM (oneM d k s).1 (k + 1) ss else ((oneM d k s).1, false) := rfl

set_option maxHeartbeats 8000000 in
set_option maxRecDepth 100000 in
theorem write_calls (w : World) (X Y : Nat → Prop) (H : Nat) (d : DiskM) (k : Nat) (ss : List Sec) (A : Option Addr) (c : Nat) (h : DiskAt w X H d) (hrd : Rd w (fun b => ¬ X b) 1 A (ss.length * 128) (U8 ss.flatten)) (hss : Len128 ss) (hc : ss.length * 128 ≤ c) (hcm : c ≤ maxLen)
    (hn : 1 ≤ ss.length) (hfit : k + ss.length ≤ d.now.length) (hway : d.way.length ≤ 50000) (hleft : d.left ≤ 1000000) (hXY : ∀ b, X b → Y b) (hY : ∀ b, w.heap.size ≤ b → Y b) :
    Calls Tryd.prog 45 #[.pointer (some ⟨H, 0, none⟩), .int .i64 (k : Int), .slice A (ss.length * 128) c] w (WriteR w X Y H (putsM d k ss)) := by
  have hH : DiskAt w X H d := h
  obtain ⟨gs, cs, gn, cn, A', c', hP⟩ := h
  obtain ⟨hb, _, _, _, _, _, _, hlen, hmax, _⟩ := hP
  have q1 := hb.cell 1
  simp only [List.getElem?_toArray, List.getElem?_cons_zero, List.getElem?_cons_succ] at q1
  obtain ⟨m, hm⟩ : ∃ m, m = ss.length * 128 := ⟨_, rfl⟩
  have e1 : decide ((k : Int) < 0) = false := by simp
  have e2 : ¬ (d.now.length < k) := by omega
  have e3 : decide (((d.now.length : Int) - k) * 128 < m) = false := by simp; omega
  have h4 : 0 ≤ (d.now.length : Int) - k := by omega
  have h5 : (d.now.length : Int) - k ≤ 4096 := by omega
  have e4 : ((m : Int) == 0) = false := by rw [beq_eq_false_iff_ne]; omega
  have e5 : (m : Int).tmod 128 = 0 := by subst hm; rw [Int.natCast_mul]; exact Int.mul_tmod_left _ _
  have hm1 : 0 < m := by omega
  have hm2 : m ≤ 524288 := by omega
  rw [← hm] at hrd hc ⊢
  have HM := Lib.hid hm
  clear hm hlen
  go_enter Tryd.func45, Tryd.ntmps45
  go_wp2_with fail
  clear e1 e2 e3 h4 h5 e4 e5 q1
  have HSS := Lib.hid hss
  clear hss
  go_loopw [1, 2] (fun va vb wr => ∃ (j p n cb : Nat) (B : Option Addr) (dj : DiskM), j ≤ ss.length ∧ Hid (p = k + j) ∧ va = .int .i64 (p : Int) ∧ vb = .slice B n cb ∧ Hid (n = (ss.length - j) * 128) ∧ n ≤ cb ∧ cb ≤ maxLen ∧
    Rd wr (fun b => ¬ X b ∧ b < w.heap.size) 1 B n (U8 (ss.drop j).flatten) ∧ DiskAt wr (fun b => X b ∨ w.heap.size ≤ b) H dj ∧ Hid (putsM d k ss = putsM dj p (ss.drop j)) ∧
    (dj.now.length = d.now.length ∧ dj.way.length ≤ 50000 + j ∧ dj.left ≤ d.left) ∧ Fr X w wr) (fun _ vb _ => (match vb with | .slice _ n _ => n | _ => 0))
  case atStart => exact ⟨0, k, m, c, A, d, by omega, Lib.hid rfl, rfl, rfl, HM, hc, hcm, hrd.lt (by decide), hH.mono (fun b _ hb => .inl hb), Lib.hid rfl, ⟨rfl, by omega, Nat.le_refl _⟩, Fr.refl _ _⟩
  case round =>
    obtain ⟨j, p, n, cb, B, dj, hj, HP, rfl, rfl, HN, hncb, hcbm, hrdj, hdj, HPU, ⟨hl1, hl2, hl3⟩, hf⟩ := hrel
    have hn0 := HN.out
    have hp0 := HP.out
    by_cases hlt : j < ss.length
    · have hn1 : 128 ≤ n := by omega
      have hn2 : n ≤ 524288 := by omega
      have en : decide ((0 : Int) < n) = true := by simp; omega
      have hlen := HSS.out _ (List.getElem_mem hlt)
      obtain ⟨hh1, hh2⟩ := flat_head HSS.out hlt
      have hdr : ss.drop j = ss[j] :: ss.drop (j + 1) := List.drop_eq_getElem_cons hlt
      have hpu := HPU.out
      rw [hdr, putsM_cons] at hpu
      have HPU2 := Lib.hid hpu
      have HH1 := Lib.hid hh1
      have HH2 := Lib.hid hh2
      have hpk : p < dj.now.length := by omega
      have hone := oneM_keeps dj p ss[j]
      clear hn0 hp0 hdr hpu hh1 hh2
      generalize ss[j] = s at *
      have hnb : 0 < n := by omega
      have hgT : ¬ (X wr.heap.size ∧ False) := fun h => h.2
      go_wp2_with (first
        | (refine wpList_buildW p rfl rfl rfl ?_)
        | (refine wpList_allocA zero_wrote rfl rfl ?_; have hb0 := Blk.new wr 90 (way1 (0, zsec)).toArray)
        | (refine wpList_stA ag_wrote.info rfl _ _ rfl wr.heap.size 0 _ _ (way1 (p, zsec)) _ rfl rfl rfl (way1_len zsec_len) (way1_one _) hb0 (by rw [List.size_toArray, way1_len zsec_len]; decide) ?_; intro w1 hb1 hg1 hz1; rw [splice_all _ _ (by rw [List.size_toArray, way1_len zsec_len, way1_len zsec_len])] at hb1; have hf1 : Fr No wr w1 := ((Fr.refl No wr).alloc _).grown hg1 (fun q hq => by injection hq with hq; exact .inl (by omega)))
        | (refine wpList_copyA so_u8 rfl rfl hb1 (hrdj.fr0 hf1) (U8_one _) rfl rfl (by rw [List.size_toArray, way1_len zsec_len]; omega) ?_; intro w2 hb2 hg2 hz2; rw [show min n 128 * 1 = 128 by omega, HH1.out, splice_way1 p s zsec hlen zsec_len] at hb2; have hf2 : Fr No wr w2 := hf1.grown hg2 (fun q hq => by injection hq with hq; exact .inl (by omega)))
        | (refine wpList_ldA ag_wrote rfl _ rfl ⟨wr.heap.size, 0, none⟩ (way1 (p, s)) rfl (way1_len hlen) hb2.all ?_)
        | fail)
      have hs2 := hf2.size
      have hsw := hf.size
      refine (one_calls w2 (fun b => X b ∨ w.heap.size ≤ b) (fun b => X b ∨ w.heap.size ≤ b) H dj p s (hdj.fr0 hf2) hpk hlen (by omega) (by omega) (fun _ hb => hb) (fun b hb => .inr (by omega))).mono ?_
      rintro e w3 ⟨rfl, hd3, hf3⟩
      have hf03 : Fr X w w3 := (hf.trans (hf2.mono (T := X) (fun _ _ hn => hn.elim)) (fun _ _ hb => hb)).trans hf3 (fun b hb hT => hT.elim id (fun h => by omega))
      cases hok : (oneM dj p s).2 with
      | false =>
        have HO := Lib.hid (show putsM d k ss = ((oneM dj p s).1, false) by rw [HPU2.out, if_neg (by rw [hok]; exact Bool.false_ne_true)])
        clear hok
        go_wp2
        go_ret
        rw [HO.out]
        exact WriteR.no rfl ⟨hd3.mono (fun b _ hb => hb.elim (hXY b) (hY b)), hf03⟩
      | true =>
        have HO := Lib.hid (show putsM d k ss = putsM (oneM dj p s).1 (p + 1) (ss.drop (j + 1)) by rw [HPU2.out, if_pos hok])
        have hrd3 : Rd w3 (fun b => ¬ X b ∧ b < w.heap.size) 1 B n _ := (hrdj.fr0 hf2).fr hf3 (fun b hb hT => hT.elim hb.1 (fun h => by have := hb.2; omega))
        have hcut := hrd3.cut (k := 128) (cap := cb) hn1 hncb
        simp only [Nat.mul_one, HH2.out] at hcut
        have HCUT := Lib.hid hcut
        obtain ⟨ho1, ho2, ho3⟩ := hone
        clear hok hcut hrd3
        by_cases hcb : cb = 128
        · subst hcb
          obtain rfl : n = 128 := by omega
          have hc := HCUT.out
          rw [if_pos rfl] at hc
          have HC := Lib.hid hc
          clear hc
          go_wp2
          go_roundw
          case rel => exact ⟨j + 1, p + 1, _, _, _, (oneM dj p s).1, by omega, Lib.hid (by have := HP.out; omega), by go_num, rfl, Lib.hid (by have := HN.out; omega), by omega, by omega, HC.out, hd3, HO, ⟨by omega, by omega, by omega⟩, hf03⟩
          case measure => simp
        · have hc := HCUT.out
          rw [if_neg hcb] at hc
          have HC := Lib.hid hc
          clear hc
          go_wp2
          go_roundw
          case rel => exact ⟨j + 1, p + 1, _, _, _, (oneM dj p s).1, by omega, Lib.hid (by have := HP.out; omega), by go_num, rfl, Lib.hid (by have := HN.out; omega), by omega, by omega, HC.out, hd3, HO, ⟨by omega, by omega, by omega⟩, hf03⟩
          case measure => simp; omega
    · obtain rfl : j = ss.length := by omega
      obtain rfl : n = 0 := by omega
      have hpu := HPU.out
      rw [List.drop_length] at hpu
      have HPU2 := Lib.hid (show putsM d k ss = (dj, true) from hpu)
      clear hn0 hp0 hpu
      go_wp2
      go_ret
      rw [HPU2.out]
      exact WriteR.yes rfl ⟨hdj.mono (fun b _ hb => hb.elim (hXY b) (hY b)), hf⟩
end Go.Proofs.YtannkgglgmbkdaaDoor
