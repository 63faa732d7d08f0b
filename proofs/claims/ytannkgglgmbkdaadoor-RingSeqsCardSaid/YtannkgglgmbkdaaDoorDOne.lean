/- disk.Disk.one. No condition but that the sector is there. -/
import Derived.Test.YtannkgglgmbkdaaDoorDDef
namespace Go.Proofs.YtannkgglgmbkdaaDoor
set_option linter.unusedVariables false
set_option linter.unusedSimpArgs false
open Go.RowKit

theorem plain_of {T : TypeId} {d : TypeDesc} (h : Tryd.prog.underlying T = some d) (hd : (match d with | .struct _ | .array _ _ => true | _ => false) = false) : ∀ w, (isAgg T).run Tryd.prog w = .ok false w := by
  intro w
  unfold isAgg
  rw [Sem.run_bind, run_underlying h w]
  cases d <;> simp_all
theorem plain_int : ∀ w, (isAgg 3).run Tryd.prog w = .ok false w := plain_of Tryd.underlying3 rfl
theorem plain_bool : ∀ w, (isAgg 4).run Tryd.prog w = .ok false w := plain_of Tryd.underlying4 rfl
theorem plain_lsec : ∀ w, (isAgg 84).run Tryd.prog w = .ok false w := plain_of Tryd.underlying84 rfl
theorem plain_lwrote : ∀ w, (isAgg 85).run Tryd.prog w = .ok false w := plain_of Tryd.underlying85 rfl
set_option maxRecDepth 100000 in
theorem run_neq_sec (w : World) (xs ys : Sec) (hx : xs.length = 128) (hy : ys.length = 128) : (binOp .neq 88 (.agg (U8 xs).toArray) (.agg (U8 ys).toArray)).run Tryd.prog w = .ok (.bool (!(xs == ys))) w := by
  have h := run_equalIn_bytes (P := Tryd.prog) w 9998 88 5 128 Tryd.underlying88 Tryd.underlying5 (fun w => by unfold sizeOf typeInfo; rfl) xs ys hx hy
  rw [run_neq_struct]
  unfold U8
  have e : (fun b : UInt8 => Value.int .u8 (b.toNat : Int)) = Extern.Stop.cell := rfl
  rw [e, h]
  rfl
theorem eg_sec : Tryd.prog.eqGuardType Tryd.prog.depth 88 = false := by kernel_rfl
theorem T_neqSec {S : Nat → Prop} {ops : Array Oper} {Q : Exit → Act → World → Prop} {ms : List Nat} {ord calls : List Nat} {k : Nat} {l : List Oper} {o : Oper} {a : Act} {w : World} {xs ys : Sec} (hlx : xs.length = 128) (hly : ys.length = 128) {x y : Operand} {ty : TypeId}
    (hc : calls.contains (ord.getD k 0) = false) (hw : Region.wanted o (yielded ops a.tmps) = true) (hQ : ∀ v c a w, Q (.panic c) (a.put o.dst v) w → Q (.panic c) a w)
    (ho : o.op = .binOp .neq 88 x y ty) (hx : a.eval x = .agg (U8 xs).toArray) (hy : a.eval y = .agg (U8 ys).toArray)
    (h : wpT Tryd.prog S ops Q ms ord calls (k + 1) l (a.put o.dst (.bool (!(xs == ys)))) w) (hxm : calls.contains (ord.getD k 0 + 1000) = false := by rfl) : wpT Tryd.prog S ops Q ms ord calls k (o :: l) a w := by
  refine T_take hc hw (hQ _) (fun w' hf => ?_) h hxm
  unfold execOp
  simp only [ho, hx, hy, Sem.run_bind, run_eqGuard_agg w' .neq 88 x y (U8 xs).toArray (U8 ys).toArray eg_sec, Result.andThen_ok, run_neq_sec w' xs ys hlx hly, Sem.run_pure]
/-- What a sector's write comes to. -/
def oneM (d : DiskM) (k : Nat) (s : Sec) : DiskM × Bool :=
  if d.left = 1 then ({ d with dead := true }, false) else if d.dead then (d, false) else ({ d with left := d.left - 1, now := d.now.set k s, way := d.way ++ [(k, s)] }, true)
/-- What a call leaves of a device: it stands in Y, and nothing of others' has changed. -/
def Left (w : World) (X Y : Nat → Prop) (H : Nat) (d : DiskM) (w' : World) : Prop := DiskAt w' Y H d ∧ Fr X w w'
def OneR (w : World) (X Y : Nat → Prop) (H : Nat) (r : DiskM × Bool) (e : Ending) (w' : World) : Prop := e = .returned (.bool r.2) ∧ Left w X Y H r.1 w'

theorem way1_one (p : Nat × Sec) : ∀ u ∈ way1 p, u.oneCell' = true := by
  intro u hu
  rcases List.mem_cons.1 hu with rfl | hu
  · rfl
  · exact U8_one _ u hu
/-- A write more that is not safe. -/
theorem DiskP.more {w w' : World} {X Y : Nat → Prop} {H gs cs gn cn : Nat} {A A3 : Option Addr} {c c3 : Nat} {d : DiskM} {k : Nat} {s : Sec} (h : DiskP w X H gs cs gn cn A c d) (hown : w'.ownsRow 0 90 129 (.slice A3 (d.way.length + 1) c3) (d.way.length + 1) (ways d.way ++ way1 (k, s)))
    (hg : Fr (fun b => (Value.slice A d.way.length c).ownBlock = some b) w w') (hat : (Value.slice A3 (d.way.length + 1) c3).ownBlock = (Value.slice A d.way.length c).ownBlock ∨ (Value.slice A3 (d.way.length + 1) c3).ownBlock = some (w.heap.size + 1))
    (hXY : ∀ b, X b → Y b) (hY : ∀ b, w.heap.size ≤ b → Y b) (hk : k < d.now.length) (hs : s.length = 128) :
    DiskP (w'.setCell ⟨H, 2, none⟩ (.slice A3 (d.way.length + 1) c3)) Y H gs cs gn cn A3 c3 { d with way := d.way ++ [(k, s)] } ∧ Fr X w (w'.setCell ⟨H, 2, none⟩ (.slice A3 (d.way.length + 1) c3)) := by
  obtain ⟨hb, h1, h2, h3, h4, h5, h6, h7, h8, h9⟩ := h
  have hset : Fr (fun b => b = H) w' (w'.setCell ⟨H, 2, none⟩ (.slice A3 (d.way.length + 1) c3)) := (Fr.refl (fun b => b = H) w').set (.inr rfl) _
  have hv : ∀ b, (Value.slice A3 (d.way.length + 1) c3).ownBlock = some b → b ≠ H ∧ b ≠ gs ∧ b ≠ gn ∧ Y b := by
    intro b hb3
    rcases hat with e | e
    · rw [e] at hb3
      have := h5 b hb3
      exact ⟨this.1, this.2.1, this.2.2.1, hXY b this.2.2.2⟩
    · rw [e] at hb3
      injection hb3 with hb3
      have := hb.lt; have := h1.lt; have := h2.lt
      exact ⟨by omega, by omega, by omega, hY b (by omega)⟩
  have hbH := hb.fr hg (fun e => (h5 _ e).1 rfl)
  have hlen : (d.way ++ [(k, s)]).length = d.way.length + 1 := by simp
  have hw2 : ways (d.way ++ [(k, s)]) = ways d.way ++ way1 (k, s) := by rw [ways_append]; simp [ways]
  refine ⟨⟨?_, (h1.fr hg (fun e => (h5 _ e).2.1 rfl)).fr hset h4.2.1, (h2.fr hg (fun e => (h5 _ e).2.2.1 rfl)).fr hset h4.2.2, ?_, h4, ?_, ⟨hXY _ h6.1, hXY _ h6.2.1, hXY _ h6.2.2⟩, h7, h8, ?_⟩, ?_⟩
  · rw [hlen]; exact hbH.put 2 _
  · rw [hlen, hw2]; exact own_fr hown hset (fun b hb => (hv b hb).1)
  · rw [hlen]; exact hv
  · intro p hp
    rcases List.mem_append.1 hp with hp | hp
    · exact h9 p hp
    · obtain rfl := List.mem_singleton.1 hp
      exact ⟨hk, hs⟩
  · exact (hg.mono (fun b _ hb => (h5 b hb).2.2.2)).trans (hset.mono (fun b _ hb => by subst hb; exact h6.1)) (fun _ _ hb => hb)

set_option maxHeartbeats 4000000 in
set_option maxRecDepth 100000 in
theorem one_calls (w : World) (X Y : Nat → Prop) (H : Nat) (d : DiskM) (k : Nat) (s : Sec) (h : DiskAt w X H d) (hk : k < d.now.length) (hs : s.length = 128) (hway : d.way.length ≤ 100000) (hleft : d.left ≤ 1000000)
    (hXY : ∀ b, X b → Y b) (hY : ∀ b, w.heap.size ≤ b → Y b) :
    Calls Tryd.prog 52 #[.pointer (some ⟨H, 0, none⟩), .agg (way1 (k, s)).toArray] w (OneR w X Y H (oneM d k s)) := by
  obtain ⟨gs, cs, gn, cn, A, c, hP⟩ := h
  obtain ⟨hb, hsafe, hnow, hown, hne, hv, hX, hlen, hmax, hwf⟩ := id hP
  have g1 := plain_int
  have g2 := plain_bool
  have g3 := plain_lsec
  have g4 := plain_lwrote
  have hbT := Blk.new w 90 (way1 (k, s)).toArray
  have hf1 : Fr No w (w.alloc (.cells (way1 (k, s)).toArray 90)) := (Fr.refl No w).alloc _
  have hb1 := hb.fr0 hf1
  have q3 := hb1.cell 3
  have q4 := hb1.cell 4
  have r3 := hb.cell 3
  have r4 := hb.cell 4
  have y3 := hb.frozen 3
  have y4 := hb.frozen 4
  simp only [List.getElem?_toArray, List.getElem?_cons_zero, List.getElem?_cons_succ] at q3 q4 r3 r4
  have hHlt := hb.lt
  have hnT : ¬ (w.heap.size = H) := by omega
  have hnT2 : ¬ (H = w.heap.size) := by omega
  have HV := Lib.hid hv
  have HW := Lib.hid hwf
  clear hv hwf
  by_cases hl1 : d.left = 1
  · have e1 : ((d.left : Int) == 1) = true := by rw [hl1]; rfl
    have HR := Lib.hid (show oneM d k s = ({ d with dead := true }, false) by unfold oneM; rw [if_pos hl1])
    clear hl1
    go_enter Tryd.func52, Tryd.ntmps52
    go_wp2
    go_ret
    rw [HR.out]
    have hset : Fr (fun b => b = H) w ((w.setCell ⟨H, 3, none⟩ (.bool true)).alloc (.cells (way1 (k, s)).toArray 90)) := ((Fr.refl (fun b => b = H) w).set (.inr rfl) _).alloc _
    exact ⟨rfl, ⟨gs, cs, gn, cn, A, c, (hP.head hset ((hb.put 3 (.bool true)).alloc _)).mono (fun b hb hx => hXY b hx)⟩, hset.mono (fun b _ hb => by subst hb; exact hX.1)⟩
  have e1 : ((d.left : Int) == 1) = false := by rw [beq_eq_false_iff_ne]; omega
  cases hdead : d.dead with
  | true =>
    rw [hdead] at q3 r3
    have HR := Lib.hid (show oneM d k s = (d, false) by unfold oneM; rw [if_neg hl1, if_pos hdead])
    clear hl1 hdead
    go_enter Tryd.func52, Tryd.ntmps52
    go_wp2
    go_ret
    rw [HR.out]
    exact ⟨rfl, ⟨gs, cs, gn, cn, A, c, (hP.fr0 hf1).mono (fun b hb hx => hXY b hx)⟩, hf1.mono (fun b _ hb => hb.elim)⟩
  | false =>
    rw [hdead] at q3 r3
    have hdn : ¬ (d.dead = true) := by rw [hdead]; exact Bool.false_ne_true
    have HR := Lib.hid (show oneM d k s = ({ d with left := d.left - 1, now := d.now.set k s, way := d.way ++ [(k, s)] }, true) by unfold oneM; rw [if_neg hl1, if_neg hdn])
    have HD := Lib.hid hdead
    obtain ⟨m, hm⟩ : ∃ m : Nat, m = d.left - 1 := ⟨_, rfl⟩
    have HM := Lib.hid (show (m : Int) = max 0 ((d.left : Int) - 1) by omega)
    have HM2 := Lib.hid hm
    clear hl1 hdead hdn hm
    go_enter Tryd.func52, Tryd.ntmps52
    go_wp2_with (first
      | (refine wpList_max (t := 3) 0 ((d.left : Int) - 1) (m : Int) HM.out rfl rfl rfl rfl ?_)
      | fail)
    have hset : Fr (fun b => b = H) w ((w.setCell ⟨H, 4, none⟩ (.int .i64 (m : Int))).alloc (.cells (way1 (k, s)).toArray 90)) := ((Fr.refl (fun b => b = H) w).set (.inr rfl) _).alloc _
    have hP2 := hP.head hset (dead := d.dead) (left := m) ((hb.put 4 (.int .i64 (m : Int))).alloc _)
    have hbT2 : Blk ((w.setCell ⟨H, 4, none⟩ (.int .i64 (m : Int))).alloc (.cells (way1 (k, s)).toArray 90)) w.heap.size 90 (way1 (k, s)).toArray := Blk.newAt (by simp)
    clear hb1 hbT hf1 q3 q4 r3 r4 y3 y4
    generalize hw2 : (w.setCell ⟨H, 4, none⟩ (.int .i64 (m : Int))).alloc (.cells (way1 (k, s)).toArray 90) = w2 at *
    clear hw2
    obtain ⟨hb2, hsafe2, hnow2, hown2, hne2, hv2, hX2, _⟩ := id hP2
    clear hv2 hX2
    have hsz2 := hset.size
    have q1 := hb2.cell 1
    have q2 := hb2.cell 2
    have p0 : w2.cell? ⟨w.heap.size, 0, none⟩ = some (.int .i64 (k : Int)) := hbT2.cell 0
    simp only [List.getElem?_toArray, List.getElem?_cons_zero, List.getElem?_cons_succ] at q1 q2
    have hcs : ∀ j u, (U8 s)[j]? = some u → w2.cell? ((⟨w.heap.size, 1, none⟩ : Addr).add j) = some u := hbT2.cells 1 (U8 s) (fun j u hu => by
      rw [List.getElem?_toArray, Nat.add_comm]; exact hu)
    have hls : (U8 s).length = 128 := by rw [U8_length, hs]
    have hcx := hnow2.at_ hk
    have hlx : d.now[k].length = 128 := hnow2.1 _ (List.getElem_mem hk)
    generalize hx : d.now[k] = x at hcx hlx
    have HX := Lib.hid hx
    have hlx2 : (U8 x).length = 128 := by rw [U8_length, hlx]
    have hkc : d.now.length ≤ cn := hnow2.2.1
    clear hx
    have hne1 := hne2.1
    have hneS : ¬ (w.heap.size = gn) := by have := hnow.lt; omega
    (refine T_begin No [0, 1, 2, 3, 4, 5, 6, 7, 8, 9, 10] [] (by kernel_rfl) (by kernel_rfl) ?_; simp only [pickOps, List.filterMap_cons, List.filterMap_nil, List.getElem?_cons_zero, List.getElem?_cons_succ, Act.put])
    repeat (first | (refine T_skip (by rfl) (by rfl) (fun _ _ _ h => h) ?_; try simp only [Act.put, List.setIfInBounds_toArray, List.set_cons_zero, List.set_cons_succ]) | (refine T_pass (by rfl) (by rfl) ?_; try simp only [Act.put, List.setIfInBounds_toArray, List.set_cons_zero, List.set_cons_succ]) | (refine T_load (by assumption) (by rfl) (by rfl) (fun _ _ _ _ h => h) rfl rfl (by assumption) (by first | exact (fun hn => hn) | assumption) ?_; try simp only [Act.put, List.setIfInBounds_toArray, List.set_cons_zero, List.set_cons_succ]) | (refine T_nil (by rfl) (by rfl) (fun _ _ _ _ h => h) rfl rfl ?_; try simp only [Act.put, List.setIfInBounds_toArray, List.set_cons_zero, List.set_cons_succ]) | (refine T_quietN (by rfl) (by rfl) (by rfl) (by rfl) (fun _ _ _ _ h => h) (fun K hK => ?_); go_big_quiet_op; refine hK _ ?_; clear hK K) | (refine T_two (by rfl) (by rfl) (by rfl) (by rfl) (fun _ _ _ _ h => h) (fun K hK => ?_); go_big_quiet_op; refine ⟨_, fun _ _ => rfl, ?_⟩; refine hK _ ?_; clear hK K; try simp only [Act.put, List.setIfInBounds_toArray, List.set_cons_zero, List.set_cons_succ]) | fail)
    refine T_loadA (cs := U8 x) ag_sec (by rfl) (by rfl) (fun _ _ _ _ h => h) rfl rfl hlx2 hcx (fun hn => hn) ?_
    try simp only [Act.put, List.setIfInBounds_toArray, List.set_cons_zero, List.set_cons_succ]
    repeat (first | (refine T_skip (by rfl) (by rfl) (fun _ _ _ h => h) ?_; try simp only [Act.put, List.setIfInBounds_toArray, List.set_cons_zero, List.set_cons_succ]) | (refine T_pass (by rfl) (by rfl) ?_; try simp only [Act.put, List.setIfInBounds_toArray, List.set_cons_zero, List.set_cons_succ]) | (refine T_load (by assumption) (by rfl) (by rfl) (fun _ _ _ _ h => h) rfl rfl (by assumption) (by first | exact (fun hn => hn) | assumption) ?_; try simp only [Act.put, List.setIfInBounds_toArray, List.set_cons_zero, List.set_cons_succ]) | (refine T_nil (by rfl) (by rfl) (fun _ _ _ _ h => h) rfl rfl ?_; try simp only [Act.put, List.setIfInBounds_toArray, List.set_cons_zero, List.set_cons_succ]) | (refine T_quietN (by rfl) (by rfl) (by rfl) (by rfl) (fun _ _ _ _ h => h) (fun K hK => ?_); go_big_quiet_op; refine hK _ ?_; clear hK K) | (refine T_two (by rfl) (by rfl) (by rfl) (by rfl) (fun _ _ _ _ h => h) (fun K hK => ?_); go_big_quiet_op; refine ⟨_, fun _ _ => rfl, ?_⟩; refine hK _ ?_; clear hK K; try simp only [Act.put, List.setIfInBounds_toArray, List.set_cons_zero, List.set_cons_succ]) | fail)
    refine T_loadA (cs := U8 s) ag_sec (by rfl) (by rfl) (fun _ _ _ _ h => h) rfl rfl hls hcs (fun hn => hn) ?_
    try simp only [Act.put, List.setIfInBounds_toArray, List.set_cons_zero, List.set_cons_succ]
    refine T_neqSec hlx hs (by rfl) (by rfl) (fun _ _ _ _ h => h) rfl rfl rfl ?_
    try simp only [Act.put, List.setIfInBounds_toArray, List.set_cons_zero, List.set_cons_succ]
    refine T_done ?_
    have hsl : (d.now.set k s).length = d.now.length := by simp
    have hlw : (way1 (k, s)).length = 129 := by simp [way1, U8_length, hs]
    have hneH : ¬ (H = gn) := fun e => hne2.2.2 e.symm
    have HCS := Lib.hid hcs
    clear hcs hcx p0 q1
    have HLW := Lib.hid hlw
    have HLS := Lib.hid hls
    have HLX := Lib.hid hlx
    have HS := Lib.hid hs
    have HSL := Lib.hid hsl
    clear hlw hls hlx hlx2 hsl hs
    cases hxs : (x == s) with
    | true =>
      have hP3 : DiskP w2 X H gs cs gn cn A c { { d with dead := d.dead, left := m } with now := d.now.set k s } := by
        have e : x = s := by simpa using hxs
        have e2 : d.now.set k s = d.now := by rw [← e, ← HX.out, List.set_getElem_self]
        rw [e2]; exact hP2
      have hbT3 := hbT2
      have hf23 : Fr (fun b => b = gn) w2 w2 := Fr.refl _ _
      clear hxs
      go_wp2_with fail
      have hlw := HLW.out
      have hb3' := hP3.1
      have hown3 := hP3.2.2.2.1
      dsimp only at hb3' hown3
      have q2' := hb3'.cell 2
      simp only [List.getElem?_toArray, List.getElem?_cons_zero, List.getElem?_cons_succ] at q2'
      have hcw := hbT3.all
      have hST : ¬ ((Value.slice A d.way.length c).ownBlock = some w.heap.size) := fun hh => by have := (hown.lt _ hh).2; omega
      have hSH : ¬ ((Value.slice A d.way.length c).ownBlock = some H) := fun hh => (HV.out _ hh).1 rfl
      refine T_begin2 (fun b => (Value.slice A d.way.length c).ownBlock = some b) [10] [0, 1, 2, 3, 4, 5, 6, 7, 8, 9, 10] [6, 7, 10] (by kernel_rfl) (by kernel_rfl) ?_
      simp only [pickOps, List.filterMap_cons, List.filterMap_nil, List.getElem?_cons_zero, List.getElem?_cons_succ, Act.put]
      repeat (first | (refine T_skip (by rfl) (by rfl) (fun _ _ _ h => h) ?_; try simp only [Act.put, List.setIfInBounds_toArray, List.set_cons_zero, List.set_cons_succ]) | (refine T_pass (by rfl) (by rfl) ?_; try simp only [Act.put, List.setIfInBounds_toArray, List.set_cons_zero, List.set_cons_succ]) | (refine T_load (by assumption) (by rfl) (by rfl) (fun _ _ _ _ h => h) rfl rfl (by assumption) (by first | exact (fun hn => hn) | assumption) ?_; try simp only [Act.put, List.setIfInBounds_toArray, List.set_cons_zero, List.set_cons_succ]) | (refine T_nil (by rfl) (by rfl) (fun _ _ _ _ h => h) rfl rfl ?_; try simp only [Act.put, List.setIfInBounds_toArray, List.set_cons_zero, List.set_cons_succ]) | (refine T_quietN (by rfl) (by rfl) (by rfl) (by rfl) (fun _ _ _ _ h => h) (fun K hK => ?_); go_big_quiet_op; refine hK _ ?_; clear hK K) | (refine T_two (by rfl) (by rfl) (by rfl) (by rfl) (fun _ _ _ _ h => h) (fun K hK => ?_); go_big_quiet_op; refine ⟨_, fun _ _ => rfl, ?_⟩; refine hK _ ?_; clear hK K; try simp only [Act.put, List.setIfInBounds_toArray, List.set_cons_zero, List.set_cons_succ]) | fail)
      refine T_loadA (cs := way1 (k, s)) ag_wrote (by rfl) (by rfl) (fun _ _ _ _ h => h) rfl rfl hlw hcw hST ?_
      try simp only [Act.put, List.setIfInBounds_toArray, List.set_cons_zero, List.set_cons_succ]
      refine T_call (by rfl) (by rfl) (fun K hK => ?_)
      refine wp_buildOne so_wrote (by decide) (way1 (k, s)) hlw rfl rfl ?_
      (refine hK.out _ _ (((Fr.refl _ _).alloc _)) ?_; clear hK K; try simp only [Act.put, List.setIfInBounds_toArray, List.set_cons_zero, List.set_cons_succ])
      refine T_call (by rfl) (by rfl) (fun K hK => ?_)
      refine wp_app_at so_wrote (own_fr0 hown3 ((Fr.refl No _).drew.drew.alloc (.cells (way1 (k, s)).toArray 90))) ((Blk.new _ _ _).rd (size := 129) (n := 1) (by simpa using hlw) (by decide)) (way1_one _) (by omega) (Nat.zero_le _) rfl rfl rfl ?_
      intro v5 w5 hown5 hg5 hat5
      refine hK.out _ _ ((Fr.refl _ _).grown hg5 (fun q hq => .inr hq)) ?_
      clear hK K
      try simp only [Act.put, List.setIfInBounds_toArray, List.set_cons_zero, List.set_cons_succ]
      have hb5 := (hb3'.drew.drew.alloc (.cells (way1 (k, s)).toArray 90)).grown hg5 (fun hh => hSH hh.symm)
      obtain ⟨A3, c3, rfl, hc3, _, hA3⟩ := own_form hown5
      have q52 := hb5.cell 2
      have z52 := hb5.frozen 2
      simp only [List.getElem?_toArray, List.getElem?_cons_zero, List.getElem?_cons_succ] at q52
      repeat (first | (refine T_skip (by rfl) (by rfl) (fun _ _ _ h => h) ?_; try simp only [Act.put, List.setIfInBounds_toArray, List.set_cons_zero, List.set_cons_succ]) | (refine T_pass (by rfl) (by rfl) ?_; try simp only [Act.put, List.setIfInBounds_toArray, List.set_cons_zero, List.set_cons_succ]) | (refine T_load (by assumption) (by rfl) (by rfl) (fun _ _ _ _ h => h) rfl rfl (by assumption) (by first | exact (fun hn => hn) | assumption) ?_; try simp only [Act.put, List.setIfInBounds_toArray, List.set_cons_zero, List.set_cons_succ]) | (refine T_nil (by rfl) (by rfl) (fun _ _ _ _ h => h) rfl rfl ?_; try simp only [Act.put, List.setIfInBounds_toArray, List.set_cons_zero, List.set_cons_succ]) | (refine T_quietN (by rfl) (by rfl) (by rfl) (by rfl) (fun _ _ _ _ h => h) (fun K hK => ?_); go_big_quiet_op; refine hK _ ?_; clear hK K) | (refine T_two (by rfl) (by rfl) (by rfl) (by rfl) (fun _ _ _ _ h => h) (fun K hK => ?_); go_big_quiet_op; refine ⟨_, fun _ _ => rfl, ?_⟩; refine hK _ ?_; clear hK K; try simp only [Act.put, List.setIfInBounds_toArray, List.set_cons_zero, List.set_cons_succ]) | fail)
      refine T_turn No [] (by rfl) (by rfl) (by rfl) (fun K hK => ?_)
      go_wp2_with fail
      refine hK.out _ _ ?_
      clear hK K
      refine T_done ?_
      go_wp2
      go_ret
      have hg5b := ((Fr.refl (fun b => (Value.slice A d.way.length c).ownBlock = some b) _).drew.drew.alloc (.cells (way1 (k, s)).toArray 90)).grown hg5 (fun q hq => .inr hq)
      have hmr := hP3.more (Y := Y) hown5 hg5b (by simpa using hat5) hXY (fun b hb => hY b (by have := hset.size; have := hf23.size; omega)) (by simpa using hk) HS.out
      rw [HR.out]
      refine ⟨rfl, ⟨gs, cs, gn, cn, A3, c3, ?_⟩, ?_⟩
      · have h3 := hmr.1
        rw [HM2.out] at h3
        exact h3
      · exact (hset.mono (T := X) (fun b _ hb => by subst hb; exact hX.1)).trans ((hf23.mono (T := X) (fun b _ hb => by subst hb; exact hX.2.2)).trans hmr.2 (fun _ _ hb => hb)) (fun _ _ hb => hb)
    | false =>
      clear hxs
      go_wp2_with fail
      obtain ⟨n1, n2, n3, cur, hbn, n4, n5⟩ := id hnow2
      have p0 : w2.cell? ⟨w.heap.size, 0, none⟩ = some (.int .i64 (k : Int)) := hbT2.cell 0
      have q1 := hb2.cell 1
      simp only [List.getElem?_toArray, List.getElem?_cons_zero, List.getElem?_cons_succ] at q1
      (refine T_begin (fun b => b = gn) [0, 1, 2, 3, 4, 5, 6, 7, 8, 9] [9] (by kernel_rfl) (by kernel_rfl) ?_; simp only [pickOps, List.filterMap_cons, List.filterMap_nil, List.getElem?_cons_zero, List.getElem?_cons_succ, Act.put])
      repeat (first | (refine T_skip (by rfl) (by rfl) (fun _ _ _ h => h) ?_; try simp only [Act.put, List.setIfInBounds_toArray, List.set_cons_zero, List.set_cons_succ]) | (refine T_pass (by rfl) (by rfl) ?_; try simp only [Act.put, List.setIfInBounds_toArray, List.set_cons_zero, List.set_cons_succ]) | (refine T_load (by assumption) (by rfl) (by rfl) (fun _ _ _ _ h => h) rfl rfl (by assumption) (by first | exact (fun hn => hn) | assumption) ?_; try simp only [Act.put, List.setIfInBounds_toArray, List.set_cons_zero, List.set_cons_succ]) | (refine T_nil (by rfl) (by rfl) (fun _ _ _ _ h => h) rfl rfl ?_; try simp only [Act.put, List.setIfInBounds_toArray, List.set_cons_zero, List.set_cons_succ]) | (refine T_quietN (by rfl) (by rfl) (by rfl) (by rfl) (fun _ _ _ _ h => h) (fun K hK => ?_); go_big_quiet_op; refine hK _ ?_; clear hK K) | (refine T_two (by rfl) (by rfl) (by rfl) (by rfl) (fun _ _ _ _ h => h) (fun K hK => ?_); go_big_quiet_op; refine ⟨_, fun _ _ => rfl, ?_⟩; refine hK _ ?_; clear hK K; try simp only [Act.put, List.setIfInBounds_toArray, List.set_cons_zero, List.set_cons_succ]) | fail)
      refine T_loadA (cs := U8 s) ag_sec (by rfl) (by rfl) (fun _ _ _ _ h => h) rfl rfl HLS.out HCS.out hneS ?_
      try simp only [Act.put, List.setIfInBounds_toArray, List.set_cons_zero, List.set_cons_succ]
      repeat (first | (refine T_skip (by rfl) (by rfl) (fun _ _ _ h => h) ?_; try simp only [Act.put, List.setIfInBounds_toArray, List.set_cons_zero, List.set_cons_succ]) | (refine T_pass (by rfl) (by rfl) ?_; try simp only [Act.put, List.setIfInBounds_toArray, List.set_cons_zero, List.set_cons_succ]) | (refine T_load (by assumption) (by rfl) (by rfl) (fun _ _ _ _ h => h) rfl rfl (by assumption) (by first | exact (fun hn => hn) | assumption) ?_; try simp only [Act.put, List.setIfInBounds_toArray, List.set_cons_zero, List.set_cons_succ]) | (refine T_nil (by rfl) (by rfl) (fun _ _ _ _ h => h) rfl rfl ?_; try simp only [Act.put, List.setIfInBounds_toArray, List.set_cons_zero, List.set_cons_succ]) | (refine T_quietN (by rfl) (by rfl) (by rfl) (by rfl) (fun _ _ _ _ h => h) (fun K hK => ?_); go_big_quiet_op; refine hK _ ?_; clear hK K) | (refine T_two (by rfl) (by rfl) (by rfl) (by rfl) (fun _ _ _ _ h => h) (fun K hK => ?_); go_big_quiet_op; refine ⟨_, fun _ _ => rfl, ?_⟩; refine hK _ ?_; clear hK K; try simp only [Act.put, List.setIfInBounds_toArray, List.set_cons_zero, List.set_cons_succ]) | fail)
      refine T_call (by rfl) (by rfl) (fun K hK => ?_)
      refine wp_stA ag_sec.info _ _ rfl gn (k * 128) _ cur (U8 s) _ rfl rfl rfl HLS.out (U8_one s) hbn (by rw [n4]; have : d.now.length ≤ cn := n2; omega) ?_
      intro w3 hb3 hg3 hz3
      refine hK.out _ _ ((Fr.refl _ _).grown hg3 (fun q hq => by injection hq with hq; exact .inr hq.symm)) ?_
      clear hK K
      try simp only [Act.put, List.setIfInBounds_toArray, List.set_cons_zero, List.set_cons_succ]
      refine T_done ?_
      have hf23 : Fr (fun b => b = gn) w2 w3 := ((Fr.refl (fun b => b = gn) w2).drew.drew).grown hg3 (fun q hq => by injection hq with hq; exact .inr hq.symm)
      have hP3 := hP2.turn hf23 HSL.out (SecAt.put hnow2 hk HS.out hbn hb3)
      have hbT3 := hbT2.fr hf23 hneS
      clear n5 p0 q1
      go_wp2_with fail
      have hlw := HLW.out
      have hb3' := hP3.1
      have hown3 := hP3.2.2.2.1
      dsimp only at hb3' hown3
      have q2' := hb3'.cell 2
      simp only [List.getElem?_toArray, List.getElem?_cons_zero, List.getElem?_cons_succ] at q2'
      have hcw := hbT3.all
      have hST : ¬ ((Value.slice A d.way.length c).ownBlock = some w.heap.size) := fun hh => by have := (hown.lt _ hh).2; omega
      have hSH : ¬ ((Value.slice A d.way.length c).ownBlock = some H) := fun hh => (HV.out _ hh).1 rfl
      refine T_begin2 (fun b => (Value.slice A d.way.length c).ownBlock = some b) [10] [0, 1, 2, 3, 4, 5, 6, 7, 8, 9, 10] [6, 7, 10] (by kernel_rfl) (by kernel_rfl) ?_
      simp only [pickOps, List.filterMap_cons, List.filterMap_nil, List.getElem?_cons_zero, List.getElem?_cons_succ, Act.put]
      repeat (first | (refine T_skip (by rfl) (by rfl) (fun _ _ _ h => h) ?_; try simp only [Act.put, List.setIfInBounds_toArray, List.set_cons_zero, List.set_cons_succ]) | (refine T_pass (by rfl) (by rfl) ?_; try simp only [Act.put, List.setIfInBounds_toArray, List.set_cons_zero, List.set_cons_succ]) | (refine T_load (by assumption) (by rfl) (by rfl) (fun _ _ _ _ h => h) rfl rfl (by assumption) (by first | exact (fun hn => hn) | assumption) ?_; try simp only [Act.put, List.setIfInBounds_toArray, List.set_cons_zero, List.set_cons_succ]) | (refine T_nil (by rfl) (by rfl) (fun _ _ _ _ h => h) rfl rfl ?_; try simp only [Act.put, List.setIfInBounds_toArray, List.set_cons_zero, List.set_cons_succ]) | (refine T_quietN (by rfl) (by rfl) (by rfl) (by rfl) (fun _ _ _ _ h => h) (fun K hK => ?_); go_big_quiet_op; refine hK _ ?_; clear hK K) | (refine T_two (by rfl) (by rfl) (by rfl) (by rfl) (fun _ _ _ _ h => h) (fun K hK => ?_); go_big_quiet_op; refine ⟨_, fun _ _ => rfl, ?_⟩; refine hK _ ?_; clear hK K; try simp only [Act.put, List.setIfInBounds_toArray, List.set_cons_zero, List.set_cons_succ]) | fail)
      refine T_loadA (cs := way1 (k, s)) ag_wrote (by rfl) (by rfl) (fun _ _ _ _ h => h) rfl rfl hlw hcw hST ?_
      try simp only [Act.put, List.setIfInBounds_toArray, List.set_cons_zero, List.set_cons_succ]
      refine T_call (by rfl) (by rfl) (fun K hK => ?_)
      refine wp_buildOne so_wrote (by decide) (way1 (k, s)) hlw rfl rfl ?_
      (refine hK.out _ _ (((Fr.refl _ _).alloc _)) ?_; clear hK K; try simp only [Act.put, List.setIfInBounds_toArray, List.set_cons_zero, List.set_cons_succ])
      refine T_call (by rfl) (by rfl) (fun K hK => ?_)
      refine wp_app_at so_wrote (own_fr0 hown3 ((Fr.refl No _).drew.alloc (.cells (way1 (k, s)).toArray 90))) ((Blk.new _ _ _).rd (size := 129) (n := 1) (by simpa using hlw) (by decide)) (way1_one _) (by omega) (Nat.zero_le _) rfl rfl rfl ?_
      intro v5 w5 hown5 hg5 hat5
      refine hK.out _ _ ((Fr.refl _ _).grown hg5 (fun q hq => .inr hq)) ?_
      clear hK K
      try simp only [Act.put, List.setIfInBounds_toArray, List.set_cons_zero, List.set_cons_succ]
      have hb5 := (hb3'.drew.alloc (.cells (way1 (k, s)).toArray 90)).grown hg5 (fun hh => hSH hh.symm)
      obtain ⟨A3, c3, rfl, hc3, _, hA3⟩ := own_form hown5
      have q52 := hb5.cell 2
      have z52 := hb5.frozen 2
      simp only [List.getElem?_toArray, List.getElem?_cons_zero, List.getElem?_cons_succ] at q52
      repeat (first | (refine T_skip (by rfl) (by rfl) (fun _ _ _ h => h) ?_; try simp only [Act.put, List.setIfInBounds_toArray, List.set_cons_zero, List.set_cons_succ]) | (refine T_pass (by rfl) (by rfl) ?_; try simp only [Act.put, List.setIfInBounds_toArray, List.set_cons_zero, List.set_cons_succ]) | (refine T_load (by assumption) (by rfl) (by rfl) (fun _ _ _ _ h => h) rfl rfl (by assumption) (by first | exact (fun hn => hn) | assumption) ?_; try simp only [Act.put, List.setIfInBounds_toArray, List.set_cons_zero, List.set_cons_succ]) | (refine T_nil (by rfl) (by rfl) (fun _ _ _ _ h => h) rfl rfl ?_; try simp only [Act.put, List.setIfInBounds_toArray, List.set_cons_zero, List.set_cons_succ]) | (refine T_quietN (by rfl) (by rfl) (by rfl) (by rfl) (fun _ _ _ _ h => h) (fun K hK => ?_); go_big_quiet_op; refine hK _ ?_; clear hK K) | (refine T_two (by rfl) (by rfl) (by rfl) (by rfl) (fun _ _ _ _ h => h) (fun K hK => ?_); go_big_quiet_op; refine ⟨_, fun _ _ => rfl, ?_⟩; refine hK _ ?_; clear hK K; try simp only [Act.put, List.setIfInBounds_toArray, List.set_cons_zero, List.set_cons_succ]) | fail)
      refine T_turn No [] (by rfl) (by rfl) (by rfl) (fun K hK => ?_)
      go_wp2_with fail
      refine hK.out _ _ ?_
      clear hK K
      refine T_done ?_
      go_wp2
      go_ret
      have hg5b := ((Fr.refl (fun b => (Value.slice A d.way.length c).ownBlock = some b) _).drew.alloc (.cells (way1 (k, s)).toArray 90)).grown hg5 (fun q hq => .inr hq)
      have hmr := hP3.more (Y := Y) hown5 hg5b (by simpa using hat5) hXY (fun b hb => hY b (by have := hset.size; have := hf23.size; omega)) (by simpa using hk) HS.out
      rw [HR.out]
      refine ⟨rfl, ⟨gs, cs, gn, cn, A3, c3, ?_⟩, ?_⟩
      · have h3 := hmr.1
        rw [HM2.out] at h3
        exact h3
      · exact (hset.mono (T := X) (fun b _ hb => by subst hb; exact hX.1)).trans ((hf23.mono (T := X) (fun b _ hb => by subst hb; exact hX.2.2)).trans hmr.2 (fun _ _ hb => hb)) (fun _ _ hb => hb)
end Go.Proofs.YtannkgglgmbkdaaDoor
