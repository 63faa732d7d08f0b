/- lapidarylaw11.given. No condition but size. -/
import Derived.Test.YtifcnjebepipnaaRefCp
import Derived.Test.YtifcnjebepipnaaRightR
namespace Go.Proofs.Ytifcnjebepipnaa
set_option linter.unusedVariables false
set_option linter.unusedSimpArgs false
open Go.RowKit

theorem so_chp : SliceOf Try.prog 27 62 (.agg #[.int .i64 0, .bool false, .int .i64 0, .slice none 0 0, .slice none 0 0]) 5 72 := ⟨Try.underlying27, by kernel_rfl, rfl, by decide, by decide, by decide⟩
theorem take_snocL (l : List ChM) (k : Nat) (h : k < l.length) : l.take (k + 1) = l.take k ++ [l[k]] := by
  rw [List.take_succ_eq_append_getElem h]
/-- That the memory can hold a record's objects. -/
def RecOk (r : RecM) : Prop := r.chs.length * 72 ≤ 140737488351232 ∧ ∀ c ∈ r.chs, c.obj.slots.length * 16 ≤ 140737488351232 ∧ c.obj.bytes.length ≤ 140737488351232
theorem ObjOwn.lit5 {w : World} {B : Nat} {cs : List Value} {o : ObjM} (h : ObjOwn w B cs o) : ∃ A c D d, cs = [.int .i64 o.cls, .slice A o.slots.length c, .slice D o.bytes.length d] := by
  obtain ⟨A, c, D, d, M, e, _⟩ := h; exact ⟨A, c, D, d, e⟩
theorem ChM.eta (c : ChM) : (⟨c.oop, c.gone, c.obj⟩ : ChM) = c := rfl
theorem one5 {a b c d e : Value} (h1 : a.oneCell' = true) (h2 : b.oneCell' = true) (h3 : c.oneCell' = true) (h4 : d.oneCell' = true) (h5 : e.oneCell' = true) : ∀ u ∈ [a, b, c, d, e], u.oneCell' = true := by
  intro u hu
  simp only [List.mem_cons, List.not_mem_nil, or_false] at hu
  rcases hu with rfl | rfl | rfl | rfl | rfl <;> assumption

set_option maxHeartbeats 4000000 in
set_option maxRecDepth 100000 in
theorem given11_calls (S : Nat → Prop) (cs : List Value) (r : RecM) (w : World) (h : RecC w S cs r) (ok : RecOk r) :
    Calls Try.prog 9 #[.agg cs.toArray] w fun e w' => ∃ cs' : List Value, e = .returned (.agg cs'.toArray) ∧ RecC w' (fun b => w.heap.size ≤ b) cs' r ∧ Fr No w w' := by
  obtain ⟨com, chs⟩ := r
  obtain ⟨ok1, ok2⟩ := ok
  simp only at ok1 ok2
  obtain ⟨Ar, cr, rfl, hch⟩ := h
  simp only at hch
  have g1 := plain_i64
  have g2 := plain_lval
  have g3 := plain_lu8
  have g4 := plain_bool
  have g5 := plain_lchr
  have g6 := plain_lchp
  have hle := hch.le
  have hf1 : Fr No w (((w.alloc (.cells #[.int .i64 com, .slice Ar chs.length cr] 33)).alloc (.cells #[.int .i64 0, .slice none 0 0] 29)).alloc (.cells #[.int .i64 com, .slice none 0 0] 29)) := (((Fr.refl No w).alloc _).alloc _).alloc _
  have hbx : Blk (((w.alloc (.cells #[.int .i64 com, .slice Ar chs.length cr] 33)).alloc (.cells #[.int .i64 0, .slice none 0 0] 29)).alloc (.cells #[.int .i64 com, .slice none 0 0] 29)) w.heap.size 33 #[.int .i64 com, .slice Ar chs.length cr] := ((Blk.new w _ _).alloc _).alloc _
  have hbr : Blk (((w.alloc (.cells #[.int .i64 com, .slice Ar chs.length cr] 33)).alloc (.cells #[.int .i64 0, .slice none 0 0] 29)).alloc (.cells #[.int .i64 com, .slice none 0 0] 29)) (w.heap.size + 1) 29 #[.int .i64 0, .slice none 0 0] := (Blk.newAt (by simp)).alloc _
  have hby : Blk (((w.alloc (.cells #[.int .i64 com, .slice Ar chs.length cr] 33)).alloc (.cells #[.int .i64 0, .slice none 0 0] 29)).alloc (.cells #[.int .i64 com, .slice none 0 0] 29)) (w.heap.size + 1 + 1) 29 #[.int .i64 com, .slice none 0 0] := Blk.newAt (by simp)
  have hz1 : (((w.alloc (.cells #[.int .i64 com, .slice Ar chs.length cr] 33)).alloc (.cells #[.int .i64 0, .slice none 0 0] 29)).alloc (.cells #[.int .i64 com, .slice none 0 0] 29)).heap.size = w.heap.size + 3 := by simp
  go_enter Try.func9, Try.ntmps9
  go_upto_region 2 with fail
  generalize hw1 : (((w.alloc (.cells #[.int .i64 com, .slice Ar chs.length cr] 33)).alloc (.cells #[.int .i64 0, .slice none 0 0] 29)).alloc (.cells #[.int .i64 com, .slice none 0 0] 29)) = w1 at *
  clear hw1
  have hz1' : w.heap.size + 3 ≤ w1.heap.size := by omega
  clear hz1
  go_wp2_with fail
  go_loopw [4] (fun i wr => ∃ (k : Nat) (A : Option Addr) (c : Nat) (xs : List Value), k ≤ chs.length ∧ i = .int .i64 (k : Int) ∧ Blk wr (w.heap.size + 1 + 1) 29 #[.int .i64 com, .slice A k c] ∧ wr.ownsRow (w.heap.size + 3) 62 5 (.slice A k c) k xs ∧ ChsC wr (fun b => w.heap.size + 3 ≤ b ∧ ¬ (Value.slice A k c).ownBlock = some b) xs (chs.take k) ∧ Fr (fun b => w.heap.size + 1 + 1 ≤ b) w1 wr) (fun i _ => chs.length - (intOf i).toNat)
  case atStart => exact ⟨0, none, 0, [], by omega, rfl, hby, World.ownsRow_nil _ _ _ _, rfl, Fr.refl _ _⟩
  case round =>
    obtain ⟨k, A, c, xs, hk, rfl, hb, hown, hxs, hf⟩ := hrel
    have hsr := hf.size
    have hfW : Fr No w wr := hf1.trans hf (fun b hb hT => by omega)
    have hbX := hbx.fr hf (fun hT => by omega)
    have hbR := hbr.fr hf (fun hT => by omega)
    (have p0 := hbX.cell 0; have p1 := hbX.cell 1; have pf0 := hbX.frozen 0; have pf1 := hbX.frozen 1; simp only [List.getElem?_toArray, List.getElem?_cons_zero, List.getElem?_cons_succ] at p0 p1)
    by_cases hlt : k < chs.length
    · have ek : decide ((k : Int) < chs.length) = true := by simpa using (by omega : (k : Int) < chs.length)
      have hrd := hch.fr0 hfW
      obtain ⟨ga, of, Av, nn, D, mm, rfl, _, hcell, hsl, hby'⟩ := hrd.at_ hlt
      have hok := ok2 _ (List.getElem_mem hlt)
      have HT := Lib.hid (take_snocL chs k hlt)
      have hgl : ga < wr.heap.size := World.block_lt_of_cell? wr _ (hcell 0 _ rfl)
      generalize chs[k] = x at *
      obtain ⟨oop, gone, ob⟩ := x
      simp only at hcell hsl hby' hok
      have k0 := hcell 0 _ rfl
      have k1 := hcell 1 _ rfl
      have hobc : ∀ j u, [Value.int .i64 ob.cls, .slice Av ob.slots.length nn, .slice D ob.bytes.length mm][j]? = some u → wr.cell? ((⟨ga, of + k * 5 + 2, none⟩ : Addr).add j) = some u := addr5 _ _ _ (fun j u hu => by
        have := hcell (j + 2) u (by simpa using hu)
        rwa [show of + k * 5 + (j + 2) = of + k * 5 + 2 + j by omega] at this)
      have HOB := Lib.hid hobc
      simp only [Nat.add_zero] at k0
      have hgaw : ga < w.heap.size := by
        obtain ⟨g', o', Av', nn', D', mm', hA', _, hcell', _, _⟩ := hch.at_ hlt
        injection hA' with hA'
        injection hA' with h1 h2
        subst h1 h2
        exact World.block_lt_of_cell? w _ (hcell' 0 _ rfl)
      have hSG : ¬ ((Value.slice A k c).ownBlock = some ga) := fun hh => by have := (hown.lt _ hh).1; omega
      have hSX : ¬ ((Value.slice A k c).ownBlock = some w.heap.size) := fun hh => by have := (hown.lt _ hh).1; omega
      have hSH : ¬ ((Value.slice A k c).ownBlock = some (w.heap.size + 1 + 1)) := fun hh => by have := (hown.lt _ hh).1; omega
      have hownlt := fun b (hb : (Value.slice A k c).ownBlock = some b) => hown.lt b hb
      have HOL := Lib.hid hownlt
      clear hcell hobc hrd hownlt
      (have q0 := hb.cell 0; have q1 := hb.cell 1; have qf0 := hb.frozen 0; have qf1 := hb.frozen 1; simp only [List.getElem?_toArray, List.getElem?_cons_zero, List.getElem?_cons_succ] at q0 q1)
      go_wp2_with fail
      refine T_begin2 (fun b => (Value.slice A k c).ownBlock = some b) [25] [0, 1, 2, 3, 4, 5, 6, 7, 8, 9, 10, 11, 12, 13, 14, 15, 16, 17, 18, 19, 20, 21, 22, 23, 24, 25] [20, 22, 23, 25] (by kernel_rfl) (by kernel_rfl) ?_
      simp only [pickOps, List.filterMap_cons, List.filterMap_nil, List.getElem?_cons_zero, List.getElem?_cons_succ, Act.put]
      repeat (first | (refine T_skip (by rfl) (by rfl) (fun _ _ _ h => h) ?_; try simp only [Act.put, List.setIfInBounds_toArray, List.set_cons_zero, List.set_cons_succ]) | (refine T_pass (by rfl) (by rfl) ?_; try simp only [Act.put, List.setIfInBounds_toArray, List.set_cons_zero, List.set_cons_succ]) | (refine T_load (by assumption) (by rfl) (by rfl) (fun _ _ _ _ h => h) rfl rfl (by assumption) (by first | exact (fun hn => hn) | assumption) ?_; try simp only [Act.put, List.setIfInBounds_toArray, List.set_cons_zero, List.set_cons_succ]) | (refine T_nil (by rfl) (by rfl) (fun _ _ _ _ h => h) rfl rfl ?_; try simp only [Act.put, List.setIfInBounds_toArray, List.set_cons_zero, List.set_cons_succ]) | (refine T_quietN (by rfl) (by rfl) (by rfl) (by rfl) (fun _ _ _ _ h => h) (fun K hK => ?_); go_big_quiet_op; refine hK _ ?_; clear hK K) | (refine T_two (by rfl) (by rfl) (by rfl) (by rfl) (fun _ _ _ _ h => h) (fun K hK => ?_); go_big_quiet_op; refine ⟨_, fun _ _ => rfl, ?_⟩; refine hK _ ?_; clear hK K; try simp only [Act.put, List.setIfInBounds_toArray, List.set_cons_zero, List.set_cons_succ]) | fail)
      refine T_loadA (cs := [.int .i64 ob.cls, .slice Av ob.slots.length nn, .slice D ob.bytes.length mm]) ag_obj (by rfl) (by rfl) (fun _ _ _ _ h => h) rfl rfl rfl (show ∀ j u, _ → wr.drew.cell? _ = some u from HOB.out) hSG ?_
      try simp only [Act.put, List.setIfInBounds_toArray, List.set_cons_zero, List.set_cons_succ]
      (refine T_call (by rfl) (by rfl) (fun K hK => ?_); go_wp2_with fail)
      refine (refcopy_calls S _ ob _ (show ObjC wr.drew S _ ob from ⟨Av, nn, D, mm, rfl, hsl, hby'⟩) (by omega)).mono ?_
      rintro e w3 ⟨cs3, rfl, hown3, hf3⟩
      (refine hK.out _ _ ((hf3.mono (fun _ _ hn => hn.elim))) ?_; clear hK K; try simp only [Act.put, List.setIfInBounds_toArray, List.set_cons_zero, List.set_cons_succ])
      obtain ⟨A2, c2, D2, d2, rfl⟩ := hown3.lit5
      have hoc3 := (hown3.rd (by omega) (by omega))
      have hz3 := hf3.size
      have hdz : wr.drew.heap.size = wr.heap.size := rfl
      rw [hdz] at hz3 hoc3
      repeat (first | (refine T_skip (by rfl) (by rfl) (fun _ _ _ h => h) ?_; try simp only [Act.put, List.setIfInBounds_toArray, List.set_cons_zero, List.set_cons_succ]) | (refine T_pass (by rfl) (by rfl) ?_; try simp only [Act.put, List.setIfInBounds_toArray, List.set_cons_zero, List.set_cons_succ]) | (refine T_load (by assumption) (by rfl) (by rfl) (fun _ _ _ _ h => h) rfl rfl (by assumption) (by first | exact (fun hn => hn) | assumption) ?_; try simp only [Act.put, List.setIfInBounds_toArray, List.set_cons_zero, List.set_cons_succ]) | (refine T_nil (by rfl) (by rfl) (fun _ _ _ _ h => h) rfl rfl ?_; try simp only [Act.put, List.setIfInBounds_toArray, List.set_cons_zero, List.set_cons_succ]) | (refine T_quietN (by rfl) (by rfl) (by rfl) (by rfl) (fun _ _ _ _ h => h) (fun K hK => ?_); go_big_quiet_op; refine hK _ ?_; clear hK K) | (refine T_two (by rfl) (by rfl) (by rfl) (by rfl) (fun _ _ _ _ h => h) (fun K hK => ?_); go_big_quiet_op; refine ⟨_, fun _ _ => rfl, ?_⟩; refine hK _ ?_; clear hK K; try simp only [Act.put, List.setIfInBounds_toArray, List.set_cons_zero, List.set_cons_succ]) | fail)
      have hf03 : Fr No wr w3 := (Fr.refl No wr).drew.tr hf3
      refine T_call (by rfl) (by rfl) (fun K hK => ?_)
      refine wp_buildOne so_chp (by decide) [.int .i64 oop, .bool gone, .int .i64 ob.cls, .slice A2 ob.slots.length c2, .slice D2 ob.bytes.length d2] rfl rfl rfl ?_
      (refine hK.out _ _ (((Fr.refl _ _).alloc _)) ?_; clear hK K; try simp only [Act.put, List.setIfInBounds_toArray, List.set_cons_zero, List.set_cons_succ])
      refine T_call (by rfl) (by rfl) (fun K hK => ?_)
      refine wp_app_at so_chp (own_fr0 hown (hf03.alloc (.cells ([.int .i64 oop, .bool gone, .int .i64 ob.cls, .slice A2 ob.slots.length c2, .slice D2 ob.bytes.length d2]).toArray 62))) ((Blk.new _ _ _).rd (size := 5) (n := 1) (by rfl) (by decide)) (one5 rfl rfl rfl rfl rfl) (by omega) (by simp; omega) rfl rfl rfl ?_
      intro v5 w5 hown5 hg5 hat5
      refine hK.out _ _ ((Fr.refl _ _).grown hg5 (fun q hq => .inr hq)) ?_
      clear hK K
      try simp only [Act.put, List.setIfInBounds_toArray, List.set_cons_zero, List.set_cons_succ]
      have hfA5 : Fr No wr (w3.alloc (.cells ([.int .i64 oop, .bool gone, .int .i64 ob.cls, .slice A2 ob.slots.length c2, .slice D2 ob.bytes.length d2]).toArray 62)) := hf03.alloc _
      have hb5 := (hb.fr0 hfA5).grown hg5 (fun hh => hSH hh.symm)
      obtain ⟨A3, c3, rfl, hc3, hc3m, hA3⟩ := own_form hown5
      (have z0 := hb5.cell 0; have z1 := hb5.cell 1; have zf0 := hb5.frozen 0; have zf1 := hb5.frozen 1; simp only [List.getElem?_toArray, List.getElem?_cons_zero, List.getElem?_cons_succ] at z0 z1)
      repeat (first | (refine T_skip (by rfl) (by rfl) (fun _ _ _ h => h) ?_; try simp only [Act.put, List.setIfInBounds_toArray, List.set_cons_zero, List.set_cons_succ]) | (refine T_pass (by rfl) (by rfl) ?_; try simp only [Act.put, List.setIfInBounds_toArray, List.set_cons_zero, List.set_cons_succ]) | (refine T_load (by assumption) (by rfl) (by rfl) (fun _ _ _ _ h => h) rfl rfl (by assumption) (by first | exact (fun hn => hn) | assumption) ?_; try simp only [Act.put, List.setIfInBounds_toArray, List.set_cons_zero, List.set_cons_succ]) | (refine T_nil (by rfl) (by rfl) (fun _ _ _ _ h => h) rfl rfl ?_; try simp only [Act.put, List.setIfInBounds_toArray, List.set_cons_zero, List.set_cons_succ]) | (refine T_quietN (by rfl) (by rfl) (by rfl) (by rfl) (fun _ _ _ _ h => h) (fun K hK => ?_); go_big_quiet_op; refine hK _ ?_; clear hK K) | (refine T_two (by rfl) (by rfl) (by rfl) (by rfl) (fun _ _ _ _ h => h) (fun K hK => ?_); go_big_quiet_op; refine ⟨_, fun _ _ => rfl, ?_⟩; refine hK _ ?_; clear hK K; try simp only [Act.put, List.setIfInBounds_toArray, List.set_cons_zero, List.set_cons_succ]) | fail)
      refine T_turn No [] (by rfl) (by rfl) (by rfl) (fun K hK => ?_)
      go_wp2_with fail
      refine hK.out _ _ ?_
      clear hK K
      refine T_done ?_
      have hfS : Fr (fun b => b = w.heap.size + 1 + 1) w5 (w5.setCell ⟨w.heap.size + 1 + 1, 1, none⟩ (.slice A3 (k + 1) c3)) := (Fr.refl _ w5).set1 1 _
      have hgF : Fr (fun b => (Value.slice A k c).ownBlock = some b) (w3.alloc (.cells ([.int .i64 oop, .bool gone, .int .i64 ob.cls, .slice A2 ob.slots.length c2, .slice D2 ob.bytes.length d2]).toArray 62)) w5 := (Fr.refl _ _).grown hg5 (fun q hq => .inr hq)
      go_wp2_with fail
      go_roundw
      case rel =>
        refine ⟨k + 1, A3, c3, xs ++ [.int .i64 oop, .bool gone, .int .i64 ob.cls, .slice A2 ob.slots.length c2, .slice D2 ob.bytes.length d2], by omega, by go_num, hb5.put 1 _, own_fr hown5 hfS (fun b hb hT => by have := (hown5.lt _ hb).1; omega), ?_, ?_⟩
        · rw [HT.out]
          have h8 := (ChsC.snoc (show ChC w3 (fun b => w.heap.size + 3 ≤ b ∧ ¬ (Value.slice A k c).ownBlock = some b) [.int .i64 oop, .bool gone, .int .i64 ob.cls, .slice A2 ob.slots.length c2, .slice D2 ob.bytes.length d2] ⟨oop, gone, ob⟩ by
            obtain ⟨A', c', D', d', e, r1, r2⟩ := hoc3
            injection e with _ e
            injection e with e1 e
            injection e with e2 _
            injection e1 with e11 _ e13
            injection e2 with e21 _ e23
            subst e11 e13 e21 e23
            exact ChC.mono ⟨A2, c2, D2, d2, rfl, r1, r2⟩ (fun b hl hb => ⟨by omega, fun e => by have := (HOL.out b e).2; omega⟩)) (hxs.keep hf03 (fun _ _ hn => hn))).lt
          have h9 := ((h8.keep ((Fr.refl No w3).alloc (.cells ([.int .i64 oop, .bool gone, .int .i64 ob.cls, .slice A2 ob.slots.length c2, .slice D2 ob.bytes.length d2]).toArray 62)) (fun _ _ hn => hn)).keep hgF (fun b hb hT => hb.1.2 hT)).keep hfS (fun b hb hT => by have := hb.1.1; omega)
          refine h9.mono (fun b _ hb => ⟨hb.1.1, fun e => ?_⟩)
          rcases hat5 with h3 | h3
          · exact hb.1.2 (h3 ▸ e)
          · rw [h3] at e; injection e with e; have := hb.2; simp at e; omega
        · exact (((hf.trans (hfA5.mono (fun _ _ hn => hn.elim)) (fun b _ h => h)).grown hg5 (fun q hq => .inr (by have := (HOL.out q hq).1; omega)))).set (.inr (Nat.le_refl _)) _
      case measure => simp [intOf]; omega
    · obtain rfl : k = chs.length := by omega
      have ek : decide ((chs.length : Int) < chs.length) = false := by simp
      rw [List.take_length] at hxs
      have hcs := hb.all
      go_wp2_with (first
        | (refine wpList_ldA ag_recp rfl _ rfl ⟨w.heap.size + 1 + 1, 0, none⟩ [.int .i64 com, .slice A chs.length c] rfl rfl hcs ?_)
        | (refine wpList_stA ag_recp.info rfl _ _ rfl (w.heap.size + 1) 0 _ _ [.int .i64 com, .slice A chs.length c] _ rfl rfl rfl rfl (by intro u hu; simp at hu; rcases hu with rfl | rfl <;> rfl) hbR (by decide) ?_; intro w5 hb5 hg5 hz5)
        | fail)
      rw [splice_all _ _ (by rfl)] at hb5
      have hf5 : Fr (fun b => b = w.heap.size + 1) wr w5 := (Fr.refl _ wr).grown hg5 (fun q hq => by injection hq with hq; exact .inr hq.symm)
      obtain ⟨_, _, e9, _, _, hDl⟩ := own_form hown
      injection e9 with e91 e92 e93
      subst e91 e93
      refine bodyPost_ret (results_blk ag_recp rfl _ _ _ _ _ rfl hb5 rfl) rfl ⟨_, rfl, ⟨A, c, rfl, xs, ?_, ?_⟩, hfW.trans hf5 (fun b hb hT => by omega)⟩
      · exact Rd.mono (Rd.fr (own_rd hown (by omega)) hf5 (fun b hb hT => by have := (hown.lt b ((hDl b).2 hb)).1; omega)) (fun b _ hb => by have := (hown.lt b ((hDl b).2 hb)).1; omega) (by decide)
      · exact (hxs.keep hf5 (fun b hb hT => by have := hb.1; omega)).mono (fun b _ hb => by have := hb.1; omega)
end Go.Proofs.Ytifcnjebepipnaa
