/- RcOrder: the walk. No condition. -/
import Derived.Test.YtgchpfennbggoaaJRRcOrderp5
import Derived.Deep.CutBlock
import Derived.Deep.DeepCutAuto
namespace Go.Proofs.Ytgchpfennbggoaa
set_option linter.unusedVariables false
set_option linter.unusedSimpArgs false
open Go.RowKit

/-- What Replay says, as three cells and a number. -/
theorem ReplR.lit {w w' : World} {o : ObjM} {r : Option (List VL)} {e : Ending} (h : ReplR w o r e w') :
    ∃ (a : Int) (A : Option Addr) (n c : Nat) (D : Option Addr) (m d : Nat) (en : Int), e = .returned (.tuple #[.agg #[.int .i64 a, .slice A n c, .slice D m d], .int .i64 en]) ∧ Fr No w w' ∧
      ((r = none ∧ en = 30) ∨ ∃ l, r = some l ∧ en = 0 ∧ ObjC w' (fun b => w.heap.size ≤ b) [.int .i64 a, .slice A n c, .slice D m d] { o with slots := l }) := by
  obtain ⟨hf, (⟨h1, h2⟩ | ⟨l, cs, h1, h2, h3⟩)⟩ := h
  · exact ⟨0, none, 0, 0, none, 0, 0, 30, h2, hf, .inl ⟨h1, rfl⟩⟩
  · obtain ⟨A, c, D, d, e1, h4, h5⟩ := id h3
    subst e1
    exact ⟨_, A, _, c, D, _, d, 0, h2, hf, .inr ⟨l, h1, rfl, h3⟩⟩
def ResC (w : World) (S : Nat → Prop) (o : ObjM) (r : Option (List VL)) (cs : List Value) (en : Int) : Prop := (r = none ∧ en = 30) ∨ ∃ l, r = some l ∧ en = 0 ∧ ObjC w S cs { o with slots := l }
theorem ResC.keep {w w' : World} {S T : Nat → Prop} {o : ObjM} {r : Option (List VL)} {cs : List Value} {en : Int} (h : ResC w S o r cs en) (hf : Fr T w w') (hd : ∀ b, S b → ¬ T b) : ResC w' S o r cs en := by
  rcases h with h | ⟨l, h1, h2, h3⟩
  · exact .inl h
  · exact .inr ⟨l, h1, h2, h3.keep hf hd⟩
theorem ResC.fr0 {w w' : World} {S : Nat → Prop} {o : ObjM} {r : Option (List VL)} {cs : List Value} {en : Int} (h : ResC w S o r cs en) (hf : Fr No w w') : ResC w' S o r cs en := h.keep hf (fun _ _ hn => hn)
theorem ResC.mono {w : World} {S T : Nat → Prop} {o : ObjM} {r : Option (List VL)} {cs : List Value} {en : Int} (h : ResC w S o r cs en) (hS : ∀ b, b < w.heap.size → S b → T b) : ResC w T o r cs en := by
  rcases h with h | ⟨l, h1, h2, h3⟩
  · exact .inl h
  · exact .inr ⟨l, h1, h2, h3.mono hS⟩
set_option maxHeartbeats 8000000 in
set_option maxRecDepth 100000 in
theorem law_RcOrder (W : World) (cs : List Value) (o : ObjM) (ho : ObjC W (fun b => b < W.heap.size) cs o) (h16 : o.slots.length * 16 ≤ 140737488351232 ∧ o.bytes.length ≤ 140737488351232) (a1 : Option Addr) (cap1 : Nat) (ops : List OpM) (hops : RdO W (fun b => b < W.heap.size) a1 ops) (hok : ∀ p ∈ ops, (-9223372036854775808 ≤ p.oop ∧ p.oop ≤ 9223372036854775807) ∧ (-9223372036854775808 ≤ p.v.k ∧ p.v.k ≤ 9223372036854775807) ∧ -9223372036854775808 ≤ p.v.n ∧ p.v.n ≤ 9223372036854775807)
    (a2 : Option Addr) (cap2 : Nat) (ts : List Int) (hts : Rd W (fun b => b < W.heap.size) 1 a2 ts.length (ts.map (Value.int .i64))) (wts : ∀ x ∈ ts, (Lit.int .i64 x).wf = true) :
    Calls Try.prog 3 #[.agg cs.toArray, .slice a1 ops.length cap1, .slice a2 ts.length cap2] W fun e w' => e = .returned (.bool true) ∧ Fr No W w' := by
  have hle1 := hops.2.1
  replace h16 := h16.1
  have g4 := plain_i64
  have g5 := plain_bool
  have g6 := plain_int
  have g7 := plain_lval
  have g8 := plain_lu8
  obtain ⟨A, c, D, d, rfl, hs, hbt⟩ := id ho
  obtain ⟨cls, slots, bytes⟩ := o
  simp only at hs hbt h16 ho ⊢
  have HOK := Lib.hid hok
  have HTS := Lib.hid (show ∀ x ∈ ts, -9223372036854775808 ≤ x ∧ x ≤ 9223372036854775807 from fun x hx => by simpa [Lit.wf, IntKind.min, IntKind.max, IntKind.signed, IntKind.bits] using wts x hx)
  clear hok wts
  have hf1 : Fr No W (W.alloc (.cells #[.int .i64 cls, .slice A slots.length c, .slice D bytes.length d] 25)) := (Fr.refl No W).alloc _
  have hbx := Blk.new W 25 #[.int .i64 cls, .slice A slots.length c, .slice D bytes.length d]
  have hz1 := hbx.lt
  by_cases hl100 : 100 < ops.length
  · have e100 : decide (100 < (ops.length : Int)) = true := by simp; omega
    clear hl100
    go_enter Try.func3, Try.ntmps3
    go_wp2_with fail
    refine (known_calls _).mono ?_
    rintro e wz ⟨rfl, hfz⟩
    go_wp2
    go_ret
    exact ⟨rfl, hf1.tr hfz⟩
  have e100 : decide (100 < (ops.length : Int)) = false := by simp; omega
  go_enter Try.func3, Try.ntmps3
  go_upto_block 0 with fail
  generalize hw1 : W.alloc (.cells #[.int .i64 cls, .slice A slots.length c, .slice D bytes.length d] 25) = w1 at *
  clear hw1
  have hz0 := hf1.size
  go_cut [] (fun wx => Hid (cls = 14 → SortV slots) ∧ Fr No w1 wx)
  case first =>
    go_wp2_with fail
    go_loopw [7] (fun s7 wr => ∃ k : Nat, 1 ≤ k ∧ k ≤ slots.length + 1 ∧ s7 = .int .i64 (k : Int) ∧ Hid (cls = 14 → ∀ i, ∀ hi : i + 1 < slots.length, i + 1 < k → gtV slots[i] slots[i + 1] = false) ∧ Fr No w1 wr) (fun s7 _ => slots.length + 1 - (intOf s7).toNat)
    case atStart => exact ⟨1, by omega, by omega, rfl, Lib.hid (fun _ i hi h => by omega), Fr.refl _ _⟩
    case round =>
      obtain ⟨k, hk1, hk, rfl, HN, hf⟩ := hrel
      have hsr := hf.size
      have hbr := hbx.fr0 hf
      (have y0 := hbr.cell 0; have y1 := hbr.cell 1; have y2 := hbr.cell 2; have yf0 := hbr.frozen 0; have yf1 := hbr.frozen 1; have yf2 := hbr.frozen 2; simp only [List.getElem?_toArray, List.getElem?_cons_zero, List.getElem?_cons_succ] at y0 y1 y2)
      by_cases hlt : k < slots.length
      · have ek : decide ((k : Int) < slots.length) = true := by simp; omega
        by_cases hc : cls = 14
        · subst hc
          obtain ⟨m, rfl⟩ : ∃ m, k = m + 1 := ⟨k - 1, by omega⟩
          obtain ⟨g, of, rfl, _, _, _, hva⟩ := RdV.at_ (Rd.fr0 hs (hf1.tr hf)) (show m < slots.length by omega)
          obtain ⟨g2, of2, e2, _, _, _, hvb⟩ := RdV.at_ (Rd.fr0 hs (hf1.tr hf)) hlt
          injection e2 with e2
          injection e2 with e21 e22 _
          subst e21 e22
          have HS := Lib.hid (show gtV slots[m] slots[m + 1] = false → ∀ i, ∀ hi : i + 1 < slots.length, i + 1 < m + 1 + 1 → gtV slots[i] slots[i + 1] = false from fun h i hi hlt2 => by
            rcases Nat.lt_or_ge (i + 1) (m + 1) with h3 | h3
            · exact HN.out rfl i hi h3
            · obtain rfl : i = m := by omega
              exact h)
          generalize slots[m] = x at *
          generalize slots[m + 1] = z at *
          obtain ⟨xk, xn⟩ := x
          obtain ⟨zk, zn⟩ := z
          unfold vcells at hva hvb
          simp only at hva hvb
          have esub : ((m + 1 : Nat) : Int) - 1 = (m : Int) := by omega
          have hfv : Fr No wr (wr.alloc (.cells #[.int .i64 xk, .int .i64 xn] 30)) := (Fr.refl No wr).alloc _
          have hvb2 : ∀ j u, [Value.int .i64 zk, .int .i64 zn][j]? = some u → (wr.alloc (.cells #[.int .i64 xk, .int .i64 xn] 30)).cell? ((⟨g, of + (m + 1) * 2, none⟩ : Addr).add j) = some u := fun j u hu => hfv.cell_some (hvb j u hu) (fun hn => hn)
          have hbr2 := hbr.fr0 hfv
          (have p0 := hbr2.cell 0; have p1 := hbr2.cell 1; have p2 := hbr2.cell 2; have pf0 := hbr2.frozen 0; have pf1 := hbr2.frozen 1; have pf2 := hbr2.frozen 2; simp only [List.getElem?_toArray, List.getElem?_cons_zero, List.getElem?_cons_succ] at p0 p1 p2)
          have hfw : Fr No wr ((wr.alloc (.cells #[.int .i64 xk, .int .i64 xn] 30)).alloc (.cells #[.int .i64 zk, .int .i64 zn] 30)) := hfv.alloc _
          have hgt : gtV ⟨xk, xn⟩ ⟨zk, zn⟩ = (decide (zk < xk) || (xk == zk && decide (zn < xn))) := rfl
          have HG := Lib.hid hgt
          clear hgt
          go_upto_region 8 with (first
            | (refine wpList_ldA ag_val rfl _ rfl ⟨g, of + m * 2, none⟩ [.int .i64 xk, .int .i64 xn] rfl rfl hva ?_)
            | (refine wpList_ldA ag_val rfl _ rfl ⟨g, of + (m + 1) * 2, none⟩ [.int .i64 zk, .int .i64 zn] rfl rfl hvb2 ?_)
            | fail)
          by_cases h1 : zk < xk
          · have e1 : decide (zk < xk) = true := by simpa using h1
            clear h1
            go_wp2_with fail
            refine (known_calls _).mono ?_
            rintro e wz ⟨rfl, hfz⟩
            go_wp2
            go_ret
            exact ⟨rfl, ((hf1.tr hf).tr hfw).tr hfz⟩
          · have e1 : decide (zk < xk) = false := by simpa using h1
            by_cases h2 : xk = zk
            · subst h2
              by_cases h3 : zn < xn
              · have e3 : decide (zn < xn) = true := by simpa using h3
                clear h1 h3
                go_wp2_with fail
                refine (known_calls _).mono ?_
                rintro e wz ⟨rfl, hfz⟩
                go_wp2
                go_ret
                exact ⟨rfl, ((hf1.tr hf).tr hfw).tr hfz⟩
              · have e3 : decide (zn < xn) = false := by simpa using h3
                have HS := Lib.hid (HS.out (by rw [HG.out, e1, e3]; simp))
                clear h1 h3
                go_wp2_with fail
                go_roundw
                case rel => exact ⟨m + 1 + 1, by omega, by omega, by go_num, Lib.hid (fun _ => HS.out), hf.tr hfw⟩
                case measure => simp [intOf]; omega
            · have e2 : (xk == zk) = false := by simpa using h2
              have HS := Lib.hid (HS.out (by rw [HG.out, e1, e2]; simp))
              clear h1 h2
              go_wp2_with fail
              go_roundw
              case rel => exact ⟨m + 1 + 1, by omega, by omega, by go_num, Lib.hid (fun _ => HS.out), hf.tr hfw⟩
              case measure => simp [intOf]; omega
        · have ec : (cls == 14) = false := by simpa using hc
          have HC := Lib.hid hc
          clear hc
          go_wp2_with fail
          go_meet
          case rel => exact ⟨Lib.hid (fun h => absurd h HC.out), hf⟩
      · have ek : decide ((k : Int) < slots.length) = false := by simp; omega
        go_wp2_with fail
        go_meet
        case rel => exact ⟨Lib.hid (fun h => sort_near (fun i hi => HN.out h i hi (by omega))), hf⟩
  case rest =>
    obtain ⟨HSORT, hf⟩ := hcut
    obtain ⟨wa, hwa⟩ : ∃ wa, wa = wc := ⟨_, rfl⟩
    subst hwa
    have hFa := hf1.tr hf
    have hba := hbx.fr0 hf
    clear hf
    go_upto_region 10 with fail
    go_cut [10, 11] (fun s10 s11 wx => ∃ (g : Nat) (ra : Int) (rA : Option Addr) (rn rc : Nat) (rD : Option Addr) (rm rd : Nat) (ren : Int), s10 = .pointer (some ⟨g, 0, none⟩) ∧ s11 = .int .i64 ren ∧ Blk wx g 25 #[.int .i64 ra, .slice rA rn rc, .slice rD rm rd] ∧ ResC wx (fun _ => True) ⟨cls, slots, bytes⟩ (replM ⟨cls, slots, bytes⟩ ops) [.int .i64 ra, .slice rA rn rc, .slice rD rm rd] ren ∧ Fr No wa wx)
    case first =>
      refine T_begin2 No [8] [0, 1, 2, 3, 4, 5, 6, 7, 8, 9] [2, 3, 7, 8, 1002, 1003] (by kernel_rfl) (by kernel_rfl) ?_
      simp only [pickOps, List.filterMap_cons, List.filterMap_nil, List.getElem?_cons_zero, List.getElem?_cons_succ, Act.put]
      have hT : Fr No wa wa.drew := (Fr.refl No wa).drew
      have hbq := hba.drew
      generalize hw2 : wa.drew = w2 at *
      clear hw2
      refine T_loadA (cs := [.int .i64 cls, .slice A slots.length c, .slice D bytes.length d]) ag_obj (by rfl) (by rfl) (fun _ _ _ _ h => h) rfl rfl rfl hbq.all (fun hn => hn) ?_
      try simp only [Act.put, List.setIfInBounds_toArray, List.set_cons_zero, List.set_cons_succ]
      (first | (refine T_skip (by rfl) (by rfl) (fun _ _ _ h => h) ?_; try simp only [Act.put, List.setIfInBounds_toArray, List.set_cons_zero, List.set_cons_succ]) | (refine T_pass (by rfl) (by rfl) ?_; try simp only [Act.put, List.setIfInBounds_toArray, List.set_cons_zero, List.set_cons_succ]) | (refine T_load (by assumption) (by rfl) (by rfl) (fun _ _ _ _ h => h) rfl rfl (by assumption) (by first | exact (fun hn => hn) | assumption) ?_; try simp only [Act.put, List.setIfInBounds_toArray, List.set_cons_zero, List.set_cons_succ]) | (refine T_nil (by rfl) (by rfl) (fun _ _ _ _ h => h) rfl rfl ?_; try simp only [Act.put, List.setIfInBounds_toArray, List.set_cons_zero, List.set_cons_succ]) | (refine T_quietN (by rfl) (by rfl) (by rfl) (by rfl) (fun _ _ _ _ h => h) (fun K hK => ?_); go_big_quiet_op; refine hK _ ?_; clear hK K) | (refine T_two (by rfl) (by rfl) (by rfl) (by rfl) (fun _ _ _ _ h => h) (fun K hK => ?_); go_big_quiet_op; refine ⟨_, fun _ _ => rfl, ?_⟩; refine hK _ ?_; clear hK K; try simp only [Act.put, List.setIfInBounds_toArray, List.set_cons_zero, List.set_cons_succ]) | fail)
      refine T_fork (ord2 := [0, 1, 7, 2, 3, 4, 5, 6, 8, 9]) (calls2 := [2, 3, 7, 8, 1007]) (i := 2) (j := 7) (by kernel_rfl) rfl rfl rfl (by kernel_rfl) rfl rfl rfl (by rfl) (by rfl) (fun K hK => ?_) (fun K hK => ?_)
      · go_wp2_with fail
        refine (given16_calls a1 cap1 ops w2 (Rd.mono (Rd.fr0 hops (hFa.tr hT)) (fun b hl _ => hl) (by decide)) (by omega)).mono ?_
        rintro e wx2 ⟨A2, c2, rfl, hown2, hf2⟩
        go_wp2_with fail
        (refine hK.out _ _ (hf2) ?_; clear hK K; try simp only [Act.put, List.setIfInBounds_toArray, List.set_cons_zero, List.set_cons_succ])
        replace hT := Fr.tr hT hf2
        refine T_fork (ord2 := [0, 1, 2, 7, 3, 4, 5, 6, 8, 9]) (calls2 := [2, 3, 7, 8, 1002, 1007]) (i := 3) (j := 7) (by kernel_rfl) rfl rfl rfl (by kernel_rfl) rfl rfl rfl (by rfl) (by rfl) (fun K hK => ?_) (fun K hK => ?_)
        · go_wp2_with fail
          refine (replay_calls _ [.int .i64 cls, .slice A slots.length c, .slice D bytes.length d] ⟨cls, slots, bytes⟩ wx2 A2 c2 ops (ho.fr0 (hFa.tr hT)) (by show slots.length ≤ 8796093022208; omega) (Rd.mono (own_rd hown2 (by omega)) (fun b hl _ => hl) (by decide)) (fun p hp => (HOK.out p hp).2.2)).mono ?_
          intro e wx3 hrep
          obtain ⟨ra, rA, rn, rc, rD, rm, rd, ren, rfl, hf3, hres⟩ := hrep.lit
          replace hres : ResC wx3 _ ⟨cls, slots, bytes⟩ _ _ _ := hres
          replace hres := hres.mono (T := fun b => b < wx3.heap.size) (fun b hlt _ => hlt)
          go_wp2_with fail
          (refine hK.out _ _ (hf3) ?_; clear hK K; try simp only [Act.put, List.setIfInBounds_toArray, List.set_cons_zero, List.set_cons_succ])
          replace hT := Fr.tr hT hf3
          replace hown2 := own_fr0 hown2 hf3
          (first | (refine T_skip (by rfl) (by rfl) (fun _ _ _ h => h) ?_; try simp only [Act.put, List.setIfInBounds_toArray, List.set_cons_zero, List.set_cons_succ]) | (refine T_pass (by rfl) (by rfl) ?_; try simp only [Act.put, List.setIfInBounds_toArray, List.set_cons_zero, List.set_cons_succ]) | (refine T_load (by assumption) (by rfl) (by rfl) (fun _ _ _ _ h => h) rfl rfl (by assumption) (by first | exact (fun hn => hn) | assumption) ?_; try simp only [Act.put, List.setIfInBounds_toArray, List.set_cons_zero, List.set_cons_succ]) | (refine T_nil (by rfl) (by rfl) (fun _ _ _ _ h => h) rfl rfl ?_; try simp only [Act.put, List.setIfInBounds_toArray, List.set_cons_zero, List.set_cons_succ]) | (refine T_quietN (by rfl) (by rfl) (by rfl) (by rfl) (fun _ _ _ _ h => h) (fun K hK => ?_); go_big_quiet_op; refine hK _ ?_; clear hK K) | (refine T_two (by rfl) (by rfl) (by rfl) (by rfl) (fun _ _ _ _ h => h) (fun K hK => ?_); go_big_quiet_op; refine ⟨_, fun _ _ => rfl, ?_⟩; refine hK _ ?_; clear hK K; try simp only [Act.put, List.setIfInBounds_toArray, List.set_cons_zero, List.set_cons_succ]) | fail)
          (first | (refine T_skip (by rfl) (by rfl) (fun _ _ _ h => h) ?_; try simp only [Act.put, List.setIfInBounds_toArray, List.set_cons_zero, List.set_cons_succ]) | (refine T_pass (by rfl) (by rfl) ?_; try simp only [Act.put, List.setIfInBounds_toArray, List.set_cons_zero, List.set_cons_succ]) | (refine T_load (by assumption) (by rfl) (by rfl) (fun _ _ _ _ h => h) rfl rfl (by assumption) (by first | exact (fun hn => hn) | assumption) ?_; try simp only [Act.put, List.setIfInBounds_toArray, List.set_cons_zero, List.set_cons_succ]) | (refine T_nil (by rfl) (by rfl) (fun _ _ _ _ h => h) rfl rfl ?_; try simp only [Act.put, List.setIfInBounds_toArray, List.set_cons_zero, List.set_cons_succ]) | (refine T_quietN (by rfl) (by rfl) (by rfl) (by rfl) (fun _ _ _ _ h => h) (fun K hK => ?_); go_big_quiet_op; refine hK _ ?_; clear hK K) | (refine T_two (by rfl) (by rfl) (by rfl) (by rfl) (fun _ _ _ _ h => h) (fun K hK => ?_); go_big_quiet_op; refine ⟨_, fun _ _ => rfl, ?_⟩; refine hK _ ?_; clear hK K; try simp only [Act.put, List.setIfInBounds_toArray, List.set_cons_zero, List.set_cons_succ]) | fail)
          (first | (refine T_skip (by rfl) (by rfl) (fun _ _ _ h => h) ?_; try simp only [Act.put, List.setIfInBounds_toArray, List.set_cons_zero, List.set_cons_succ]) | (refine T_pass (by rfl) (by rfl) ?_; try simp only [Act.put, List.setIfInBounds_toArray, List.set_cons_zero, List.set_cons_succ]) | (refine T_load (by assumption) (by rfl) (by rfl) (fun _ _ _ _ h => h) rfl rfl (by assumption) (by first | exact (fun hn => hn) | assumption) ?_; try simp only [Act.put, List.setIfInBounds_toArray, List.set_cons_zero, List.set_cons_succ]) | (refine T_nil (by rfl) (by rfl) (fun _ _ _ _ h => h) rfl rfl ?_; try simp only [Act.put, List.setIfInBounds_toArray, List.set_cons_zero, List.set_cons_succ]) | (refine T_quietN (by rfl) (by rfl) (by rfl) (by rfl) (fun _ _ _ _ h => h) (fun K hK => ?_); go_big_quiet_op; refine hK _ ?_; clear hK K) | (refine T_two (by rfl) (by rfl) (by rfl) (by rfl) (fun _ _ _ _ h => h) (fun K hK => ?_); go_big_quiet_op; refine ⟨_, fun _ _ => rfl, ?_⟩; refine hK _ ?_; clear hK K; try simp only [Act.put, List.setIfInBounds_toArray, List.set_cons_zero, List.set_cons_succ]) | fail)
          refine T_call (by rfl) (by rfl) (fun K hK => ?_)
          go_wp2_with fail
          (refine hK.out _ _ (((Fr.refl _ _).alloc _)) ?_; clear hK K; try simp only [Act.put, List.setIfInBounds_toArray, List.set_cons_zero, List.set_cons_succ])
          have hb7 := Blk.new wx3 25 #[.int .i64 0, .slice none 0 0, .slice none 0 0]
          have hf7 : Fr No wx3 (wx3.alloc (.cells #[.int .i64 0, .slice none 0 0, .slice none 0 0] 25)) := (Fr.refl No _).alloc _
          obtain ⟨b7, he7⟩ : ∃ b, b = wx3.heap.size := ⟨_, rfl⟩
          rw [← he7] at hb7 ⊢
          generalize hw7 : wx3.alloc (.cells #[.int .i64 0, .slice none 0 0, .slice none 0 0] 25) = wx7 at *
          clear hw7
          have hle7 : wa.heap.size ≤ b7 := by rw [he7]; exact hT.size
          replace hres := hres.mono (T := fun b => b ≠ b7) (fun b _ hb => by omega)
          clear he7
          replace hT := Fr.tr hT hf7
          replace hres := hres.fr0 hf7
          refine T_turn No [] (by rfl) (by rfl) (by rfl) (fun K hK => ?_)
          refine wp_stA ag_obj.info _ _ rfl b7 0 _ _ [.int .i64 ra, .slice rA rn rc, .slice rD rm rd] _ rfl rfl rfl rfl (by intro u hu; simp at hu; rcases hu with rfl | rfl | rfl <;> rfl) hb7 (by decide) ?_
          intro wx8 hb8 hg8 hz8
          rw [splice_all _ _ (by rfl)] at hb8
          refine hK.out _ _ ?_
          clear hK K
          try simp only [Act.put, List.setIfInBounds_toArray, List.set_cons_zero, List.set_cons_succ]
          (first | (refine T_skip (by rfl) (by rfl) (fun _ _ _ h => h) ?_; try simp only [Act.put, List.setIfInBounds_toArray, List.set_cons_zero, List.set_cons_succ]) | (refine T_pass (by rfl) (by rfl) ?_; try simp only [Act.put, List.setIfInBounds_toArray, List.set_cons_zero, List.set_cons_succ]) | (refine T_load (by assumption) (by rfl) (by rfl) (fun _ _ _ _ h => h) rfl rfl (by assumption) (by first | exact (fun hn => hn) | assumption) ?_; try simp only [Act.put, List.setIfInBounds_toArray, List.set_cons_zero, List.set_cons_succ]) | (refine T_nil (by rfl) (by rfl) (fun _ _ _ _ h => h) rfl rfl ?_; try simp only [Act.put, List.setIfInBounds_toArray, List.set_cons_zero, List.set_cons_succ]) | (refine T_quietN (by rfl) (by rfl) (by rfl) (by rfl) (fun _ _ _ _ h => h) (fun K hK => ?_); go_big_quiet_op; refine hK _ ?_; clear hK K) | (refine T_two (by rfl) (by rfl) (by rfl) (by rfl) (fun _ _ _ _ h => h) (fun K hK => ?_); go_big_quiet_op; refine ⟨_, fun _ _ => rfl, ?_⟩; refine hK _ ?_; clear hK K; try simp only [Act.put, List.setIfInBounds_toArray, List.set_cons_zero, List.set_cons_succ]) | fail)
          refine T_done ?_
          go_wp2_with fail
          go_meet
          case rel => exact ⟨b7, ra, rA, rn, rc, rD, rm, rd, ren, rfl, rfl, hb8, (hres.keep ((Fr.refl (fun b => b = b7) _).grown hg8 (fun q hq => by injection hq with hq; exact .inr hq.symm)) (fun b hb e => hb e)).mono (fun _ _ _ => trivial), hT.grown hg8 (fun q hq => by injection hq with hq; exact .inl (by omega))⟩
        · go_wp2_with fail
          (refine hK.out _ _ (((Fr.refl _ _).alloc _)) ?_; clear hK K; try simp only [Act.put, List.setIfInBounds_toArray, List.set_cons_zero, List.set_cons_succ])
          have hb7 := Blk.new wx2 25 #[.int .i64 0, .slice none 0 0, .slice none 0 0]
          have hf7 : Fr No wx2 (wx2.alloc (.cells #[.int .i64 0, .slice none 0 0, .slice none 0 0] 25)) := (Fr.refl No _).alloc _
          obtain ⟨b7, he7⟩ : ∃ b, b = wx2.heap.size := ⟨_, rfl⟩
          rw [← he7] at hb7 ⊢
          generalize hw7 : wx2.alloc (.cells #[.int .i64 0, .slice none 0 0, .slice none 0 0] 25) = wx7 at *
          clear hw7
          have hle7 : wa.heap.size ≤ b7 := by rw [he7]; exact hT.size
          clear he7
          replace hT := Fr.tr hT hf7
          replace hown2 := own_fr0 hown2 hf7
          refine T_call (by rfl) (by rfl) (fun K hK => ?_)
          go_wp2_with fail
          refine (replay_calls _ [.int .i64 cls, .slice A slots.length c, .slice D bytes.length d] ⟨cls, slots, bytes⟩ wx7 A2 c2 ops (ho.fr0 (hFa.tr hT)) (by show slots.length ≤ 8796093022208; omega) (Rd.mono (own_rd hown2 (by omega)) (fun b hl _ => hl) (by decide)) (fun p hp => (HOK.out p hp).2.2)).mono ?_
          intro e wx3 hrep
          obtain ⟨ra, rA, rn, rc, rD, rm, rd, ren, rfl, hf3, hres⟩ := hrep.lit
          replace hres : ResC wx3 _ ⟨cls, slots, bytes⟩ _ _ _ := hres
          have hlt7 := hb7.lt
          replace hres := hres.mono (T := fun b => b ≠ b7) (fun b _ hb => by omega)
          go_wp2_with fail
          (refine hK.out _ _ (hf3) ?_; clear hK K; try simp only [Act.put, List.setIfInBounds_toArray, List.set_cons_zero, List.set_cons_succ])
          replace hT := Fr.tr hT hf3
          replace hb7 := hb7.fr0 hf3
          replace hown2 := own_fr0 hown2 hf3
          (first | (refine T_skip (by rfl) (by rfl) (fun _ _ _ h => h) ?_; try simp only [Act.put, List.setIfInBounds_toArray, List.set_cons_zero, List.set_cons_succ]) | (refine T_pass (by rfl) (by rfl) ?_; try simp only [Act.put, List.setIfInBounds_toArray, List.set_cons_zero, List.set_cons_succ]) | (refine T_load (by assumption) (by rfl) (by rfl) (fun _ _ _ _ h => h) rfl rfl (by assumption) (by first | exact (fun hn => hn) | assumption) ?_; try simp only [Act.put, List.setIfInBounds_toArray, List.set_cons_zero, List.set_cons_succ]) | (refine T_nil (by rfl) (by rfl) (fun _ _ _ _ h => h) rfl rfl ?_; try simp only [Act.put, List.setIfInBounds_toArray, List.set_cons_zero, List.set_cons_succ]) | (refine T_quietN (by rfl) (by rfl) (by rfl) (by rfl) (fun _ _ _ _ h => h) (fun K hK => ?_); go_big_quiet_op; refine hK _ ?_; clear hK K) | (refine T_two (by rfl) (by rfl) (by rfl) (by rfl) (fun _ _ _ _ h => h) (fun K hK => ?_); go_big_quiet_op; refine ⟨_, fun _ _ => rfl, ?_⟩; refine hK _ ?_; clear hK K; try simp only [Act.put, List.setIfInBounds_toArray, List.set_cons_zero, List.set_cons_succ]) | fail)
          (first | (refine T_skip (by rfl) (by rfl) (fun _ _ _ h => h) ?_; try simp only [Act.put, List.setIfInBounds_toArray, List.set_cons_zero, List.set_cons_succ]) | (refine T_pass (by rfl) (by rfl) ?_; try simp only [Act.put, List.setIfInBounds_toArray, List.set_cons_zero, List.set_cons_succ]) | (refine T_load (by assumption) (by rfl) (by rfl) (fun _ _ _ _ h => h) rfl rfl (by assumption) (by first | exact (fun hn => hn) | assumption) ?_; try simp only [Act.put, List.setIfInBounds_toArray, List.set_cons_zero, List.set_cons_succ]) | (refine T_nil (by rfl) (by rfl) (fun _ _ _ _ h => h) rfl rfl ?_; try simp only [Act.put, List.setIfInBounds_toArray, List.set_cons_zero, List.set_cons_succ]) | (refine T_quietN (by rfl) (by rfl) (by rfl) (by rfl) (fun _ _ _ _ h => h) (fun K hK => ?_); go_big_quiet_op; refine hK _ ?_; clear hK K) | (refine T_two (by rfl) (by rfl) (by rfl) (by rfl) (fun _ _ _ _ h => h) (fun K hK => ?_); go_big_quiet_op; refine ⟨_, fun _ _ => rfl, ?_⟩; refine hK _ ?_; clear hK K; try simp only [Act.put, List.setIfInBounds_toArray, List.set_cons_zero, List.set_cons_succ]) | fail)
          (first | (refine T_skip (by rfl) (by rfl) (fun _ _ _ h => h) ?_; try simp only [Act.put, List.setIfInBounds_toArray, List.set_cons_zero, List.set_cons_succ]) | (refine T_pass (by rfl) (by rfl) ?_; try simp only [Act.put, List.setIfInBounds_toArray, List.set_cons_zero, List.set_cons_succ]) | (refine T_load (by assumption) (by rfl) (by rfl) (fun _ _ _ _ h => h) rfl rfl (by assumption) (by first | exact (fun hn => hn) | assumption) ?_; try simp only [Act.put, List.setIfInBounds_toArray, List.set_cons_zero, List.set_cons_succ]) | (refine T_nil (by rfl) (by rfl) (fun _ _ _ _ h => h) rfl rfl ?_; try simp only [Act.put, List.setIfInBounds_toArray, List.set_cons_zero, List.set_cons_succ]) | (refine T_quietN (by rfl) (by rfl) (by rfl) (by rfl) (fun _ _ _ _ h => h) (fun K hK => ?_); go_big_quiet_op; refine hK _ ?_; clear hK K) | (refine T_two (by rfl) (by rfl) (by rfl) (by rfl) (fun _ _ _ _ h => h) (fun K hK => ?_); go_big_quiet_op; refine ⟨_, fun _ _ => rfl, ?_⟩; refine hK _ ?_; clear hK K; try simp only [Act.put, List.setIfInBounds_toArray, List.set_cons_zero, List.set_cons_succ]) | fail)
          refine T_turn No [] (by rfl) (by rfl) (by rfl) (fun K hK => ?_)
          refine wp_stA ag_obj.info _ _ rfl b7 0 _ _ [.int .i64 ra, .slice rA rn rc, .slice rD rm rd] _ rfl rfl rfl rfl (by intro u hu; simp at hu; rcases hu with rfl | rfl | rfl <;> rfl) hb7 (by decide) ?_
          intro wx8 hb8 hg8 hz8
          rw [splice_all _ _ (by rfl)] at hb8
          refine hK.out _ _ ?_
          clear hK K
          try simp only [Act.put, List.setIfInBounds_toArray, List.set_cons_zero, List.set_cons_succ]
          (first | (refine T_skip (by rfl) (by rfl) (fun _ _ _ h => h) ?_; try simp only [Act.put, List.setIfInBounds_toArray, List.set_cons_zero, List.set_cons_succ]) | (refine T_pass (by rfl) (by rfl) ?_; try simp only [Act.put, List.setIfInBounds_toArray, List.set_cons_zero, List.set_cons_succ]) | (refine T_load (by assumption) (by rfl) (by rfl) (fun _ _ _ _ h => h) rfl rfl (by assumption) (by first | exact (fun hn => hn) | assumption) ?_; try simp only [Act.put, List.setIfInBounds_toArray, List.set_cons_zero, List.set_cons_succ]) | (refine T_nil (by rfl) (by rfl) (fun _ _ _ _ h => h) rfl rfl ?_; try simp only [Act.put, List.setIfInBounds_toArray, List.set_cons_zero, List.set_cons_succ]) | (refine T_quietN (by rfl) (by rfl) (by rfl) (by rfl) (fun _ _ _ _ h => h) (fun K hK => ?_); go_big_quiet_op; refine hK _ ?_; clear hK K) | (refine T_two (by rfl) (by rfl) (by rfl) (by rfl) (fun _ _ _ _ h => h) (fun K hK => ?_); go_big_quiet_op; refine ⟨_, fun _ _ => rfl, ?_⟩; refine hK _ ?_; clear hK K; try simp only [Act.put, List.setIfInBounds_toArray, List.set_cons_zero, List.set_cons_succ]) | fail)
          refine T_done ?_
          go_wp2_with fail
          go_meet
          case rel => exact ⟨b7, ra, rA, rn, rc, rD, rm, rd, ren, rfl, rfl, hb8, (hres.keep ((Fr.refl (fun b => b = b7) _).grown hg8 (fun q hq => by injection hq with hq; exact .inr hq.symm)) (fun b hb e => hb e)).mono (fun _ _ _ => trivial), hT.grown hg8 (fun q hq => by injection hq with hq; exact .inl (by omega))⟩
      · go_wp2_with fail
        (refine hK.out _ _ (((Fr.refl _ _).alloc _)) ?_; clear hK K; try simp only [Act.put, List.setIfInBounds_toArray, List.set_cons_zero, List.set_cons_succ])
        have hb7 := Blk.new w2 25 #[.int .i64 0, .slice none 0 0, .slice none 0 0]
        have hf7 : Fr No w2 (w2.alloc (.cells #[.int .i64 0, .slice none 0 0, .slice none 0 0] 25)) := (Fr.refl No _).alloc _
        obtain ⟨b7, he7⟩ : ∃ b, b = w2.heap.size := ⟨_, rfl⟩
        rw [← he7] at hb7 ⊢
        generalize hw7 : w2.alloc (.cells #[.int .i64 0, .slice none 0 0, .slice none 0 0] 25) = wx7 at *
        clear hw7
        have hle7 : wa.heap.size ≤ b7 := by rw [he7]; exact hT.size
        clear he7
        replace hT := Fr.tr hT hf7
        refine T_call (by rfl) (by rfl) (fun K hK => ?_)
        go_wp2_with fail
        refine (given16_calls a1 cap1 ops wx7 (Rd.mono (Rd.fr0 hops (hFa.tr hT)) (fun b hl _ => hl) (by decide)) (by omega)).mono ?_
        rintro e wx2 ⟨A2, c2, rfl, hown2, hf2⟩
        go_wp2_with fail
        (refine hK.out _ _ (hf2) ?_; clear hK K; try simp only [Act.put, List.setIfInBounds_toArray, List.set_cons_zero, List.set_cons_succ])
        replace hT := Fr.tr hT hf2
        replace hb7 := hb7.fr0 hf2
        refine T_call (by rfl) (by rfl) (fun K hK => ?_)
        go_wp2_with fail
        refine (replay_calls _ [.int .i64 cls, .slice A slots.length c, .slice D bytes.length d] ⟨cls, slots, bytes⟩ wx2 A2 c2 ops (ho.fr0 (hFa.tr hT)) (by show slots.length ≤ 8796093022208; omega) (Rd.mono (own_rd hown2 (by omega)) (fun b hl _ => hl) (by decide)) (fun p hp => (HOK.out p hp).2.2)).mono ?_
        intro e wx3 hrep
        obtain ⟨ra, rA, rn, rc, rD, rm, rd, ren, rfl, hf3, hres⟩ := hrep.lit
        replace hres : ResC wx3 _ ⟨cls, slots, bytes⟩ _ _ _ := hres
        have hlt7 := hb7.lt
        replace hres := hres.mono (T := fun b => b ≠ b7) (fun b _ hb => by omega)
        go_wp2_with fail
        (refine hK.out _ _ (hf3) ?_; clear hK K; try simp only [Act.put, List.setIfInBounds_toArray, List.set_cons_zero, List.set_cons_succ])
        replace hT := Fr.tr hT hf3
        replace hb7 := hb7.fr0 hf3
        replace hown2 := own_fr0 hown2 hf3
        (first | (refine T_skip (by rfl) (by rfl) (fun _ _ _ h => h) ?_; try simp only [Act.put, List.setIfInBounds_toArray, List.set_cons_zero, List.set_cons_succ]) | (refine T_pass (by rfl) (by rfl) ?_; try simp only [Act.put, List.setIfInBounds_toArray, List.set_cons_zero, List.set_cons_succ]) | (refine T_load (by assumption) (by rfl) (by rfl) (fun _ _ _ _ h => h) rfl rfl (by assumption) (by first | exact (fun hn => hn) | assumption) ?_; try simp only [Act.put, List.setIfInBounds_toArray, List.set_cons_zero, List.set_cons_succ]) | (refine T_nil (by rfl) (by rfl) (fun _ _ _ _ h => h) rfl rfl ?_; try simp only [Act.put, List.setIfInBounds_toArray, List.set_cons_zero, List.set_cons_succ]) | (refine T_quietN (by rfl) (by rfl) (by rfl) (by rfl) (fun _ _ _ _ h => h) (fun K hK => ?_); go_big_quiet_op; refine hK _ ?_; clear hK K) | (refine T_two (by rfl) (by rfl) (by rfl) (by rfl) (fun _ _ _ _ h => h) (fun K hK => ?_); go_big_quiet_op; refine ⟨_, fun _ _ => rfl, ?_⟩; refine hK _ ?_; clear hK K; try simp only [Act.put, List.setIfInBounds_toArray, List.set_cons_zero, List.set_cons_succ]) | fail)
        (first | (refine T_skip (by rfl) (by rfl) (fun _ _ _ h => h) ?_; try simp only [Act.put, List.setIfInBounds_toArray, List.set_cons_zero, List.set_cons_succ]) | (refine T_pass (by rfl) (by rfl) ?_; try simp only [Act.put, List.setIfInBounds_toArray, List.set_cons_zero, List.set_cons_succ]) | (refine T_load (by assumption) (by rfl) (by rfl) (fun _ _ _ _ h => h) rfl rfl (by assumption) (by first | exact (fun hn => hn) | assumption) ?_; try simp only [Act.put, List.setIfInBounds_toArray, List.set_cons_zero, List.set_cons_succ]) | (refine T_nil (by rfl) (by rfl) (fun _ _ _ _ h => h) rfl rfl ?_; try simp only [Act.put, List.setIfInBounds_toArray, List.set_cons_zero, List.set_cons_succ]) | (refine T_quietN (by rfl) (by rfl) (by rfl) (by rfl) (fun _ _ _ _ h => h) (fun K hK => ?_); go_big_quiet_op; refine hK _ ?_; clear hK K) | (refine T_two (by rfl) (by rfl) (by rfl) (by rfl) (fun _ _ _ _ h => h) (fun K hK => ?_); go_big_quiet_op; refine ⟨_, fun _ _ => rfl, ?_⟩; refine hK _ ?_; clear hK K; try simp only [Act.put, List.setIfInBounds_toArray, List.set_cons_zero, List.set_cons_succ]) | fail)
        (first | (refine T_skip (by rfl) (by rfl) (fun _ _ _ h => h) ?_; try simp only [Act.put, List.setIfInBounds_toArray, List.set_cons_zero, List.set_cons_succ]) | (refine T_pass (by rfl) (by rfl) ?_; try simp only [Act.put, List.setIfInBounds_toArray, List.set_cons_zero, List.set_cons_succ]) | (refine T_load (by assumption) (by rfl) (by rfl) (fun _ _ _ _ h => h) rfl rfl (by assumption) (by first | exact (fun hn => hn) | assumption) ?_; try simp only [Act.put, List.setIfInBounds_toArray, List.set_cons_zero, List.set_cons_succ]) | (refine T_nil (by rfl) (by rfl) (fun _ _ _ _ h => h) rfl rfl ?_; try simp only [Act.put, List.setIfInBounds_toArray, List.set_cons_zero, List.set_cons_succ]) | (refine T_quietN (by rfl) (by rfl) (by rfl) (by rfl) (fun _ _ _ _ h => h) (fun K hK => ?_); go_big_quiet_op; refine hK _ ?_; clear hK K) | (refine T_two (by rfl) (by rfl) (by rfl) (by rfl) (fun _ _ _ _ h => h) (fun K hK => ?_); go_big_quiet_op; refine ⟨_, fun _ _ => rfl, ?_⟩; refine hK _ ?_; clear hK K; try simp only [Act.put, List.setIfInBounds_toArray, List.set_cons_zero, List.set_cons_succ]) | fail)
        refine T_turn No [] (by rfl) (by rfl) (by rfl) (fun K hK => ?_)
        refine wp_stA ag_obj.info _ _ rfl b7 0 _ _ [.int .i64 ra, .slice rA rn rc, .slice rD rm rd] _ rfl rfl rfl rfl (by intro u hu; simp at hu; rcases hu with rfl | rfl | rfl <;> rfl) hb7 (by decide) ?_
        intro wx8 hb8 hg8 hz8
        rw [splice_all _ _ (by rfl)] at hb8
        refine hK.out _ _ ?_
        clear hK K
        try simp only [Act.put, List.setIfInBounds_toArray, List.set_cons_zero, List.set_cons_succ]
        (first | (refine T_skip (by rfl) (by rfl) (fun _ _ _ h => h) ?_; try simp only [Act.put, List.setIfInBounds_toArray, List.set_cons_zero, List.set_cons_succ]) | (refine T_pass (by rfl) (by rfl) ?_; try simp only [Act.put, List.setIfInBounds_toArray, List.set_cons_zero, List.set_cons_succ]) | (refine T_load (by assumption) (by rfl) (by rfl) (fun _ _ _ _ h => h) rfl rfl (by assumption) (by first | exact (fun hn => hn) | assumption) ?_; try simp only [Act.put, List.setIfInBounds_toArray, List.set_cons_zero, List.set_cons_succ]) | (refine T_nil (by rfl) (by rfl) (fun _ _ _ _ h => h) rfl rfl ?_; try simp only [Act.put, List.setIfInBounds_toArray, List.set_cons_zero, List.set_cons_succ]) | (refine T_quietN (by rfl) (by rfl) (by rfl) (by rfl) (fun _ _ _ _ h => h) (fun K hK => ?_); go_big_quiet_op; refine hK _ ?_; clear hK K) | (refine T_two (by rfl) (by rfl) (by rfl) (by rfl) (fun _ _ _ _ h => h) (fun K hK => ?_); go_big_quiet_op; refine ⟨_, fun _ _ => rfl, ?_⟩; refine hK _ ?_; clear hK K; try simp only [Act.put, List.setIfInBounds_toArray, List.set_cons_zero, List.set_cons_succ]) | fail)
        refine T_done ?_
        go_wp2_with fail
        go_meet
        case rel => exact ⟨b7, ra, rA, rn, rc, rD, rm, rd, ren, rfl, rfl, hb8, (hres.keep ((Fr.refl (fun b => b = b7) _).grown hg8 (fun q hq => by injection hq with hq; exact .inr hq.symm)) (fun b hb e => hb e)).mono (fun _ _ _ => trivial), hT.grown hg8 (fun q hq => by injection hq with hq; exact .inl (by omega))⟩
    case rest =>
      obtain ⟨g1, ra1, rA1, rn1, rc1, rD1, rm1, rd1, en1, rfl, rfl, hbg1, hres1, hfb⟩ := hcut
      obtain ⟨wb, hwb⟩ : ∃ wb, wb = wc := ⟨_, rfl⟩
      subst hwb
      have hFb := hFa.tr hfb
      have hbb := hba.fr0 hfb
      go_upto_region 11 with fail
      go_cut [12, 13] (fun s12 s13 wx => ∃ (g : Nat) (ra : Int) (rA : Option Addr) (rn rc : Nat) (rD : Option Addr) (rm rd : Nat) (ren : Int) (lp : List OpM), lp.Perm ops ∧ s12 = .pointer (some ⟨g, 0, none⟩) ∧ s13 = .int .i64 ren ∧ Blk wx g 25 #[.int .i64 ra, .slice rA rn rc, .slice rD rm rd] ∧ ResC wx (fun _ => True) ⟨cls, slots, bytes⟩ (replM ⟨cls, slots, bytes⟩ lp) [.int .i64 ra, .slice rA rn rc, .slice rD rm rd] ren ∧ Fr No wb wx)
      case first =>
        refine T_begin2 No [10] [0, 1, 3, 2, 4, 5, 6, 7, 8, 9, 10, 11] [2, 4, 5, 9, 10, 1002, 1004, 1005] (by kernel_rfl) (by kernel_rfl) ?_
        simp only [pickOps, List.filterMap_cons, List.filterMap_nil, List.getElem?_cons_zero, List.getElem?_cons_succ, Act.put]
        have hT : Fr No wb wb.drew := (Fr.refl No wb).drew
        have hbq := hbb.drew
        generalize hw2 : wb.drew = w2 at *
        clear hw2
        refine T_loadA (cs := [.int .i64 cls, .slice A slots.length c, .slice D bytes.length d]) ag_obj (by rfl) (by rfl) (fun _ _ _ _ h => h) rfl rfl rfl hbq.all (fun hn => hn) ?_
        try simp only [Act.put, List.setIfInBounds_toArray, List.set_cons_zero, List.set_cons_succ]
        (first | (refine T_skip (by rfl) (by rfl) (fun _ _ _ h => h) ?_; try simp only [Act.put, List.setIfInBounds_toArray, List.set_cons_zero, List.set_cons_succ]) | (refine T_pass (by rfl) (by rfl) ?_; try simp only [Act.put, List.setIfInBounds_toArray, List.set_cons_zero, List.set_cons_succ]) | (refine T_load (by assumption) (by rfl) (by rfl) (fun _ _ _ _ h => h) rfl rfl (by assumption) (by first | exact (fun hn => hn) | assumption) ?_; try simp only [Act.put, List.setIfInBounds_toArray, List.set_cons_zero, List.set_cons_succ]) | (refine T_nil (by rfl) (by rfl) (fun _ _ _ _ h => h) rfl rfl ?_; try simp only [Act.put, List.setIfInBounds_toArray, List.set_cons_zero, List.set_cons_succ]) | (refine T_quietN (by rfl) (by rfl) (by rfl) (by rfl) (fun _ _ _ _ h => h) (fun K hK => ?_); go_big_quiet_op; refine hK _ ?_; clear hK K) | (refine T_two (by rfl) (by rfl) (by rfl) (by rfl) (fun _ _ _ _ h => h) (fun K hK => ?_); go_big_quiet_op; refine ⟨_, fun _ _ => rfl, ?_⟩; refine hK _ ?_; clear hK K; try simp only [Act.put, List.setIfInBounds_toArray, List.set_cons_zero, List.set_cons_succ]) | fail)
        (first | (refine T_skip (by rfl) (by rfl) (fun _ _ _ h => h) ?_; try simp only [Act.put, List.setIfInBounds_toArray, List.set_cons_zero, List.set_cons_succ]) | (refine T_pass (by rfl) (by rfl) ?_; try simp only [Act.put, List.setIfInBounds_toArray, List.set_cons_zero, List.set_cons_succ]) | (refine T_load (by assumption) (by rfl) (by rfl) (fun _ _ _ _ h => h) rfl rfl (by assumption) (by first | exact (fun hn => hn) | assumption) ?_; try simp only [Act.put, List.setIfInBounds_toArray, List.set_cons_zero, List.set_cons_succ]) | (refine T_nil (by rfl) (by rfl) (fun _ _ _ _ h => h) rfl rfl ?_; try simp only [Act.put, List.setIfInBounds_toArray, List.set_cons_zero, List.set_cons_succ]) | (refine T_quietN (by rfl) (by rfl) (by rfl) (by rfl) (fun _ _ _ _ h => h) (fun K hK => ?_); go_big_quiet_op; refine hK _ ?_; clear hK K) | (refine T_two (by rfl) (by rfl) (by rfl) (by rfl) (fun _ _ _ _ h => h) (fun K hK => ?_); go_big_quiet_op; refine ⟨_, fun _ _ => rfl, ?_⟩; refine hK _ ?_; clear hK K; try simp only [Act.put, List.setIfInBounds_toArray, List.set_cons_zero, List.set_cons_succ]) | fail)
        refine T_fork (ord2 := [0, 1, 3, 9, 2, 4, 5, 6, 7, 8, 10, 11]) (calls2 := [2, 4, 5, 9, 10, 1009]) (i := 2) (j := 9) (by kernel_rfl) rfl rfl rfl (by kernel_rfl) rfl rfl rfl (by rfl) (by rfl) (fun K hK => ?_) (fun K hK => ?_)
        · go_wp2_with fail
          refine (given16_calls a1 cap1 ops w2 (Rd.mono (Rd.fr0 hops (hFb.tr hT)) (fun b hl _ => hl) (by decide)) (by omega)).mono ?_
          rintro e wx2 ⟨A2, c2, rfl, hown2, hf2⟩
          go_wp2_with fail
          (refine hK.out _ _ (hf2) ?_; clear hK K; try simp only [Act.put, List.setIfInBounds_toArray, List.set_cons_zero, List.set_cons_succ])
          replace hT := Fr.tr hT hf2
          refine T_fork (ord2 := [0, 1, 3, 2, 9, 4, 5, 6, 7, 8, 10, 11]) (calls2 := [2, 4, 5, 9, 10, 1002, 1009]) (i := 4) (j := 9) (by kernel_rfl) rfl rfl rfl (by kernel_rfl) rfl rfl rfl (by rfl) (by rfl) (fun K hK => ?_) (fun K hK => ?_)
          · go_wp2_with fail
            refine (turned_calls A2 c2 ops a2 cap2 ts wx2 (Rd.mono (own_rd hown2 (by omega)) (fun b hl _ => hl) (by decide)) (by omega) (Rd.mono (Rd.fr0 hts (hFb.tr hT)) (fun b hl _ => hl) (by decide)) HTS.out).mono ?_
            rintro e wx4 ⟨A4, c4, lp, rfl, hperm, hown4, hf4⟩
            have hplen := hperm.length_eq
            have HPL := Lib.hid hplen
            have hlp100 : lp.length ≤ 100 := by omega
            clear hplen
            go_wp2_with fail
            (refine hK.out _ _ (hf4) ?_; clear hK K; try simp only [Act.put, List.setIfInBounds_toArray, List.set_cons_zero, List.set_cons_succ])
            replace hT := Fr.tr hT hf4
            replace hown2 := own_fr0 hown2 hf4
            refine T_fork (ord2 := [0, 1, 3, 2, 4, 9, 5, 6, 7, 8, 10, 11]) (calls2 := [2, 4, 5, 9, 10, 1002, 1004, 1009]) (i := 5) (j := 9) (by kernel_rfl) rfl rfl rfl (by kernel_rfl) rfl rfl rfl (by rfl) (by rfl) (fun K hK => ?_) (fun K hK => ?_)
            · go_wp2_with fail
              refine (replay_calls _ [.int .i64 cls, .slice A slots.length c, .slice D bytes.length d] ⟨cls, slots, bytes⟩ wx4 A4 c4 lp (ho.fr0 (hFb.tr hT)) (by show slots.length ≤ 8796093022208; omega) (Rd.mono (own_rd hown4 (by omega)) (fun b hl _ => hl) (by decide)) (fun p hp => (HOK.out p (hperm.mem_iff.1 hp)).2.2)).mono ?_
              intro e wx5 hrep
              obtain ⟨ra, rA, rn, rc, rD, rm, rd, ren, rfl, hf5, hres⟩ := hrep.lit
              replace hres : ResC wx5 _ ⟨cls, slots, bytes⟩ _ _ _ := hres
              replace hres := hres.mono (T := fun b => b < wx5.heap.size) (fun b hlt _ => hlt)
              go_wp2_with fail
              (refine hK.out _ _ (hf5) ?_; clear hK K; try simp only [Act.put, List.setIfInBounds_toArray, List.set_cons_zero, List.set_cons_succ])
              replace hT := Fr.tr hT hf5
              replace hown4 := own_fr0 hown4 hf5
              (first | (refine T_skip (by rfl) (by rfl) (fun _ _ _ h => h) ?_; try simp only [Act.put, List.setIfInBounds_toArray, List.set_cons_zero, List.set_cons_succ]) | (refine T_pass (by rfl) (by rfl) ?_; try simp only [Act.put, List.setIfInBounds_toArray, List.set_cons_zero, List.set_cons_succ]) | (refine T_load (by assumption) (by rfl) (by rfl) (fun _ _ _ _ h => h) rfl rfl (by assumption) (by first | exact (fun hn => hn) | assumption) ?_; try simp only [Act.put, List.setIfInBounds_toArray, List.set_cons_zero, List.set_cons_succ]) | (refine T_nil (by rfl) (by rfl) (fun _ _ _ _ h => h) rfl rfl ?_; try simp only [Act.put, List.setIfInBounds_toArray, List.set_cons_zero, List.set_cons_succ]) | (refine T_quietN (by rfl) (by rfl) (by rfl) (by rfl) (fun _ _ _ _ h => h) (fun K hK => ?_); go_big_quiet_op; refine hK _ ?_; clear hK K) | (refine T_two (by rfl) (by rfl) (by rfl) (by rfl) (fun _ _ _ _ h => h) (fun K hK => ?_); go_big_quiet_op; refine ⟨_, fun _ _ => rfl, ?_⟩; refine hK _ ?_; clear hK K; try simp only [Act.put, List.setIfInBounds_toArray, List.set_cons_zero, List.set_cons_succ]) | fail)
              (first | (refine T_skip (by rfl) (by rfl) (fun _ _ _ h => h) ?_; try simp only [Act.put, List.setIfInBounds_toArray, List.set_cons_zero, List.set_cons_succ]) | (refine T_pass (by rfl) (by rfl) ?_; try simp only [Act.put, List.setIfInBounds_toArray, List.set_cons_zero, List.set_cons_succ]) | (refine T_load (by assumption) (by rfl) (by rfl) (fun _ _ _ _ h => h) rfl rfl (by assumption) (by first | exact (fun hn => hn) | assumption) ?_; try simp only [Act.put, List.setIfInBounds_toArray, List.set_cons_zero, List.set_cons_succ]) | (refine T_nil (by rfl) (by rfl) (fun _ _ _ _ h => h) rfl rfl ?_; try simp only [Act.put, List.setIfInBounds_toArray, List.set_cons_zero, List.set_cons_succ]) | (refine T_quietN (by rfl) (by rfl) (by rfl) (by rfl) (fun _ _ _ _ h => h) (fun K hK => ?_); go_big_quiet_op; refine hK _ ?_; clear hK K) | (refine T_two (by rfl) (by rfl) (by rfl) (by rfl) (fun _ _ _ _ h => h) (fun K hK => ?_); go_big_quiet_op; refine ⟨_, fun _ _ => rfl, ?_⟩; refine hK _ ?_; clear hK K; try simp only [Act.put, List.setIfInBounds_toArray, List.set_cons_zero, List.set_cons_succ]) | fail)
              (first | (refine T_skip (by rfl) (by rfl) (fun _ _ _ h => h) ?_; try simp only [Act.put, List.setIfInBounds_toArray, List.set_cons_zero, List.set_cons_succ]) | (refine T_pass (by rfl) (by rfl) ?_; try simp only [Act.put, List.setIfInBounds_toArray, List.set_cons_zero, List.set_cons_succ]) | (refine T_load (by assumption) (by rfl) (by rfl) (fun _ _ _ _ h => h) rfl rfl (by assumption) (by first | exact (fun hn => hn) | assumption) ?_; try simp only [Act.put, List.setIfInBounds_toArray, List.set_cons_zero, List.set_cons_succ]) | (refine T_nil (by rfl) (by rfl) (fun _ _ _ _ h => h) rfl rfl ?_; try simp only [Act.put, List.setIfInBounds_toArray, List.set_cons_zero, List.set_cons_succ]) | (refine T_quietN (by rfl) (by rfl) (by rfl) (by rfl) (fun _ _ _ _ h => h) (fun K hK => ?_); go_big_quiet_op; refine hK _ ?_; clear hK K) | (refine T_two (by rfl) (by rfl) (by rfl) (by rfl) (fun _ _ _ _ h => h) (fun K hK => ?_); go_big_quiet_op; refine ⟨_, fun _ _ => rfl, ?_⟩; refine hK _ ?_; clear hK K; try simp only [Act.put, List.setIfInBounds_toArray, List.set_cons_zero, List.set_cons_succ]) | fail)
              refine T_call (by rfl) (by rfl) (fun K hK => ?_)
              go_wp2_with fail
              (refine hK.out _ _ (((Fr.refl _ _).alloc _)) ?_; clear hK K; try simp only [Act.put, List.setIfInBounds_toArray, List.set_cons_zero, List.set_cons_succ])
              have hb9 := Blk.new wx5 25 #[.int .i64 0, .slice none 0 0, .slice none 0 0]
              have hf9 : Fr No wx5 (wx5.alloc (.cells #[.int .i64 0, .slice none 0 0, .slice none 0 0] 25)) := (Fr.refl No _).alloc _
              obtain ⟨b9, he9⟩ : ∃ b, b = wx5.heap.size := ⟨_, rfl⟩
              rw [← he9] at hb9 ⊢
              generalize hw9 : wx5.alloc (.cells #[.int .i64 0, .slice none 0 0, .slice none 0 0] 25) = wx9 at *
              clear hw9
              have hle9 : wb.heap.size ≤ b9 := by rw [he9]; exact hT.size
              replace hres := hres.mono (T := fun b => b ≠ b9) (fun b _ hb => by omega)
              clear he9
              replace hT := Fr.tr hT hf9
              replace hres := hres.fr0 hf9
              refine T_turn No [] (by rfl) (by rfl) (by rfl) (fun K hK => ?_)
              refine wp_stA ag_obj.info _ _ rfl b9 0 _ _ [.int .i64 ra, .slice rA rn rc, .slice rD rm rd] _ rfl rfl rfl rfl (by intro u hu; simp at hu; rcases hu with rfl | rfl | rfl <;> rfl) hb9 (by decide) ?_
              intro wx10 hb10 hg10 hz10
              rw [splice_all _ _ (by rfl)] at hb10
              refine hK.out _ _ ?_
              clear hK K
              try simp only [Act.put, List.setIfInBounds_toArray, List.set_cons_zero, List.set_cons_succ]
              (first | (refine T_skip (by rfl) (by rfl) (fun _ _ _ h => h) ?_; try simp only [Act.put, List.setIfInBounds_toArray, List.set_cons_zero, List.set_cons_succ]) | (refine T_pass (by rfl) (by rfl) ?_; try simp only [Act.put, List.setIfInBounds_toArray, List.set_cons_zero, List.set_cons_succ]) | (refine T_load (by assumption) (by rfl) (by rfl) (fun _ _ _ _ h => h) rfl rfl (by assumption) (by first | exact (fun hn => hn) | assumption) ?_; try simp only [Act.put, List.setIfInBounds_toArray, List.set_cons_zero, List.set_cons_succ]) | (refine T_nil (by rfl) (by rfl) (fun _ _ _ _ h => h) rfl rfl ?_; try simp only [Act.put, List.setIfInBounds_toArray, List.set_cons_zero, List.set_cons_succ]) | (refine T_quietN (by rfl) (by rfl) (by rfl) (by rfl) (fun _ _ _ _ h => h) (fun K hK => ?_); go_big_quiet_op; refine hK _ ?_; clear hK K) | (refine T_two (by rfl) (by rfl) (by rfl) (by rfl) (fun _ _ _ _ h => h) (fun K hK => ?_); go_big_quiet_op; refine ⟨_, fun _ _ => rfl, ?_⟩; refine hK _ ?_; clear hK K; try simp only [Act.put, List.setIfInBounds_toArray, List.set_cons_zero, List.set_cons_succ]) | fail)
              refine T_done ?_
              go_wp2_with fail
              go_meet
              case rel => exact ⟨b9, ra, rA, rn, rc, rD, rm, rd, ren, lp, hperm, rfl, rfl, hb10, (hres.keep ((Fr.refl (fun b => b = b9) _).grown hg10 (fun q hq => by injection hq with hq; exact .inr hq.symm)) (fun b hb e => hb e)).mono (fun _ _ _ => trivial), hT.grown hg10 (fun q hq => by injection hq with hq; exact .inl (by omega))⟩
            · go_wp2_with fail
              (refine hK.out _ _ (((Fr.refl _ _).alloc _)) ?_; clear hK K; try simp only [Act.put, List.setIfInBounds_toArray, List.set_cons_zero, List.set_cons_succ])
              have hb9 := Blk.new wx4 25 #[.int .i64 0, .slice none 0 0, .slice none 0 0]
              have hf9 : Fr No wx4 (wx4.alloc (.cells #[.int .i64 0, .slice none 0 0, .slice none 0 0] 25)) := (Fr.refl No _).alloc _
              obtain ⟨b9, he9⟩ : ∃ b, b = wx4.heap.size := ⟨_, rfl⟩
              rw [← he9] at hb9 ⊢
              generalize hw9 : wx4.alloc (.cells #[.int .i64 0, .slice none 0 0, .slice none 0 0] 25) = wx9 at *
              clear hw9
              have hle9 : wb.heap.size ≤ b9 := by rw [he9]; exact hT.size
              clear he9
              replace hT := Fr.tr hT hf9
              replace hown4 := own_fr0 hown4 hf9
              refine T_call (by rfl) (by rfl) (fun K hK => ?_)
              go_wp2_with fail
              refine (replay_calls _ [.int .i64 cls, .slice A slots.length c, .slice D bytes.length d] ⟨cls, slots, bytes⟩ wx9 A4 c4 lp (ho.fr0 (hFb.tr hT)) (by show slots.length ≤ 8796093022208; omega) (Rd.mono (own_rd hown4 (by omega)) (fun b hl _ => hl) (by decide)) (fun p hp => (HOK.out p (hperm.mem_iff.1 hp)).2.2)).mono ?_
              intro e wx5 hrep
              obtain ⟨ra, rA, rn, rc, rD, rm, rd, ren, rfl, hf5, hres⟩ := hrep.lit
              replace hres : ResC wx5 _ ⟨cls, slots, bytes⟩ _ _ _ := hres
              have hlt9 := hb9.lt
              replace hres := hres.mono (T := fun b => b ≠ b9) (fun b _ hb => by omega)
              go_wp2_with fail
              (refine hK.out _ _ (hf5) ?_; clear hK K; try simp only [Act.put, List.setIfInBounds_toArray, List.set_cons_zero, List.set_cons_succ])
              replace hT := Fr.tr hT hf5
              replace hb9 := hb9.fr0 hf5
              replace hown4 := own_fr0 hown4 hf5
              (first | (refine T_skip (by rfl) (by rfl) (fun _ _ _ h => h) ?_; try simp only [Act.put, List.setIfInBounds_toArray, List.set_cons_zero, List.set_cons_succ]) | (refine T_pass (by rfl) (by rfl) ?_; try simp only [Act.put, List.setIfInBounds_toArray, List.set_cons_zero, List.set_cons_succ]) | (refine T_load (by assumption) (by rfl) (by rfl) (fun _ _ _ _ h => h) rfl rfl (by assumption) (by first | exact (fun hn => hn) | assumption) ?_; try simp only [Act.put, List.setIfInBounds_toArray, List.set_cons_zero, List.set_cons_succ]) | (refine T_nil (by rfl) (by rfl) (fun _ _ _ _ h => h) rfl rfl ?_; try simp only [Act.put, List.setIfInBounds_toArray, List.set_cons_zero, List.set_cons_succ]) | (refine T_quietN (by rfl) (by rfl) (by rfl) (by rfl) (fun _ _ _ _ h => h) (fun K hK => ?_); go_big_quiet_op; refine hK _ ?_; clear hK K) | (refine T_two (by rfl) (by rfl) (by rfl) (by rfl) (fun _ _ _ _ h => h) (fun K hK => ?_); go_big_quiet_op; refine ⟨_, fun _ _ => rfl, ?_⟩; refine hK _ ?_; clear hK K; try simp only [Act.put, List.setIfInBounds_toArray, List.set_cons_zero, List.set_cons_succ]) | fail)
              (first | (refine T_skip (by rfl) (by rfl) (fun _ _ _ h => h) ?_; try simp only [Act.put, List.setIfInBounds_toArray, List.set_cons_zero, List.set_cons_succ]) | (refine T_pass (by rfl) (by rfl) ?_; try simp only [Act.put, List.setIfInBounds_toArray, List.set_cons_zero, List.set_cons_succ]) | (refine T_load (by assumption) (by rfl) (by rfl) (fun _ _ _ _ h => h) rfl rfl (by assumption) (by first | exact (fun hn => hn) | assumption) ?_; try simp only [Act.put, List.setIfInBounds_toArray, List.set_cons_zero, List.set_cons_succ]) | (refine T_nil (by rfl) (by rfl) (fun _ _ _ _ h => h) rfl rfl ?_; try simp only [Act.put, List.setIfInBounds_toArray, List.set_cons_zero, List.set_cons_succ]) | (refine T_quietN (by rfl) (by rfl) (by rfl) (by rfl) (fun _ _ _ _ h => h) (fun K hK => ?_); go_big_quiet_op; refine hK _ ?_; clear hK K) | (refine T_two (by rfl) (by rfl) (by rfl) (by rfl) (fun _ _ _ _ h => h) (fun K hK => ?_); go_big_quiet_op; refine ⟨_, fun _ _ => rfl, ?_⟩; refine hK _ ?_; clear hK K; try simp only [Act.put, List.setIfInBounds_toArray, List.set_cons_zero, List.set_cons_succ]) | fail)
              (first | (refine T_skip (by rfl) (by rfl) (fun _ _ _ h => h) ?_; try simp only [Act.put, List.setIfInBounds_toArray, List.set_cons_zero, List.set_cons_succ]) | (refine T_pass (by rfl) (by rfl) ?_; try simp only [Act.put, List.setIfInBounds_toArray, List.set_cons_zero, List.set_cons_succ]) | (refine T_load (by assumption) (by rfl) (by rfl) (fun _ _ _ _ h => h) rfl rfl (by assumption) (by first | exact (fun hn => hn) | assumption) ?_; try simp only [Act.put, List.setIfInBounds_toArray, List.set_cons_zero, List.set_cons_succ]) | (refine T_nil (by rfl) (by rfl) (fun _ _ _ _ h => h) rfl rfl ?_; try simp only [Act.put, List.setIfInBounds_toArray, List.set_cons_zero, List.set_cons_succ]) | (refine T_quietN (by rfl) (by rfl) (by rfl) (by rfl) (fun _ _ _ _ h => h) (fun K hK => ?_); go_big_quiet_op; refine hK _ ?_; clear hK K) | (refine T_two (by rfl) (by rfl) (by rfl) (by rfl) (fun _ _ _ _ h => h) (fun K hK => ?_); go_big_quiet_op; refine ⟨_, fun _ _ => rfl, ?_⟩; refine hK _ ?_; clear hK K; try simp only [Act.put, List.setIfInBounds_toArray, List.set_cons_zero, List.set_cons_succ]) | fail)
              refine T_turn No [] (by rfl) (by rfl) (by rfl) (fun K hK => ?_)
              refine wp_stA ag_obj.info _ _ rfl b9 0 _ _ [.int .i64 ra, .slice rA rn rc, .slice rD rm rd] _ rfl rfl rfl rfl (by intro u hu; simp at hu; rcases hu with rfl | rfl | rfl <;> rfl) hb9 (by decide) ?_
              intro wx10 hb10 hg10 hz10
              rw [splice_all _ _ (by rfl)] at hb10
              refine hK.out _ _ ?_
              clear hK K
              try simp only [Act.put, List.setIfInBounds_toArray, List.set_cons_zero, List.set_cons_succ]
              (first | (refine T_skip (by rfl) (by rfl) (fun _ _ _ h => h) ?_; try simp only [Act.put, List.setIfInBounds_toArray, List.set_cons_zero, List.set_cons_succ]) | (refine T_pass (by rfl) (by rfl) ?_; try simp only [Act.put, List.setIfInBounds_toArray, List.set_cons_zero, List.set_cons_succ]) | (refine T_load (by assumption) (by rfl) (by rfl) (fun _ _ _ _ h => h) rfl rfl (by assumption) (by first | exact (fun hn => hn) | assumption) ?_; try simp only [Act.put, List.setIfInBounds_toArray, List.set_cons_zero, List.set_cons_succ]) | (refine T_nil (by rfl) (by rfl) (fun _ _ _ _ h => h) rfl rfl ?_; try simp only [Act.put, List.setIfInBounds_toArray, List.set_cons_zero, List.set_cons_succ]) | (refine T_quietN (by rfl) (by rfl) (by rfl) (by rfl) (fun _ _ _ _ h => h) (fun K hK => ?_); go_big_quiet_op; refine hK _ ?_; clear hK K) | (refine T_two (by rfl) (by rfl) (by rfl) (by rfl) (fun _ _ _ _ h => h) (fun K hK => ?_); go_big_quiet_op; refine ⟨_, fun _ _ => rfl, ?_⟩; refine hK _ ?_; clear hK K; try simp only [Act.put, List.setIfInBounds_toArray, List.set_cons_zero, List.set_cons_succ]) | fail)
              refine T_done ?_
              go_wp2_with fail
              go_meet
              case rel => exact ⟨b9, ra, rA, rn, rc, rD, rm, rd, ren, lp, hperm, rfl, rfl, hb10, (hres.keep ((Fr.refl (fun b => b = b9) _).grown hg10 (fun q hq => by injection hq with hq; exact .inr hq.symm)) (fun b hb e => hb e)).mono (fun _ _ _ => trivial), hT.grown hg10 (fun q hq => by injection hq with hq; exact .inl (by omega))⟩
          · go_wp2_with fail
            (refine hK.out _ _ (((Fr.refl _ _).alloc _)) ?_; clear hK K; try simp only [Act.put, List.setIfInBounds_toArray, List.set_cons_zero, List.set_cons_succ])
            have hb9 := Blk.new wx2 25 #[.int .i64 0, .slice none 0 0, .slice none 0 0]
            have hf9 : Fr No wx2 (wx2.alloc (.cells #[.int .i64 0, .slice none 0 0, .slice none 0 0] 25)) := (Fr.refl No _).alloc _
            obtain ⟨b9, he9⟩ : ∃ b, b = wx2.heap.size := ⟨_, rfl⟩
            rw [← he9] at hb9 ⊢
            generalize hw9 : wx2.alloc (.cells #[.int .i64 0, .slice none 0 0, .slice none 0 0] 25) = wx9 at *
            clear hw9
            have hle9 : wb.heap.size ≤ b9 := by rw [he9]; exact hT.size
            clear he9
            replace hT := Fr.tr hT hf9
            replace hown2 := own_fr0 hown2 hf9
            refine T_call (by rfl) (by rfl) (fun K hK => ?_)
            go_wp2_with fail
            refine (turned_calls A2 c2 ops a2 cap2 ts wx9 (Rd.mono (own_rd hown2 (by omega)) (fun b hl _ => hl) (by decide)) (by omega) (Rd.mono (Rd.fr0 hts (hFb.tr hT)) (fun b hl _ => hl) (by decide)) HTS.out).mono ?_
            rintro e wx4 ⟨A4, c4, lp, rfl, hperm, hown4, hf4⟩
            have hplen := hperm.length_eq
            have HPL := Lib.hid hplen
            have hlp100 : lp.length ≤ 100 := by omega
            clear hplen
            go_wp2_with fail
            (refine hK.out _ _ (hf4) ?_; clear hK K; try simp only [Act.put, List.setIfInBounds_toArray, List.set_cons_zero, List.set_cons_succ])
            replace hT := Fr.tr hT hf4
            replace hb9 := hb9.fr0 hf4
            replace hown2 := own_fr0 hown2 hf4
            refine T_call (by rfl) (by rfl) (fun K hK => ?_)
            go_wp2_with fail
            refine (replay_calls _ [.int .i64 cls, .slice A slots.length c, .slice D bytes.length d] ⟨cls, slots, bytes⟩ wx4 A4 c4 lp (ho.fr0 (hFb.tr hT)) (by show slots.length ≤ 8796093022208; omega) (Rd.mono (own_rd hown4 (by omega)) (fun b hl _ => hl) (by decide)) (fun p hp => (HOK.out p (hperm.mem_iff.1 hp)).2.2)).mono ?_
            intro e wx5 hrep
            obtain ⟨ra, rA, rn, rc, rD, rm, rd, ren, rfl, hf5, hres⟩ := hrep.lit
            replace hres : ResC wx5 _ ⟨cls, slots, bytes⟩ _ _ _ := hres
            have hlt9 := hb9.lt
            replace hres := hres.mono (T := fun b => b ≠ b9) (fun b _ hb => by omega)
            go_wp2_with fail
            (refine hK.out _ _ (hf5) ?_; clear hK K; try simp only [Act.put, List.setIfInBounds_toArray, List.set_cons_zero, List.set_cons_succ])
            replace hT := Fr.tr hT hf5
            replace hb9 := hb9.fr0 hf5
            replace hown4 := own_fr0 hown4 hf5
            (first | (refine T_skip (by rfl) (by rfl) (fun _ _ _ h => h) ?_; try simp only [Act.put, List.setIfInBounds_toArray, List.set_cons_zero, List.set_cons_succ]) | (refine T_pass (by rfl) (by rfl) ?_; try simp only [Act.put, List.setIfInBounds_toArray, List.set_cons_zero, List.set_cons_succ]) | (refine T_load (by assumption) (by rfl) (by rfl) (fun _ _ _ _ h => h) rfl rfl (by assumption) (by first | exact (fun hn => hn) | assumption) ?_; try simp only [Act.put, List.setIfInBounds_toArray, List.set_cons_zero, List.set_cons_succ]) | (refine T_nil (by rfl) (by rfl) (fun _ _ _ _ h => h) rfl rfl ?_; try simp only [Act.put, List.setIfInBounds_toArray, List.set_cons_zero, List.set_cons_succ]) | (refine T_quietN (by rfl) (by rfl) (by rfl) (by rfl) (fun _ _ _ _ h => h) (fun K hK => ?_); go_big_quiet_op; refine hK _ ?_; clear hK K) | (refine T_two (by rfl) (by rfl) (by rfl) (by rfl) (fun _ _ _ _ h => h) (fun K hK => ?_); go_big_quiet_op; refine ⟨_, fun _ _ => rfl, ?_⟩; refine hK _ ?_; clear hK K; try simp only [Act.put, List.setIfInBounds_toArray, List.set_cons_zero, List.set_cons_succ]) | fail)
            (first | (refine T_skip (by rfl) (by rfl) (fun _ _ _ h => h) ?_; try simp only [Act.put, List.setIfInBounds_toArray, List.set_cons_zero, List.set_cons_succ]) | (refine T_pass (by rfl) (by rfl) ?_; try simp only [Act.put, List.setIfInBounds_toArray, List.set_cons_zero, List.set_cons_succ]) | (refine T_load (by assumption) (by rfl) (by rfl) (fun _ _ _ _ h => h) rfl rfl (by assumption) (by first | exact (fun hn => hn) | assumption) ?_; try simp only [Act.put, List.setIfInBounds_toArray, List.set_cons_zero, List.set_cons_succ]) | (refine T_nil (by rfl) (by rfl) (fun _ _ _ _ h => h) rfl rfl ?_; try simp only [Act.put, List.setIfInBounds_toArray, List.set_cons_zero, List.set_cons_succ]) | (refine T_quietN (by rfl) (by rfl) (by rfl) (by rfl) (fun _ _ _ _ h => h) (fun K hK => ?_); go_big_quiet_op; refine hK _ ?_; clear hK K) | (refine T_two (by rfl) (by rfl) (by rfl) (by rfl) (fun _ _ _ _ h => h) (fun K hK => ?_); go_big_quiet_op; refine ⟨_, fun _ _ => rfl, ?_⟩; refine hK _ ?_; clear hK K; try simp only [Act.put, List.setIfInBounds_toArray, List.set_cons_zero, List.set_cons_succ]) | fail)
            (first | (refine T_skip (by rfl) (by rfl) (fun _ _ _ h => h) ?_; try simp only [Act.put, List.setIfInBounds_toArray, List.set_cons_zero, List.set_cons_succ]) | (refine T_pass (by rfl) (by rfl) ?_; try simp only [Act.put, List.setIfInBounds_toArray, List.set_cons_zero, List.set_cons_succ]) | (refine T_load (by assumption) (by rfl) (by rfl) (fun _ _ _ _ h => h) rfl rfl (by assumption) (by first | exact (fun hn => hn) | assumption) ?_; try simp only [Act.put, List.setIfInBounds_toArray, List.set_cons_zero, List.set_cons_succ]) | (refine T_nil (by rfl) (by rfl) (fun _ _ _ _ h => h) rfl rfl ?_; try simp only [Act.put, List.setIfInBounds_toArray, List.set_cons_zero, List.set_cons_succ]) | (refine T_quietN (by rfl) (by rfl) (by rfl) (by rfl) (fun _ _ _ _ h => h) (fun K hK => ?_); go_big_quiet_op; refine hK _ ?_; clear hK K) | (refine T_two (by rfl) (by rfl) (by rfl) (by rfl) (fun _ _ _ _ h => h) (fun K hK => ?_); go_big_quiet_op; refine ⟨_, fun _ _ => rfl, ?_⟩; refine hK _ ?_; clear hK K; try simp only [Act.put, List.setIfInBounds_toArray, List.set_cons_zero, List.set_cons_succ]) | fail)
            refine T_turn No [] (by rfl) (by rfl) (by rfl) (fun K hK => ?_)
            refine wp_stA ag_obj.info _ _ rfl b9 0 _ _ [.int .i64 ra, .slice rA rn rc, .slice rD rm rd] _ rfl rfl rfl rfl (by intro u hu; simp at hu; rcases hu with rfl | rfl | rfl <;> rfl) hb9 (by decide) ?_
            intro wx10 hb10 hg10 hz10
            rw [splice_all _ _ (by rfl)] at hb10
            refine hK.out _ _ ?_
            clear hK K
            try simp only [Act.put, List.setIfInBounds_toArray, List.set_cons_zero, List.set_cons_succ]
            (first | (refine T_skip (by rfl) (by rfl) (fun _ _ _ h => h) ?_; try simp only [Act.put, List.setIfInBounds_toArray, List.set_cons_zero, List.set_cons_succ]) | (refine T_pass (by rfl) (by rfl) ?_; try simp only [Act.put, List.setIfInBounds_toArray, List.set_cons_zero, List.set_cons_succ]) | (refine T_load (by assumption) (by rfl) (by rfl) (fun _ _ _ _ h => h) rfl rfl (by assumption) (by first | exact (fun hn => hn) | assumption) ?_; try simp only [Act.put, List.setIfInBounds_toArray, List.set_cons_zero, List.set_cons_succ]) | (refine T_nil (by rfl) (by rfl) (fun _ _ _ _ h => h) rfl rfl ?_; try simp only [Act.put, List.setIfInBounds_toArray, List.set_cons_zero, List.set_cons_succ]) | (refine T_quietN (by rfl) (by rfl) (by rfl) (by rfl) (fun _ _ _ _ h => h) (fun K hK => ?_); go_big_quiet_op; refine hK _ ?_; clear hK K) | (refine T_two (by rfl) (by rfl) (by rfl) (by rfl) (fun _ _ _ _ h => h) (fun K hK => ?_); go_big_quiet_op; refine ⟨_, fun _ _ => rfl, ?_⟩; refine hK _ ?_; clear hK K; try simp only [Act.put, List.setIfInBounds_toArray, List.set_cons_zero, List.set_cons_succ]) | fail)
            refine T_done ?_
            go_wp2_with fail
            go_meet
            case rel => exact ⟨b9, ra, rA, rn, rc, rD, rm, rd, ren, lp, hperm, rfl, rfl, hb10, (hres.keep ((Fr.refl (fun b => b = b9) _).grown hg10 (fun q hq => by injection hq with hq; exact .inr hq.symm)) (fun b hb e => hb e)).mono (fun _ _ _ => trivial), hT.grown hg10 (fun q hq => by injection hq with hq; exact .inl (by omega))⟩
        · go_wp2_with fail
          (refine hK.out _ _ (((Fr.refl _ _).alloc _)) ?_; clear hK K; try simp only [Act.put, List.setIfInBounds_toArray, List.set_cons_zero, List.set_cons_succ])
          have hb9 := Blk.new w2 25 #[.int .i64 0, .slice none 0 0, .slice none 0 0]
          have hf9 : Fr No w2 (w2.alloc (.cells #[.int .i64 0, .slice none 0 0, .slice none 0 0] 25)) := (Fr.refl No _).alloc _
          obtain ⟨b9, he9⟩ : ∃ b, b = w2.heap.size := ⟨_, rfl⟩
          rw [← he9] at hb9 ⊢
          generalize hw9 : w2.alloc (.cells #[.int .i64 0, .slice none 0 0, .slice none 0 0] 25) = wx9 at *
          clear hw9
          have hle9 : wb.heap.size ≤ b9 := by rw [he9]; exact hT.size
          clear he9
          replace hT := Fr.tr hT hf9
          refine T_call (by rfl) (by rfl) (fun K hK => ?_)
          go_wp2_with fail
          refine (given16_calls a1 cap1 ops wx9 (Rd.mono (Rd.fr0 hops (hFb.tr hT)) (fun b hl _ => hl) (by decide)) (by omega)).mono ?_
          rintro e wx2 ⟨A2, c2, rfl, hown2, hf2⟩
          go_wp2_with fail
          (refine hK.out _ _ (hf2) ?_; clear hK K; try simp only [Act.put, List.setIfInBounds_toArray, List.set_cons_zero, List.set_cons_succ])
          replace hT := Fr.tr hT hf2
          replace hb9 := hb9.fr0 hf2
          refine T_call (by rfl) (by rfl) (fun K hK => ?_)
          go_wp2_with fail
          refine (turned_calls A2 c2 ops a2 cap2 ts wx2 (Rd.mono (own_rd hown2 (by omega)) (fun b hl _ => hl) (by decide)) (by omega) (Rd.mono (Rd.fr0 hts (hFb.tr hT)) (fun b hl _ => hl) (by decide)) HTS.out).mono ?_
          rintro e wx4 ⟨A4, c4, lp, rfl, hperm, hown4, hf4⟩
          have hplen := hperm.length_eq
          have HPL := Lib.hid hplen
          have hlp100 : lp.length ≤ 100 := by omega
          clear hplen
          go_wp2_with fail
          (refine hK.out _ _ (hf4) ?_; clear hK K; try simp only [Act.put, List.setIfInBounds_toArray, List.set_cons_zero, List.set_cons_succ])
          replace hT := Fr.tr hT hf4
          replace hb9 := hb9.fr0 hf4
          replace hown2 := own_fr0 hown2 hf4
          refine T_call (by rfl) (by rfl) (fun K hK => ?_)
          go_wp2_with fail
          refine (replay_calls _ [.int .i64 cls, .slice A slots.length c, .slice D bytes.length d] ⟨cls, slots, bytes⟩ wx4 A4 c4 lp (ho.fr0 (hFb.tr hT)) (by show slots.length ≤ 8796093022208; omega) (Rd.mono (own_rd hown4 (by omega)) (fun b hl _ => hl) (by decide)) (fun p hp => (HOK.out p (hperm.mem_iff.1 hp)).2.2)).mono ?_
          intro e wx5 hrep
          obtain ⟨ra, rA, rn, rc, rD, rm, rd, ren, rfl, hf5, hres⟩ := hrep.lit
          replace hres : ResC wx5 _ ⟨cls, slots, bytes⟩ _ _ _ := hres
          have hlt9 := hb9.lt
          replace hres := hres.mono (T := fun b => b ≠ b9) (fun b _ hb => by omega)
          go_wp2_with fail
          (refine hK.out _ _ (hf5) ?_; clear hK K; try simp only [Act.put, List.setIfInBounds_toArray, List.set_cons_zero, List.set_cons_succ])
          replace hT := Fr.tr hT hf5
          replace hb9 := hb9.fr0 hf5
          replace hown4 := own_fr0 hown4 hf5
          (first | (refine T_skip (by rfl) (by rfl) (fun _ _ _ h => h) ?_; try simp only [Act.put, List.setIfInBounds_toArray, List.set_cons_zero, List.set_cons_succ]) | (refine T_pass (by rfl) (by rfl) ?_; try simp only [Act.put, List.setIfInBounds_toArray, List.set_cons_zero, List.set_cons_succ]) | (refine T_load (by assumption) (by rfl) (by rfl) (fun _ _ _ _ h => h) rfl rfl (by assumption) (by first | exact (fun hn => hn) | assumption) ?_; try simp only [Act.put, List.setIfInBounds_toArray, List.set_cons_zero, List.set_cons_succ]) | (refine T_nil (by rfl) (by rfl) (fun _ _ _ _ h => h) rfl rfl ?_; try simp only [Act.put, List.setIfInBounds_toArray, List.set_cons_zero, List.set_cons_succ]) | (refine T_quietN (by rfl) (by rfl) (by rfl) (by rfl) (fun _ _ _ _ h => h) (fun K hK => ?_); go_big_quiet_op; refine hK _ ?_; clear hK K) | (refine T_two (by rfl) (by rfl) (by rfl) (by rfl) (fun _ _ _ _ h => h) (fun K hK => ?_); go_big_quiet_op; refine ⟨_, fun _ _ => rfl, ?_⟩; refine hK _ ?_; clear hK K; try simp only [Act.put, List.setIfInBounds_toArray, List.set_cons_zero, List.set_cons_succ]) | fail)
          (first | (refine T_skip (by rfl) (by rfl) (fun _ _ _ h => h) ?_; try simp only [Act.put, List.setIfInBounds_toArray, List.set_cons_zero, List.set_cons_succ]) | (refine T_pass (by rfl) (by rfl) ?_; try simp only [Act.put, List.setIfInBounds_toArray, List.set_cons_zero, List.set_cons_succ]) | (refine T_load (by assumption) (by rfl) (by rfl) (fun _ _ _ _ h => h) rfl rfl (by assumption) (by first | exact (fun hn => hn) | assumption) ?_; try simp only [Act.put, List.setIfInBounds_toArray, List.set_cons_zero, List.set_cons_succ]) | (refine T_nil (by rfl) (by rfl) (fun _ _ _ _ h => h) rfl rfl ?_; try simp only [Act.put, List.setIfInBounds_toArray, List.set_cons_zero, List.set_cons_succ]) | (refine T_quietN (by rfl) (by rfl) (by rfl) (by rfl) (fun _ _ _ _ h => h) (fun K hK => ?_); go_big_quiet_op; refine hK _ ?_; clear hK K) | (refine T_two (by rfl) (by rfl) (by rfl) (by rfl) (fun _ _ _ _ h => h) (fun K hK => ?_); go_big_quiet_op; refine ⟨_, fun _ _ => rfl, ?_⟩; refine hK _ ?_; clear hK K; try simp only [Act.put, List.setIfInBounds_toArray, List.set_cons_zero, List.set_cons_succ]) | fail)
          (first | (refine T_skip (by rfl) (by rfl) (fun _ _ _ h => h) ?_; try simp only [Act.put, List.setIfInBounds_toArray, List.set_cons_zero, List.set_cons_succ]) | (refine T_pass (by rfl) (by rfl) ?_; try simp only [Act.put, List.setIfInBounds_toArray, List.set_cons_zero, List.set_cons_succ]) | (refine T_load (by assumption) (by rfl) (by rfl) (fun _ _ _ _ h => h) rfl rfl (by assumption) (by first | exact (fun hn => hn) | assumption) ?_; try simp only [Act.put, List.setIfInBounds_toArray, List.set_cons_zero, List.set_cons_succ]) | (refine T_nil (by rfl) (by rfl) (fun _ _ _ _ h => h) rfl rfl ?_; try simp only [Act.put, List.setIfInBounds_toArray, List.set_cons_zero, List.set_cons_succ]) | (refine T_quietN (by rfl) (by rfl) (by rfl) (by rfl) (fun _ _ _ _ h => h) (fun K hK => ?_); go_big_quiet_op; refine hK _ ?_; clear hK K) | (refine T_two (by rfl) (by rfl) (by rfl) (by rfl) (fun _ _ _ _ h => h) (fun K hK => ?_); go_big_quiet_op; refine ⟨_, fun _ _ => rfl, ?_⟩; refine hK _ ?_; clear hK K; try simp only [Act.put, List.setIfInBounds_toArray, List.set_cons_zero, List.set_cons_succ]) | fail)
          refine T_turn No [] (by rfl) (by rfl) (by rfl) (fun K hK => ?_)
          refine wp_stA ag_obj.info _ _ rfl b9 0 _ _ [.int .i64 ra, .slice rA rn rc, .slice rD rm rd] _ rfl rfl rfl rfl (by intro u hu; simp at hu; rcases hu with rfl | rfl | rfl <;> rfl) hb9 (by decide) ?_
          intro wx10 hb10 hg10 hz10
          rw [splice_all _ _ (by rfl)] at hb10
          refine hK.out _ _ ?_
          clear hK K
          try simp only [Act.put, List.setIfInBounds_toArray, List.set_cons_zero, List.set_cons_succ]
          (first | (refine T_skip (by rfl) (by rfl) (fun _ _ _ h => h) ?_; try simp only [Act.put, List.setIfInBounds_toArray, List.set_cons_zero, List.set_cons_succ]) | (refine T_pass (by rfl) (by rfl) ?_; try simp only [Act.put, List.setIfInBounds_toArray, List.set_cons_zero, List.set_cons_succ]) | (refine T_load (by assumption) (by rfl) (by rfl) (fun _ _ _ _ h => h) rfl rfl (by assumption) (by first | exact (fun hn => hn) | assumption) ?_; try simp only [Act.put, List.setIfInBounds_toArray, List.set_cons_zero, List.set_cons_succ]) | (refine T_nil (by rfl) (by rfl) (fun _ _ _ _ h => h) rfl rfl ?_; try simp only [Act.put, List.setIfInBounds_toArray, List.set_cons_zero, List.set_cons_succ]) | (refine T_quietN (by rfl) (by rfl) (by rfl) (by rfl) (fun _ _ _ _ h => h) (fun K hK => ?_); go_big_quiet_op; refine hK _ ?_; clear hK K) | (refine T_two (by rfl) (by rfl) (by rfl) (by rfl) (fun _ _ _ _ h => h) (fun K hK => ?_); go_big_quiet_op; refine ⟨_, fun _ _ => rfl, ?_⟩; refine hK _ ?_; clear hK K; try simp only [Act.put, List.setIfInBounds_toArray, List.set_cons_zero, List.set_cons_succ]) | fail)
          refine T_done ?_
          go_wp2_with fail
          go_meet
          case rel => exact ⟨b9, ra, rA, rn, rc, rD, rm, rd, ren, lp, hperm, rfl, rfl, hb10, (hres.keep ((Fr.refl (fun b => b = b9) _).grown hg10 (fun q hq => by injection hq with hq; exact .inr hq.symm)) (fun b hb e => hb e)).mono (fun _ _ _ => trivial), hT.grown hg10 (fun q hq => by injection hq with hq; exact .inl (by omega))⟩
      case rest =>
        obtain ⟨g2, ra2, rA2, rn2, rc2, rD2, rm2, rd2, en2, lp, hperm, rfl, rfl, hbg2, hres2, hfc⟩ := hcut
        obtain ⟨w3, hw3⟩ : ∃ w3, w3 = wc := ⟨_, rfl⟩
        subst hw3
        have hFc := hFb.tr hfc
        have hbg1 := hbg1.fr0 hfc
        have hres1 := hres1.fr0 hfc
        rcases hres1 with ⟨_, rfl⟩ | ⟨l1, h1, rfl, ho1⟩
        · clear hres2
          go_wp2_with fail
          refine (known_calls _).mono ?_
          rintro e wz ⟨rfl, hfz⟩
          go_wp2
          go_ret
          exact ⟨rfl, (hFc.tr hfz)⟩
        · rcases hres2 with ⟨_, rfl⟩ | ⟨l2, h2, rfl, ho2⟩
          · go_wp2_with fail
            refine (known_calls _).mono ?_
            rintro e wz ⟨rfl, hfz⟩
            go_wp2
            go_ret
            exact ⟨rfl, (hFc.tr hfz)⟩
          · have hll := repl_order hperm HSORT.out h1 h2
            subst hll
            have k1 := hbg1.all
            have k2 := hbg2.all
            go_wp2_with (first
              | (refine wpList_ldA ag_obj rfl _ rfl ⟨g1, 0, none⟩ [.int .i64 ra1, .slice rA1 rn1 rc1, .slice rD1 rm1 rd1] rfl rfl k1 ?_)
              | (refine wpList_ldA ag_obj rfl _ rfl ⟨g2, 0, none⟩ [.int .i64 ra2, .slice rA2 rn2 rc2, .slice rD2 rm2 rd2] rfl rfl k2 ?_)
              | fail)
            refine (same_calls _ _ [.int .i64 ra1, .slice rA1 rn1 rc1, .slice rD1 rm1 rd1] [.int .i64 ra2, .slice rA2 rn2 rc2, .slice rD2 rm2 rd2] _ w3 ho1 ho2).mono ?_
            rintro e w4 ⟨rfl, hf4⟩
            go_wp2_with fail
            refine (known_calls _).mono ?_
            rintro e wz ⟨rfl, hfz⟩
            go_wp2
            go_ret
            exact ⟨rfl, ((hFc.tr hf4).tr hfz)⟩


end Go.Proofs.Ytgchpfennbggoaa
