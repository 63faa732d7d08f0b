/- rc.Replay over a Counter. No condition but size. -/
import Derived.Test.YtgchpfennbggoaaRcCount
namespace Go.Proofs.Ytgchpfennbggoaa
set_option linter.unusedVariables false
set_option linter.unusedSimpArgs false
open Go.RowKit

theorem opsC_append (a b : List OpM) : opsC (a ++ b) = opsC a ++ opsC b := by simp [opsC]
theorem opsC_len (l : List OpM) : (opsC l).length = l.length * 4 := by
  induction l with
  | nil => rfl
  | cons p l ih =>
    have : opsC (p :: l) = opcells p ++ opsC l := rfl
    rw [this, List.length_append, ih, List.length_cons]; simp [opcells]; omega
theorem opsC_one (l : List OpM) : ∀ u ∈ opsC l, u.oneCell' = true := by
  intro u hu
  obtain ⟨p, _, hp⟩ := List.mem_flatMap.1 hu
  simp [opcells] at hp
  rcases hp with rfl | rfl | rfl | rfl <;> rfl
theorem opsC_at {l : List OpM} {k : Nat} (hk : k < l.length) (j : Nat) (u : Value) (hu : (opcells l[k])[j]? = some u) : (opsC l)[k * 4 + j]? = some u := by
  have hj : j < 4 := by have := (List.getElem?_eq_some_iff.1 hu).1; simpa [opcells] using this
  have e : l = l.take k ++ (l[k] :: l.drop (k + 1)) := by rw [← List.drop_eq_getElem_cons hk, List.take_append_drop]
  have e2 : opsC l = opsC (l.take k) ++ (opcells l[k] ++ opsC (l.drop (k + 1))) := by
    conv => lhs; rw [e]
    rw [opsC_append]; rfl
  have hl : (opsC (l.take k)).length = k * 4 := by rw [opsC_len, List.length_take, Nat.min_eq_left (by omega)]
  rw [e2, List.getElem?_append_right (by omega), hl, show k * 4 + j - k * 4 = j by omega, List.getElem?_append_left (by simpa [opcells] using hj)]
  exact hu
def RdO (w : World) (S : Nat → Prop) (A : Option Addr) (l : List OpM) : Prop := Rd w S 4 A l.length (opsC l)
theorem RdO.at_ {w : World} {S : Nat → Prop} {A : Option Addr} {l : List OpM} (h : RdO w S A l) {k : Nat} (hk : k < l.length) :
    ∃ g o, A = some ⟨g, o, none⟩ ∧ S g ∧ ∀ j u, (opcells l[k])[j]? = some u → w.cell? ((⟨g, o + k * 4, none⟩ : Addr).add j) = some u := by
  obtain ⟨g, o, rfl, hS, hc⟩ := Rd.plain h (by omega) (by decide)
  refine ⟨g, o, rfl, hS, fun j u hu => ?_⟩
  have e : (⟨g, o + k * 4, none⟩ : Addr).add j = ⟨g, o + k * 4 + j, none⟩ := by unfold Addr.add; split <;> simp_all
  rw [e]
  have := hc _ u (opsC_at hk j u hu); rwa [← Nat.add_assoc] at this
theorem ag_op : AggOf Try.prog 41 4 := ⟨⟨_, Try.underlying41, rfl⟩, by kernel_rfl⟩
theorem so_op : SliceOf Try.prog 34 41 (.agg #[.int .i64 0, .bool false, .int .i64 0, .int .i64 0]) 4 32 := ⟨Try.underlying34, by kernel_rfl, rfl, by decide, by decide, by decide⟩
theorem results_blk2 {P : Program} {T : TypeId} {size : Nat} (he : AggOf P T size) {fn : Func} {p u : Tmp} (h : fn.results = #[.cell p T, .tmp u]) (tmps : Array Value) (w : World) (g : Nat) (t : TypeId) (cs : Array Value) (v : Value)
    (hp : tmps.getD p undef = .pointer (some ⟨g, 0, none⟩)) (hu : tmps.getD u undef = v) (hb : Blk w g t cs) (hs : cs.size = size) : (results fn tmps).run P w = .ok (.tuple #[.agg cs, v]) w := by
  obtain ⟨d, hd, hk⟩ := he.agg
  have hp' : tmps[p]?.getD undef = .pointer (some ⟨g, 0, none⟩) := by simpa using hp
  have hu' : tmps[u]?.getD undef = v := by simpa using hu
  have hl := run_loadVar_row w g t T cs (0, 0) d hb hd (by cases d <;> simp_all) (by rw [he.info, hs])
  simp [results, h, hp', hu', asAddr, hl]
/-- All that was done, one behind the other. -/
def runM (f : List VL → OpM → Option (List VL)) : List VL → List OpM → Option (List VL)
  | l, [] => some l
  | l, p :: ps => match f l p with | none => none | some l' => runM f l' ps
theorem runM_drop (f : List VL → OpM → Option (List VL)) (l : List VL) (ops : List OpM) {k : Nat} (hk : k < ops.length) : runM f l (ops.drop k) = match f l ops[k] with | none => none | some l' => runM f l' (ops.drop (k + 1)) := by
  rw [List.drop_eq_getElem_cons hk]; rfl
theorem countM_len {l l' : List VL} {p : OpM} (h : countM l p = some l') : l'.length = l.length := by
  cases l with
  | nil => cases h
  | cons s r =>
    unfold countM at h
    simp only at h
    split at h
    · injection h with h; subst h; rfl
    · cases h
/-- What Replay says. -/
def ReplR (w : World) (o : ObjM) (r : Option (List VL)) (e : Ending) (w' : World) : Prop :=
  Fr No w w' ∧ ((r = none ∧ e = .returned (.tuple #[.agg #[.int .i64 0, .slice none 0 0, .slice none 0 0], .int .i64 30])) ∨
    ∃ l cs, r = some l ∧ e = .returned (.tuple #[.agg cs.toArray, .int .i64 0]) ∧ ObjC w' (fun b => w.heap.size ≤ b) cs { o with slots := l })

set_option maxHeartbeats 4000000 in
set_option maxRecDepth 100000 in
theorem replay13_calls (S : Nat → Prop) (cs : List Value) (o : ObjM) (w : World) (A0 : Option Addr) (c0 : Nat) (ops : List OpM) (h : ObjC w S cs o) (hc : o.cls = 13) (h1 : o.slots.length ≤ 1048576) (hops : RdO w (fun b => b < w.heap.size) A0 ops) (hb : ∀ p ∈ ops, -9223372036854775808 ≤ p.v.n ∧ p.v.n ≤ 9223372036854775807) :
    Calls Try.prog 8 #[.agg cs.toArray, .slice A0 ops.length c0] w (ReplR w o (runM countM o.slots ops)) := by
  have hle := hops.2.1
  have ho := h
  obtain ⟨A, c, D, c2, rfl, hs, hbt⟩ := h
  obtain ⟨cls, slots, bytes⟩ := o
  simp only at hc h1 hs hbt
  subst hc
  simp only
  have HB := Lib.hid hb
  clear hb
  go_enter Try.func8, Try.ntmps8
  go_wp2_with (first
    | (refine wpList_ldA ag_obj rfl _ rfl ⟨w.heap.size, 0, none⟩ [.int .i64 13, .slice A slots.length c, .slice D bytes.length c2] rfl rfl (show ∀ j u, _ → ((w.alloc (.cells #[.int .i64 13, .slice A slots.length c, .slice D bytes.length c2] 25)).alloc (.cells #[.int .i64 0, .slice none 0 0, .slice none 0 0] 25)).cell? _ = some u from Blk.all (Blk.alloc (Blk.new w _ _) _)) ?_)
    | fail)
  -- the walk's rest
  have hf1 : Fr No w ((w.alloc (.cells #[.int .i64 13, .slice A slots.length c, .slice D bytes.length c2] 25)).alloc (.cells #[.int .i64 0, .slice none 0 0, .slice none 0 0] 25)) := ((Fr.refl No w).alloc _).alloc _
  have hbR1 : Blk ((w.alloc (.cells #[.int .i64 13, .slice A slots.length c, .slice D bytes.length c2] 25)).alloc (.cells #[.int .i64 0, .slice none 0 0, .slice none 0 0] 25)) (w.heap.size + 1) 25 #[.int .i64 0, .slice none 0 0, .slice none 0 0] := Blk.newAt (by simp)
  have hbX1 : Blk ((w.alloc (.cells #[.int .i64 13, .slice A slots.length c, .slice D bytes.length c2] 25)).alloc (.cells #[.int .i64 0, .slice none 0 0, .slice none 0 0] 25)) w.heap.size 25 #[.int .i64 13, .slice A slots.length c, .slice D bytes.length c2] := (Blk.new w _ _).alloc _
  have hs1 : ((w.alloc (.cells #[.int .i64 13, .slice A slots.length c, .slice D bytes.length c2] 25)).alloc (.cells #[.int .i64 0, .slice none 0 0, .slice none 0 0] 25)).heap.size = w.heap.size + 1 + 1 := by simp
  refine (ocopy_calls S [.int .i64 13, .slice A slots.length c, .slice D bytes.length c2] ⟨13, slots, bytes⟩ _ (ho.fr0 hf1) (by simp only; omega)).mono ?_
  rintro e w2 ⟨cs', rfl, hown, hf2⟩
  rw [hs1] at hown
  obtain ⟨A2, c2', D2, d2, M, rfl, hso, hMl, hbo, hBM⟩ := hown
  simp only at hso hMl hbo
  have hbR2 := hbR1.fr0 hf2
  have hbX2 := hbX1.fr0 hf2
  have hF2 := hf1.tr hf2
  have hsz2 : w.heap.size + 1 + 1 ≤ w2.heap.size := by have := hf2.size; omega
  have q0 := hbX2.cell 0
  simp only [List.getElem?_toArray, List.getElem?_cons_zero, List.getElem?_cons_succ] at q0
  clear hbR1 hbX1 hf1 hf2 hs1
  have hle2 := RdB.le hbt
  obtain ⟨_, _, e9, _, _, hD2⟩ := own_form hbo
  injection e9 with e91 e92 e93
  subst e91 e93
  have hbox : BoxAt (w2.alloc (.cells #[.int .i64 13, .slice A2 slots.length c2', .slice D2 bytes.length d2] 25)) w2.heap.size (w.heap.size + 1 + 1) ⟨13, slots, bytes⟩ := by
    refine ⟨A2, c2', D2, d2, Blk.new w2 _ _, own_fr0 hso ((Fr.refl No w2).alloc _), fun b hb => by have := (hso.lt b hb).2; omega, ?_⟩
    refine Rd.mono (Rd.fr0 (own_rd hbo hle2) ((Fr.refl No w2).alloc _)) (fun b _ hb => ⟨⟨?_, fun h3 => ?_⟩, ?_⟩) (by decide)
    · have := (hbo.lt b ((hD2 b).2 hb)).2; omega
    · have := (hbo.lt b ((hD2 b).2 hb)).1; have := hMl b h3; omega
    · have := (hbo.lt b ((hD2 b).2 hb)).1; omega
  have hfB : Fr No w2 (w2.alloc (.cells #[.int .i64 13, .slice A2 slots.length c2', .slice D2 bytes.length d2] 25)) := (Fr.refl No w2).alloc _
  have q0a := (hbX2.fr0 hfB).cell 0
  simp only [List.getElem?_toArray, List.getElem?_cons_zero, List.getElem?_cons_succ] at q0a
  go_wp2_with fail
  generalize hw3 : w2.alloc (.cells #[.int .i64 13, .slice A2 slots.length c2', .slice D2 bytes.length d2] 25) = w3 at *
  clear hw3
  obtain ⟨g, hg⟩ : ∃ g, g = w2.heap.size := ⟨_, rfl⟩
  have hsz3 := hfB.size
  have hF3 := hF2.tr hfB
  have hbR3 := hbR2.fr0 hfB
  have hgl : w.heap.size + 1 + 1 ≤ g := by omega
  rw [← hg] at hbox ⊢
  clear hg hbX2 q0 q0a hbR2 hfB hso hMl hbo hD2 hF2
  go_loopw [20] (fun i wr => ∃ (k : Nat) (l : List VL), k ≤ ops.length ∧ i = .int .i64 (k : Int) ∧ BoxAt wr g (w.heap.size + 1 + 1) ⟨13, l, bytes⟩ ∧ l.length ≤ 1048576 ∧ Hid (runM countM slots ops = runM countM l (ops.drop k)) ∧ Fr (fun b => w.heap.size + 1 + 1 ≤ b) w3 wr) (fun i _ => ops.length - (intOf i).toNat)
  case atStart => exact ⟨0, slots, by omega, rfl, hbox, h1, Lib.hid rfl, Fr.refl _ _⟩
  case round =>
    obtain ⟨k, l, hk, rfl, hbox, hl, HR, hf⟩ := hrel
    have hszr := hf.size
    have hfW : Fr No w wr := hF3.trans hf (fun b hb hT => by omega)
    have hbR := hbR3.fr hf (fun hT => by omega)
    by_cases hlt : k < ops.length
    · have ek : decide ((k : Int) < ops.length) = true := by simpa using (by omega : (k : Int) < ops.length)
      obtain ⟨go, of, rfl, _, hco⟩ := RdO.at_ (w := wr) (S := fun b => b < w.heap.size) (A := A0) (l := ops) (Rd.fr hops hfW (fun _ _ hn => hn)) hlt
      have hpb := HB.out _ (List.getElem_mem hlt)
      have hdr := runM_drop countM l ops hlt
      have HD := Lib.hid (HR.out.trans hdr)
      clear hdr
      generalize ops[k] = p at *
      have hbo := Blk.new wr 41 (opcells p).toArray
      have hfo : Fr No wr (wr.alloc (.cells (opcells p).toArray 41)) := (Fr.refl No wr).alloc _
      unfold opcells at hco hbo hfo
      go_wp2_with (first
        | (refine wpList_ldA ag_op rfl _ rfl ⟨go, of + k * 4, none⟩ [.int .i64 p.oop, .bool p.add, .int .i64 p.v.k, .int .i64 p.v.n] rfl rfl hco ?_)
        | (refine wpList_ldA ag_op rfl _ rfl ⟨wr.heap.size, 0, none⟩ [.int .i64 p.oop, .bool p.add, .int .i64 p.v.k, .int .i64 p.v.n] rfl rfl hbo.all ?_)
        | fail)
      refine (count_calls2 _ g (w.heap.size + 1 + 1) ⟨13, l, bytes⟩ p (hbox.fr0 hfo) hpb hl).mono ?_
      rintro e w4 (⟨hn, rfl, hbox4, hf4⟩ | ⟨l', hsome, rfl, hbox4, hf4⟩)
      · have HN := Lib.hid (show runM countM slots ops = none by rw [HD.out]; simp only at hn; rw [hn])
        have hbR4 := (hbR.fr0 hfo).fr0 hf4
        clear hn
        go_wp2_with (first
          | (refine wpList_stA ag_obj.info rfl _ _ rfl (w.heap.size + 1) 0 _ _ [.int .i64 0, .slice none 0 0, .slice none 0 0] _ rfl rfl rfl rfl (by intro u hu; simp at hu; rcases hu with rfl | rfl | rfl <;> rfl) hbR4 (by decide) ?_; intro w5 hb5 hg5 hz5)
          | fail)
        rw [splice_all _ _ (by rfl)] at hb5
        refine bodyPost_ret (results_blk2 ag_obj rfl _ _ _ _ _ _ rfl rfl hb5 rfl) rfl ?_
        rw [HN.out]
        exact ⟨((hfW.tr hfo).tr hf4).grown hg5 (fun q hq => by injection hq with hq; exact .inl (by omega)), .inl ⟨rfl, rfl⟩⟩
      · simp only at hsome hbox4
        have HN := Lib.hid (show runM countM slots ops = runM countM l' (ops.drop (k + 1)) by rw [HD.out, hsome])
        have hl' := countM_len hsome
        clear hsome
        go_wp2
        go_roundw
        case rel => exact ⟨k + 1, l', by omega, by go_num, hbox4, by omega, HN, (hf.trans (hfo.mono (fun _ _ hn => hn.elim)) (fun _ _ hb => hb)).trans hf4 (fun b hb hT => hT.elim (fun h => by omega) id)⟩
        case measure => simp [intOf]; omega
    · obtain rfl : k = ops.length := by omega
      have ek : decide ((ops.length : Int) < ops.length) = false := by simp
      have HN := Lib.hid (show runM countM slots ops = some l by have := HR.out; rw [List.drop_length] at this; exact this)
      obtain ⟨Al, cl, Dl, dl, hbg, hol, hgol, hdl⟩ := id hbox
      have HGO := Lib.hid hgol
      clear hgol
      simp only at hbg hol hdl
      go_wp2_with (first
        | (refine wpList_ldA ag_obj rfl _ rfl ⟨g, 0, none⟩ [.int .i64 13, .slice Al l.length cl, .slice Dl bytes.length dl] rfl rfl hbg.all ?_)
        | (refine wpList_stA ag_obj.info rfl _ _ rfl (w.heap.size + 1) 0 _ _ [.int .i64 13, .slice Al l.length cl, .slice Dl bytes.length dl] _ rfl rfl rfl rfl (by intro u hu; simp at hu; rcases hu with rfl | rfl | rfl <;> rfl) hbR (by decide) ?_; intro w5 hb5 hg5 hz5)
        | fail)
      rw [splice_all _ _ (by rfl)] at hb5
      refine bodyPost_ret (results_blk2 ag_obj rfl _ _ _ _ _ _ rfl rfl hb5 rfl) rfl ?_
      rw [HN.out]
      have hFw := hfW.grown hg5 (fun q hq => by injection hq with hq; exact .inl (by omega))
      obtain ⟨_, _, e9, _, _, hDl⟩ := own_form hol
      injection e9 with e91 e92 e93
      subst e91
      refine ⟨hFw, .inr ⟨l, _, rfl, rfl, Al, cl, Dl, dl, rfl, ?_, ?_⟩⟩
      · refine Rd.mono (Rd.grown (own_rd hol (show l.length ≤ 211106232532992 by omega)) hg5 (fun q hq hb => ?_)) (fun b _ hb => ?_) (by decide)
        · injection hq with hq; have := (hol.lt q ((hDl q).2 hb)).1; omega
        · have := (hol.lt b ((hDl b).2 hb)).1; omega
      · refine Rd.mono (Rd.grown hdl hg5 (fun q hq hb => ?_)) (fun b _ hb => ?_) (by decide)
        · injection hq with hq; have := hb.2; omega
        · have := hb.2; omega
end Go.Proofs.Ytgchpfennbggoaa
