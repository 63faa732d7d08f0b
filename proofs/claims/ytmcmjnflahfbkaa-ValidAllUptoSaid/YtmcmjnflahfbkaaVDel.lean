/- slices.IndexFunc, slices.DeleteFunc over a row of the call's own, with the closure of valid.least. No condition. -/
import Derived.Test.YtmcmjnflahfbkaaVSet
namespace Go.Proofs.Ytmcmjnflahfbkaa
set_option linter.unusedVariables false
set_option linter.unusedSimpArgs false
open Go.RowKit Go.Maps

section
variable {P : Program} {t e : TypeId} {z : Value} {bytes : Nat}
theorem zero_run (he : SliceOf P t e z 1 bytes) (w : World) : (zeroValue e).run P w = .ok z w := by
  obtain ⟨i, hi, hz, _, _⟩ := info_parts he.info
  simp [zeroValue, typeInfo, hi, hz]
theorem run_clear (w : World) (he : SliceOf P t e z 1 bytes) (hzc : z.cells = #[z]) (h1 : z.oneCell' = true) (ty : TypeId) {g o n c : Nat} {e' : TypeId} {cur : Array Value} (hg : Blk w g e' cur) (hfit : o + n ≤ cur.size) (hn : 0 < n) :
    (Builtin.clear_ #[t] ty #[.slice (some ⟨g, o, none⟩) n c]).run P w = .ok (.tuple #[]) (w.setRow g (cur.toList.take o ++ List.replicate n z ++ cur.toList.drop (o + n)).toArray) := by
  have hzs : (Builtin.zeroCells z.cells n).toList = List.replicate n z := by
    rw [hzc]
    simp [Builtin.zeroCells]
    apply List.ext_getElem
    · simp
    · intro i h1 h2
      simp [Nat.mod_one]
  have hst := run_storeCells_at P g o e' (List.replicate n z) 0 cur w hg (by simpa using hfit) (by intro v hv; rw [List.eq_of_mem_replicate hv]; exact h1)
  simp only [Nat.add_zero, List.length_replicate] at hst
  obtain ⟨m, rfl⟩ : ∃ m, n = m + 1 := ⟨n - 1, by omega⟩
  simp [Builtin.clear_, run_underlying he.ut, zero_run he, hzs, hst]
theorem wpList_clear {w : World} {ops : Array Oper} {rest : List Oper} {op : Oper} {a : Act} {Q : Exit → Act → World → Prop} (he : SliceOf P t e z 1 bytes) (hzc : z.cells = #[z]) (h1 : z.oneCell' = true)
    (hw : Region.wanted op (yielded ops a.tmps) = true) {s : Operand} (ho : op.op = .call { callee := .builtin .clear, args := #[s], argTypes := #[t] }) {g o n c : Nat} {e' : TypeId} {cur : Array Value} {B : Option Addr}
    (hs : a.eval s = .slice B n c) (hB : 0 < n → B = some ⟨g, o, none⟩) (hg : Blk w g e' cur) (hfit : o + n ≤ cur.size)
    (hk : ∀ w' cs, Blk w' g e' cs → cs.size = cur.size → cs.toList.take o = cur.toList.take o → w.grownBy w' (some g) → wpList P ops Q rest (a.put op.dst (.tuple #[])) w') : wpList P ops Q (op :: rest) a w := by
  have key : ∃ w' cs, (Builtin.clear_ #[t] op.type #[.slice B n c]).run P w = .ok (.tuple #[]) w' ∧ Blk w' g e' cs ∧ cs.size = cur.size ∧ cs.toList.take o = cur.toList.take o ∧ w.grownBy w' (some g) := by
    rcases Nat.eq_zero_or_pos n with rfl | hn
    · refine ⟨w, cur, ?_, hg, rfl, rfl, World.grownBy.refl w _⟩
      cases B <;> simp [Builtin.clear_, run_underlying he.ut]
    · obtain rfl := hB hn
      refine ⟨_, _, run_clear w he hzc h1 op.type hg hfit hn, setRow_heap w g cur _ e' _ hg, ?_, ?_, ⟨rfl, rfl, rfl, by simp, fun k _ hk => setRow_other w g k _ (fun e => hk (by rw [e]))⟩⟩
      · simp only [List.size_toArray, List.length_append, List.length_take, List.length_replicate, List.length_drop, Array.length_toList]; omega
      · have hl : (cur.toList.take o).length = o := by rw [List.length_take, Array.length_toList]; omega
        show (cur.toList.take o ++ List.replicate n z ++ cur.toList.drop (o + n)).take o = _
        rw [List.append_assoc, List.take_append_of_le_length (by omega), List.take_take, Nat.min_self]
  obtain ⟨w', cs, hrun, k1, k2, k3, k4⟩ := key
  refine BigFrame.wpList_want hw fun K hK => ?_
  unfold Oper.wp execOp
  simp only [ho, resolve, invoke, builtin, Sem.run_bind, Sem.run_pure, Result.andThen_ok, List.map_toArray, List.map_cons, List.map_nil, hs, hrun]
  exact hK _ _ (hk w' cs k1 k2 k3 k4)
end

/-- The first place of one that is not of m. -/
def idxM (m : List Int) : List Int → Option Nat
  | [] => none
  | x :: l => if x ∈ m then (idxM m l).map (· + 1) else some 0
theorem idxM_take {m l : List Int} {k : Nat} (hk : k < l.length) (h : ∀ x ∈ l.take k, x ∈ m) (hx : l[k] ∉ m) : idxM m l = some k := by
  induction l generalizing k with
  | nil => simp at hk
  | cons y l ih =>
    cases k with
    | zero => rw [idxM, if_neg (by simpa using hx)]
    | succ k =>
      rw [idxM, if_pos (h y (by simp)), ih (k := k) (by simpa using hk) (fun x hx => h x (by simp [hx])) (by simpa using hx)]
      rfl
theorem idxM_none {m l : List Int} (h : ∀ x ∈ l, x ∈ m) : idxM m l = none := by
  induction l with
  | nil => rfl
  | cons y l ih => rw [idxM, if_pos (h y (by simp)), ih (fun x hx => h x (by simp [hx]))]; rfl
theorem idxM_some {m l : List Int} {k : Nat} (h : idxM m l = some k) : k < l.length ∧ ∀ x ∈ l.take k, x ∈ m := by
  induction l generalizing k with
  | nil => cases h
  | cons y l ih =>
    rw [idxM] at h
    split at h
    · rename_i hy
      cases hq : idxM m l with
      | none => rw [hq] at h; cases h
      | some q =>
        rw [hq] at h
        obtain rfl := Option.some.inj h
        obtain ⟨h1, h2⟩ := ih hq
        refine ⟨by simpa using h1, fun x hx => ?_⟩
        rw [List.take_succ_cons] at hx
        rcases List.mem_cons.1 hx with rfl | hx
        · exact hy
        · exact h2 x hx
    · obtain rfl := Option.some.inj h
      exact ⟨by simp, by simp⟩
def idxZ : Option Nat → Int
  | none => -1
  | some k => k
abbrev clos (v : Nat) : Value := .func (.func 32) #[] #[.pointer (some ⟨v, 0, none⟩)]

theorem index_calls (S : Nat → Prop) (A : Option Addr) (c v b nn : Nat) (l m : List Int) (w : World) (h : RdI w S A l) (hwf : Wf l) (hv : w.cell? ⟨v, 0, none⟩ = some (.map (some b))) (hs : SetAt w b nn m) :
    Calls Try.prog 35 #[.slice A l.length c, clos v] w fun e w' => e = .returned (.int .i64 (idxZ (idxM m l))) ∧ w = w' := by
  have hle := h.le
  go_enter Try.func35, Try.ntmps35
  go_wp2
  go_loop [8] (fun i => ∃ k : Nat, k ≤ l.length ∧ i = .int .i64 k ∧ ∀ x ∈ l.take k, x ∈ m) (fun i => l.length - (intOf i).toNat)
  case atStart => exact ⟨0, by omega, rfl, by simp⟩
  case round =>
    obtain ⟨k, hk, rfl, hm⟩ := hrel
    by_cases hlt : k < l.length
    · obtain ⟨ad, hA, _, hcell⟩ := h.at_ hlt
      have hwx := hwf _ (List.getElem_mem hlt)
      have htk : l.take (k + 1) = l.take k ++ [l[k]] := by rw [List.take_add_one, List.getElem?_eq_getElem hlt]; rfl
      have HT := Lib.hid htk
      have HI := Lib.hid (fun hx => idxM_take hlt hm hx)
      have HM := Lib.hid hm
      clear htk hm
      subst hA
      generalize l[k] = x at *
      have ek : decide ((k : Int) < l.length) = true := by simpa using (by omega : (k : Int) < l.length)
      go_wp2_with fail
      refine (notmine_calls x v b nn m 0 w hwx hv hs).mono ?_
      rintro e _ ⟨rfl, rfl⟩
      by_cases hx : x ∈ m
      · have H := Lib.hid (show decide (x ∈ m) = true by simpa using hx)
        rw [H.out]
        have HX := Lib.hid hx
        clear hx
        go_wp2
        go_round
        case rel => exact ⟨k + 1, by omega, by go_num, by rw [HT.out]; intro y hy; rcases List.mem_append.1 hy with hy | hy; exact HM.out y hy; obtain rfl := List.mem_singleton.1 hy; exact HX.out⟩
        case measure => simp [intOf]; omega
      · have H := Lib.hid (show decide (x ∈ m) = false by simpa using hx)
        rw [H.out]
        have HI' := Lib.hid (HI.out hx)
        clear hx
        go_wp2
        go_ret
        exact ⟨by rw [HI'.out]; rfl, rfl⟩
    · obtain rfl : k = l.length := by omega
      rw [List.take_length] at hm
      have HI := Lib.hid (idxM_none hm)
      clear hm
      go_wp2
      go_ret
      exact ⟨by rw [HI.out]; rfl, rfl⟩

def keepM (m l : List Int) : List Int := l.filter (fun x => decide (x ∈ m))
theorem keepM_all {m l : List Int} (h : ∀ x ∈ l, x ∈ m) : keepM m l = l := List.filter_eq_self.2 (fun x hx => by simpa using h x hx)
theorem keepM_hit {m l : List Int} {x : Int} (h : x ∈ m) : keepM m (l ++ [x]) = keepM m l ++ [x] := by unfold keepM; rw [List.filter_append]; simp [h]
theorem keepM_miss {m l : List Int} {x : Int} (h : x ∉ m) : keepM m (l ++ [x]) = keepM m l := by unfold keepM; rw [List.filter_append]; simp [h]
theorem keepM_len (m l : List Int) : (keepM m l).length ≤ l.length := List.length_filter_le _ _
theorem idxM_not {m l : List Int} {k : Nat} (h : idxM m l = some k) (hk : k < l.length) : l[k] ∉ m := by
  induction l generalizing k with
  | nil => cases h
  | cons y l ih =>
    rw [idxM] at h
    split at h
    · cases hq : idxM m l with
      | none => rw [hq] at h; cases h
      | some q =>
        rw [hq] at h
        obtain rfl := Option.some.inj h
        exact ih hq (by simpa using hk)
    · obtain rfl := Option.some.inj h
      assumption
theorem take_set_I64 {cs : Array Value} {F : List Int} {i : Nat} {x : Int} (hi : i = F.length) (h : cs.toList.take i = I64 F) (hs : i < cs.size) :
    (cs.setIfInBounds i (.int .i64 x)).toList.take (i + 1) = I64 (F ++ [x]) := by
  rw [Array.toList_setIfInBounds, List.take_add_one, List.take_set, List.getElem?_set_self (by simpa using hs), I64_append, ← h]
  have : ((cs.toList.take i).set i (Value.int .i64 x)) = cs.toList.take i := List.set_eq_of_length_le (by rw [List.length_take]; omega)
  rw [this]; rfl

set_option maxHeartbeats 1000000 in
theorem delete_calls (A : Option Addr) (c v b nn base : Nat) (l m : List Int) (w : World) (h : w.ownsRow base 2 1 (.slice A l.length c) l.length (I64 l)) (hle : l.length ≤ 211106232532992) (hwf : Wf l)
    (hv : w.cell? ⟨v, 0, none⟩ = some (.map (some b))) (hs : SetAt w b nn m) (hvb : v < base) (hbb : b < base) :
    Calls Try.prog 31 #[.slice A l.length c, clos v] w fun e w' =>
      ∃ v', e = .returned v' ∧ w'.ownsRow base 2 1 v' (keepM m l).length (I64 (keepM m l)) ∧ Fr (fun b => A.map (·.block) = some b) w w' := by
  have hix := index_calls _ A c v b nn l m w (own_rdI h rfl hle) hwf hv hs
  cases hi : idxM m l with
  | none =>
    have HK : keepM m l = l := by
      refine keepM_all fun x hx => ?_
      obtain ⟨k, hk, rfl⟩ := List.mem_iff_getElem.1 hx
      refine Classical.byContradiction fun hn => ?_
      have hall : ∀ (n : Nat), n ≤ l.length → ∀ y ∈ l.take n, y ∈ m := by
        intro n
        induction n with
        | zero => intro _ y hy; simp at hy
        | succ n ih =>
          intro hn2 y hy
          rw [List.take_add_one, List.getElem?_eq_getElem (by omega)] at hy
          rcases List.mem_append.1 hy with hy | hy
          · exact ih (by omega) y hy
          · obtain rfl := List.mem_singleton.1 hy
            refine Classical.byContradiction fun hnm => ?_
            rw [idxM_take (show n < l.length by omega) (ih (by omega)) hnm] at hi
            cases hi
      have := hall l.length (Nat.le_refl _) l[k] (by rw [List.take_length]; exact hx)
      exact hn this
    rw [hi] at hix
    rw [HK]
    clear hi HK
    go_enter Try.func31, Try.ntmps31
    go_wp2_with fail
    refine hix.mono ?_
    rintro e _ ⟨rfl, rfl⟩
    go_wp2
    go_ret
    exact ⟨_, rfl, h, Fr.refl _ _⟩
  | some i0 =>
    obtain ⟨hi1, hi2⟩ := idxM_some hi
    have hi3 := idxM_not hi hi1
    rw [hi] at hix
    clear hi
    rcases id h.2 with ⟨hv', hn0⟩ | ⟨g, cap, cur, hv', hgb, hgg, k1, k2, k3, k4⟩
    · omega
    · injection hv' with hA _ hc
      subst hA hc
      clear h
      rw [Nat.mul_one] at k3 k4
      have htk0 : l.take (i0 + 1) = l.take i0 ++ [l[i0]] := by rw [List.take_add_one, List.getElem?_eq_getElem hi1]; rfl
      have hF0 : keepM m (l.take (i0 + 1)) = l.take i0 := by rw [htk0, keepM_miss hi3, keepM_all hi2]
      have hl0 : (l.take i0).length = i0 := by rw [List.length_take]; omega
      go_enter Try.func31, Try.ntmps31
      go_wp2_with fail
      refine hix.mono ?_
      rintro e _ ⟨rfl, rfl⟩
      have ei : ((i0 : Int) == -1) = false := by rw [beq_eq_false_iff_ne]; omega
      unfold idxZ
      go_wp2
      go_loopw [5, 6] (fun i j wr => ∃ (jn k : Nat) (cs : Array Value), k < jn ∧ jn ≤ l.length ∧ i = .int .i64 k ∧ j = .int .i64 jn ∧ k = (keepM m (l.take jn)).length ∧ Blk wr g 2 cs ∧ cs.size = c ∧
          cs.toList.take k = I64 (keepM m (l.take jn)) ∧ (∀ q x, jn ≤ q → l[q]? = some x → cs[q]? = some (.int .i64 x)) ∧ Fr (fun b => g = b) w wr) (fun _ j _ => l.length - (intOf j).toNat)
      case atStart =>
        refine ⟨i0 + 1, i0, cur, by omega, by omega, rfl, rfl, by rw [hF0, hl0], hgg, by omega, ?_, ?_, Fr.refl _ _⟩
        · rw [hF0]
          have := congrArg (List.take i0) k4
          rw [List.take_take, Nat.min_eq_left (by omega)] at this
          rw [this]; simp [I64, List.map_take]
        · intro q x _ hx
          have hq := (List.getElem?_eq_some_iff.1 hx).1
          have h1 : (cur.toList.take l.length)[q]? = some (.int .i64 x) := by rw [k4]; simp [I64, hx]
          rw [List.getElem?_take_of_lt hq] at h1
          simpa using h1
      case round =>
        obtain ⟨jn, k, cs, hkj, hj, rfl, rfl, hk, hb, hsz, htk, hcs, hf⟩ := hrel
        have HF := Lib.hid hk
        have HTK := Lib.hid htk
        clear hk htk
        have hs' := hs.fr hf (fun hh => by omega)
        have hv' := hf.cell_some hv (fun hh => by simp at hh; omega)
        by_cases hlt : jn < l.length
        · have hcell : wr.cell? ⟨g, jn, none⟩ = some (.int .i64 l[jn]) := (hb.cell jn).trans (hcs jn _ (Nat.le_refl _) (List.getElem?_eq_getElem hlt))
          have hwx := hwf _ (List.getElem_mem hlt)
          have htk : l.take (jn + 1) = l.take jn ++ [l[jn]] := by rw [List.take_add_one, List.getElem?_eq_getElem hlt]; rfl
          have HT := Lib.hid htk
          clear htk
          generalize l[jn] = x at *
          obtain ⟨u1, hu1⟩ : ∃ u, wr.cell? ⟨g, k, none⟩ = some u := ⟨_, (hb.cell k).trans (Array.getElem?_eq_getElem (by omega))⟩
          have hfz := hb.frozen k
          have ek : decide ((jn : Int) < l.length) = true := by simpa using (by omega : (jn : Int) < l.length)
          have ekk : decide ((k : Int) < l.length) = true := by simpa using (by omega : (k : Int) < l.length)
          go_wp2_with fail
          refine (notmine_calls x v b nn m 0 wr hwx hv' hs').mono ?_
          rintro e _ ⟨rfl, rfl⟩
          by_cases hx : x ∈ m
          · have H := Lib.hid (show decide (x ∈ m) = true by simpa using hx)
            rw [H.out]
            have HX := Lib.hid hx
            clear hx
            go_wp2
            go_roundw
            case rel =>
              refine ⟨jn + 1, k + 1, _, by omega, by omega, by go_num, by go_num, by rw [HT.out, keepM_hit HX.out, List.length_append, ← HF.out]; rfl, hb.put _ _, by simpa using hsz, ?_, ?_, hf.set (.inr rfl) _⟩
              · rw [HT.out, keepM_hit HX.out]; exact take_set_I64 HF.out HTK.out (by omega)
              · intro q y hq hy
                rw [Array.getElem?_setIfInBounds, if_neg (by omega)]
                exact hcs q y (by omega) hy
            case measure => simp [intOf]; omega
          · have H := Lib.hid (show decide (x ∈ m) = false by simpa using hx)
            rw [H.out]
            have HX := Lib.hid hx
            clear hx
            go_wp2
            go_roundw
            case rel => exact ⟨jn + 1, k, cs, by omega, by omega, rfl, by go_num, by rw [HT.out, keepM_miss HX.out, ← HF.out], hb, hsz, by rw [HT.out, keepM_miss HX.out]; exact HTK.out, fun q y hq hy => hcs q y (by omega) hy, hf⟩
            case measure => simp [intOf]; omega
        · obtain rfl : jn = l.length := by omega
          have hF := HF.out
          have hT := HTK.out
          rw [List.take_length] at hF hT
          have HF' := Lib.hid hF
          have HT' := Lib.hid hT
          clear hF hT HF HTK
          have ek : decide ((l.length : Int) < l.length) = false := by simp
          have hkc : ¬ c = k := by omega
          have hfk : k + (l.length - k) ≤ cs.size := by omega
          go_wp2_with (refine wpList_clear so_i64 rfl rfl rfl rfl rfl (fun _ => rfl) hb hfk ?_; intro w2 cs2 hb2 hsz2 ht2 hg2)
          go_ret
          have hF := HF'.out
          have hT := HT'.out
          refine ⟨_, rfl, ?_, (hf.grown hg2 (by rintro q hq; injection hq with hq; subst hq; exact .inr rfl)).mono (fun q _ hq => by simpa using hq)⟩
          rw [← hF, ← hT]
          exact ⟨by rw [List.length_take, Array.length_toList]; omega, .inr ⟨g, c, cs2, rfl, hgb, hb2, by omega, k2, by omega, by rw [Nat.mul_one, ht2]⟩⟩
end Go.Proofs.Ytmcmjnflahfbkaa
