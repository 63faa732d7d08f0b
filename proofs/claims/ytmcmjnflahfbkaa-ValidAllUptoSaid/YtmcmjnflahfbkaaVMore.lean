/- Lists of sessions, joined and cut; more of all clashes still. No condition. -/
import Derived.Test.YtmcmjnflahfbkaaVBulk
import Derived.Test.YtmcmjnflahfbkaaCount
namespace Go.Proofs.Ytmcmjnflahfbkaa
set_option linter.unusedVariables false
set_option linter.unusedSimpArgs false
open Go.RowKit Go.Maps

theorem so_rtxn : SliceOf Try.prog 22 25 (.agg #[.int .i64 0, .int .i64 0, .slice none 0 0, .slice none 0 0]) 4 64 := ⟨Try.underlying22, by kernel_rfl, rfl, by decide, by decide, by decide⟩
theorem own_map (A : Option Addr) (n c : Nat) : (Value.slice A n c).ownBlock = A.map (·.block) := by cases A <;> rfl
theorem TxnC.one {w : World} {S : Nat → Prop} {cs : List Value} {t : Txn} (h : TxnC w S cs t) : ∀ u ∈ cs, u.oneCell' = true := by
  obtain ⟨_, _, _, _, rfl, _, _⟩ := h
  intro u hu; simp at hu; rcases hu with rfl | rfl | rfl | rfl <;> rfl
theorem TxnsC.one {w : World} {S : Nat → Prop} : ∀ {ts : List Txn} {xs : List Value}, TxnsC w S xs ts → ∀ u ∈ xs, u.oneCell' = true
  | [], xs, h => by
    have h : xs = [] := h
    subst h; intro u hu; cases hu
  | t :: ts, xs, ⟨cs, rest, e, hc, hr⟩ => by
    subst e
    intro u hu
    rcases List.mem_append.1 hu with hu | hu
    · exact hc.one u hu
    · exact TxnsC.one hr u hu
theorem TxnsC.len {w : World} {S : Nat → Prop} : ∀ {ts : List Txn} {xs : List Value}, TxnsC w S xs ts → xs.length = ts.length * 4
  | [], xs, h => by
    have h : xs = [] := h
    subst h; rfl
  | t :: ts, xs, ⟨cs, rest, e, hc, hr⟩ => by subst e; rw [List.length_append, hc.len, TxnsC.len hr, List.length_cons]; omega
theorem TxnsC.append {w : World} {S : Nat → Prop} : ∀ {ts us : List Txn} {xs ys : List Value}, TxnsC w S xs ts → TxnsC w S ys us → TxnsC w S (xs ++ ys) (ts ++ us)
  | [], us, xs, ys, h, h2 => by
    have h : xs = [] := h
    subst h; exact h2
  | t :: ts, us, xs, ys, ⟨cs, rest, e, hc, hr⟩, h2 => ⟨cs, rest ++ ys, by rw [e, List.append_assoc], hc, TxnsC.append hr h2⟩
theorem TxnsC.cut {w : World} {S : Nat → Prop} : ∀ {ts : List Txn} {xs : List Value} (k : Nat), TxnsC w S xs ts → k ≤ ts.length → TxnsC w S (xs.take (k * 4)) (ts.take k) ∧ TxnsC w S (xs.drop (k * 4)) (ts.drop k)
  | ts, xs, 0, h, _ => by simpa using (⟨rfl, h⟩ : TxnsC w S [] [] ∧ TxnsC w S xs ts)
  | [], xs, k + 1, h, hk => absurd hk (by simp)
  | t :: ts, xs, k + 1, ⟨cs, rest, e, hc, hr⟩, hk => by
    obtain ⟨h1, h2⟩ := TxnsC.cut k hr (by simpa using hk)
    subst e
    have hl := hc.len
    refine ⟨⟨cs, rest.take (k * 4), ?_, hc, h1⟩, ?_⟩
    · rw [List.take_append, hl, List.take_of_length_le (by omega), show (k + 1) * 4 - 4 = k * 4 by omega]
    · rw [List.drop_append, hl, List.drop_eq_nil_of_le (by omega), List.nil_append, show (k + 1) * 4 - 4 = k * 4 by omega]
      exact h2
theorem minL_some {l : List Int} {n : Int} (h : minL l = some n) : n ∈ l ∧ ∀ x ∈ l, n ≤ x := by
  induction l generalizing n with
  | nil => cases h
  | cons y l ih =>
    rw [minL_cons] at h
    cases hq : minL l with
    | none =>
      rw [minL_none] at hq; subst hq
      obtain rfl := Option.some.inj h
      simp
    | some m =>
      rw [hq] at h
      obtain rfl := Option.some.inj h
      obtain ⟨h1, h2⟩ := ih hq
      refine ⟨?_, fun x hx => ?_⟩
      · rcases Int.le_total y m with hh | hh
        · rw [Int.min_eq_left hh]; simp
        · rw [Int.min_eq_right hh]; simp [h1]
      · rcases List.mem_cons.1 hx with rfl | hx
        · exact Int.min_le_left _ _
        · exact Int.le_trans (Int.min_le_right _ _) (h2 x hx)
theorem minL_sub {l l' : List Int} {n : Int} (h : minL l = some n) (hs : ∀ x ∈ l, x ∈ l') : ∃ m, minL l' = some m ∧ m ≤ n := by
  cases hq : minL l' with
  | none =>
    rw [minL_none] at hq; subst hq
    exact absurd (hs n (minL_some h).1) (by simp)
  | some m => exact ⟨m, rfl, (minL_some hq).2 n (hs n (minL_some h).1)⟩
theorem clashes_mem {ts : List Txn} {t : Txn} {p : Int → Bool} {x : Int} : x ∈ clashes ts t p ↔ ∃ d ∈ ts, p d.commit = true ∧ x ∈ d.writes ∧ mine t x = true := by
  unfold clashes
  simp only [List.mem_flatMap, List.mem_filter]
  constructor
  · rintro ⟨d, ⟨h1, h2⟩, h3, h4⟩; exact ⟨d, h1, h2, h3, h4⟩
  · rintro ⟨d, h1, h2, h3, h4⟩; exact ⟨d, ⟨h1, h2⟩, h3, h4⟩
theorem check_more {ts us : List Txn} {t : Txn} {reads : List Int} {k : Nat} {n : Int} (h : checkM ts t = some n) :
    ∃ m, checkM (ts.take k ++ us ++ ts.drop k) ⟨t.base, t.commit, t.reads ++ reads, t.writes ++ reads⟩ = some m ∧ m ≤ n := by
  refine minL_sub h fun x hx => ?_
  rw [clashes_mem] at hx ⊢
  obtain ⟨d, h1, h2, h3, h4⟩ := hx
  refine ⟨d, ?_, h2, h3, ?_⟩
  · rw [← List.take_append_drop k ts] at h1
    simp only [List.mem_append] at h1 ⊢
    rcases h1 with h1 | h1
    · exact .inl (.inl h1)
    · exact .inr h1
  · unfold mine at h4 ⊢
    simp only [Bool.or_eq_true, decide_eq_true_eq, List.mem_append] at h4 ⊢
    rcases h4 with h4 | h4
    · exact .inl (.inl h4)
    · exact .inr (.inl h4)

theorem own_ne_blk {w : World} {base size n g : Nat} {e t : TypeId} {v : Value} {xs : List Value} {cs : Array Value} (h : w.ownsRow base e size v n xs) (hb : Blk w g t cs) (hne : e ≠ t) (hv : v.ownBlock = some g) : False := by
  rcases h.2 with ⟨rfl, _⟩ | ⟨g', cap, cur, rfl, _, hg, _⟩
  · cases hv
  · simp [Value.ownBlock] at hv
    subst hv
    rw [hb] at hg
    injection hg with hg
    injection hg with _ hg _
    exact hne hg.symm
abbrev vX (t : Txn) (A : Option Addr) (n k : Nat) (B : Option Addr) (m j : Nat) : Array Value := #[.int .i64 t.base, .int .i64 t.commit, .slice A n k, .slice B m j]
/-- u.Reads = append(u.Reads, reads...): what stands then. -/
theorem more9 {w8 w9 : World} {t : Txn} {rl : List Int} {Cr Cw : Option Addr} {kr kw B M8 : Nat} {v9 : Value} (hr : w8.ownsRow B 2 1 (.slice Cr t.reads.length kr) t.reads.length (I64 t.reads)) (hw : w8.ownsRow M8 2 1 (.slice Cw t.writes.length kw) t.writes.length (I64 t.writes))
    (hlt8 : ∀ b, Cr.map (·.block) = some b → b < M8) (hBM : B ≤ M8) (hM : M8 ≤ w8.heap.size) (hown9 : w9.ownsRow B 2 1 v9 (t.reads.length + rl.length) (I64 t.reads ++ I64 rl))
    (hg9 : (w8.alloc (.cells (vX t Cr t.reads.length kr Cw t.writes.length kw) 32)).grownBy w9 (Value.slice Cr t.reads.length kr).ownBlock)
    (hat9 : v9.ownBlock = (Value.slice Cr t.reads.length kr).ownBlock ∨ v9.ownBlock = some (w8.alloc (.cells (vX t Cr t.reads.length kr Cw t.writes.length kw) 32)).heap.size) :
    ∃ A9 c9, v9 = .slice A9 (t.reads.length + rl.length) c9 ∧ w9.ownsRow B 2 1 (.slice A9 (t.reads.length + rl.length) c9) (t.reads.length + rl.length) (I64 (t.reads ++ rl)) ∧ (∀ b, A9.map (·.block) = some b → B ≤ b ∧ (b < M8 ∨ b = w8.heap.size + 1)) ∧
      Blk w9 w8.heap.size 32 (vX t Cr t.reads.length kr Cw t.writes.length kw) ∧ w9.cell? ⟨w8.heap.size, 2, none⟩ = some (.slice Cr t.reads.length kr) ∧ w9.cell? ⟨w8.heap.size, 3, none⟩ = some (.slice Cw t.writes.length kw) ∧
      w9.frozen? ⟨w8.heap.size, 2, none⟩ = false ∧ w9.frozen? ⟨w8.heap.size, 3, none⟩ = false ∧ Fr (fun b => B ≤ b) w8 w9 ∧ w8.heap.size < w9.heap.size ∧
      (w9.setCell ⟨w8.heap.size, 2, none⟩ (.slice A9 (t.reads.length + rl.length) c9)).ownsRow M8 2 1 (.slice Cw t.writes.length kw) t.writes.length (I64 t.writes) := by
  obtain ⟨A9, c9, rfl, hc9, _, hA9⟩ := own_form hown9
  have hb9 : Blk w9 w8.heap.size 32 (vX t Cr t.reads.length kr Cw t.writes.length kw) := Blk.grown (Blk.new _ _ _) hg9 (fun hh => by have := (hr.lt _ hh.symm).2; omega)
  have q2 := hb9.cell 2
  have q3 := hb9.cell 3
  simp only [List.getElem?_toArray, List.getElem?_cons_succ, List.getElem?_cons_zero] at q2 q3
  refine ⟨A9, c9, rfl, by rw [I64_append]; exact hown9, fun b hb => ⟨(hown9.lt b ((hA9 b).2 hb)).1, ?_⟩, hb9, q2, q3, hb9.frozen 2, hb9.frozen 3, ?_, hb9.lt, ?_⟩
  · rw [own_map, own_map] at hat9
    rcases hat9 with h | h
    · exact .inl (hlt8 b (h ▸ hb))
    · rw [h] at hb; simp at hb; exact .inr hb.symm
  · exact ((Fr.refl _ w8).alloc _).grown hg9 (fun b hb => .inr (hr.lt b hb).1)
  · refine own_fr (own_fr0 hw ((Fr.refl No w8).alloc _)) (((Fr.refl (fun b => (Value.slice Cr t.reads.length kr).ownBlock = some b ∨ b = w8.heap.size) _).grown hg9 (fun q hq => .inr (.inl hq))).set (.inr (.inr rfl)) _) (fun b hb hT => ?_)
    have h1 := hw.lt b hb
    rcases hT with hT | hT
    · rw [own_map] at hT; have := hlt8 b hT; omega
    · omega
/-- u.Writes = append(u.Writes, reads...): what stands then. -/
theorem more10 {w8 w9 w10 : World} {t : Txn} {rl : List Int} {Cr Cw A9 : Option Addr} {kr kw c9 B M8 : Nat} {v10 : Value} (hown9 : w9.ownsRow B 2 1 (.slice A9 (t.reads.length + rl.length) c9) (t.reads.length + rl.length) (I64 (t.reads ++ rl)))
    (hlt9 : ∀ b, A9.map (·.block) = some b → B ≤ b ∧ (b < M8 ∨ b = w8.heap.size + 1)) (hb9 : Blk w9 w8.heap.size 32 (vX t Cr t.reads.length kr Cw t.writes.length kw)) (hBM : B ≤ M8) (hM : M8 ≤ w8.heap.size) (hf9 : Fr (fun b => B ≤ b) w8 w9)
    (hw8 : w8.ownsRow M8 2 1 (.slice Cw t.writes.length kw) t.writes.length (I64 t.writes)) (hsm : t.reads.length + t.writes.length + rl.length ≤ 1048576)
    (hown10 : w10.ownsRow M8 2 1 v10 (t.writes.length + rl.length) (I64 t.writes ++ I64 rl)) (hg10 : (w9.setCell ⟨w8.heap.size, 2, none⟩ (.slice A9 (t.reads.length + rl.length) c9)).grownBy w10 (Value.slice Cw t.writes.length kw).ownBlock) :
    ∃ A10 c10, v10 = .slice A10 (t.writes.length + rl.length) c10 ∧ w10.cell? ⟨w8.heap.size, 3, none⟩ = some (.slice Cw t.writes.length kw) ∧ w10.frozen? ⟨w8.heap.size, 3, none⟩ = false ∧
      Blk (w10.setCell ⟨w8.heap.size, 3, none⟩ (.slice A10 (t.writes.length + rl.length) c10)) w8.heap.size 32 (vX t A9 (t.reads.length + rl.length) c9 A10 (t.writes.length + rl.length) c10) ∧
      TxnC (w10.setCell ⟨w8.heap.size, 3, none⟩ (.slice A10 (t.writes.length + rl.length) c10)) (fun b => B ≤ b) (vX t A9 (t.reads.length + rl.length) c9 A10 (t.writes.length + rl.length) c10).toList ⟨t.base, t.commit, t.reads ++ rl, t.writes ++ rl⟩ ∧
      Fr (fun b => B ≤ b) w8 (w10.setCell ⟨w8.heap.size, 3, none⟩ (.slice A10 (t.writes.length + rl.length) c10)) := by
  obtain ⟨A10, c10, rfl, hc10, _, hA10⟩ := own_form hown10
  have hne : some w8.heap.size ≠ (Value.slice Cw t.writes.length kw).ownBlock := fun hh => by have := (hw8.lt _ hh.symm).2; omega
  have hb10 : Blk w10 w8.heap.size 32 (vX t A9 (t.reads.length + rl.length) c9 Cw t.writes.length kw) := Blk.grown (Blk.put hb9 2 _) hg10 hne
  have q3 := hb10.cell 3
  simp only [List.getElem?_toArray, List.getElem?_cons_succ, List.getElem?_cons_zero] at q3
  have hfT : Fr (fun b => b = w8.heap.size ∨ (Value.slice Cw t.writes.length kw).ownBlock = some b) w9 (w10.setCell ⟨w8.heap.size, 3, none⟩ (.slice A10 (t.writes.length + rl.length) c10)) :=
    (((Fr.refl _ w9).set (.inr (.inl rfl)) _).grown hg10 (fun q hq => .inr (.inr hq))).set (.inr (.inl rfl)) _
  refine ⟨A10, c10, rfl, q3, hb10.frozen 3, Blk.put hb10 3 _, ⟨A9, c9, A10, c10, ?_, ?_, ?_⟩, ?_⟩
  · simp [vX, List.length_append]
  · have h1 := own_fr hown9 hfT (fun b hb hT => by
      rw [own_map] at hb
      have h9 := hlt9 b hb
      rcases hT with hT | hT
      · omega
      · have h2 := hw8.lt b hT; omega)
    exact (own_rdI h1 (by rw [List.length_append]) (by omega)).mono (fun b _ hb => (hlt9 b hb).1) (by decide)
  · have h1 := own_fr hown10 ((Fr.refl (fun b => b = w8.heap.size) w10).set (p := ⟨w8.heap.size, 3, none⟩) (.inr rfl) (.slice A10 (t.writes.length + rl.length) c10)) (fun b hb hT => ?_)
    · rw [← I64_append] at h1
      exact (own_rdI h1 (by rw [List.length_append]) (by omega)).mono (fun b _ hb => by have := (hown10.lt b ((hA10 b).2 hb)).1; omega) (by decide)
    · subst hT; exact own_ne_blk hown10 hb10 (by decide) hb
  · exact hf9.trans (hfT.mono (T := fun b => B ≤ b) (fun b _ hb => by rcases hb with hb | hb; omega; have := (hw8.lt b hb).1; omega)) (fun _ _ hT => hT)
end Go.Proofs.Ytmcmjnflahfbkaa
