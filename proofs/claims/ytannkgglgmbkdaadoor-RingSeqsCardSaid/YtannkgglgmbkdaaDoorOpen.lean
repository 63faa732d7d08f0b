/- How arguments are opened, piece by piece: whatever a type's reader finds. No condition. -/
import Derived.Test.YtannkgglgmbkdaaDoorRowG
namespace Go.Proofs.YtannkgglgmbkdaaDoor
set_option linter.unusedVariables false
set_option linter.unusedSimpArgs false
open Go.ChangeShapes Go.WideShapes Go.ChangeAt Go.RowKit

def All2 {α β : Type} (R : α → β → Prop) : List α → List β → Prop
  | [], [] => True
  | x :: xs, y :: ys => R x y ∧ All2 R xs ys
  | _, _ => False
theorem All2.nil {α β : Type} {R : α → β → Prop} : All2 R [] [] := True.intro
theorem All2.length {α β : Type} {R : α → β → Prop} : ∀ {xs : List α} {ys : List β}, All2 R xs ys → xs.length = ys.length
  | [], [], _ => rfl
  | _ :: xs, _ :: ys, h => by simp [All2.length h.2]
theorem All2.snoc {α β : Type} {R : α → β → Prop} {x : α} {y : β} (hy : R x y) : ∀ {xs : List α} {ys : List β}, All2 R xs ys → All2 R (xs ++ [x]) (ys ++ [y])
  | [], [], _ => ⟨hy, True.intro⟩
  | _ :: xs, _ :: ys, h => ⟨h.1, All2.snoc hy h.2⟩
/-- Whatever is read at type t is an R, of so much bulk at the least. -/
def Opens (P : Program) (t : TypeId) {α : Type} (R : World → List Value → α → Prop) (wt : α → Nat) : Prop :=
  ∀ (H : Type) (enc : TypeId × Value → H) (w : World) (sp : Nat → Bool) (held : Bool) (fuel : Nat) (cs : List Value) (x : DataW H × List MemPlace),
    DataW.trod enc P w 0 sp held fuel t cs = some x → (∀ n ∈ DataW.weights P t x.1, n ≤ reachBytes) → ∃ y, R w cs y ∧ wt y ≤ Rows.uptoBulk x.1
theorem cells_list {w : World} {a : Addr} {n : Nat} {cs : List Value} (h : w.cells? 0 a n = some cs) : cs.length = n ∧ ∀ j u, cs[j]? = some u → w.cell? (a.add j) = some u := by
  unfold World.cells? at h
  split at h
  · have hl := mapM_some_length h
    refine ⟨by simpa using hl, fun j u hu => ?_⟩
    have hj : j < n := by have := (List.getElem?_eq_some_iff.1 hu).1; simp at hl; omega
    have := mapM_some_get h j j (by simp [hj])
    rw [this, hu]
  · cases h
/-- A list of what opens. -/
def ListR {α : Type} (R : World → List Value → α → Prop) (size : Nat) (w : World) (cs : List Value) (ys : List α) : Prop :=
  ∃ A c css, cs = [.slice A ys.length c] ∧ Rd w (fun b => b < w.heap.size) size A ys.length css.flatten ∧ All2 (R w) css ys ∧ ys.length ≤ c ∧ c ≤ maxLen
theorem weightsAll_mem {H : Type} {P : Program} {e : TypeId} : ∀ {l : List (DataW H)} {d : DataW H} {n : Nat}, d ∈ l → n ∈ DataW.weights P e d → n ∈ DataW.weightsAll P e l
  | d :: r, d', n, hd, hn => by
    simp only [DataW.weightsAll, List.mem_append]
    rcases List.mem_cons.1 hd with rfl | hd
    · exact .inl hn
    · exact .inr (weightsAll_mem hd hn)
theorem bulkAll_append {H : Type} (l r : List (DataW H)) : Rows.uptoBulkAll (l ++ r) = Rows.uptoBulkAll l + Rows.uptoBulkAll r := by
  induction l with
  | nil => simp [Rows.uptoBulkAll]
  | cons x l ih => simp only [List.cons_append, Rows.uptoBulkAll, ih]; omega
theorem opens_list {P : Program} {t e : TypeId} {α : Type} {R : World → List Value → α → Prop} {wt : α → Nat} {size bytes : Nat} (ht : P.underlying t = some (.slice e)) (hc : P.cellsOf e = size) (hb : P.bytesOf e = bytes) (hbp : 0 < bytes) (hsp : 0 < size)
    (ho : Opens P e R wt) (hlen : ∀ w cs y, R w cs y → cs.length = size) : Opens P t (fun w cs (ys : List α) => ListR R size w cs ys ∧ ys.length * bytes ≤ reachBytes) (fun ys => (ys.map wt).sum + 1) := by
  intro H enc w sp held fuel cs x h hw
  rcases DataW.trod_slice ht h with ⟨rfl, rfl⟩ | ⟨a, len, cap, elems, rest, n, _, rfl, rfl, hba, hl, hm, hlen', hel, _, _⟩
  · refine ⟨[], ⟨⟨none, 0, [], rfl, Rd.nil_, All2.nil, Nat.le_refl _, by decide⟩, by simp⟩, ?_⟩
    have := bulk_pos (DataW.nil (H := H)); simp; omega
  · have hw' : ∀ y ∈ elems, ∀ m ∈ DataW.weights P e y.1, m ≤ reachBytes := fun y hy m hm => hw m (by
      simp only [DataW.weights, ht]
      exact List.mem_cons_of_mem _ (List.mem_append_left _ (weightsAll_mem (List.mem_map.2 ⟨y, hy, rfl⟩) hm)))
    have hn8 : len * bytes ≤ reachBytes := by
      have := hw _ (by simp only [DataW.weights, ht]; exact List.mem_cons_self ..)
      rw [hb] at this
      simp only [List.length_map] at this
      have h2 : elems.length * bytes ≤ (elems.length + rest.length) * bytes := Nat.mul_le_mul_right _ (by omega)
      rw [← hlen']; omega
    have key : ∀ k, k ≤ len → ∃ (css : List (List Value)) (ys : List α), ys.length = k ∧ css.flatten.length = k * size ∧ (∀ j u, css.flatten[j]? = some u → w.cell? (a.add j) = some u) ∧ All2 (R w) css ys ∧ (ys.map wt).sum ≤ Rows.uptoBulkAll ((elems.take k).map (·.1)) := by
      intro k
      induction k with
      | zero => intro _; exact ⟨[], [], rfl, by simp, by simp, All2.nil, by simp [Rows.uptoBulkAll]⟩
      | succ k ih =>
        intro hk
        obtain ⟨css, ys, h1, h2, h3, h4, h5⟩ := ih (by omega)
        have he := hel k (by omega)
        have hek : elems[k]? = some elems[k] := List.getElem?_eq_getElem (by omega)
        rw [hek, Option.bind_eq_some_iff] at he
        obtain ⟨cs', hcs, htr⟩ := he
        obtain ⟨hcl, hcc⟩ := cells_list hcs
        obtain ⟨y, hy, hwt⟩ := ho H enc w sp held n cs' _ htr (hw' _ (List.getElem_mem _))
        refine ⟨css ++ [cs'], ys ++ [y], by simp [h1], by simp only [List.flatten_append, List.flatten_cons, List.flatten_nil, List.append_nil, List.length_append, h2, hcl, hc, Nat.succ_mul], ?_, All2.snoc hy h4, ?_⟩
        · intro j u hu
          simp only [List.flatten_append, List.flatten_cons, List.flatten_nil, List.append_nil] at hu
          by_cases hj : j < css.flatten.length
          · rw [List.getElem?_append_left hj] at hu; exact h3 j u hu
          · rw [List.getElem?_append_right (by omega)] at hu
            have := hcc _ u hu
            rw [add_of_add, hc, ← h2, Nat.add_sub_cancel' (by omega)] at this
            exact this
        · rw [List.take_add_one, hek, List.map_append (f := wt), List.map_append, bulkAll_append, List.sum_append]
          simp only [Option.toList_some, List.map_cons, List.map_nil, Rows.uptoBulkAll, List.sum_cons, List.sum_nil]
          omega
    obtain ⟨css, ys, h1, h2, h3, h4, h5⟩ := key len (Nat.le_refl _)
    rw [List.take_of_length_le (by omega)] at h5
    have hlm : len ≤ reachBytes := Nat.le_trans (Nat.le_mul_of_pos_right _ hbp) hn8
    refine ⟨ys, ⟨⟨some a, cap, css, by rw [h1], ⟨by rw [h1]; exact h2, by rw [h1]; simp only [reachBytes] at hlm; omega, fun hn => ⟨a, rfl, ?_, h3⟩⟩, h4, by omega, hm⟩, by rw [h1]; exact hn8⟩, ?_⟩
    · rw [h1] at hn
      have hl0 : 0 < css.flatten.length := by rw [h2]; exact Nat.mul_pos hn hsp
      have := World.block_lt_of_cell? w _ (h3 0 _ (List.getElem?_eq_getElem hl0))
      rwa [block_of_add] at this
    · simp only [Rows.uptoBulk]; omega
end Go.Proofs.YtannkgglgmbkdaaDoor
