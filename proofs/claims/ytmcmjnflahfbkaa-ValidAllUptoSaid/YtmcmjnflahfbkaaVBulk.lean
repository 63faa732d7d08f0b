/- What a bound on the bulk gives. No condition. -/
import Derived.Test.YtmcmjnflahfbkaaVOpen
namespace Go.Proofs.Ytmcmjnflahfbkaa
set_option linter.unusedVariables false
set_option linter.unusedSimpArgs false
open Go.RowKit Go.Maps

theorem iv_none : iv none = 0 := rfl
theorem iv_some (x : Int) : iv (some x) = x := rfl
theorem errOf_none : errOf none = 0 := rfl
theorem errOf_some (x : Int) : errOf (some x) = 30 := rfl
theorem bulkT_cons (t : Txn) (ts : List Txn) : bulkT (t :: ts) = (t.reads.length + t.writes.length + 1) + bulkT ts := by simp [bulkT]
theorem bulkT_one (t : Txn) : bulkT [t] = t.reads.length + t.writes.length + 1 := by simp [bulkT]
theorem bulkT_app (a b : List Txn) : bulkT (a ++ b) = bulkT a + bulkT b := by simp [bulkT]
theorem bulkT_len : ∀ ts : List Txn, ts.length ≤ bulkT ts
  | [] => by simp [bulkT]
  | t :: ts => by have := bulkT_len ts; rw [bulkT_cons, List.length_cons]; omega
theorem bulkT_mem {t : Txn} : ∀ {ts : List Txn}, t ∈ ts → t.reads.length + t.writes.length + 1 ≤ bulkT ts
  | d :: ts, h => by
    rw [bulkT_cons]
    rcases List.mem_cons.1 h with rfl | h
    · omega
    · have := bulkT_mem h; omega
theorem clashes_len (t : Txn) (p : Int → Bool) : ∀ ts : List Txn, (clashes ts t p).length ≤ bulkT ts
  | [] => by simp [clashes]
  | d :: ts => by
    have ih := clashes_len t p ts
    rw [bulkT_cons]
    have h1 : clashes (d :: ts) t p = clashes [d] t p ++ clashes ts t p := by
      rw [show d :: ts = [d] ++ ts from rfl]; unfold clashes; rw [List.filter_append, List.flatMap_append]
    rw [h1, List.length_append]
    have h2 : (clashes [d] t p).length ≤ d.writes.length := by
      unfold clashes
      by_cases h : p d.commit = true
      · simp only [List.filter_cons, h, if_true, List.filter_nil, List.flatMap_cons, List.flatMap_nil, List.append_nil]; exact List.length_filter_le _ _
      · simp [List.filter_cons, h]
    omega
theorem room_any {ts : List Txn} {t : Txn} {p : Int → Bool} (ok0 : ∀ d ∈ ts, TxnOk d) (ok1 : TxnOk t) (hb : bulkT ts ≤ 2097152) : Room ts t p :=
  ⟨⟨ok1.1, ok1.2.1⟩, fun d hd => (ok0 d hd).2.1, fun d hd _ => by have := bulkT_mem hd; omega, by have := clashes_len t p ts; omega⟩
theorem room_of {ts : List Txn} {t : Txn} {n : Nat} (ok0 : ∀ d ∈ ts, TxnOk d) (ok1 : TxnOk t) (hb : bulkT ts + n ≤ 1048576) : ∀ us : List Txn, (∀ d ∈ us, d ∈ ts) → bulkT us ≤ bulkT ts → Room us t (sinceP t.base) :=
  fun us hs hbu => room_any (fun d hd => ok0 d (hs d hd)) ok1 (by omega)
end Go.Proofs.Ytmcmjnflahfbkaa
