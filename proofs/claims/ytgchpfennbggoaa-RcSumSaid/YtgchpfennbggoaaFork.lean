/- A region that leaves its order open: three calls that may come in any order. No condition. -/
import Derived.Test.YtgchpfennbggoaaReg
namespace Go.Proofs.Ytgchpfennbggoaa
set_option linter.unusedVariables false
set_option linter.unusedSimpArgs false
open Go.RowKit

section
variable {P : Program} {S : Nat → Prop} {ops : Array Oper} {Q : Exit → Act → World → Prop} {ms : List Nat} {ord calls : List Nat} {k : Nat} {l : List Oper} {o : Oper} {a : Act} {w : World}
/-- Three calls that may come in any order: each is a way of its own, in an order of its own. -/
theorem T_fork3 {ord2 calls2 ord3 calls3 : List Nat} {l2 l3 : List Oper} {o2 o3 : Oper} {i j m : Nat} (hrd : Region.ready .any ops (listedBy ops.size (ord.take k)) = [i, j, m]) (hi : ord.getD k 0 = i) (hj : ord2.getD k 0 = j) (hm : ord3.getD k 0 = m) (ht2 : ord2.take k = ord.take k) (ht3 : ord3.take k = ord.take k)
    (hok2 : regionOk ops ord2 calls2 = true) (hok3 : regionOk ops ord3 calls3 = true) (hl2 : pickOps ops.toList (ord2.drop k) = o2 :: l2) (hl3 : pickOps ops.toList (ord3.drop k) = o3 :: l3) (hmi : ms.contains i = false) (hmj : ms.contains j = false) (hmm : ms.contains m = false)
    (hw1 : Region.wanted o (yielded ops a.tmps) = true) (hw2 : Region.wanted o2 (yielded ops a.tmps) = true) (hw3 : Region.wanted o3 (yielded ops a.tmps) = true)
    (h1 : ∀ K' : Act → World → Prop, Shut (∀ a' w', Fr S w w' → wpT P S ops Q ms ord calls (k + 1) l a' w' → K' a' w') → Oper.wp P o a w K' Q)
    (h2 : ∀ K' : Act → World → Prop, Shut (∀ a' w', Fr S w w' → wpT P S ops Q ms ord2 calls2 (k + 1) l2 a' w' → K' a' w') → Oper.wp P o2 a w K' Q)
    (h3' : ∀ K' : Act → World → Prop, Shut (∀ a' w', Fr S w w' → wpT P S ops Q ms ord3 calls3 (k + 1) l3 a' w' → K' a' w') → Oper.wp P o3 a w K' Q) : wpT P S ops Q ms ord calls k (o :: l) a w := by
  intro hok hl
  obtain ⟨hk1, ho, hl', ht⟩ := step_parts hok hl
  obtain ⟨hk2, ho2, hl2', ht2'⟩ := step_parts hok2 hl2
  obtain ⟨hk3, ho3, hl3', ht3'⟩ := step_parts hok3 hl3
  obtain ⟨_, hlen, _, _⟩ := regionOk_parts hok
  rw [hi] at ho ht
  rw [hj] at ho2 ht2'
  rw [hm] at ho3 ht3'
  obtain ⟨n, hn⟩ : ∃ n, ops.size - k = n + 1 := ⟨ops.size - k - 1, by omega⟩
  rw [hn]
  refine ⟨fun h0 => absurd (hrd ▸ h0) (by simp), fun q hq => ?_⟩
  rw [hrd] at hq
  rcases List.mem_cons.1 hq with rfl | hq
  · refine wpOp_step ho fun K' hK => ?_
    rw [if_pos hw1]
    refine h1 K' fun a' w' hE hT => hK a' w' ?_
    rw [if_neg (by rw [hmi]; exact Bool.false_ne_true)]
    have h3 := hT hok hl'
    rw [listedBy_succ, ← ht, show n = ops.size - (k + 1) by omega]
    exact ⟨hE, wpAnyM_weak (fun w'' h'' => hE.trans h'' (fun _ _ hs => hs)) _ _ _ _ h3⟩
  rcases List.mem_cons.1 hq with rfl | hq
  · refine wpOp_step ho2 fun K' hK => ?_
    rw [if_pos hw2]
    refine h2 K' fun a' w' hE hT => hK a' w' ?_
    rw [if_neg (by rw [hmj]; exact Bool.false_ne_true)]
    have h3 := hT hok2 hl2'
    rw [listedBy_succ, ← ht2, ← ht2', show n = ops.size - (k + 1) by omega]
    exact ⟨hE, wpAnyM_weak (fun w'' h'' => hE.trans h'' (fun _ _ hs => hs)) _ _ _ _ h3⟩
  · obtain rfl := List.mem_singleton.1 hq
    refine wpOp_step ho3 fun K' hK => ?_
    rw [if_pos hw3]
    refine h3' K' fun a' w' hE hT => hK a' w' ?_
    rw [if_neg (by rw [hmm]; exact Bool.false_ne_true)]
    have h3 := hT hok3 hl3'
    rw [listedBy_succ, ← ht3, ← ht3', show n = ops.size - (k + 1) by omega]
    exact ⟨hE, wpAnyM_weak (fun w'' h'' => hE.trans h'' (fun _ _ hs => hs)) _ _ _ _ h3⟩
end
end Go.Proofs.Ytgchpfennbggoaa
