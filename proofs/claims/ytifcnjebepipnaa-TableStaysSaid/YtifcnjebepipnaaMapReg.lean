/- Maps in a region that draws its order: a lookup, a store. No condition. -/
import Derived.Test.YtifcnjebepipnaaMap
import Derived.Test.YtifcnjebepipnaaReg
namespace Go.Proofs.Ytifcnjebepipnaa
set_option linter.unusedVariables false
set_option linter.unusedSimpArgs false
open Go.RowKit

theorem wf_of {x : Int} (h1 : -9223372036854775808 ≤ x) (h2 : x ≤ 9223372036854775807) : W64 x := by
  unfold W64; simpa [Lit.wf, IntKind.min, IntKind.max, IntKind.signed, IntKind.bits] using And.intro h1 h2
theorem MapV.mono {w : World} {b n m : Nat} {f : Int → Option Value} (h : MapV w b n f) (hm : n ≤ m) : MapV w b m f := by
  obtain ⟨D, ho, hD⟩ := h
  exact ⟨D, World.ownsMap.mono ho hm, hD⟩
theorem T_look {S : Nat → Prop} {ops : Array Oper} {Q : Exit → Act → World → Prop} {ms : List Nat} {ord calls : List Nat} {k : Nat} {o : Oper} {l : List Oper} {a : Act} {w : World} {t e : TypeId} {m kx : Operand} {b n : Nat} {f : Int → Option Value} {z : Value} {x : Int}
    (h : MapV w b n f) (hS : ¬ S b) (ht : Try.prog.underlying t = some (.map 2 e)) (hz : ∀ w, (zeroValue e).run Try.prog w = .ok z w) (hx : W64 x)
    (hc : calls.contains (ord.getD k 0) = false) (hw : Region.wanted o (yielded ops a.tmps) = true) (hQ : ∀ v c a w, Q (.panic c) (a.put o.dst v) w → Q (.panic c) a w)
    (ho : o.op = .lookup t m kx false) (hm : a.eval m = .map (some b)) (hk : a.eval kx = .int .i64 x) {u : Value} (hu : (f x).getD z = u)
    (hk2 : wpT Try.prog S ops Q ms ord calls (k + 1) l (a.put o.dst u) w) (hwt : waitsFor ops (listedBy ops.size (ord.take k)) (ord.getD k 0) ms = true := by first | rfl | kernel_rfl) (hxm : calls.contains (ord.getD k 0 + 1000) = false := by rfl) : wpT Try.prog S ops Q ms ord calls k (o :: l) a w := by
  subst hu
  refine T_take hc hw (hQ _) (fun w' hf => ?_) hk2 hxm
  have hf := hf hwt
  have h1 := (h.fr hf hS).look ht (hz w') hx
  unfold execOp
  simp only [ho, hm, hk, Sem.run_bind, Sem.run_pure, Result.andThen_ok, h1]
theorem wp_putM {w : World} {o : Oper} {a : Act} {K : Act → World → Prop} {Q : Exit → Act → World → Prop} {m k v : Operand} {t e : TypeId} (hop : o.op = Op.mapUpdate t m k v) (ht : Try.prog.underlying t = some (.map 2 e)) {b n : Nat} {f : Int → Option Value}
    (h : MapV w b n f) (hm : a.eval m = .map (some b)) (hn : n < maxLen) {x : Int} {u : Value} (hk : a.eval k = .int .i64 x) (hx : W64 x) (hv : a.eval v = u)
    (hK : ∀ w', MapV w' b (n + 1) (fput f x u) → w.grownBy w' (some b) → K (a.put o.dst undef) w') : o.wp Try.prog a w K Q := by
  obtain ⟨w', hrun, h1, h2⟩ := h.run_put ht hn hx u
  unfold Oper.wp execOp
  simp only [hop, hm, hk, hv, Sem.run_bind, hrun, Sem.run_pure, Result.andThen_ok]
  exact hK w' h1 h2
end Go.Proofs.Ytifcnjebepipnaa
