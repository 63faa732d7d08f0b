/- Sums and products of ints, as they are reckoned. No condition. -/
import Derived.Test.YtannkgglgmbkdaaDoorMem
namespace Go.Proofs.YtannkgglgmbkdaaDoor
set_option linter.unusedVariables false
set_option linter.unusedSimpArgs false
open Go.RowKit
section
variable {P : Program} {w : World} {ops : Array Oper} {rest : List Oper} {o : Oper} {a : Act} {Q : Exit → Act → World → Prop}
theorem wpList_addI (u v c : Int) (hs : u + v = c) (h0 : -9223372036854775808 ≤ c) (h1 : c ≤ 9223372036854775807) (hw : Region.wanted o (yielded ops a.tmps) = true) {x y : Operand} {t1 t2 : TypeId} (ho : o.op = .binOp .add t1 x y t2)
    (hx : a.eval x = .int .i64 u) (hy : a.eval y = .int .i64 v) (h : wpList P ops Q rest (a.put o.dst (.int .i64 c)) w) : wpList P ops Q (o :: rest) a w := by
  have hwr : IntKind.i64.wrap (u + v) = c := by rw [IntKind.wrap_i64, hs]; omega
  refine BigFrame.wpList_want hw fun K hK => ?_
  unfold Oper.wp execOp
  simp [ho, hx, hy, binOp_add, Op.intArith, hwr, eqGuard]
  exact hK _ _ h
theorem wpList_mulI (u v c : Int) (hs : u * v = c) (h0 : -9223372036854775808 ≤ c) (h1 : c ≤ 9223372036854775807) (hw : Region.wanted o (yielded ops a.tmps) = true) {x y : Operand} {t1 t2 : TypeId} (ho : o.op = .binOp .mul t1 x y t2)
    (hx : a.eval x = .int .i64 u) (hy : a.eval y = .int .i64 v) (h : wpList P ops Q rest (a.put o.dst (.int .i64 c)) w) : wpList P ops Q (o :: rest) a w := by
  have hwr : IntKind.i64.wrap (u * v) = c := by rw [IntKind.wrap_i64, hs]; omega
  refine BigFrame.wpList_want hw fun K hK => ?_
  unfold Oper.wp execOp
  simp [ho, hx, hy, binOp_mul, Op.intArith, hwr, eqGuard]
  exact hK _ _ h
end
end Go.Proofs.YtannkgglgmbkdaaDoor
