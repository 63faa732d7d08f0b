/- The slice type []byte. No condition. -/
import Derived.Test.YtoajigghkjnffaaProg
import Derived.Test.YtoajigghkjnffaaLap
namespace Go.Proofs.Ytoajigghkjnffaa
set_option linter.unusedVariables false
set_option linter.unusedSimpArgs false
open Go.RowKit

theorem so_u8 : SliceOf Try.prog 25 5 (.int .u8 0) 1 1 := ⟨Try.underlying25, by kernel_rfl, rfl, by decide, by decide, by decide⟩
end Go.Proofs.Ytoajigghkjnffaa
