/- The slice type []byte. No condition. -/
import Derived.Test.YtfgkioigbnlkkaaProg
import Derived.Test.YtfgkioigbnlkkaaLap
namespace Go.Proofs.Ytfgkioigbnlkkaa
set_option linter.unusedVariables false
set_option linter.unusedSimpArgs false
open Go.RowKit

theorem so_u8 : SliceOf Try.prog 23 5 (.int .u8 0) 1 1 := ⟨Try.underlying23, by kernel_rfl, rfl, by decide, by decide, by decide⟩
end Go.Proofs.Ytfgkioigbnlkkaa
