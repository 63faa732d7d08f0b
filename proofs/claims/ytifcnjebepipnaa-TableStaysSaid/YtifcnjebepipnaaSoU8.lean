/- The slice type []byte. No condition. -/
import Derived.Test.YtifcnjebepipnaaProg
import Derived.Test.YtifcnjebepipnaaLap
namespace Go.Proofs.Ytifcnjebepipnaa
set_option linter.unusedVariables false
set_option linter.unusedSimpArgs false
open Go.RowKit

theorem so_u8 : SliceOf Try.prog 36 5 (.int .u8 0) 1 1 := ⟨Try.underlying36, by kernel_rfl, rfl, by decide, by decide, by decide⟩
end Go.Proofs.Ytifcnjebepipnaa
