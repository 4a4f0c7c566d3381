/- Closed facts of the program: how it was made. -/
import Derived.Test.YtcimmkokkmbhpaaGreatRows
import Derived.KernelRfl
import Derived.JoinedOf
set_option linter.unusedSimpArgs false
set_option linter.unusedVariables false
set_option linter.constructorNameAsVariable false
namespace Go.Proofs.YtcimmkokkmbhpaaGreat
open Go
theorem factMake : (Tryz.pinned.checked.prog.make == some Rows.fnExactMuxFaultRow.make) = true := by kernel_rfl
end Go.Proofs.YtcimmkokkmbhpaaGreat
