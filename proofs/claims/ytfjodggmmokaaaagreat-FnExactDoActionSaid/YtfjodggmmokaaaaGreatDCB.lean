/- Closed facts of the program: it may be entered. -/
import Derived.Test.YtfjodggmmokaaaaGreatRows
import Derived.KernelRfl
import Derived.JoinedOf
set_option linter.unusedSimpArgs false
set_option linter.unusedVariables false
set_option linter.constructorNameAsVariable false
namespace Go.Proofs.YtfjodggmmokaaaaGreat
open Go
theorem factMay : (Tryz.pinned.checked.prog.mayEnter) = true := by kernel_rfl
end Go.Proofs.YtfjodggmmokaaaaGreat
