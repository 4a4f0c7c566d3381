/- Closed facts of the program: what it lifts. -/
import Derived.Test.YtfjodggmmokaaaaGreatRows
import Derived.KernelRfl
import Derived.JoinedOf
set_option linter.unusedSimpArgs false
set_option linter.unusedVariables false
set_option linter.constructorNameAsVariable false
namespace Go.Proofs.YtfjodggmmokaaaaGreat
open Go
theorem factLift : (Rows.fnExactDoActionRow.lifted == Tryz.pinned.checked.prog.liftsFinal) = true := by kernel_rfl
end Go.Proofs.YtfjodggmmokaaaaGreat
