/- Closed facts of the program: its data are laid out. -/
import Derived.Test.YtfjodggmmokaaaaGreatRows
import Derived.KernelRfl
import Derived.JoinedOf
set_option linter.unusedSimpArgs false
set_option linter.unusedVariables false
set_option linter.constructorNameAsVariable false
namespace Go.Proofs.YtfjodggmmokaaaaGreat
open Go
theorem factLaidOut : (laidOutB Tryz.pinned.checked.prog) = true := by kernel_rfl
theorem factMapsRowed : (mapsRowed Tryz.pinned.checked.prog) = true := by kernel_rfl
theorem factStops : (Tryz.pinned.checked.prog.stops == []) = true := by kernel_rfl
theorem factStopKnobs : (Tryz.pinned.checked.prog.stopKnobs == []) = true := by kernel_rfl
theorem factHeard : (Tryz.pinned.checked.prog.stopsHeard) = true := by kernel_rfl
theorem and_mk {a b : Bool} (ha : a = true) (hb : b = true) : (a && b) = true := by rw [ha, hb]; rfl
end Go.Proofs.YtfjodggmmokaaaaGreat
