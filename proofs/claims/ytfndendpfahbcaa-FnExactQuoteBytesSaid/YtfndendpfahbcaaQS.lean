/- The seat of the quoting laws. -/
import Derived.Test.YtfndendpfahbcaaVm26
import Derived.Test.YtfndendpfahbcaaChecked
import Derived.KernelRfl
set_option linter.unusedSimpArgs false
set_option linter.unusedVariables false
namespace Go.Quote
open Go Go.Vm Go.RowKit Go.Proofs

def seatHint (T : TypeId) : Option EncAny := match T with
  | 5 => some ⟨_, intE .u8⟩
  | _ => none
def seatHas (n : Nat) : Bool := match n with
  | 5 | 6 | 7 | 8 | 9 | 15 | 16 => true
  | _ => false
noncomputable def S : Seat := ⟨Try.prog, seatHint, fun _ => none, seatHas⟩

theorem hS : SeatOk S where
  flat := fun T n h => by simp [S] at h
  hint := fun T x h => by
    simp only [S, seatHint] at h
    split at h
    · simp at h; subst h
      exact intE_ok (by kernel_rfl) (by kernel_rfl)
    · simp at h
  mixed := by kernel_rfl
  has := fun n h => by
    simp only [S, seatHas] at h
    split at h
    · exact ⟨_, Try.func5, rfl, by kernel_rfl⟩
    · exact ⟨_, Try.func6, rfl, by kernel_rfl⟩
    · exact ⟨_, Try.func7, rfl, by kernel_rfl⟩
    · exact ⟨_, Try.func8, rfl, by kernel_rfl⟩
    · exact ⟨_, Try.func9, rfl, by kernel_rfl⟩
    · exact ⟨_, Try.func15, rfl, by kernel_rfl⟩
    · exact ⟨_, Try.func16, rfl, by kernel_rfl⟩
    · simp at h
end Go.Quote
