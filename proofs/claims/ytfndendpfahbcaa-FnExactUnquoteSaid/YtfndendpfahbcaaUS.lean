/- The seat of the law on unquoting. -/
import Derived.Test.YtfndendpfahbcaaVm27
import Derived.Test.YtfndendpfahbcaaChecked
import Derived.KernelRfl
set_option linter.unusedSimpArgs false
set_option linter.unusedVariables false
namespace Go.Unquote
open Go Go.Vm Go.RowKit Go.Proofs

def seatHint (T : TypeId) : Option EncAny := match T with
  | 5 => some ⟨_, intE .u8⟩
  | _ => none
def seatHas (n : Nat) : Bool := match n with
  | 9 | 10 | 11 | 12 | 13 | 14 | 17 | 18 | 19 | 20 | 21 | 22 | 23 => true
  | _ => false
def seatExt (n : Nat) (args : List AV) (K : AV → Prop) : Prop := match n with
  | 24 => match args with
    | [.str s, .int .u8 c] => (0 ≤ c ∧ c < 256) ∧ K (.int .i64 (idxOf s c))
    | _ => False
  | _ => False
noncomputable def S : Seat := ⟨Try.prog, seatHint, fun _ => none, seatHas, seatExt⟩

theorem run24 (args : Array Value) (w : World) : (callFunc 24 args).run Try.prog w = ((Extern.BytealgIndexByte.indexByte args).run Try.prog w).andThen fun v w' => .ok (.value v) w' :=
  run_callFunc_extern Try.func24 (by kernel_rfl) (by kernel_rfl) (by kernel_rfl) (by kernel_rfl) args w

theorem hS : SeatOk S where
  flat := fun T n h => by simp [S] at h
  hint := fun T x h => by
    simp only [S, seatHint] at h
    split at h
    · simp at h; subst h
      exact intE_ok (by kernel_rfl) (by kernel_rfl)
    · simp at h
  mixed := by kernel_rfl
  has := fun n h => by
    simp only [S, seatHas] at h
    split at h
    · exact ⟨_, Try.func9, rfl, by kernel_rfl⟩
    · exact ⟨_, Try.func10, rfl, by kernel_rfl⟩
    · exact ⟨_, Try.func11, rfl, by kernel_rfl⟩
    · exact ⟨_, Try.func12, rfl, by kernel_rfl⟩
    · exact ⟨_, Try.func13, rfl, by kernel_rfl⟩
    · exact ⟨_, Try.func14, rfl, by kernel_rfl⟩
    · exact ⟨_, Try.func17, rfl, by kernel_rfl⟩
    · exact ⟨_, Try.func18, rfl, by kernel_rfl⟩
    · exact ⟨_, Try.func19, rfl, by kernel_rfl⟩
    · exact ⟨_, Try.func20, rfl, by kernel_rfl⟩
    · exact ⟨_, Try.func21, rfl, by kernel_rfl⟩
    · exact ⟨_, Try.func22, rfl, by kernel_rfl⟩
    · exact ⟨_, Try.func23, rfl, by kernel_rfl⟩
    · simp at h
  ext := fun n args K h ρ rs w hr => by
    simp only [S, seatExt] at h
    split at h
    · split at h
      · rename_i s c
        obtain ⟨⟨h0, h1⟩, hK⟩ := h
        obtain ⟨r1, _, rfl, ⟨a, rfl, rfl, _⟩, r2, _, rfl, hr2, rfl⟩ := hr
        have hr2 : r2 = .int .u8 c := hr2
        subst hr2
        refine ⟨.int .i64 (idxOf (bytesL a) c), .int .i64 (idxOf (bytesL a) c), ?_, rfl, trivial, hK⟩
        show (callFunc 24 _).run Try.prog w = _
        rw [run24]
        show Result.andThen (Sem.run Try.prog (Extern.BytealgIndexByte.indexByte #[.string a, .int .u8 c]) w) _ = _
        rw [run_indexByte_string, firstIdx_idxOf a c h0 h1]
        rfl
      · exact h.elim
    · exact h.elim
end Go.Unquote
