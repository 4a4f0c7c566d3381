/- The seat: which functions are entered, how data lie. -/
import Derived.Test.YtfndendpfahbcaaDoorVm28
import Derived.Test.YtfndendpfahbcaaDoorChecked
import Derived.KernelRfl
set_option linter.unusedSimpArgs false
set_option linter.unusedVariables false
namespace Go.Words
open Go Go.Vm Go.RowKit Go.Proofs

def seatHint (T : TypeId) : Option EncAny := match T with
  | 5 => some ⟨_, intE .u8⟩
  | 9 => some ⟨_, strE⟩
  | _ => none
def seatHas (n : Nat) : Bool := match n with
  | 5 | 6 | 7 | 8 | 9 | 20 | 23 | 27 | 28 | 29 | 51 | 56 | 57 | 58 | 59 | 82 | 83 | 97 | 98 | 110 | 113 => true
  | _ => false
def seatExt (n : Nat) (args : List AV) (K : AV → Prop) : Prop := match n with
  | 109 => match args with
    | [.str s, .int .u8 c] => (0 ≤ c ∧ c < 256) ∧ K (.int .i64 (cntOf s c))
    | _ => False
  | 118 => match args with
    | [.str s, .int .u8 c] => (0 ≤ c ∧ c < 256) ∧ K (.int .i64 (idxOf s c))
    | _ => False
  | _ => False
noncomputable def S : Seat := ⟨Tryd.prog, seatHint, fun _ => none, seatHas, seatExt⟩

theorem run109 (args : Array Value) (w : World) : (callFunc 109 args).run Tryd.prog w = ((Extern.BytealgCount.count args).run Tryd.prog w).andThen fun v w' => .ok (.value v) w' :=
  run_callFunc_extern Tryd.func109 (by kernel_rfl) (by kernel_rfl) (by kernel_rfl) (by kernel_rfl) args w
theorem run118 (args : Array Value) (w : World) : (callFunc 118 args).run Tryd.prog w = ((Extern.BytealgIndexByte.indexByte args).run Tryd.prog w).andThen fun v w' => .ok (.value v) w' :=
  run_callFunc_extern Tryd.func118 (by kernel_rfl) (by kernel_rfl) (by kernel_rfl) (by kernel_rfl) args w

theorem hS : SeatOk S where
  flat := fun T n h => by simp [S] at h
  hint := fun T x h => by
    simp only [S, seatHint] at h
    split at h
    · simp at h; subst h
      exact intE_ok (by kernel_rfl) (by kernel_rfl)
    · simp at h; subst h
      exact strE_ok (by kernel_rfl) (by kernel_rfl)
    · simp at h
  mixed := by kernel_rfl
  has := fun n h => by
    simp only [S, seatHas] at h
    split at h
    · exact ⟨_, Tryd.func5, rfl, by kernel_rfl⟩
    · exact ⟨_, Tryd.func6, rfl, by kernel_rfl⟩
    · exact ⟨_, Tryd.func7, rfl, by kernel_rfl⟩
    · exact ⟨_, Tryd.func8, rfl, by kernel_rfl⟩
    · exact ⟨_, Tryd.func9, rfl, by kernel_rfl⟩
    · exact ⟨_, Tryd.func20, rfl, by kernel_rfl⟩
    · exact ⟨_, Tryd.func23, rfl, by kernel_rfl⟩
    · exact ⟨_, Tryd.func27, rfl, by kernel_rfl⟩
    · exact ⟨_, Tryd.func28, rfl, by kernel_rfl⟩
    · exact ⟨_, Tryd.func29, rfl, by kernel_rfl⟩
    · exact ⟨_, Tryd.func51, rfl, by kernel_rfl⟩
    · exact ⟨_, Tryd.func56, rfl, by kernel_rfl⟩
    · exact ⟨_, Tryd.func57, rfl, by kernel_rfl⟩
    · exact ⟨_, Tryd.func58, rfl, by kernel_rfl⟩
    · exact ⟨_, Tryd.func59, rfl, by kernel_rfl⟩
    · exact ⟨_, Tryd.func82, rfl, by kernel_rfl⟩
    · exact ⟨_, Tryd.func83, rfl, by kernel_rfl⟩
    · exact ⟨_, Tryd.func97, rfl, by kernel_rfl⟩
    · exact ⟨_, Tryd.func98, rfl, by kernel_rfl⟩
    · exact ⟨_, Tryd.func110, rfl, by kernel_rfl⟩
    · exact ⟨_, Tryd.func113, rfl, by kernel_rfl⟩
    · simp at h
  ext := fun n args K h ρ rs w hr => by
    simp only [S, seatExt] at h
    split at h
    · split at h
      · rename_i s c
        obtain ⟨⟨h0, h1⟩, hK⟩ := h
        obtain ⟨r1, _, rfl, ⟨a, rfl, rfl, _⟩, r2, _, rfl, hr2, rfl⟩ := hr
        have hr2 : r2 = .int .u8 c := hr2
        subst hr2
        refine ⟨.int .i64 (cntOf (bytesL a) c), .int .i64 (cntOf (bytesL a) c), ?_, rfl, trivial, hK⟩
        show (callFunc 109 _).run Tryd.prog w = _
        rw [run109]
        show Result.andThen (Sem.run Tryd.prog (Extern.BytealgCount.count #[.string a, .int .u8 c]) w) _ = _
        rw [Lib.run_countString, countByte_cntOf a c h0 h1]
        rfl
      · exact h.elim
    · split at h
      · rename_i s c
        obtain ⟨⟨h0, h1⟩, hK⟩ := h
        obtain ⟨r1, _, rfl, ⟨a, rfl, rfl, _⟩, r2, _, rfl, hr2, rfl⟩ := hr
        have hr2 : r2 = .int .u8 c := hr2
        subst hr2
        refine ⟨.int .i64 (idxOf (bytesL a) c), .int .i64 (idxOf (bytesL a) c), ?_, rfl, trivial, hK⟩
        show (callFunc 118 _).run Tryd.prog w = _
        rw [run118]
        show Result.andThen (Sem.run Tryd.prog (Extern.BytealgIndexByte.indexByte #[.string a, .int .u8 c]) w) _ = _
        rw [run_indexByte_string, firstIdx_idxOf a c h0 h1]
        rfl
      · exact h.elim
    · exact h.elim
end Go.Words
