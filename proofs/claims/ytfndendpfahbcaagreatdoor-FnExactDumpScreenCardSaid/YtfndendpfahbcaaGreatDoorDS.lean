/- The seat: which functions are entered, how data lie. -/
import Derived.Test.YtfndendpfahbcaaGreatDoorVm29
import Derived.Test.YtfndendpfahbcaaGreatDoorChecked
import Derived.KernelRfl
set_option linter.unusedSimpArgs false
set_option linter.unusedVariables false
namespace Go.Dump
open Go Go.Vm Go.RowKit Go.Proofs

noncomputable def seatHint (T : TypeId) : Option EncAny := match T with
  | 5 => some ⟨_, intE .u8⟩
  | 9 => some ⟨_, strE⟩
  | 2 => some ⟨_, intE .i64⟩
  | 3 => some ⟨_, intE .i64⟩
  | 4 => some ⟨_, boolE⟩
  | 78 => some ⟨_, pairE⟩
  | 96 => some ⟨_, pairE⟩
  | _ => none
def seatHas (n : Nat) : Bool := match n with
  | 4 | 5 | 6 | 7 | 8 | 9 | 10 | 11 | 12 | 13 | 14 | 15 | 16 | 17 | 18 | 19 | 20 | 21 | 22 | 23 | 24 | 25 | 26 | 27 | 28 | 29 | 30 | 31 | 32 | 33 | 34 | 35 | 36 | 37 | 38 | 39 | 40 | 41 | 42 | 43 | 44 | 45 | 46 | 47 | 48 | 49 | 50 | 51 | 52 | 53 | 54 | 55 | 56 | 57 | 58 | 59 | 60 | 61 | 62 | 63 | 64 | 65 | 66 | 67 | 68 | 69 | 70 | 71 | 72 | 73 | 74 | 75 | 76 | 77 | 78 | 79 | 80 | 81 | 82 | 83 | 84 | 85 | 86 | 87 | 88 | 89 | 90 | 91 | 92 | 93 | 94 | 95 | 96 | 97 | 98 | 99 | 100 | 101 | 102 | 103 | 104 => true
  | _ => false
def seatExt (n : Nat) (args : List AV) (K : AV → Prop) : Prop := match n with
  | _ => False
noncomputable def S : Seat := ⟨Tryz.prog, seatHint, fun _ => none, seatHas, seatExt⟩


theorem hS : SeatOk S where
  flat := fun T n h => by simp [S] at h
  hint := fun T x h => by
    simp only [S, seatHint] at h
    split at h
    · simp at h; subst h
      exact intE_ok (by kernel_rfl) (by kernel_rfl)
    · simp at h; subst h
      exact strE_ok (by kernel_rfl) (by kernel_rfl)
    · simp at h; subst h
      exact intE_ok (by kernel_rfl) (by kernel_rfl)
    · simp at h; subst h
      exact intE_ok (by kernel_rfl) (by kernel_rfl)
    · simp at h; subst h
      exact boolE_ok (by kernel_rfl) (by kernel_rfl)
    · simp at h; subst h
      exact pairE_ok (by kernel_rfl) (by kernel_rfl)
    · simp at h; subst h
      exact pairE_ok (by kernel_rfl) (by kernel_rfl)
    · simp at h
  mixed := by kernel_rfl
  has := fun n h => by
    simp only [S, seatHas] at h
    split at h
    · exact ⟨_, Tryz.func4, rfl, by kernel_rfl⟩
    · exact ⟨_, Tryz.func5, rfl, by kernel_rfl⟩
    · exact ⟨_, Tryz.func6, rfl, by kernel_rfl⟩
    · exact ⟨_, Tryz.func7, rfl, by kernel_rfl⟩
    · exact ⟨_, Tryz.func8, rfl, by kernel_rfl⟩
    · exact ⟨_, Tryz.func9, rfl, by kernel_rfl⟩
    · exact ⟨_, Tryz.func10, rfl, by kernel_rfl⟩
    · exact ⟨_, Tryz.func11, rfl, by kernel_rfl⟩
    · exact ⟨_, Tryz.func12, rfl, by kernel_rfl⟩
    · exact ⟨_, Tryz.func13, rfl, by kernel_rfl⟩
    · exact ⟨_, Tryz.func14, rfl, by kernel_rfl⟩
    · exact ⟨_, Tryz.func15, rfl, by kernel_rfl⟩
    · exact ⟨_, Tryz.func16, rfl, by kernel_rfl⟩
    · exact ⟨_, Tryz.func17, rfl, by kernel_rfl⟩
    · exact ⟨_, Tryz.func18, rfl, by kernel_rfl⟩
    · exact ⟨_, Tryz.func19, rfl, by kernel_rfl⟩
    · exact ⟨_, Tryz.func20, rfl, by kernel_rfl⟩
    · exact ⟨_, Tryz.func21, rfl, by kernel_rfl⟩
    · exact ⟨_, Tryz.func22, rfl, by kernel_rfl⟩
    · exact ⟨_, Tryz.func23, rfl, by kernel_rfl⟩
    · exact ⟨_, Tryz.func24, rfl, by kernel_rfl⟩
    · exact ⟨_, Tryz.func25, rfl, by kernel_rfl⟩
    · exact ⟨_, Tryz.func26, rfl, by kernel_rfl⟩
    · exact ⟨_, Tryz.func27, rfl, by kernel_rfl⟩
    · exact ⟨_, Tryz.func28, rfl, by kernel_rfl⟩
    · exact ⟨_, Tryz.func29, rfl, by kernel_rfl⟩
    · exact ⟨_, Tryz.func30, rfl, by kernel_rfl⟩
    · exact ⟨_, Tryz.func31, rfl, by kernel_rfl⟩
    · exact ⟨_, Tryz.func32, rfl, by kernel_rfl⟩
    · exact ⟨_, Tryz.func33, rfl, by kernel_rfl⟩
    · exact ⟨_, Tryz.func34, rfl, by kernel_rfl⟩
    · exact ⟨_, Tryz.func35, rfl, by kernel_rfl⟩
    · exact ⟨_, Tryz.func36, rfl, by kernel_rfl⟩
    · exact ⟨_, Tryz.func37, rfl, by kernel_rfl⟩
    · exact ⟨_, Tryz.func38, rfl, by kernel_rfl⟩
    · exact ⟨_, Tryz.func39, rfl, by kernel_rfl⟩
    · exact ⟨_, Tryz.func40, rfl, by kernel_rfl⟩
    · exact ⟨_, Tryz.func41, rfl, by kernel_rfl⟩
    · exact ⟨_, Tryz.func42, rfl, by kernel_rfl⟩
    · exact ⟨_, Tryz.func43, rfl, by kernel_rfl⟩
    · exact ⟨_, Tryz.func44, rfl, by kernel_rfl⟩
    · exact ⟨_, Tryz.func45, rfl, by kernel_rfl⟩
    · exact ⟨_, Tryz.func46, rfl, by kernel_rfl⟩
    · exact ⟨_, Tryz.func47, rfl, by kernel_rfl⟩
    · exact ⟨_, Tryz.func48, rfl, by kernel_rfl⟩
    · exact ⟨_, Tryz.func49, rfl, by kernel_rfl⟩
    · exact ⟨_, Tryz.func50, rfl, by kernel_rfl⟩
    · exact ⟨_, Tryz.func51, rfl, by kernel_rfl⟩
    · exact ⟨_, Tryz.func52, rfl, by kernel_rfl⟩
    · exact ⟨_, Tryz.func53, rfl, by kernel_rfl⟩
    · exact ⟨_, Tryz.func54, rfl, by kernel_rfl⟩
    · exact ⟨_, Tryz.func55, rfl, by kernel_rfl⟩
    · exact ⟨_, Tryz.func56, rfl, by kernel_rfl⟩
    · exact ⟨_, Tryz.func57, rfl, by kernel_rfl⟩
    · exact ⟨_, Tryz.func58, rfl, by kernel_rfl⟩
    · exact ⟨_, Tryz.func59, rfl, by kernel_rfl⟩
    · exact ⟨_, Tryz.func60, rfl, by kernel_rfl⟩
    · exact ⟨_, Tryz.func61, rfl, by kernel_rfl⟩
    · exact ⟨_, Tryz.func62, rfl, by kernel_rfl⟩
    · exact ⟨_, Tryz.func63, rfl, by kernel_rfl⟩
    · exact ⟨_, Tryz.func64, rfl, by kernel_rfl⟩
    · exact ⟨_, Tryz.func65, rfl, by kernel_rfl⟩
    · exact ⟨_, Tryz.func66, rfl, by kernel_rfl⟩
    · exact ⟨_, Tryz.func67, rfl, by kernel_rfl⟩
    · exact ⟨_, Tryz.func68, rfl, by kernel_rfl⟩
    · exact ⟨_, Tryz.func69, rfl, by kernel_rfl⟩
    · exact ⟨_, Tryz.func70, rfl, by kernel_rfl⟩
    · exact ⟨_, Tryz.func71, rfl, by kernel_rfl⟩
    · exact ⟨_, Tryz.func72, rfl, by kernel_rfl⟩
    · exact ⟨_, Tryz.func73, rfl, by kernel_rfl⟩
    · exact ⟨_, Tryz.func74, rfl, by kernel_rfl⟩
    · exact ⟨_, Tryz.func75, rfl, by kernel_rfl⟩
    · exact ⟨_, Tryz.func76, rfl, by kernel_rfl⟩
    · exact ⟨_, Tryz.func77, rfl, by kernel_rfl⟩
    · exact ⟨_, Tryz.func78, rfl, by kernel_rfl⟩
    · exact ⟨_, Tryz.func79, rfl, by kernel_rfl⟩
    · exact ⟨_, Tryz.func80, rfl, by kernel_rfl⟩
    · exact ⟨_, Tryz.func81, rfl, by kernel_rfl⟩
    · exact ⟨_, Tryz.func82, rfl, by kernel_rfl⟩
    · exact ⟨_, Tryz.func83, rfl, by kernel_rfl⟩
    · exact ⟨_, Tryz.func84, rfl, by kernel_rfl⟩
    · exact ⟨_, Tryz.func85, rfl, by kernel_rfl⟩
    · exact ⟨_, Tryz.func86, rfl, by kernel_rfl⟩
    · exact ⟨_, Tryz.func87, rfl, by kernel_rfl⟩
    · exact ⟨_, Tryz.func88, rfl, by kernel_rfl⟩
    · exact ⟨_, Tryz.func89, rfl, by kernel_rfl⟩
    · exact ⟨_, Tryz.func90, rfl, by kernel_rfl⟩
    · exact ⟨_, Tryz.func91, rfl, by kernel_rfl⟩
    · exact ⟨_, Tryz.func92, rfl, by kernel_rfl⟩
    · exact ⟨_, Tryz.func93, rfl, by kernel_rfl⟩
    · exact ⟨_, Tryz.func94, rfl, by kernel_rfl⟩
    · exact ⟨_, Tryz.func95, rfl, by kernel_rfl⟩
    · exact ⟨_, Tryz.func96, rfl, by kernel_rfl⟩
    · exact ⟨_, Tryz.func97, rfl, by kernel_rfl⟩
    · exact ⟨_, Tryz.func98, rfl, by kernel_rfl⟩
    · exact ⟨_, Tryz.func99, rfl, by kernel_rfl⟩
    · exact ⟨_, Tryz.func100, rfl, by kernel_rfl⟩
    · exact ⟨_, Tryz.func101, rfl, by kernel_rfl⟩
    · exact ⟨_, Tryz.func102, rfl, by kernel_rfl⟩
    · exact ⟨_, Tryz.func103, rfl, by kernel_rfl⟩
    · exact ⟨_, Tryz.func104, rfl, by kernel_rfl⟩
    · simp at h
  ext := fun n args K h ρ rs w hr => by
    exact h.elim
end Go.Dump
