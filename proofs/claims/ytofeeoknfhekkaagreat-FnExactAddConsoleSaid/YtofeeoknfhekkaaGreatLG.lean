/- The law's own functions: structs marked. -/
import Derived.Test.YtofeeoknfhekkaaGreatLF
set_option linter.unusedSimpArgs false
set_option linter.unusedVariables false
set_option linter.constructorNameAsVariable false
namespace Go.Mu
open Go Go.Vm Go.RowKit Go.Proofs
attribute [local irreducible] wpA opsA stillA drawA drawS
set_option maxRecDepth 20000
set_option maxHeartbeats 4000000
@[reducible] noncomputable def mkPar (n : Int) (s : Par) : Par := { s with params := mks (mkI (n)) s.params.length }
@[reducible] noncomputable def mkGrd (n : Int) (s : Grd) : Grd := { s with cells := mks (mkP (n)) s.cells.length, back := mks (mkP (n + 2 * s.cells.length)) s.back.length }
@[reducible] noncomputable def mkScr (n : Int) (s : Scr) : Scr := { s with grid := mkGrd (n) s.grid, tabs := mks (mkB (n + 2 * s.grid.cells.length + 2 * s.grid.back.length)) s.tabs.length, sets := mks (mkI (n + 2 * s.grid.cells.length + 2 * s.grid.back.length + s.tabs.length)) s.sets.length }
@[reducible] noncomputable def mkVt (n : Int) (s : Vt) : Vt := { s with par := mkPar (n) s.par, scr := mkScr (n + s.par.params.length) s.scr }
@[reducible] noncomputable def mkKbd (n : Int) (s : Kbd) : Kbd := { s with holds := mks (mkP (n)) s.holds.length }
theorem markKeyboard (s : Kbd) (h : KbdB s) (n : Int) (hn : 0 ≤ n) (hn' : n ≤ 17179869184) : CallA S 70 [.agg (kbdC (.loc 0) s), .int .i64 n] ⟨kbdH true (.loc 0) s [], 1⟩ (Ret1 (.int .i64 (n + 2 * s.holds.length)) ⟨kbdH true (.loc 0) (mkKbd n s) [], 1⟩) := by
  refine .ofC hS _ _ _ Tryz.func70 ?_
  conv => whnf
  obtain ⟨h0⟩ := h
  repeat' (first|refine Seal.mk ?_|(refine wS ?_;(conv=>whnf);fail_if_success show False)|((first|refine opsA_step ?_|refine drawS_go ?_|apply wL (markHoldS _ _ _ _ _));conv=>whnf)|(intro _;first|omega|conv=>whnf)|(apply And.intro<;>intro _<;>first|omega|conv=>whnf)|refine ⟨Seal.mk ?_,Seal.mk ?_⟩|((first|(apply And.intro;focus exact leaf)|(apply Or.inl;apply And.intro;focus exact leaf)|apply Or.inr|refine ⟨_,rfl,?_⟩|refine ⟨_,⟨rfl,rfl⟩,?_⟩|refine ⟨intE .u8,⟨rfl,fun _=>rfl⟩,?_⟩|(refine Exists.intro _ (And.intro (And.intro rfl (And.intro rfl ?_)) ?_);focus exact leaf));conv=>whnf)|with_reducible assumption|((fail_if_success refine Exists.intro ?_ ?_);exact leaf)|fail)
  (refine ⟨(),⟨⟩,?_⟩;((try refine wF ?_);repeat' (first|exact ⟨⟩|(apply And.intro;focus exact leaf)|((conv=>whnf);first|exact ⟨⟩|(apply And.intro;focus exact leaf))|fail)))
theorem heldKeyboard (s : Kbd) (h : KbdB s) (n : Int) (hn : 0 ≤ n) (hn' : n ≤ 17179869184) : CallA S 135 [.agg (kbdC (.loc 0) s), .int .i64 n] ⟨kbdH false (.loc 0) (mkKbd n s) [], 1⟩ (Ret1 (.int .i64 (n + 2 * s.holds.length)) ⟨[], 1⟩) := by
  refine .ofC hS _ _ _ Tryz.func135 ?_
  conv => whnf
  obtain ⟨h0⟩ := h
  repeat' (first|refine Seal.mk ?_|(refine wS ?_;(conv=>whnf);fail_if_success show False)|((first|refine opsA_step ?_|refine drawS_go ?_|apply wL (heldHoldS _ _ _ _ _));conv=>whnf)|(intro _;first|omega|conv=>whnf)|(apply And.intro<;>intro _<;>first|omega|conv=>whnf)|refine ⟨Seal.mk ?_,Seal.mk ?_⟩|((first|(apply And.intro;focus exact leaf)|(apply Or.inl;apply And.intro;focus exact leaf)|apply Or.inr|refine ⟨_,rfl,?_⟩|refine ⟨_,⟨rfl,rfl⟩,?_⟩|refine ⟨intE .u8,⟨rfl,fun _=>rfl⟩,?_⟩|(refine Exists.intro _ (And.intro (And.intro rfl (And.intro rfl ?_)) ?_);focus exact leaf));conv=>whnf)|with_reducible assumption|((fail_if_success refine Exists.intro ?_ ?_);exact leaf)|fail)
  all_goals (refine ⟨(),⟨⟩,?_⟩;((try refine wF ?_);repeat' (first|exact ⟨⟩|(apply And.intro;focus exact leaf)|((conv=>whnf);first|exact ⟨⟩|(apply And.intro;focus exact leaf))|fail)))
end Go.Mu
