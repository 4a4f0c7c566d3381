/- The law's own functions: structs marked. -/
import Derived.Test.YtcimmkokkmbhpaaGreatLF
set_option linter.unusedSimpArgs false
set_option linter.unusedVariables false
set_option linter.constructorNameAsVariable false
namespace Go.Mu
open Go Go.Vm Go.RowKit Go.Proofs
attribute [local irreducible] wpA opsA stillA drawA drawS
set_option maxRecDepth 20000
set_option maxHeartbeats 4000000
@[reducible] noncomputable def mkPar (n : Int) (s : Par) : Par := { s with params := mks (mkI (n)) s.params.length }
theorem markParser (s : Par) (h : ParB s) (n : Int) (hn : 0 ≤ n) (hn' : n ≤ 68719476736) : CallA S 98 [.agg (parC (.loc 0) s), .int .i64 n] ⟨parH true (.loc 0) s [], 1⟩ (Ret1 (.int .i64 (n + s.params.length)) ⟨parH true (.loc 0) (mkPar n s) [], 1⟩) := by
  refine .ofC hS _ _ _ Tryz.func98 ?_
  conv => whnf
  obtain ⟨h0⟩ := h
  repeat' (first|refine Seal.mk ?_|(refine wS ?_;(conv=>whnf);fail_if_success show False)|((first|refine opsA_step ?_|refine drawS_go ?_|apply wL (markInt64S _ _ _ _ _));conv=>whnf)|(intro _;first|omega|conv=>whnf)|(apply And.intro<;>intro _<;>first|omega|conv=>whnf)|refine ⟨Seal.mk ?_,Seal.mk ?_⟩|((first|refine ⟨leaf,?_⟩|refine Or.inl ⟨leaf,?_⟩|apply Or.inr|refine ⟨_,rfl,?_⟩|refine ⟨_,⟨rfl,rfl⟩,?_⟩|refine ⟨intE .u8,⟨rfl,fun _=>rfl⟩,?_⟩|refine ⟨_,⟨rfl,rfl,leaf⟩,?_⟩);conv=>whnf)|with_reducible assumption|exact leaf|fail)
  (refine ⟨(),⟨⟩,?_⟩;((try refine wF ?_);repeat' (first|exact ⟨⟩|refine ⟨leaf,?_⟩|((conv=>whnf);first|exact ⟨⟩|refine ⟨leaf,?_⟩))))
theorem heldParser (s : Par) (h : ParB s) (n : Int) (hn : 0 ≤ n) (hn' : n ≤ 68719476736) : CallA S 193 [.agg (parC (.loc 0) s), .int .i64 n] ⟨parH false (.loc 0) (mkPar n s) [], 1⟩ (Ret1 (.int .i64 (n + s.params.length)) ⟨[], 1⟩) := by
  refine .ofC hS _ _ _ Tryz.func193 ?_
  conv => whnf
  obtain ⟨h0⟩ := h
  repeat' (first|refine Seal.mk ?_|(refine wS ?_;(conv=>whnf);fail_if_success show False)|((first|refine opsA_step ?_|refine drawS_go ?_|apply wL (heldInt64S _ _ _ _ _));conv=>whnf)|(intro _;first|omega|conv=>whnf)|(apply And.intro<;>intro _<;>first|omega|conv=>whnf)|refine ⟨Seal.mk ?_,Seal.mk ?_⟩|((first|refine ⟨leaf,?_⟩|refine Or.inl ⟨leaf,?_⟩|apply Or.inr|refine ⟨_,rfl,?_⟩|refine ⟨_,⟨rfl,rfl⟩,?_⟩|refine ⟨intE .u8,⟨rfl,fun _=>rfl⟩,?_⟩|refine ⟨_,⟨rfl,rfl,leaf⟩,?_⟩);conv=>whnf)|with_reducible assumption|exact leaf|fail)
  all_goals (refine ⟨(),⟨⟩,?_⟩;((try refine wF ?_);repeat' (first|exact ⟨⟩|refine ⟨leaf,?_⟩|((conv=>whnf);first|exact ⟨⟩|refine ⟨leaf,?_⟩))))
@[reducible] noncomputable def mkGrd (n : Int) (s : Grd) : Grd := { s with cells := mks (mkP (n)) s.cells.length, back := mks (mkP (n + 2 * s.cells.length)) s.back.length }
theorem markGrid (s : Grd) (h : GrdB s) (n : Int) (hn : 0 ≤ n) (hn' : n ≤ 68719476736) : CallA S 192 [.agg (grdC (.loc 0) (.loc 1) s), .int .i64 n] ⟨grdH true (.loc 0) (.loc 1) s [], 2⟩ (Ret1 (.int .i64 (n + 2 * s.cells.length + 2 * s.back.length)) ⟨grdH true (.loc 0) (.loc 1) (mkGrd n s) [], 2⟩) := by
  refine .ofC hS _ _ _ Tryz.func192 ?_
  conv => whnf
  obtain ⟨h0, h1⟩ := h
  repeat' (first|refine Seal.mk ?_|(refine wS ?_;(conv=>whnf);fail_if_success show False)|((first|refine opsA_step ?_|refine drawS_go ?_|apply wL (markCellS _ _ _ _ _));conv=>whnf)|(intro _;first|omega|conv=>whnf)|(apply And.intro<;>intro _<;>first|omega|conv=>whnf)|refine ⟨Seal.mk ?_,Seal.mk ?_⟩|((first|refine ⟨leaf,?_⟩|refine Or.inl ⟨leaf,?_⟩|apply Or.inr|refine ⟨_,rfl,?_⟩|refine ⟨_,⟨rfl,rfl⟩,?_⟩|refine ⟨intE .u8,⟨rfl,fun _=>rfl⟩,?_⟩|refine ⟨_,⟨rfl,rfl,leaf⟩,?_⟩);conv=>whnf)|with_reducible assumption|exact leaf|fail)
  (refine ⟨(),⟨⟩,?_⟩;((try refine wF ?_);repeat' (first|exact ⟨⟩|refine ⟨leaf,?_⟩|((conv=>whnf);first|exact ⟨⟩|refine ⟨leaf,?_⟩))))
theorem heldGrid (s : Grd) (h : GrdB s) (n : Int) (hn : 0 ≤ n) (hn' : n ≤ 68719476736) : CallA S 267 [.agg (grdC (.loc 0) (.loc 1) s), .int .i64 n] ⟨grdH false (.loc 0) (.loc 1) (mkGrd n s) [], 2⟩ (Ret1 (.int .i64 (n + 2 * s.cells.length + 2 * s.back.length)) ⟨[], 2⟩) := by
  refine .ofC hS _ _ _ Tryz.func267 ?_
  conv => whnf
  obtain ⟨h0, h1⟩ := h
  repeat' (first|refine Seal.mk ?_|(refine wS ?_;(conv=>whnf);fail_if_success show False)|((first|refine opsA_step ?_|refine drawS_go ?_|apply wL (heldCellS _ _ _ _ _));conv=>whnf)|(intro _;first|omega|conv=>whnf)|(apply And.intro<;>intro _<;>first|omega|conv=>whnf)|refine ⟨Seal.mk ?_,Seal.mk ?_⟩|((first|refine ⟨leaf,?_⟩|refine Or.inl ⟨leaf,?_⟩|apply Or.inr|refine ⟨_,rfl,?_⟩|refine ⟨_,⟨rfl,rfl⟩,?_⟩|refine ⟨intE .u8,⟨rfl,fun _=>rfl⟩,?_⟩|refine ⟨_,⟨rfl,rfl,leaf⟩,?_⟩);conv=>whnf)|with_reducible assumption|exact leaf|fail)
  all_goals (refine ⟨(),⟨⟩,?_⟩;((try refine wF ?_);repeat' (first|exact ⟨⟩|refine ⟨leaf,?_⟩|((conv=>whnf);first|exact ⟨⟩|refine ⟨leaf,?_⟩))))
@[reducible] noncomputable def mkScr (n : Int) (s : Scr) : Scr := { s with grid := mkGrd (n) s.grid, tabs := mks (mkB (n + 2 * s.grid.cells.length + 2 * s.grid.back.length)) s.tabs.length, sets := mks (mkI (n + 2 * s.grid.cells.length + 2 * s.grid.back.length + s.tabs.length)) s.sets.length }
theorem markScreen (s : Scr) (h : ScrB s) (n : Int) (hn : 0 ≤ n) (hn' : n ≤ 34359738368) : CallA S 99 [.agg (scrC (.loc 0) (.loc 1) (.loc 2) (.loc 3) s), .int .i64 n] ⟨scrH true (.loc 0) (.loc 1) (.loc 2) (.loc 3) s [], 4⟩ (Ret1 (.int .i64 (n + 2 * s.grid.cells.length + 2 * s.grid.back.length + s.tabs.length + s.sets.length)) ⟨scrH true (.loc 0) (.loc 1) (.loc 2) (.loc 3) (mkScr n s) [], 4⟩) := by
  refine .ofC hS _ _ _ Tryz.func99 ?_
  conv => whnf
  obtain ⟨h0, h1, h2⟩ := h
  have h0x := h0
  obtain ⟨h0_0, h0_1⟩ := h0x
  repeat' (first|refine Seal.mk ?_|(refine wS ?_;(conv=>whnf);fail_if_success show False)|((first|refine opsA_step ?_|refine drawS_go ?_|apply wL (markGrid _ _ _ _ _)|apply wL (markBoolS _ _ _ _ _)|apply wL (markInt64S _ _ _ _ _));conv=>whnf)|(intro _;first|omega|conv=>whnf)|(apply And.intro<;>intro _<;>first|omega|conv=>whnf)|refine ⟨Seal.mk ?_,Seal.mk ?_⟩|((first|refine ⟨leaf,?_⟩|refine Or.inl ⟨leaf,?_⟩|apply Or.inr|refine ⟨_,rfl,?_⟩|refine ⟨_,⟨rfl,rfl⟩,?_⟩|refine ⟨intE .u8,⟨rfl,fun _=>rfl⟩,?_⟩|refine ⟨_,⟨rfl,rfl,leaf⟩,?_⟩);conv=>whnf)|with_reducible assumption|exact leaf|fail)
  (refine ⟨(),⟨⟩,?_⟩;((try refine wF ?_);repeat' (first|exact ⟨⟩|refine ⟨leaf,?_⟩|((conv=>whnf);first|exact ⟨⟩|refine ⟨leaf,?_⟩))))
theorem heldScreen (s : Scr) (h : ScrB s) (n : Int) (hn : 0 ≤ n) (hn' : n ≤ 34359738368) : CallA S 194 [.agg (scrC (.loc 0) (.loc 1) (.loc 2) (.loc 3) s), .int .i64 n] ⟨scrH false (.loc 0) (.loc 1) (.loc 2) (.loc 3) (mkScr n s) [], 4⟩ (Ret1 (.int .i64 (n + 2 * s.grid.cells.length + 2 * s.grid.back.length + s.tabs.length + s.sets.length)) ⟨[], 4⟩) := by
  refine .ofC hS _ _ _ Tryz.func194 ?_
  conv => whnf
  obtain ⟨h0, h1, h2⟩ := h
  have h0x := h0
  obtain ⟨h0_0, h0_1⟩ := h0x
  repeat' (first|refine Seal.mk ?_|(refine wS ?_;(conv=>whnf);fail_if_success show False)|((first|refine opsA_step ?_|refine drawS_go ?_|apply wL (heldGrid _ _ _ _ _)|apply wL (heldBoolS _ _ _ _ _)|apply wL (heldInt64S _ _ _ _ _));conv=>whnf)|(intro _;first|omega|conv=>whnf)|(apply And.intro<;>intro _<;>first|omega|conv=>whnf)|refine ⟨Seal.mk ?_,Seal.mk ?_⟩|((first|refine ⟨leaf,?_⟩|refine Or.inl ⟨leaf,?_⟩|apply Or.inr|refine ⟨_,rfl,?_⟩|refine ⟨_,⟨rfl,rfl⟩,?_⟩|refine ⟨intE .u8,⟨rfl,fun _=>rfl⟩,?_⟩|refine ⟨_,⟨rfl,rfl,leaf⟩,?_⟩);conv=>whnf)|with_reducible assumption|exact leaf|fail)
  all_goals (refine ⟨(),⟨⟩,?_⟩;((try refine wF ?_);repeat' (first|exact ⟨⟩|refine ⟨leaf,?_⟩|((conv=>whnf);first|exact ⟨⟩|refine ⟨leaf,?_⟩))))
@[reducible] noncomputable def mkVt (n : Int) (s : Vt) : Vt := { s with par := mkPar (n) s.par, scr := mkScr (n + s.par.params.length) s.scr }
theorem markVt (s : Vt) (h : VtB s) (n : Int) (hn : 0 ≤ n) (hn' : n ≤ 17179869184) : CallA S 27 [.agg (vtC (.loc 0) (.loc 1) (.loc 2) (.loc 3) (.loc 4) s), .int .i64 n] ⟨vtH true (.loc 0) (.loc 1) (.loc 2) (.loc 3) (.loc 4) s [], 5⟩ (Ret1 (.int .i64 (n + s.par.params.length + 2 * s.scr.grid.cells.length + 2 * s.scr.grid.back.length + s.scr.tabs.length + s.scr.sets.length)) ⟨vtH true (.loc 0) (.loc 1) (.loc 2) (.loc 3) (.loc 4) (mkVt n s) [], 5⟩) := by
  refine .ofC hS _ _ _ Tryz.func27 ?_
  conv => whnf
  obtain ⟨h0, h1⟩ := h
  have h0x := h0
  obtain ⟨h0_0⟩ := h0x
  have h1x := h1
  obtain ⟨h1_0, h1_1, h1_2⟩ := h1x
  have h1_0x := h1_0
  obtain ⟨h1_0_0, h1_0_1⟩ := h1_0x
  repeat' (first|refine Seal.mk ?_|(refine wS ?_;(conv=>whnf);fail_if_success show False)|((first|refine opsA_step ?_|refine drawS_go ?_|apply wL (markParser _ _ _ _ _)|apply wL (markScreen _ _ _ _ _));conv=>whnf)|(intro _;first|omega|conv=>whnf)|(apply And.intro<;>intro _<;>first|omega|conv=>whnf)|refine ⟨Seal.mk ?_,Seal.mk ?_⟩|((first|refine ⟨leaf,?_⟩|refine Or.inl ⟨leaf,?_⟩|apply Or.inr|refine ⟨_,rfl,?_⟩|refine ⟨_,⟨rfl,rfl⟩,?_⟩|refine ⟨intE .u8,⟨rfl,fun _=>rfl⟩,?_⟩|refine ⟨_,⟨rfl,rfl,leaf⟩,?_⟩);conv=>whnf)|with_reducible assumption|exact leaf|fail)
  (refine ⟨(),⟨⟩,?_⟩;((try refine wF ?_);repeat' (first|exact ⟨⟩|refine ⟨leaf,?_⟩|((conv=>whnf);first|exact ⟨⟩|refine ⟨leaf,?_⟩))))
theorem heldVt (s : Vt) (h : VtB s) (n : Int) (hn : 0 ≤ n) (hn' : n ≤ 17179869184) : CallA S 100 [.agg (vtC (.loc 0) (.loc 1) (.loc 2) (.loc 3) (.loc 4) s), .int .i64 n] ⟨vtH false (.loc 0) (.loc 1) (.loc 2) (.loc 3) (.loc 4) (mkVt n s) [], 5⟩ (Ret1 (.int .i64 (n + s.par.params.length + 2 * s.scr.grid.cells.length + 2 * s.scr.grid.back.length + s.scr.tabs.length + s.scr.sets.length)) ⟨[], 5⟩) := by
  refine .ofC hS _ _ _ Tryz.func100 ?_
  conv => whnf
  obtain ⟨h0, h1⟩ := h
  have h0x := h0
  obtain ⟨h0_0⟩ := h0x
  have h1x := h1
  obtain ⟨h1_0, h1_1, h1_2⟩ := h1x
  have h1_0x := h1_0
  obtain ⟨h1_0_0, h1_0_1⟩ := h1_0x
  repeat' (first|refine Seal.mk ?_|(refine wS ?_;(conv=>whnf);fail_if_success show False)|((first|refine opsA_step ?_|refine drawS_go ?_|apply wL (heldParser _ _ _ _ _)|apply wL (heldScreen _ _ _ _ _));conv=>whnf)|(intro _;first|omega|conv=>whnf)|(apply And.intro<;>intro _<;>first|omega|conv=>whnf)|refine ⟨Seal.mk ?_,Seal.mk ?_⟩|((first|refine ⟨leaf,?_⟩|refine Or.inl ⟨leaf,?_⟩|apply Or.inr|refine ⟨_,rfl,?_⟩|refine ⟨_,⟨rfl,rfl⟩,?_⟩|refine ⟨intE .u8,⟨rfl,fun _=>rfl⟩,?_⟩|refine ⟨_,⟨rfl,rfl,leaf⟩,?_⟩);conv=>whnf)|with_reducible assumption|exact leaf|fail)
  all_goals (refine ⟨(),⟨⟩,?_⟩;((try refine wF ?_);repeat' (first|exact ⟨⟩|refine ⟨leaf,?_⟩|((conv=>whnf);first|exact ⟨⟩|refine ⟨leaf,?_⟩))))
@[reducible] noncomputable def mkKbd (n : Int) (s : Kbd) : Kbd := { s with holds := mks (mkP (n)) s.holds.length }
theorem markKeyboard (s : Kbd) (h : KbdB s) (n : Int) (hn : 0 ≤ n) (hn' : n ≤ 17179869184) : CallA S 140 [.agg (kbdC (.loc 0) s), .int .i64 n] ⟨kbdH true (.loc 0) s [], 1⟩ (Ret1 (.int .i64 (n + 2 * s.holds.length)) ⟨kbdH true (.loc 0) (mkKbd n s) [], 1⟩) := by
  refine .ofC hS _ _ _ Tryz.func140 ?_
  conv => whnf
  obtain ⟨h0⟩ := h
  repeat' (first|refine Seal.mk ?_|(refine wS ?_;(conv=>whnf);fail_if_success show False)|((first|refine opsA_step ?_|refine drawS_go ?_|apply wL (markHoldS _ _ _ _ _));conv=>whnf)|(intro _;first|omega|conv=>whnf)|(apply And.intro<;>intro _<;>first|omega|conv=>whnf)|refine ⟨Seal.mk ?_,Seal.mk ?_⟩|((first|refine ⟨leaf,?_⟩|refine Or.inl ⟨leaf,?_⟩|apply Or.inr|refine ⟨_,rfl,?_⟩|refine ⟨_,⟨rfl,rfl⟩,?_⟩|refine ⟨intE .u8,⟨rfl,fun _=>rfl⟩,?_⟩|refine ⟨_,⟨rfl,rfl,leaf⟩,?_⟩);conv=>whnf)|with_reducible assumption|exact leaf|fail)
  (refine ⟨(),⟨⟩,?_⟩;((try refine wF ?_);repeat' (first|exact ⟨⟩|refine ⟨leaf,?_⟩|((conv=>whnf);first|exact ⟨⟩|refine ⟨leaf,?_⟩))))
theorem heldKeyboard (s : Kbd) (h : KbdB s) (n : Int) (hn : 0 ≤ n) (hn' : n ≤ 17179869184) : CallA S 229 [.agg (kbdC (.loc 0) s), .int .i64 n] ⟨kbdH false (.loc 0) (mkKbd n s) [], 1⟩ (Ret1 (.int .i64 (n + 2 * s.holds.length)) ⟨[], 1⟩) := by
  refine .ofC hS _ _ _ Tryz.func229 ?_
  conv => whnf
  obtain ⟨h0⟩ := h
  repeat' (first|refine Seal.mk ?_|(refine wS ?_;(conv=>whnf);fail_if_success show False)|((first|refine opsA_step ?_|refine drawS_go ?_|apply wL (heldHoldS _ _ _ _ _));conv=>whnf)|(intro _;first|omega|conv=>whnf)|(apply And.intro<;>intro _<;>first|omega|conv=>whnf)|refine ⟨Seal.mk ?_,Seal.mk ?_⟩|((first|refine ⟨leaf,?_⟩|refine Or.inl ⟨leaf,?_⟩|apply Or.inr|refine ⟨_,rfl,?_⟩|refine ⟨_,⟨rfl,rfl⟩,?_⟩|refine ⟨intE .u8,⟨rfl,fun _=>rfl⟩,?_⟩|refine ⟨_,⟨rfl,rfl,leaf⟩,?_⟩);conv=>whnf)|with_reducible assumption|exact leaf|fail)
  all_goals (refine ⟨(),⟨⟩,?_⟩;((try refine wF ?_);repeat' (first|exact ⟨⟩|refine ⟨leaf,?_⟩|((conv=>whnf);first|exact ⟨⟩|refine ⟨leaf,?_⟩))))
end Go.Mu
