/- The law's own functions: structs copied. -/
import Derived.Test.YtcimmkokkmbhpaaGreatLB
set_option linter.unusedSimpArgs false
set_option linter.unusedVariables false
set_option linter.constructorNameAsVariable false
namespace Go.Mu
open Go Go.Vm Go.RowKit Go.Proofs
attribute [local irreducible] wpA opsA stillA drawA drawS
set_option maxRecDepth 20000
set_option maxHeartbeats 4000000
theorem toDecoder (s : Dec) : CallA S 86 [.agg (decC s)] ⟨[], 0⟩ (Ret1 (.agg (decC s)) ⟨[], 0⟩) := by
  refine .ofC hS _ _ _ Tryz.func86 ?_
  conv => whnf
  repeat' (first|refine Seal.mk ?_|(refine wS ?_;(conv=>whnf);fail_if_success show False)|((first|refine opsA_step ?_|refine drawS_go ?_);conv=>whnf)|(intro _;first|omega|conv=>whnf)|(apply And.intro<;>intro _<;>first|omega|conv=>whnf)|refine ⟨Seal.mk ?_,Seal.mk ?_⟩|((first|refine ⟨leaf,?_⟩|refine Or.inl ⟨leaf,?_⟩|apply Or.inr|refine ⟨_,rfl,?_⟩|refine ⟨_,⟨rfl,rfl⟩,?_⟩|refine ⟨intE .u8,⟨rfl,fun _=>rfl⟩,?_⟩|refine ⟨_,⟨rfl,rfl,leaf⟩,?_⟩);conv=>whnf)|with_reducible assumption|exact leaf|fail)
  (refine ⟨(),⟨⟩,?_⟩;((try refine wF ?_);repeat' (first|exact ⟨⟩|refine ⟨leaf,?_⟩|((conv=>whnf);first|exact ⟨⟩|refine ⟨leaf,?_⟩))))
theorem toParser (s : Par) (h : ParB s) : CallA S 87 [.agg (parC (.loc 0) s)] ⟨parH false (.loc 0) s [], 1⟩ (Ret1 (.agg (parC (.loc 1) s)) ⟨parH true (.loc 1) s [], 2⟩) := by
  refine .ofC hS _ _ _ Tryz.func87 ?_
  conv => whnf
  obtain ⟨h0⟩ := h
  repeat' (first|refine Seal.mk ?_|(refine wS ?_;(conv=>whnf);fail_if_success show False)|((first|refine opsA_step ?_|refine drawS_go ?_|apply wL (toInt64S _ _));conv=>whnf)|(intro _;first|omega|conv=>whnf)|(apply And.intro<;>intro _<;>first|omega|conv=>whnf)|refine ⟨Seal.mk ?_,Seal.mk ?_⟩|((first|refine ⟨leaf,?_⟩|refine Or.inl ⟨leaf,?_⟩|apply Or.inr|refine ⟨_,rfl,?_⟩|refine ⟨_,⟨rfl,rfl⟩,?_⟩|refine ⟨intE .u8,⟨rfl,fun _=>rfl⟩,?_⟩|refine ⟨_,⟨rfl,rfl,leaf⟩,?_⟩);conv=>whnf)|with_reducible assumption|exact leaf|fail)
  (refine ⟨(),⟨⟩,?_⟩;((try refine wF ?_);repeat' (first|exact ⟨⟩|refine ⟨leaf,?_⟩|((conv=>whnf);first|exact ⟨⟩|refine ⟨leaf,?_⟩))))
theorem toGrid (s : Grd) (h : GrdB s) : CallA S 181 [.agg (grdC (.loc 0) (.loc 1) s)] ⟨grdH false (.loc 0) (.loc 1) s [], 2⟩ (Ret1 (.agg (grdC (.loc 2) (.loc 3) s)) ⟨grdH true (.loc 2) (.loc 3) s [], 4⟩) := by
  refine .ofC hS _ _ _ Tryz.func181 ?_
  conv => whnf
  obtain ⟨h0, h1⟩ := h
  repeat' (first|refine Seal.mk ?_|(refine wS ?_;(conv=>whnf);fail_if_success show False)|((first|refine opsA_step ?_|refine drawS_go ?_|apply wL (toCellS _ _));conv=>whnf)|(intro _;first|omega|conv=>whnf)|(apply And.intro<;>intro _<;>first|omega|conv=>whnf)|refine ⟨Seal.mk ?_,Seal.mk ?_⟩|((first|refine ⟨leaf,?_⟩|refine Or.inl ⟨leaf,?_⟩|apply Or.inr|refine ⟨_,rfl,?_⟩|refine ⟨_,⟨rfl,rfl⟩,?_⟩|refine ⟨intE .u8,⟨rfl,fun _=>rfl⟩,?_⟩|refine ⟨_,⟨rfl,rfl,leaf⟩,?_⟩);conv=>whnf)|with_reducible assumption|exact leaf|fail)
  (refine ⟨(),⟨⟩,?_⟩;((try refine wF ?_);repeat' (first|exact ⟨⟩|refine ⟨leaf,?_⟩|((conv=>whnf);first|exact ⟨⟩|refine ⟨leaf,?_⟩))))
theorem toScreen (s : Scr) (h : ScrB s) : CallA S 88 [.agg (scrC (.loc 0) (.loc 1) (.loc 2) (.loc 3) s)] ⟨scrH false (.loc 0) (.loc 1) (.loc 2) (.loc 3) s [], 4⟩ (Ret1 (.agg (scrC (.loc 4) (.loc 5) (.loc 6) (.loc 7) s)) ⟨scrH true (.loc 4) (.loc 5) (.loc 6) (.loc 7) s [], 8⟩) := by
  refine .ofC hS _ _ _ Tryz.func88 ?_
  conv => whnf
  obtain ⟨h0, h1, h2⟩ := h
  repeat' (first|refine Seal.mk ?_|(refine wS ?_;(conv=>whnf);fail_if_success show False)|((first|refine opsA_step ?_|refine drawS_go ?_|apply wL (toGrid _ _)|apply wL (toBoolS _ _)|apply wL (toInt64S _ _));conv=>whnf)|(intro _;first|omega|conv=>whnf)|(apply And.intro<;>intro _<;>first|omega|conv=>whnf)|refine ⟨Seal.mk ?_,Seal.mk ?_⟩|((first|refine ⟨leaf,?_⟩|refine Or.inl ⟨leaf,?_⟩|apply Or.inr|refine ⟨_,rfl,?_⟩|refine ⟨_,⟨rfl,rfl⟩,?_⟩|refine ⟨intE .u8,⟨rfl,fun _=>rfl⟩,?_⟩|refine ⟨_,⟨rfl,rfl,leaf⟩,?_⟩);conv=>whnf)|with_reducible assumption|exact leaf|fail)
  (refine ⟨(),⟨⟩,?_⟩;((try refine wF ?_);repeat' (first|exact ⟨⟩|refine ⟨leaf,?_⟩|((conv=>whnf);first|exact ⟨⟩|refine ⟨leaf,?_⟩))))
theorem toVt (s : Vt) (h : VtB s) : CallA S 23 [.agg (vtC (.loc 0) (.loc 1) (.loc 2) (.loc 3) (.loc 4) s)] ⟨vtH false (.loc 0) (.loc 1) (.loc 2) (.loc 3) (.loc 4) s [], 5⟩ (Ret1 (.agg (vtC (.loc 5) (.loc 6) (.loc 7) (.loc 8) (.loc 9) s)) ⟨vtH true (.loc 5) (.loc 6) (.loc 7) (.loc 8) (.loc 9) s [], 10⟩) := by
  refine .ofC hS _ _ _ Tryz.func23 ?_
  conv => whnf
  obtain ⟨h0, h1⟩ := h
  repeat' (first|refine Seal.mk ?_|(refine wS ?_;(conv=>whnf);fail_if_success show False)|((first|refine opsA_step ?_|refine drawS_go ?_|apply wL (toDecoder _)|apply wL (toParser _ _)|apply wL (toScreen _ _));conv=>whnf)|(intro _;first|omega|conv=>whnf)|(apply And.intro<;>intro _<;>first|omega|conv=>whnf)|refine ⟨Seal.mk ?_,Seal.mk ?_⟩|((first|refine ⟨leaf,?_⟩|refine Or.inl ⟨leaf,?_⟩|apply Or.inr|refine ⟨_,rfl,?_⟩|refine ⟨_,⟨rfl,rfl⟩,?_⟩|refine ⟨intE .u8,⟨rfl,fun _=>rfl⟩,?_⟩|refine ⟨_,⟨rfl,rfl,leaf⟩,?_⟩);conv=>whnf)|with_reducible assumption|exact leaf|fail)
  (refine ⟨(),⟨⟩,?_⟩;((try refine wF ?_);repeat' (first|exact ⟨⟩|refine ⟨leaf,?_⟩|((conv=>whnf);first|exact ⟨⟩|refine ⟨leaf,?_⟩))))
theorem toWay (s : Wy) : CallA S 31 [.agg (wyC s)] ⟨[], 0⟩ (Ret1 (.agg (wyC s)) ⟨[], 0⟩) := by
  refine .ofC hS _ _ _ Tryz.func31 ?_
  conv => whnf
  repeat' (first|refine Seal.mk ?_|(refine wS ?_;(conv=>whnf);fail_if_success show False)|((first|refine opsA_step ?_|refine drawS_go ?_);conv=>whnf)|(intro _;first|omega|conv=>whnf)|(apply And.intro<;>intro _<;>first|omega|conv=>whnf)|refine ⟨Seal.mk ?_,Seal.mk ?_⟩|((first|refine ⟨leaf,?_⟩|refine Or.inl ⟨leaf,?_⟩|apply Or.inr|refine ⟨_,rfl,?_⟩|refine ⟨_,⟨rfl,rfl⟩,?_⟩|refine ⟨intE .u8,⟨rfl,fun _=>rfl⟩,?_⟩|refine ⟨_,⟨rfl,rfl,leaf⟩,?_⟩);conv=>whnf)|with_reducible assumption|exact leaf|fail)
  (refine ⟨(),⟨⟩,?_⟩;((try refine wF ?_);repeat' (first|exact ⟨⟩|refine ⟨leaf,?_⟩|((conv=>whnf);first|exact ⟨⟩|refine ⟨leaf,?_⟩))))
theorem toKeyboard (s : Kbd) (h : KbdB s) : CallA S 119 [.agg (kbdC (.loc 0) s)] ⟨kbdH false (.loc 0) s [], 1⟩ (Ret1 (.agg (kbdC (.loc 1) s)) ⟨kbdH true (.loc 1) s [], 2⟩) := by
  refine .ofC hS _ _ _ Tryz.func119 ?_
  conv => whnf
  obtain ⟨h0⟩ := h
  repeat' (first|refine Seal.mk ?_|(refine wS ?_;(conv=>whnf);fail_if_success show False)|((first|refine opsA_step ?_|refine drawS_go ?_|apply wL (toHoldS _ _));conv=>whnf)|(intro _;first|omega|conv=>whnf)|(apply And.intro<;>intro _<;>first|omega|conv=>whnf)|refine ⟨Seal.mk ?_,Seal.mk ?_⟩|((first|refine ⟨leaf,?_⟩|refine Or.inl ⟨leaf,?_⟩|apply Or.inr|refine ⟨_,rfl,?_⟩|refine ⟨_,⟨rfl,rfl⟩,?_⟩|refine ⟨intE .u8,⟨rfl,fun _=>rfl⟩,?_⟩|refine ⟨_,⟨rfl,rfl,leaf⟩,?_⟩);conv=>whnf)|with_reducible assumption|exact leaf|fail)
  (refine ⟨(),⟨⟩,?_⟩;((try refine wF ?_);repeat' (first|exact ⟨⟩|refine ⟨leaf,?_⟩|((conv=>whnf);first|exact ⟨⟩|refine ⟨leaf,?_⟩))))
end Go.Mu

namespace Go.Mu
open Go Go.Vm Go.RowKit Go.Proofs
attribute [local irreducible] wpA opsA stillA drawA drawS
set_option maxRecDepth 20000
set_option maxHeartbeats 4000000
theorem eqDecoder (s : Dec) : CallA S 95 [.agg (decC s), .agg (decC s)] ⟨[], 0⟩ (Ret1 (.tt) ⟨[], 0⟩) := by
  refine .ofC hS _ _ _ Tryz.func95 ?_
  conv => whnf
  repeat' (first|refine Seal.mk ?_|(refine wS ?_;(conv=>whnf);fail_if_success show False)|((first|refine opsA_step ?_|refine drawS_go ?_);conv=>whnf)|(intro _;first|omega|conv=>whnf)|(apply And.intro<;>intro _<;>first|omega|conv=>whnf)|refine ⟨Seal.mk ?_,Seal.mk ?_⟩|((first|refine ⟨leaf,?_⟩|refine Or.inl ⟨leaf,?_⟩|apply Or.inr|refine ⟨_,rfl,?_⟩|refine ⟨_,⟨rfl,rfl⟩,?_⟩|refine ⟨intE .u8,⟨rfl,fun _=>rfl⟩,?_⟩|refine ⟨_,⟨rfl,rfl,leaf⟩,?_⟩);conv=>whnf)|with_reducible assumption|exact leaf|fail)
  all_goals (first | (exact absurd rfl (by assumption)) | (exact absurd Iff.rfl (by assumption)) | (refine ⟨(),⟨⟩,?_⟩;((try refine wF ?_);repeat' (first|exact ⟨⟩|refine ⟨leaf,?_⟩|((conv=>whnf);first|exact ⟨⟩|refine ⟨leaf,?_⟩)))))
theorem eqParser (s : Par) (h : ParB s) : CallA S 96 [.agg (parC (.loc 0) s), .agg (parC (.loc 1) s)] ⟨parH false (.loc 0) s (parH false (.loc 1) s []), 2⟩ (Ret1 (.tt) ⟨[], 2⟩) := by
  refine .ofC hS _ _ _ Tryz.func96 ?_
  conv => whnf
  obtain ⟨h0⟩ := h
  repeat' (first|refine Seal.mk ?_|(refine wS ?_;(conv=>whnf);fail_if_success show False)|((first|refine opsA_step ?_|refine drawS_go ?_|apply wL (eqInt64S _ _));conv=>whnf)|(intro _;first|omega|conv=>whnf)|(apply And.intro<;>intro _<;>first|omega|conv=>whnf)|refine ⟨Seal.mk ?_,Seal.mk ?_⟩|((first|refine ⟨leaf,?_⟩|refine Or.inl ⟨leaf,?_⟩|apply Or.inr|refine ⟨_,rfl,?_⟩|refine ⟨_,⟨rfl,rfl⟩,?_⟩|refine ⟨intE .u8,⟨rfl,fun _=>rfl⟩,?_⟩|refine ⟨_,⟨rfl,rfl,leaf⟩,?_⟩);conv=>whnf)|with_reducible assumption|exact leaf|fail)
  all_goals (first | (exact absurd rfl (by assumption)) | (exact absurd Iff.rfl (by assumption)) | (refine ⟨(),⟨⟩,?_⟩;((try refine wF ?_);repeat' (first|exact ⟨⟩|refine ⟨leaf,?_⟩|((conv=>whnf);first|exact ⟨⟩|refine ⟨leaf,?_⟩)))))
theorem szParser (s : Par) (left : Int) (hl : -1 ≤ left) (hl' : left ≤ 1048576) : CallA S 81 [.agg (parC (.loc 0) s), .int .i64 left] ⟨[], 1⟩ (Ret (γ := Int) (fun g => (left - s.params.length < 0 → g = -1) ∧ (¬ left - s.params.length < 0 → g = left - s.params.length)) (fun g => .int .i64 g) fun g => ⟨[], 1⟩) := by
  refine .ofC hS _ _ _ Tryz.func81 ?_
  conv => whnf
  repeat' (first|refine Seal.mk ?_|(refine wS ?_;(conv=>whnf);fail_if_success show False)|((first|refine opsA_step ?_|refine drawS_go ?_|apply wL (szInt64S _ _ _ _));conv=>whnf)|(intro _;first|omega|conv=>whnf)|(apply And.intro<;>intro _<;>first|omega|conv=>whnf)|refine ⟨Seal.mk ?_,Seal.mk ?_⟩|((first|refine ⟨leaf,?_⟩|refine Or.inl ⟨leaf,?_⟩|apply Or.inr|refine ⟨_,rfl,?_⟩|refine ⟨_,⟨rfl,rfl⟩,?_⟩|refine ⟨intE .u8,⟨rfl,fun _=>rfl⟩,?_⟩|refine ⟨_,⟨rfl,rfl,leaf⟩,?_⟩);conv=>whnf)|with_reducible assumption|exact leaf|fail)
  all_goals (first | (refine ⟨-1, ⟨by omega, by omega⟩, ?_⟩; ((try refine wF ?_);repeat' (first|exact ⟨⟩|refine ⟨leaf,?_⟩|((conv=>whnf);first|exact ⟨⟩|refine ⟨leaf,?_⟩)))) | (refine ⟨left - s.params.length, ⟨by omega, by omega⟩, ?_⟩; ((try refine wF ?_);repeat' (first|exact ⟨⟩|refine ⟨leaf,?_⟩|((conv=>whnf);first|exact ⟨⟩|refine ⟨leaf,?_⟩)))))
theorem eqGrid (s : Grd) (h : GrdB s) : CallA S 190 [.agg (grdC (.loc 0) (.loc 1) s), .agg (grdC (.loc 2) (.loc 3) s)] ⟨grdH false (.loc 0) (.loc 1) s (grdH false (.loc 2) (.loc 3) s []), 4⟩ (Ret1 (.tt) ⟨[], 4⟩) := by
  refine .ofC hS _ _ _ Tryz.func190 ?_
  conv => whnf
  obtain ⟨h0, h1⟩ := h
  repeat' (first|refine Seal.mk ?_|(refine wS ?_;(conv=>whnf);fail_if_success show False)|((first|refine opsA_step ?_|refine drawS_go ?_|apply wL (eqCellS _ _));conv=>whnf)|(intro _;first|omega|conv=>whnf)|(apply And.intro<;>intro _<;>first|omega|conv=>whnf)|refine ⟨Seal.mk ?_,Seal.mk ?_⟩|((first|refine ⟨leaf,?_⟩|refine Or.inl ⟨leaf,?_⟩|apply Or.inr|refine ⟨_,rfl,?_⟩|refine ⟨_,⟨rfl,rfl⟩,?_⟩|refine ⟨intE .u8,⟨rfl,fun _=>rfl⟩,?_⟩|refine ⟨_,⟨rfl,rfl,leaf⟩,?_⟩);conv=>whnf)|with_reducible assumption|exact leaf|fail)
  all_goals (first | (exact absurd rfl (by assumption)) | (exact absurd Iff.rfl (by assumption)) | (refine ⟨(),⟨⟩,?_⟩;((try refine wF ?_);repeat' (first|exact ⟨⟩|refine ⟨leaf,?_⟩|((conv=>whnf);first|exact ⟨⟩|refine ⟨leaf,?_⟩)))))
theorem szGrid (s : Grd) (left : Int) (hl : -1 ≤ left) (hl' : left ≤ 1048576) : CallA S 169 [.agg (grdC (.loc 0) (.loc 1) s), .int .i64 left] ⟨[], 2⟩ (Ret (γ := Int) (fun g => (left - s.cells.length - s.back.length < 0 → g = -1) ∧ (¬ left - s.cells.length - s.back.length < 0 → g = left - s.cells.length - s.back.length)) (fun g => .int .i64 g) fun g => ⟨[], 2⟩) := by
  refine .ofC hS _ _ _ Tryz.func169 ?_
  conv => whnf
  repeat' (first|refine Seal.mk ?_|(refine wS ?_;(conv=>whnf);fail_if_success show False)|((first|refine opsA_step ?_|refine drawS_go ?_|apply wL (szCellS _ _ _ _));conv=>whnf)|(intro _;first|omega|conv=>whnf)|(apply And.intro<;>intro _<;>first|omega|conv=>whnf)|refine ⟨Seal.mk ?_,Seal.mk ?_⟩|((first|refine ⟨leaf,?_⟩|refine Or.inl ⟨leaf,?_⟩|apply Or.inr|refine ⟨_,rfl,?_⟩|refine ⟨_,⟨rfl,rfl⟩,?_⟩|refine ⟨intE .u8,⟨rfl,fun _=>rfl⟩,?_⟩|refine ⟨_,⟨rfl,rfl,leaf⟩,?_⟩);conv=>whnf)|with_reducible assumption|exact leaf|fail)
  all_goals (first | (refine ⟨-1, ⟨by omega, by omega⟩, ?_⟩; ((try refine wF ?_);repeat' (first|exact ⟨⟩|refine ⟨leaf,?_⟩|((conv=>whnf);first|exact ⟨⟩|refine ⟨leaf,?_⟩)))) | (refine ⟨left - s.cells.length - s.back.length, ⟨by omega, by omega⟩, ?_⟩; ((try refine wF ?_);repeat' (first|exact ⟨⟩|refine ⟨leaf,?_⟩|((conv=>whnf);first|exact ⟨⟩|refine ⟨leaf,?_⟩)))))
theorem eqScreen (s : Scr) (h : ScrB s) : CallA S 97 [.agg (scrC (.loc 0) (.loc 1) (.loc 2) (.loc 3) s), .agg (scrC (.loc 4) (.loc 5) (.loc 6) (.loc 7) s)] ⟨scrH false (.loc 0) (.loc 1) (.loc 2) (.loc 3) s (scrH false (.loc 4) (.loc 5) (.loc 6) (.loc 7) s []), 8⟩ (Ret1 (.tt) ⟨[], 8⟩) := by
  refine .ofC hS _ _ _ Tryz.func97 ?_
  conv => whnf
  obtain ⟨h0, h1, h2⟩ := h
  repeat' (first|refine Seal.mk ?_|(refine wS ?_;(conv=>whnf);fail_if_success show False)|((first|refine opsA_step ?_|refine drawS_go ?_|apply wL (eqGrid _ _)|apply wL (eqBoolS _ _)|apply wL (eqInt64S _ _));conv=>whnf)|(intro _;first|omega|conv=>whnf)|(apply And.intro<;>intro _<;>first|omega|conv=>whnf)|refine ⟨Seal.mk ?_,Seal.mk ?_⟩|((first|refine ⟨leaf,?_⟩|refine Or.inl ⟨leaf,?_⟩|apply Or.inr|refine ⟨_,rfl,?_⟩|refine ⟨_,⟨rfl,rfl⟩,?_⟩|refine ⟨intE .u8,⟨rfl,fun _=>rfl⟩,?_⟩|refine ⟨_,⟨rfl,rfl,leaf⟩,?_⟩);conv=>whnf)|with_reducible assumption|exact leaf|fail)
  all_goals (first | (exact absurd rfl (by assumption)) | (exact absurd Iff.rfl (by assumption)) | (refine ⟨(),⟨⟩,?_⟩;((try refine wF ?_);repeat' (first|exact ⟨⟩|refine ⟨leaf,?_⟩|((conv=>whnf);first|exact ⟨⟩|refine ⟨leaf,?_⟩)))))
theorem szScreen (s : Scr) (left : Int) (hl : -1 ≤ left) (hl' : left ≤ 1048576) : CallA S 82 [.agg (scrC (.loc 0) (.loc 1) (.loc 2) (.loc 3) s), .int .i64 left] ⟨[], 4⟩ (Ret (γ := Int) (fun g => (left - s.grid.cells.length - s.grid.back.length - s.tabs.length - s.sets.length < 0 → g = -1) ∧ (¬ left - s.grid.cells.length - s.grid.back.length - s.tabs.length - s.sets.length < 0 → g = left - s.grid.cells.length - s.grid.back.length - s.tabs.length - s.sets.length)) (fun g => .int .i64 g) fun g => ⟨[], 4⟩) := by
  refine .ofC hS _ _ _ Tryz.func82 ?_
  conv => whnf
  repeat' (first|refine Seal.mk ?_|(refine wS ?_;(conv=>whnf);fail_if_success show False)|((first|refine opsA_step ?_|refine drawS_go ?_|apply wL (szGrid _ _ _ _)|apply wL (szBoolS _ _ _ _)|apply wL (szInt64S _ _ _ _));conv=>whnf)|(intro _;first|omega|conv=>whnf)|(apply And.intro<;>intro _<;>first|omega|conv=>whnf)|refine ⟨Seal.mk ?_,Seal.mk ?_⟩|((first|refine ⟨leaf,?_⟩|refine Or.inl ⟨leaf,?_⟩|apply Or.inr|refine ⟨_,rfl,?_⟩|refine ⟨_,⟨rfl,rfl⟩,?_⟩|refine ⟨intE .u8,⟨rfl,fun _=>rfl⟩,?_⟩|refine ⟨_,⟨rfl,rfl,leaf⟩,?_⟩);conv=>whnf)|with_reducible assumption|exact leaf|fail)
  all_goals (first | (refine ⟨-1, ⟨by omega, by omega⟩, ?_⟩; ((try refine wF ?_);repeat' (first|exact ⟨⟩|refine ⟨leaf,?_⟩|((conv=>whnf);first|exact ⟨⟩|refine ⟨leaf,?_⟩)))) | (refine ⟨left - s.grid.cells.length - s.grid.back.length - s.tabs.length - s.sets.length, ⟨by omega, by omega⟩, ?_⟩; ((try refine wF ?_);repeat' (first|exact ⟨⟩|refine ⟨leaf,?_⟩|((conv=>whnf);first|exact ⟨⟩|refine ⟨leaf,?_⟩)))))
theorem eqVt (s : Vt) (h : VtB s) : CallA S 26 [.agg (vtC (.loc 0) (.loc 1) (.loc 2) (.loc 3) (.loc 4) s), .agg (vtC (.loc 5) (.loc 6) (.loc 7) (.loc 8) (.loc 9) s)] ⟨vtH false (.loc 0) (.loc 1) (.loc 2) (.loc 3) (.loc 4) s (vtH false (.loc 5) (.loc 6) (.loc 7) (.loc 8) (.loc 9) s []), 10⟩ (Ret1 (.tt) ⟨[], 10⟩) := by
  refine .ofC hS _ _ _ Tryz.func26 ?_
  conv => whnf
  obtain ⟨h0, h1⟩ := h
  repeat' (first|refine Seal.mk ?_|(refine wS ?_;(conv=>whnf);fail_if_success show False)|((first|refine opsA_step ?_|refine drawS_go ?_|apply wL (eqDecoder _)|apply wL (eqParser _ _)|apply wL (eqScreen _ _));conv=>whnf)|(intro _;first|omega|conv=>whnf)|(apply And.intro<;>intro _<;>first|omega|conv=>whnf)|refine ⟨Seal.mk ?_,Seal.mk ?_⟩|((first|refine ⟨leaf,?_⟩|refine Or.inl ⟨leaf,?_⟩|apply Or.inr|refine ⟨_,rfl,?_⟩|refine ⟨_,⟨rfl,rfl⟩,?_⟩|refine ⟨intE .u8,⟨rfl,fun _=>rfl⟩,?_⟩|refine ⟨_,⟨rfl,rfl,leaf⟩,?_⟩);conv=>whnf)|with_reducible assumption|exact leaf|fail)
  all_goals (first | (exact absurd rfl (by assumption)) | (exact absurd Iff.rfl (by assumption)) | (refine ⟨(),⟨⟩,?_⟩;((try refine wF ?_);repeat' (first|exact ⟨⟩|refine ⟨leaf,?_⟩|((conv=>whnf);first|exact ⟨⟩|refine ⟨leaf,?_⟩)))))
theorem szVt (s : Vt) (left : Int) (hl : -1 ≤ left) (hl' : left ≤ 1048576) : CallA S 21 [.agg (vtC (.loc 0) (.loc 1) (.loc 2) (.loc 3) (.loc 4) s), .int .i64 left] ⟨[], 5⟩ (Ret (γ := Int) (fun g => (left - s.par.params.length - s.scr.grid.cells.length - s.scr.grid.back.length - s.scr.tabs.length - s.scr.sets.length < 0 → g = -1) ∧ (¬ left - s.par.params.length - s.scr.grid.cells.length - s.scr.grid.back.length - s.scr.tabs.length - s.scr.sets.length < 0 → g = left - s.par.params.length - s.scr.grid.cells.length - s.scr.grid.back.length - s.scr.tabs.length - s.scr.sets.length)) (fun g => .int .i64 g) fun g => ⟨[], 5⟩) := by
  refine .ofC hS _ _ _ Tryz.func21 ?_
  conv => whnf
  repeat' (first|refine Seal.mk ?_|(refine wS ?_;(conv=>whnf);fail_if_success show False)|((first|refine opsA_step ?_|refine drawS_go ?_|apply wL (szParser _ _ _ _)|apply wL (szScreen _ _ _ _));conv=>whnf)|(intro _;first|omega|conv=>whnf)|(apply And.intro<;>intro _<;>first|omega|conv=>whnf)|refine ⟨Seal.mk ?_,Seal.mk ?_⟩|((first|refine ⟨leaf,?_⟩|refine Or.inl ⟨leaf,?_⟩|apply Or.inr|refine ⟨_,rfl,?_⟩|refine ⟨_,⟨rfl,rfl⟩,?_⟩|refine ⟨intE .u8,⟨rfl,fun _=>rfl⟩,?_⟩|refine ⟨_,⟨rfl,rfl,leaf⟩,?_⟩);conv=>whnf)|with_reducible assumption|exact leaf|fail)
  all_goals (first | (refine ⟨-1, ⟨by omega, by omega⟩, ?_⟩; ((try refine wF ?_);repeat' (first|exact ⟨⟩|refine ⟨leaf,?_⟩|((conv=>whnf);first|exact ⟨⟩|refine ⟨leaf,?_⟩)))) | (refine ⟨left - s.par.params.length - s.scr.grid.cells.length - s.scr.grid.back.length - s.scr.tabs.length - s.scr.sets.length, ⟨by omega, by omega⟩, ?_⟩; ((try refine wF ?_);repeat' (first|exact ⟨⟩|refine ⟨leaf,?_⟩|((conv=>whnf);first|exact ⟨⟩|refine ⟨leaf,?_⟩)))))
theorem eqWay (s : Wy) : CallA S 79 [.agg (wyC s), .agg (wyC s)] ⟨[], 0⟩ (Ret1 (.tt) ⟨[], 0⟩) := by
  refine .ofC hS _ _ _ Tryz.func79 ?_
  conv => whnf
  repeat' (first|refine Seal.mk ?_|(refine wS ?_;(conv=>whnf);fail_if_success show False)|((first|refine opsA_step ?_|refine drawS_go ?_);conv=>whnf)|(intro _;first|omega|conv=>whnf)|(apply And.intro<;>intro _<;>first|omega|conv=>whnf)|refine ⟨Seal.mk ?_,Seal.mk ?_⟩|((first|refine ⟨leaf,?_⟩|refine Or.inl ⟨leaf,?_⟩|apply Or.inr|refine ⟨_,rfl,?_⟩|refine ⟨_,⟨rfl,rfl⟩,?_⟩|refine ⟨intE .u8,⟨rfl,fun _=>rfl⟩,?_⟩|refine ⟨_,⟨rfl,rfl,leaf⟩,?_⟩);conv=>whnf)|with_reducible assumption|exact leaf|fail)
  all_goals (first | (exact absurd rfl (by assumption)) | (exact absurd Iff.rfl (by assumption)) | (refine ⟨(),⟨⟩,?_⟩;((try refine wF ?_);repeat' (first|exact ⟨⟩|refine ⟨leaf,?_⟩|((conv=>whnf);first|exact ⟨⟩|refine ⟨leaf,?_⟩)))))
theorem eqKeyboard (s : Kbd) (h : KbdB s) : CallA S 128 [.agg (kbdC (.loc 0) s), .agg (kbdC (.loc 1) s)] ⟨kbdH false (.loc 0) s (kbdH false (.loc 1) s []), 2⟩ (Ret1 (.tt) ⟨[], 2⟩) := by
  refine .ofC hS _ _ _ Tryz.func128 ?_
  conv => whnf
  obtain ⟨h0⟩ := h
  repeat' (first|refine Seal.mk ?_|(refine wS ?_;(conv=>whnf);fail_if_success show False)|((first|refine opsA_step ?_|refine drawS_go ?_|apply wL (eqHoldS _ _));conv=>whnf)|(intro _;first|omega|conv=>whnf)|(apply And.intro<;>intro _<;>first|omega|conv=>whnf)|refine ⟨Seal.mk ?_,Seal.mk ?_⟩|((first|refine ⟨leaf,?_⟩|refine Or.inl ⟨leaf,?_⟩|apply Or.inr|refine ⟨_,rfl,?_⟩|refine ⟨_,⟨rfl,rfl⟩,?_⟩|refine ⟨intE .u8,⟨rfl,fun _=>rfl⟩,?_⟩|refine ⟨_,⟨rfl,rfl,leaf⟩,?_⟩);conv=>whnf)|with_reducible assumption|exact leaf|fail)
  all_goals (first | (exact absurd rfl (by assumption)) | (exact absurd Iff.rfl (by assumption)) | (refine ⟨(),⟨⟩,?_⟩;((try refine wF ?_);repeat' (first|exact ⟨⟩|refine ⟨leaf,?_⟩|((conv=>whnf);first|exact ⟨⟩|refine ⟨leaf,?_⟩)))))
theorem szKeyboard (s : Kbd) (left : Int) (hl : -1 ≤ left) (hl' : left ≤ 1048576) : CallA S 115 [.agg (kbdC (.loc 0) s), .int .i64 left] ⟨[], 1⟩ (Ret (γ := Int) (fun g => (left - s.holds.length < 0 → g = -1) ∧ (¬ left - s.holds.length < 0 → g = left - s.holds.length)) (fun g => .int .i64 g) fun g => ⟨[], 1⟩) := by
  refine .ofC hS _ _ _ Tryz.func115 ?_
  conv => whnf
  repeat' (first|refine Seal.mk ?_|(refine wS ?_;(conv=>whnf);fail_if_success show False)|((first|refine opsA_step ?_|refine drawS_go ?_|apply wL (szHoldS _ _ _ _));conv=>whnf)|(intro _;first|omega|conv=>whnf)|(apply And.intro<;>intro _<;>first|omega|conv=>whnf)|refine ⟨Seal.mk ?_,Seal.mk ?_⟩|((first|refine ⟨leaf,?_⟩|refine Or.inl ⟨leaf,?_⟩|apply Or.inr|refine ⟨_,rfl,?_⟩|refine ⟨_,⟨rfl,rfl⟩,?_⟩|refine ⟨intE .u8,⟨rfl,fun _=>rfl⟩,?_⟩|refine ⟨_,⟨rfl,rfl,leaf⟩,?_⟩);conv=>whnf)|with_reducible assumption|exact leaf|fail)
  all_goals (first | (refine ⟨-1, ⟨by omega, by omega⟩, ?_⟩; ((try refine wF ?_);repeat' (first|exact ⟨⟩|refine ⟨leaf,?_⟩|((conv=>whnf);first|exact ⟨⟩|refine ⟨leaf,?_⟩)))) | (refine ⟨left - s.holds.length, ⟨by omega, by omega⟩, ?_⟩; ((try refine wF ?_);repeat' (first|exact ⟨⟩|refine ⟨leaf,?_⟩|((conv=>whnf);first|exact ⟨⟩|refine ⟨leaf,?_⟩)))))
end Go.Mu
