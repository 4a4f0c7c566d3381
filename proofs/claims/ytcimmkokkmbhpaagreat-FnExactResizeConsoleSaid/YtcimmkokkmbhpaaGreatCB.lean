/- Copies: structs, as the program makes them. -/
import Derived.Test.YtcimmkokkmbhpaaGreatCA
set_option linter.unusedSimpArgs false
set_option linter.unusedVariables false
set_option linter.constructorNameAsVariable false
namespace Go.Mu
open Go Go.Vm Go.RowKit Go.Proofs
attribute [local irreducible] wpA opsA stillA drawA drawS
set_option maxRecDepth 20000
set_option maxHeartbeats 4000000
theorem leafC2 {P : Prop} (h : P := by
  first
  | exact leaf
  | exact PreC.of_eq (by simp)
  | fail) : P := h
theorem clonePar (s : Par) (h : ParB s) : CallA S 185 [.agg (parC (.loc 0) s)] ⟨parH false (.loc 0) s [], 1⟩ (Ret1 (.agg (parC (.loc 1) s)) ⟨parH true (.loc 1) s [], 2⟩) := by
  refine .ofC hS _ _ _ Tryz.func185 ?_
  conv => whnf
  obtain ⟨h0⟩ := h
  repeat' (first|refine Seal.mk ?_|(refine wS ?_;(conv=>whnf);fail_if_success show False)|((first|refine opsA_step ?_|refine drawS_go ?_|apply wL (cloneI _ _));conv=>whnf)|(intro _;first|omega|conv=>whnf)|(apply And.intro<;>intro _<;>first|omega|conv=>whnf)|refine ⟨Seal.mk ?_,Seal.mk ?_⟩|((first|refine ⟨leafC2,?_⟩|refine Or.inl ⟨leafC2,?_⟩|apply Or.inr|refine ⟨_,rfl,?_⟩|refine ⟨_,⟨rfl,rfl⟩,?_⟩|refine ⟨intE .u8,⟨rfl,fun _=>rfl⟩,?_⟩|refine ⟨_,⟨rfl,rfl,leafC2⟩,?_⟩);conv=>whnf)|with_reducible assumption|exact leafC2|fail)
  all_goals (refine ⟨(),⟨⟩,?_⟩;((try refine wF ?_);repeat' (first|exact ⟨⟩|refine ⟨leafC2,?_⟩|((conv=>whnf);first|exact ⟨⟩|refine ⟨leafC2,?_⟩))))
theorem cloneGrd (s : Grd) (h : GrdB s) : CallA S 261 [.agg (grdC (.loc 0) (.loc 1) s)] ⟨grdH false (.loc 0) (.loc 1) s [], 2⟩ (Ret1 (.agg (grdC (.loc 2) (.loc 3) s)) ⟨grdH true (.loc 2) (.loc 3) s [], 4⟩) := by
  refine .ofC hS _ _ _ Tryz.func261 ?_
  conv => whnf
  obtain ⟨h0, h1⟩ := h
  repeat' (first|refine Seal.mk ?_|(refine wS ?_;(conv=>whnf);fail_if_success show False)|((first|refine opsA_step ?_|refine drawS_go ?_|refine wD (id:=1) (.quick 0 (.quick 3 (.all (.fork (.step 1 (.all (.fork (.step 2 (.all (.step 4 (.quick 6 (.all (.step 5 (.all (.step 7 (.quick 8 (.all (.step 9 .done))))))))))) (.step 4 (.all (.step 2 (.quick 6 (.all (.step 5 (.all (.step 7 (.quick 8 (.all (.step 9 .done)))))))))))))) (.step 4 (.all (.step 1 (.all (.step 2 (.quick 6 (.all (.step 5 (.all (.step 7 (.quick 8 (.all (.step 9 .done))))))))))))))))) [1, 2, 4, 5, 7, 9] (by kernel_rfl) rfl ?_|apply wL (cloneC _ _));conv=>whnf)|(intro _;first|omega|conv=>whnf)|(apply And.intro<;>intro _<;>first|omega|conv=>whnf)|refine ⟨Seal.mk ?_,Seal.mk ?_⟩|((first|refine ⟨leafC2,?_⟩|refine Or.inl ⟨leafC2,?_⟩|apply Or.inr|refine ⟨_,rfl,?_⟩|refine ⟨_,⟨rfl,rfl⟩,?_⟩|refine ⟨intE .u8,⟨rfl,fun _=>rfl⟩,?_⟩|refine ⟨_,⟨rfl,rfl,leafC2⟩,?_⟩);conv=>whnf)|with_reducible assumption|exact leafC2|fail)
  all_goals (refine ⟨(),⟨⟩,?_⟩;((try refine wF ?_);repeat' (first|exact ⟨⟩|refine ⟨leafC2,?_⟩|((conv=>whnf);first|exact ⟨⟩|refine ⟨leafC2,?_⟩))))
theorem cloneScr (s : Scr) (h : ScrB s) : CallA S 186 [.agg (scrC (.loc 0) (.loc 1) (.loc 2) (.loc 3) s)] ⟨scrH false (.loc 0) (.loc 1) (.loc 2) (.loc 3) s [], 4⟩ (Ret1 (.agg (scrC (.loc 4) (.loc 5) (.loc 6) (.loc 7) s)) ⟨scrH true (.loc 4) (.loc 5) (.loc 6) (.loc 7) s [], 8⟩) := by
  refine .ofC hS _ _ _ Tryz.func186 ?_
  conv => whnf
  obtain ⟨h0, h1, h2⟩ := h
  repeat' (first|refine Seal.mk ?_|(refine wS ?_;(conv=>whnf);fail_if_success show False)|((first|refine opsA_step ?_|refine drawS_go ?_|refine wD (id:=1) (.quick 0 (.quick 3 (.quick 6 (.all (.fork (.fork (.step 1 (.all (.fork (.fork (.step 2 (.all (.fork (.step 4 (.all (.fork (.step 5 (.all (.step 7 (.quick 9 (.all (.step 8 (.all (.step 10 (.quick 11 (.all (.step 12 (.quick 13 (.all (.step 14 .done)))))))))))))) (.step 7 (.quick 9 (.all (.step 5 (.all (.step 8 (.all (.step 10 (.quick 11 (.all (.step 12 (.quick 13 (.all (.step 14 .done))))))))))))))))) (.step 7 (.all (.step 4 (.quick 9 (.all (.step 5 (.all (.step 8 (.all (.step 10 (.quick 11 (.all (.step 12 (.quick 13 (.all (.step 14 .done))))))))))))))))))) (.step 4 (.all (.fork (.step 2 (.all (.fork (.step 5 (.all (.step 7 (.quick 9 (.all (.step 8 (.all (.step 10 (.quick 11 (.all (.step 12 (.quick 13 (.all (.step 14 .done)))))))))))))) (.step 7 (.quick 9 (.all (.step 5 (.all (.step 8 (.all (.step 10 (.quick 11 (.all (.step 12 (.quick 13 (.all (.step 14 .done))))))))))))))))) (.step 7 (.all (.step 2 (.quick 9 (.all (.step 5 (.all (.step 8 (.all (.step 10 (.quick 11 (.all (.step 12 (.quick 13 (.all (.step 14 .done)))))))))))))))))))) (.step 7 (.all (.fork (.step 2 (.all (.step 4 (.quick 9 (.all (.step 5 (.all (.step 8 (.all (.step 10 (.quick 11 (.all (.step 12 (.quick 13 (.all (.step 14 .done)))))))))))))))) (.step 4 (.all (.step 2 (.quick 9 (.all (.step 5 (.all (.step 8 (.all (.step 10 (.quick 11 (.all (.step 12 (.quick 13 (.all (.step 14 .done)))))))))))))))))))))) (.step 4 (.all (.fork (.step 1 (.all (.fork (.step 2 (.all (.fork (.step 5 (.all (.step 7 (.quick 9 (.all (.step 8 (.all (.step 10 (.quick 11 (.all (.step 12 (.quick 13 (.all (.step 14 .done)))))))))))))) (.step 7 (.quick 9 (.all (.step 5 (.all (.step 8 (.all (.step 10 (.quick 11 (.all (.step 12 (.quick 13 (.all (.step 14 .done))))))))))))))))) (.step 7 (.all (.step 2 (.quick 9 (.all (.step 5 (.all (.step 8 (.all (.step 10 (.quick 11 (.all (.step 12 (.quick 13 (.all (.step 14 .done))))))))))))))))))) (.step 7 (.all (.step 1 (.all (.step 2 (.quick 9 (.all (.step 5 (.all (.step 8 (.all (.step 10 (.quick 11 (.all (.step 12 (.quick 13 (.all (.step 14 .done)))))))))))))))))))))) (.step 7 (.all (.fork (.step 1 (.all (.fork (.step 2 (.all (.step 4 (.quick 9 (.all (.step 5 (.all (.step 8 (.all (.step 10 (.quick 11 (.all (.step 12 (.quick 13 (.all (.step 14 .done)))))))))))))))) (.step 4 (.all (.step 2 (.quick 9 (.all (.step 5 (.all (.step 8 (.all (.step 10 (.quick 11 (.all (.step 12 (.quick 13 (.all (.step 14 .done))))))))))))))))))) (.step 4 (.all (.step 1 (.all (.step 2 (.quick 9 (.all (.step 5 (.all (.step 8 (.all (.step 10 (.quick 11 (.all (.step 12 (.quick 13 (.all (.step 14 .done)))))))))))))))))))))))))) [1, 2, 4, 5, 7, 8, 10, 12, 14] (by kernel_rfl) rfl ?_|apply wL (cloneGrd _ _)|apply wL (cloneB _ _)|apply wL (cloneI _ _));conv=>whnf)|(intro _;first|omega|conv=>whnf)|(apply And.intro<;>intro _<;>first|omega|conv=>whnf)|refine ⟨Seal.mk ?_,Seal.mk ?_⟩|((first|refine ⟨leafC2,?_⟩|refine Or.inl ⟨leafC2,?_⟩|apply Or.inr|refine ⟨_,rfl,?_⟩|refine ⟨_,⟨rfl,rfl⟩,?_⟩|refine ⟨intE .u8,⟨rfl,fun _=>rfl⟩,?_⟩|refine ⟨_,⟨rfl,rfl,leafC2⟩,?_⟩);conv=>whnf)|with_reducible assumption|exact leafC2|fail)
  all_goals (refine ⟨(),⟨⟩,?_⟩;((try refine wF ?_);repeat' (first|exact ⟨⟩|refine ⟨leafC2,?_⟩|((conv=>whnf);first|exact ⟨⟩|refine ⟨leafC2,?_⟩))))
theorem cloneVt (s : Vt) (h : VtB s) : CallA S 93 [.agg (vtC (.loc 0) (.loc 1) (.loc 2) (.loc 3) (.loc 4) s)] ⟨vtH false (.loc 0) (.loc 1) (.loc 2) (.loc 3) (.loc 4) s [], 5⟩ (Ret1 (.agg (vtC (.loc 5) (.loc 6) (.loc 7) (.loc 8) (.loc 9) s)) ⟨vtH true (.loc 5) (.loc 6) (.loc 7) (.loc 8) (.loc 9) s [], 10⟩) := by
  refine .ofC hS _ _ _ Tryz.func93 ?_
  conv => whnf
  obtain ⟨h0, h1⟩ := h
  repeat' (first|refine Seal.mk ?_|(refine wS ?_;(conv=>whnf);fail_if_success show False)|((first|refine opsA_step ?_|refine drawS_go ?_|refine wD (id:=1) (.quick 0 (.quick 3 (.all (.fork (.step 1 (.all (.fork (.step 2 (.all (.step 4 (.quick 6 (.all (.step 5 (.all (.step 7 (.quick 8 (.all (.step 9 .done))))))))))) (.step 4 (.all (.step 2 (.quick 6 (.all (.step 5 (.all (.step 7 (.quick 8 (.all (.step 9 .done)))))))))))))) (.step 4 (.all (.step 1 (.all (.step 2 (.quick 6 (.all (.step 5 (.all (.step 7 (.quick 8 (.all (.step 9 .done))))))))))))))))) [1, 2, 4, 5, 7, 9] (by kernel_rfl) rfl ?_|apply wL (clonePar _ _)|apply wL (cloneScr _ _));conv=>whnf)|(intro _;first|omega|conv=>whnf)|(apply And.intro<;>intro _<;>first|omega|conv=>whnf)|refine ⟨Seal.mk ?_,Seal.mk ?_⟩|((first|refine ⟨leafC2,?_⟩|refine Or.inl ⟨leafC2,?_⟩|apply Or.inr|refine ⟨_,rfl,?_⟩|refine ⟨_,⟨rfl,rfl⟩,?_⟩|refine ⟨intE .u8,⟨rfl,fun _=>rfl⟩,?_⟩|refine ⟨_,⟨rfl,rfl,leafC2⟩,?_⟩);conv=>whnf)|with_reducible assumption|exact leafC2|fail)
  all_goals (refine ⟨(),⟨⟩,?_⟩;((try refine wF ?_);repeat' (first|exact ⟨⟩|refine ⟨leafC2,?_⟩|((conv=>whnf);first|exact ⟨⟩|refine ⟨leafC2,?_⟩))))
theorem cloneKbd (s : Kbd) (h : KbdB s) : CallA S 221 [.agg (kbdC (.loc 0) s)] ⟨kbdH false (.loc 0) s [], 1⟩ (Ret1 (.agg (kbdC (.loc 1) s)) ⟨kbdH true (.loc 1) s [], 2⟩) := by
  refine .ofC hS _ _ _ Tryz.func221 ?_
  conv => whnf
  obtain ⟨h0⟩ := h
  repeat' (first|refine Seal.mk ?_|(refine wS ?_;(conv=>whnf);fail_if_success show False)|((first|refine opsA_step ?_|refine drawS_go ?_|apply wL (cloneH _ _));conv=>whnf)|(intro _;first|omega|conv=>whnf)|(apply And.intro<;>intro _<;>first|omega|conv=>whnf)|refine ⟨Seal.mk ?_,Seal.mk ?_⟩|((first|refine ⟨leafC2,?_⟩|refine Or.inl ⟨leafC2,?_⟩|apply Or.inr|refine ⟨_,rfl,?_⟩|refine ⟨_,⟨rfl,rfl⟩,?_⟩|refine ⟨intE .u8,⟨rfl,fun _=>rfl⟩,?_⟩|refine ⟨_,⟨rfl,rfl,leafC2⟩,?_⟩);conv=>whnf)|with_reducible assumption|exact leafC2|fail)
  all_goals (refine ⟨(),⟨⟩,?_⟩;((try refine wF ?_);repeat' (first|exact ⟨⟩|refine ⟨leafC2,?_⟩|((conv=>whnf);first|exact ⟨⟩|refine ⟨leafC2,?_⟩))))
end Go.Mu
