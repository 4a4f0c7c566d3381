/- Copies: structs, as the reference makes them. -/
import Derived.Test.YtofeeoknfhekkaaGreatCA
set_option linter.unusedSimpArgs false
set_option linter.unusedVariables false
set_option linter.constructorNameAsVariable false
namespace Go.Mu
open Go Go.Vm Go.RowKit Go.Proofs
attribute [local irreducible] wpA opsA stillA drawA drawS
set_option maxRecDepth 20000
set_option maxHeartbeats 4000000
theorem leafC3 {P : Prop} (h : P := by
  first
  | exact leaf
  | exact PreC.of_eq (by simp)
  | fail) : P := h
theorem l3Copy (s : Grd) (h : GrdB s) : CallA S 262 [.agg (grdC (.loc 0) (.loc 1) s)] ⟨grdH false (.loc 0) (.loc 1) s [], 2⟩ (Ret1 (.agg (grdC (.loc 2) (.loc 3) s)) ⟨grdH true (.loc 2) (.loc 3) s [], 4⟩) := by
  refine .ofC hS _ _ _ Tryz.func262 ?_
  conv => whnf
  obtain ⟨h0, h1⟩ := h
  repeat' (first|refine Seal.mk ?_|(refine wS ?_;(conv=>whnf);fail_if_success show False)|((first|refine opsA_step ?_|refine drawS_go ?_);conv=>whnf)|(intro _;first|omega|conv=>whnf)|(apply And.intro<;>intro _<;>first|omega|conv=>whnf)|refine ⟨Seal.mk ?_,Seal.mk ?_⟩|((first|(apply And.intro;focus exact leafC3)|(apply Or.inl;apply And.intro;focus exact leafC3)|apply Or.inr|refine ⟨_,rfl,?_⟩|refine ⟨_,⟨rfl,rfl⟩,?_⟩|refine ⟨intE .u8,⟨rfl,fun _=>rfl⟩,?_⟩|(refine Exists.intro _ (And.intro (And.intro rfl (And.intro rfl ?_)) ?_);focus exact leafC3));conv=>whnf)|with_reducible assumption|((fail_if_success refine Exists.intro ?_ ?_);exact leafC3)|fail)
  all_goals (refine ⟨(),⟨⟩,?_⟩;((try refine wF ?_);repeat' (first|exact ⟨⟩|(apply And.intro;focus exact leafC3)|((conv=>whnf);first|exact ⟨⟩|(apply And.intro;focus exact leafC3))|fail)))
theorem l4Copy (s : Par) (h : ParB s) : CallA S 216 [.agg (parC (.loc 0) s)] ⟨parH false (.loc 0) s [], 1⟩ (Ret1 (.agg (parC (.loc 1) s)) ⟨parH true (.loc 1) s [], 2⟩) := by
  refine .ofC hS _ _ _ Tryz.func216 ?_
  conv => whnf
  obtain ⟨h0⟩ := h
  repeat' (first|refine Seal.mk ?_|(refine wS ?_;(conv=>whnf);fail_if_success show False)|((first|refine opsA_step ?_|refine drawS_go ?_);conv=>whnf)|(intro _;first|omega|conv=>whnf)|(apply And.intro<;>intro _<;>first|omega|conv=>whnf)|refine ⟨Seal.mk ?_,Seal.mk ?_⟩|((first|(apply And.intro;focus exact leafC3)|(apply Or.inl;apply And.intro;focus exact leafC3)|apply Or.inr|refine ⟨_,rfl,?_⟩|refine ⟨_,⟨rfl,rfl⟩,?_⟩|refine ⟨intE .u8,⟨rfl,fun _=>rfl⟩,?_⟩|(refine Exists.intro _ (And.intro (And.intro rfl (And.intro rfl ?_)) ?_);focus exact leafC3));conv=>whnf)|with_reducible assumption|((fail_if_success refine Exists.intro ?_ ?_);exact leafC3)|fail)
  all_goals (refine ⟨(),⟨⟩,?_⟩;((try refine wF ?_);repeat' (first|exact ⟨⟩|(apply And.intro;focus exact leafC3)|((conv=>whnf);first|exact ⟨⟩|(apply And.intro;focus exact leafC3))|fail)))
theorem l5Copy (s : Scr) (h : ScrB s) : CallA S 217 [.agg (scrC (.loc 0) (.loc 1) (.loc 2) (.loc 3) s)] ⟨scrH false (.loc 0) (.loc 1) (.loc 2) (.loc 3) s [], 4⟩ (Ret1 (.agg (scrC (.loc 4) (.loc 5) (.loc 6) (.loc 7) s)) ⟨scrH true (.loc 4) (.loc 5) (.loc 6) (.loc 7) s [], 8⟩) := by
  refine .ofC hS _ _ _ Tryz.func217 ?_
  conv => whnf
  obtain ⟨h0, h1, h2⟩ := h
  repeat' (first|refine Seal.mk ?_|(refine wS ?_;(conv=>whnf);fail_if_success show False)|((first|refine opsA_step ?_|refine drawS_go ?_|apply wL (l3Copy _ _));conv=>whnf)|(intro _;first|omega|conv=>whnf)|(apply And.intro<;>intro _<;>first|omega|conv=>whnf)|refine ⟨Seal.mk ?_,Seal.mk ?_⟩|((first|(apply And.intro;focus exact leafC3)|(apply Or.inl;apply And.intro;focus exact leafC3)|apply Or.inr|refine ⟨_,rfl,?_⟩|refine ⟨_,⟨rfl,rfl⟩,?_⟩|refine ⟨intE .u8,⟨rfl,fun _=>rfl⟩,?_⟩|(refine Exists.intro _ (And.intro (And.intro rfl (And.intro rfl ?_)) ?_);focus exact leafC3));conv=>whnf)|with_reducible assumption|((fail_if_success refine Exists.intro ?_ ?_);exact leafC3)|fail)
  all_goals (refine ⟨(),⟨⟩,?_⟩;((try refine wF ?_);repeat' (first|exact ⟨⟩|(apply And.intro;focus exact leafC3)|((conv=>whnf);first|exact ⟨⟩|(apply And.intro;focus exact leafC3))|fail)))
theorem l6Copy (s : Vt) (h : VtB s) : CallA S 162 [.agg (vtC (.loc 0) (.loc 1) (.loc 2) (.loc 3) (.loc 4) s)] ⟨vtH false (.loc 0) (.loc 1) (.loc 2) (.loc 3) (.loc 4) s [], 5⟩ (Ret1 (.agg (vtC (.loc 5) (.loc 6) (.loc 7) (.loc 8) (.loc 9) s)) ⟨vtH true (.loc 5) (.loc 6) (.loc 7) (.loc 8) (.loc 9) s [], 10⟩) := by
  refine .ofC hS _ _ _ Tryz.func162 ?_
  conv => whnf
  obtain ⟨h0, h1⟩ := h
  repeat' (first|refine Seal.mk ?_|(refine wS ?_;(conv=>whnf);fail_if_success show False)|((first|refine opsA_step ?_|refine drawS_go ?_|refine wD (id:=1) (.quick 0 (.quick 2 (.quick 5 (.all (.fork (.fork (.step 1 (.all (.fork (.step 3 (.all (.fork (.step 4 (.all (.step 6 (.all (.step 7 (.quick 8 (.all (.step 9 .done)))))))) (.step 6 (.all (.step 4 (.all (.step 7 (.quick 8 (.all (.step 9 .done))))))))))) (.step 6 (.all (.step 3 (.all (.step 4 (.all (.step 7 (.quick 8 (.all (.step 9 .done))))))))))))) (.step 3 (.all (.fork (.fork (.step 1 (.all (.fork (.step 4 (.all (.step 6 (.all (.step 7 (.quick 8 (.all (.step 9 .done)))))))) (.step 6 (.all (.step 4 (.all (.step 7 (.quick 8 (.all (.step 9 .done))))))))))) (.step 4 (.all (.fork (.step 1 (.all (.step 6 (.all (.step 7 (.quick 8 (.all (.step 9 .done)))))))) (.step 6 (.all (.fork (.step 1 (.all (.step 7 (.quick 8 (.all (.step 9 .done)))))) (.step 7 (.all (.step 1 (.quick 8 (.all (.step 9 .done))))))))))))) (.step 6 (.all (.fork (.step 1 (.all (.step 4 (.all (.step 7 (.quick 8 (.all (.step 9 .done)))))))) (.step 4 (.all (.fork (.step 1 (.all (.step 7 (.quick 8 (.all (.step 9 .done)))))) (.step 7 (.all (.step 1 (.quick 8 (.all (.step 9 .done)))))))))))))))) (.step 6 (.all (.fork (.step 1 (.all (.step 3 (.all (.step 4 (.all (.step 7 (.quick 8 (.all (.step 9 .done)))))))))) (.step 3 (.all (.fork (.step 1 (.all (.step 4 (.all (.step 7 (.quick 8 (.all (.step 9 .done)))))))) (.step 4 (.all (.fork (.step 1 (.all (.step 7 (.quick 8 (.all (.step 9 .done)))))) (.step 7 (.all (.step 1 (.quick 8 (.all (.step 9 .done)))))))))))))))))))) [1, 3, 4, 6, 7, 9] (by kernel_rfl) rfl ?_|apply wL (l4Copy _ _)|apply wL (l5Copy _ _));conv=>whnf)|(intro _;first|omega|conv=>whnf)|(apply And.intro<;>intro _<;>first|omega|conv=>whnf)|refine ⟨Seal.mk ?_,Seal.mk ?_⟩|((first|(apply And.intro;focus exact leafC3)|(apply Or.inl;apply And.intro;focus exact leafC3)|apply Or.inr|refine ⟨_,rfl,?_⟩|refine ⟨_,⟨rfl,rfl⟩,?_⟩|refine ⟨intE .u8,⟨rfl,fun _=>rfl⟩,?_⟩|(refine Exists.intro _ (And.intro (And.intro rfl (And.intro rfl ?_)) ?_);focus exact leafC3));conv=>whnf)|with_reducible assumption|((fail_if_success refine Exists.intro ?_ ?_);exact leafC3)|fail)
  all_goals (refine ⟨(),⟨⟩,?_⟩;((try refine wF ?_);repeat' (first|exact ⟨⟩|(apply And.intro;focus exact leafC3)|((conv=>whnf);first|exact ⟨⟩|(apply And.intro;focus exact leafC3))|fail)))
theorem l9Copy (s : Kbd) (h : KbdB s) : CallA S 113 [.agg (kbdC (.loc 0) s)] ⟨kbdH false (.loc 0) s [], 1⟩ (Ret1 (.agg (kbdC (.loc 1) s)) ⟨kbdH true (.loc 1) s [], 2⟩) := by
  refine .ofC hS _ _ _ Tryz.func113 ?_
  conv => whnf
  obtain ⟨h0⟩ := h
  repeat' (first|refine Seal.mk ?_|(refine wS ?_;(conv=>whnf);fail_if_success show False)|((first|refine opsA_step ?_|refine drawS_go ?_);conv=>whnf)|(intro _;first|omega|conv=>whnf)|(apply And.intro<;>intro _<;>first|omega|conv=>whnf)|refine ⟨Seal.mk ?_,Seal.mk ?_⟩|((first|(apply And.intro;focus exact leafC3)|(apply Or.inl;apply And.intro;focus exact leafC3)|apply Or.inr|refine ⟨_,rfl,?_⟩|refine ⟨_,⟨rfl,rfl⟩,?_⟩|refine ⟨intE .u8,⟨rfl,fun _=>rfl⟩,?_⟩|(refine Exists.intro _ (And.intro (And.intro rfl (And.intro rfl ?_)) ?_);focus exact leafC3));conv=>whnf)|with_reducible assumption|((fail_if_success refine Exists.intro ?_ ?_);exact leafC3)|fail)
  all_goals (refine ⟨(),⟨⟩,?_⟩;((try refine wF ?_);repeat' (first|exact ⟨⟩|(apply And.intro;focus exact leafC3)|((conv=>whnf);first|exact ⟨⟩|(apply And.intro;focus exact leafC3))|fail)))
end Go.Mu
