/- The law on consoles of another size. -/
import Derived.Test.YtcimmkokkmbhpaaGreatS5
set_option linter.unusedSimpArgs false
set_option linter.unusedVariables false
set_option linter.constructorNameAsVariable false
namespace Go.Mu
open Go Go.Vm Go.RowKit Go.Proofs
attribute [local irreducible] wpA opsA stillA drawA drawS
set_option maxRecDepth 20000
set_option maxHeartbeats 40000000
theorem leafS6 {P : Prop} (h : P := by
  first
  | exact leaf
  | exact PreC.of_eq rfl
  | rfl
  | exact Bool.false_ne_true
  | exact ⟨rfl, rfl⟩
  | fail) : P := h
theorem lawResizeConsole (s : Con) (r w : Int) : CallA S 8 [.agg (conC (.loc 0) (.loc 1) (.loc 2) (.loc 3) (.loc 4) (.loc 5) (.loc 6) s), .int .i64 r, .int .i64 w] ⟨conH false (.loc 0) (.loc 1) (.loc 2) (.loc 3) (.loc 4) (.loc 5) (.loc 6) s [], 7⟩ (Ret1 .tt ⟨[], 7⟩) := by
  refine .ofC hS _ _ _ Tryz.func8 ?_
  conv => whnf
  repeat' (first|refine Seal.mk ?_|(refine wS ?_;(conv=>whnf);fail_if_success show False)|((first|refine opsA_step ?_|refine drawS_go ?_|apply wL (szConsole s _ _ _));conv=>whnf)|(intro _;first|omega|conv=>whnf)|(apply And.intro<;>intro _<;>first|omega|conv=>whnf)|refine ⟨Seal.mk ?_,Seal.mk ?_⟩|((first|refine ⟨leafS6,?_⟩|refine Or.inl ⟨leafS6,?_⟩|apply Or.inr|refine ⟨_,rfl,?_⟩|refine ⟨_,⟨rfl,rfl⟩,?_⟩|refine ⟨intE .u8,⟨rfl,fun _=>rfl⟩,?_⟩|refine ⟨_,⟨rfl,rfl,leafS6⟩,?_⟩);conv=>whnf)|with_reducible assumption|exact leafS6|fail)
  · (refine ⟨(),⟨⟩,?_⟩;((try refine wF ?_);repeat' (first|exact ⟨⟩|refine ⟨leafS6,?_⟩|((conv=>whnf);first|exact ⟨⟩|refine ⟨leafS6,?_⟩))))
  have hB : ConB s := conB_of (by have := szC_eq s; omega)
  have hR : ConRB (resCR s r w) := resCR_B hB r w
  repeat' (first|refine Seal.mk ?_|(refine wS ?_;(conv=>whnf);fail_if_success show False)|((first|refine opsA_step ?_|refine drawS_go ?_|apply wL (toConsole _ hB)|apply wL (implResizeConsole _ hB _ _)|apply wL (specResizeConsole _ hB _ _)|apply wL (eqConsoleResult _ hR)|apply wL (eqConsole _ hB)|apply wL (markConsole _ hB _ _ _)|apply wL (markConsoleResult _ hR _ _ _)|apply wL (heldConsoleResult (resCR s r w) hR _ _ _));conv=>whnf)|(intro _;first|omega|conv=>whnf)|(apply And.intro<;>intro _<;>first|omega|conv=>whnf)|refine ⟨Seal.mk ?_,Seal.mk ?_⟩|((first|refine ⟨leafS6,?_⟩|refine Or.inl ⟨leafS6,?_⟩|apply Or.inr|refine ⟨_,rfl,?_⟩|refine ⟨_,⟨rfl,rfl⟩,?_⟩|refine ⟨intE .u8,⟨rfl,fun _=>rfl⟩,?_⟩|refine ⟨_,⟨rfl,rfl,leafS6⟩,?_⟩);conv=>whnf)|with_reducible assumption|exact leafS6|fail)
  (apply Wp.keep [1, 2, 3, 6, 8, 9, 10]; (conv => whnf); apply Wp.meet; (focus ((repeat' (first|refine Seal.mk ?_|(refine wS ?_;(conv=>whnf);fail_if_success show False)|((first|refine opsA_step ?_|refine drawS_go ?_|refine wD (id:=10) (.stable 0 (.stable 1 (.all (.step 2 (.all (.step 3 (.quick 4 .done))))))) [2, 3] (by kernel_rfl) rfl ?_|apply wL (toConsole _ hB)|apply wL (implResizeConsole _ hB _ _)|apply wL (specResizeConsole _ hB _ _)|apply wL (eqConsoleResult _ hR)|apply wL (eqConsole _ hB)|apply wL (markConsole _ hB _ _ _)|apply wL (markConsoleResult _ hR _ _ _)|apply wL (heldConsoleResult (resCR s r w) hR _ _ _));conv=>whnf)|(intro _;first|omega|conv=>whnf)|(apply And.intro<;>intro _<;>first|omega|conv=>whnf)|refine ⟨Seal.mk ?_,Seal.mk ?_⟩|((first|refine ⟨leafS6,?_⟩|refine Or.inl ⟨leafS6,?_⟩|apply Or.inr|refine ⟨_,rfl,?_⟩|refine ⟨_,⟨rfl,rfl⟩,?_⟩|refine ⟨intE .u8,⟨rfl,fun _=>rfl⟩,?_⟩|refine ⟨_,⟨rfl,rfl,leafS6⟩,?_⟩);conv=>whnf)|with_reducible assumption|exact leafS6|fail)); (focus ((conv => whnf); apply FitsT.keep [1, 2, 3, 6, 8, 9, 10, 39]; (conv => whnf); (try exact rfl))); (all_goals (((try refine wF ?_);repeat' (first|exact ⟨⟩|refine ⟨leafS6,?_⟩|((conv=>whnf);first|exact ⟨⟩|refine ⟨leafS6,?_⟩))))))); (conv => whnf))
  repeat' (first|refine Seal.mk ?_|(refine wS ?_;(conv=>whnf);fail_if_success show False)|((first|refine opsA_step ?_|refine drawS_go ?_|apply wL (toConsole _ hB)|apply wL (implResizeConsole _ hB _ _)|apply wL (specResizeConsole _ hB _ _)|apply wL (eqConsoleResult _ hR)|apply wL (eqConsole _ hB)|apply wL (markConsole _ hB _ _ _)|apply wL (markConsoleResult _ hR _ _ _)|apply wL (heldConsoleResult (resCR s r w) hR _ _ _));conv=>whnf)|(intro _;first|omega|conv=>whnf)|(apply And.intro<;>intro _<;>first|omega|conv=>whnf)|refine ⟨Seal.mk ?_,Seal.mk ?_⟩|((first|refine ⟨leafS6,?_⟩|refine Or.inl ⟨leafS6,?_⟩|apply Or.inr|refine ⟨_,rfl,?_⟩|refine ⟨_,⟨rfl,rfl⟩,?_⟩|refine ⟨intE .u8,⟨rfl,fun _=>rfl⟩,?_⟩|refine ⟨_,⟨rfl,rfl,leafS6⟩,?_⟩);conv=>whnf)|with_reducible assumption|exact leafS6|fail)
  all_goals (first | (exact absurd rfl (by assumption)) | (exact absurd Iff.rfl (by assumption)) | (exfalso; omega) | (refine ⟨(),⟨⟩,?_⟩;((try refine wF ?_);repeat' (first|exact ⟨⟩|refine ⟨leafS6,?_⟩|((conv=>whnf);first|exact ⟨⟩|refine ⟨leafS6,?_⟩)))))
end Go.Mu
