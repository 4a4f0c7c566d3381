/- The law on a mux with one more console. -/
import Derived.Test.YtofeeoknfhekkaaGreatT17
import Derived.Test.YtofeeoknfhekkaaGreatT19
import Derived.Test.YtofeeoknfhekkaaGreatL15
set_option linter.unusedSimpArgs false
set_option linter.unusedVariables false
set_option linter.constructorNameAsVariable false
namespace Go.Mu
open Go Go.Vm Go.RowKit Go.Proofs
attribute [local irreducible] wpA opsA stillA drawA drawS
set_option maxRecDepth 20000
set_option maxHeartbeats 40000000
theorem leafT18 {P : Prop} (h : P := by
  first
  | exact leaf
  | exact PreC.of_eq rfl
  | rfl
  | exact Bool.false_ne_true
  | exact ⟨rfl, rfl⟩
  | fail) : P := h
theorem lawAddConsole (s : Mux) (r w : Int) : CallA S 9 [.agg (muxC (.loc 0) (.loc 1) (.loc 2) (.loc 3) (.loc 4) s), .int .i64 r, .int .i64 w] ⟨muxH false (.loc 0) (.loc 1) (.loc 2) (.loc 3) (.loc 4) s [], 5⟩ (Ret1 .tt ⟨[], 5⟩) := by
  refine .ofC hS _ _ _ Tryz.func9 ?_
  conv => whnf
  repeat' (first|refine Seal.mk ?_|(refine wS ?_;(conv=>whnf);fail_if_success show False)|((first|refine opsA_step ?_|refine drawS_go ?_|apply wL (szMux s _ _ _));conv=>whnf)|(intro _;first|omega|conv=>whnf)|(apply And.intro<;>intro _<;>first|omega|conv=>whnf)|refine ⟨Seal.mk ?_,Seal.mk ?_⟩|((first|(apply And.intro;focus exact leafT18)|(apply Or.inl;apply And.intro;focus exact leafT18)|apply Or.inr|refine ⟨_,rfl,?_⟩|refine ⟨_,⟨rfl,rfl⟩,?_⟩|refine ⟨intE .u8,⟨rfl,fun _=>rfl⟩,?_⟩|(refine Exists.intro _ (And.intro (And.intro rfl (And.intro rfl ?_)) ?_);focus exact leafT18));conv=>whnf)|with_reducible assumption|((fail_if_success refine Exists.intro ?_ ?_);exact leafT18)|fail)
  · (refine ⟨(),⟨⟩,?_⟩;((try refine wF ?_);repeat' (first|exact ⟨⟩|(apply And.intro;focus exact leafT18)|((conv=>whnf);first|exact ⟨⟩|(apply And.intro;focus exact leafT18))|fail)))
  have hB : MuxB s := muxB_of (by omega)
  have hE : sumC cntE s.cons ≤ 268435456 := size_E (by omega)
  have hW : MuxRW (addR s r w) := addR_W hB r w
  have hR := hW.b
  have hRE := hW.e
  clear hW
  repeat' (first|refine Seal.mk ?_|(refine wS ?_;(conv=>whnf);fail_if_success show False)|((first|refine opsA_step ?_|refine drawS_go ?_|apply wL (toMux _ hB)|apply wL (implAddConsole _ hB _ _)|apply wL (specAddConsole _ hB _ _)|apply wL (eqMuxResult _ hR)|apply wL (eqMux _ hB)|apply wL (markMux _ hB hE _ _ _)|apply wL (markMuxResult _ hR hRE _ _ _)|apply wL (heldMuxResult (addR s r w) hR hRE _ _ _));conv=>whnf)|(intro _;first|omega|conv=>whnf)|(apply And.intro<;>intro _<;>first|omega|conv=>whnf)|refine ⟨Seal.mk ?_,Seal.mk ?_⟩|((first|(apply And.intro;focus exact leafT18)|(apply Or.inl;apply And.intro;focus exact leafT18)|apply Or.inr|refine ⟨_,rfl,?_⟩|refine ⟨_,⟨rfl,rfl⟩,?_⟩|refine ⟨intE .u8,⟨rfl,fun _=>rfl⟩,?_⟩|(refine Exists.intro _ (And.intro (And.intro rfl (And.intro rfl ?_)) ?_);focus exact leafT18));conv=>whnf)|with_reducible assumption|((fail_if_success refine Exists.intro ?_ ?_);exact leafT18)|fail)
  (apply Wp.keep [1, 2, 3, 6, 8, 9, 10]; (conv => whnf); apply Wp.meet; (focus ((repeat' (first|refine Seal.mk ?_|(refine wS ?_;(conv=>whnf);fail_if_success show False)|((first|refine opsA_step ?_|refine drawS_go ?_|refine wD (id:=10) (.stable 0 (.stable 1 (.all (.step 2 (.all (.step 3 (.quick 4 .done))))))) [2, 3] (by kernel_rfl) rfl ?_|apply wL (toMux _ hB)|apply wL (implAddConsole _ hB _ _)|apply wL (specAddConsole _ hB _ _)|apply wL (eqMuxResult _ hR)|apply wL (eqMux _ hB)|apply wL (markMux _ hB hE _ _ _)|apply wL (markMuxResult _ hR hRE _ _ _)|apply wL (heldMuxResult (addR s r w) hR hRE _ _ _));conv=>whnf)|(intro _;first|omega|conv=>whnf)|(apply And.intro<;>intro _<;>first|omega|conv=>whnf)|refine ⟨Seal.mk ?_,Seal.mk ?_⟩|((first|(apply And.intro;focus exact leafT18)|(apply Or.inl;apply And.intro;focus exact leafT18)|apply Or.inr|refine ⟨_,rfl,?_⟩|refine ⟨_,⟨rfl,rfl⟩,?_⟩|refine ⟨intE .u8,⟨rfl,fun _=>rfl⟩,?_⟩|(refine Exists.intro _ (And.intro (And.intro rfl (And.intro rfl ?_)) ?_);focus exact leafT18));conv=>whnf)|with_reducible assumption|((fail_if_success refine Exists.intro ?_ ?_);exact leafT18)|fail)); (focus ((conv => whnf); apply FitsT.keep [1, 2, 3, 6, 8, 9, 10, 39]; (conv => whnf); (try exact rfl))); (all_goals (((try refine wF ?_);repeat' (first|exact ⟨⟩|(apply And.intro;focus exact leafT18)|((conv=>whnf);first|exact ⟨⟩|(apply And.intro;focus exact leafT18))|fail)))))); (conv => whnf))
  repeat' (first|refine Seal.mk ?_|(refine wS ?_;(conv=>whnf);fail_if_success show False)|((first|refine opsA_step ?_|refine drawS_go ?_|apply wL (toMux _ hB)|apply wL (implAddConsole _ hB _ _)|apply wL (specAddConsole _ hB _ _)|apply wL (eqMuxResult _ hR)|apply wL (eqMux _ hB)|apply wL (markMux _ hB hE _ _ _)|apply wL (markMuxResult _ hR hRE _ _ _)|apply wL (heldMuxResult (addR s r w) hR hRE _ _ _));conv=>whnf)|(intro _;first|omega|conv=>whnf)|(apply And.intro<;>intro _<;>first|omega|conv=>whnf)|refine ⟨Seal.mk ?_,Seal.mk ?_⟩|((first|(apply And.intro;focus exact leafT18)|(apply Or.inl;apply And.intro;focus exact leafT18)|apply Or.inr|refine ⟨_,rfl,?_⟩|refine ⟨_,⟨rfl,rfl⟩,?_⟩|refine ⟨intE .u8,⟨rfl,fun _=>rfl⟩,?_⟩|(refine Exists.intro _ (And.intro (And.intro rfl (And.intro rfl ?_)) ?_);focus exact leafT18));conv=>whnf)|with_reducible assumption|((fail_if_success refine Exists.intro ?_ ?_);exact leafT18)|fail)
  all_goals (first | (exact absurd rfl (by assumption)) | (exact absurd Iff.rfl (by assumption)) | (exfalso; omega) | (refine ⟨(),⟨⟩,?_⟩;((try refine wF ?_);repeat' (first|exact ⟨⟩|(apply And.intro;focus exact leafT18)|((conv=>whnf);first|exact ⟨⟩|(apply And.intro;focus exact leafT18))|fail))))
end Go.Mu
