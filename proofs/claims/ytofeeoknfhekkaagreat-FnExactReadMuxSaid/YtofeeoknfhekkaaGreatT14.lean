/- The law on one console of a mux: Read. -/
import Derived.Test.YtofeeoknfhekkaaGreatT12
import Derived.Test.YtofeeoknfhekkaaGreatL15
set_option linter.unusedSimpArgs false
set_option linter.unusedVariables false
set_option linter.constructorNameAsVariable false
namespace Go.Mu
open Go Go.Vm Go.RowKit Go.Proofs
attribute [local irreducible] wpA opsA stillA drawA drawS
set_option maxRecDepth 20000
set_option maxHeartbeats 40000000
theorem leafT14 {P : Prop} (h : P := by
  first
  | exact leaf
  | exact PreC.of_eq rfl
  | rfl
  | exact Bool.false_ne_true
  | exact ⟨rfl, rfl⟩
  | fail) : P := h
theorem lawReadMux (s : Mux) (who : Int) (n : Int) : CallA S 10 [.agg (muxC (.loc 0) (.loc 1) (.loc 2) (.loc 3) (.loc 4) s), .int .i64 who, .int .i64 n] ⟨muxH false (.loc 0) (.loc 1) (.loc 2) (.loc 3) (.loc 4) s [], 5⟩ (Ret1 .tt ⟨[], 5⟩) := by
  refine .ofC hS _ _ _ Tryz.func10 ?_
  conv => whnf
  repeat' (first|refine Seal.mk ?_|(refine wS ?_;(conv=>whnf);fail_if_success show False)|((first|refine opsA_step ?_|refine drawS_go ?_|apply wL (szMux s _ _ _));conv=>whnf)|(intro _;first|omega|conv=>whnf)|(apply And.intro<;>intro _<;>first|omega|conv=>whnf)|refine ⟨Seal.mk ?_,Seal.mk ?_⟩|((first|(apply And.intro;focus exact leafT14)|(apply Or.inl;apply And.intro;focus exact leafT14)|apply Or.inr|refine ⟨_,rfl,?_⟩|refine ⟨_,⟨rfl,rfl⟩,?_⟩|refine ⟨intE .u8,⟨rfl,fun _=>rfl⟩,?_⟩|(refine Exists.intro _ (And.intro (And.intro rfl (And.intro rfl ?_)) ?_);focus exact leafT14));conv=>whnf)|with_reducible assumption|((fail_if_success refine Exists.intro ?_ ?_);exact leafT14)|fail)
  · (refine ⟨(),⟨⟩,?_⟩;((try refine wF ?_);repeat' (first|exact ⟨⟩|(apply And.intro;focus exact leafT14)|((conv=>whnf);first|exact ⟨⟩|(apply And.intro;focus exact leafT14))|fail)))
  have hB : MuxB s := muxB_of (by omega)
  have hE : sumC cntE s.cons ≤ 268435456 := size_E (by omega)
  have hW : MuxRW (oneR s who (readRC (s.cons.getD who.toNat con0) n)) := oneR_W hB who (readRC_B (getD_all (d := con0) hB.consB.all con0B who.toNat) n)
  have hR := hW.b
  have hRE := hW.e
  clear hW
  repeat' (first|refine Seal.mk ?_|(refine wS ?_;(conv=>whnf);fail_if_success show False)|((first|refine opsA_step ?_|refine drawS_go ?_|apply wL (toMux _ hB)|apply wL (implReadMux _ hB _ _)|apply wL (specReadMux _ hB _ _)|apply wL (eqMuxResult _ hR)|apply wL (eqMux _ hB)|apply wL (markMux _ hB hE _ _ _)|apply wL (markMuxResult _ hR hRE _ _ _)|apply wL (heldMuxResult (oneR s who (readRC (s.cons.getD who.toNat con0) n)) hR hRE _ _ _));conv=>whnf)|(intro _;first|omega|conv=>whnf)|(apply And.intro<;>intro _<;>first|omega|conv=>whnf)|refine ⟨Seal.mk ?_,Seal.mk ?_⟩|((first|(apply And.intro;focus exact leafT14)|(apply Or.inl;apply And.intro;focus exact leafT14)|apply Or.inr|refine ⟨_,rfl,?_⟩|refine ⟨_,⟨rfl,rfl⟩,?_⟩|refine ⟨intE .u8,⟨rfl,fun _=>rfl⟩,?_⟩|(refine Exists.intro _ (And.intro (And.intro rfl (And.intro rfl ?_)) ?_);focus exact leafT14));conv=>whnf)|with_reducible assumption|((fail_if_success refine Exists.intro ?_ ?_);exact leafT14)|fail)
  (apply Wp.keep [1, 2, 3, 6, 8, 9, 10]; (conv => whnf); apply Wp.meet; (focus ((repeat' (first|refine Seal.mk ?_|(refine wS ?_;(conv=>whnf);fail_if_success show False)|((first|refine opsA_step ?_|refine drawS_go ?_|refine wD (id:=10) (.stable 0 (.stable 1 (.all (.step 2 (.all (.step 3 (.quick 4 .done))))))) [2, 3] (by kernel_rfl) rfl ?_|apply wL (toMux _ hB)|apply wL (implReadMux _ hB _ _)|apply wL (specReadMux _ hB _ _)|apply wL (eqMuxResult _ hR)|apply wL (eqMux _ hB)|apply wL (markMux _ hB hE _ _ _)|apply wL (markMuxResult _ hR hRE _ _ _)|apply wL (heldMuxResult (oneR s who (readRC (s.cons.getD who.toNat con0) n)) hR hRE _ _ _));conv=>whnf)|(intro _;first|omega|conv=>whnf)|(apply And.intro<;>intro _<;>first|omega|conv=>whnf)|refine ⟨Seal.mk ?_,Seal.mk ?_⟩|((first|(apply And.intro;focus exact leafT14)|(apply Or.inl;apply And.intro;focus exact leafT14)|apply Or.inr|refine ⟨_,rfl,?_⟩|refine ⟨_,⟨rfl,rfl⟩,?_⟩|refine ⟨intE .u8,⟨rfl,fun _=>rfl⟩,?_⟩|(refine Exists.intro _ (And.intro (And.intro rfl (And.intro rfl ?_)) ?_);focus exact leafT14));conv=>whnf)|with_reducible assumption|((fail_if_success refine Exists.intro ?_ ?_);exact leafT14)|fail)); (focus ((conv => whnf); apply FitsT.keep [1, 2, 3, 6, 8, 9, 10, 39]; (conv => whnf); (try exact rfl))); (all_goals (((try refine wF ?_);repeat' (first|exact ⟨⟩|(apply And.intro;focus exact leafT14)|((conv=>whnf);first|exact ⟨⟩|(apply And.intro;focus exact leafT14))|fail)))))); (conv => whnf))
  repeat' (first|refine Seal.mk ?_|(refine wS ?_;(conv=>whnf);fail_if_success show False)|((first|refine opsA_step ?_|refine drawS_go ?_|apply wL (toMux _ hB)|apply wL (implReadMux _ hB _ _)|apply wL (specReadMux _ hB _ _)|apply wL (eqMuxResult _ hR)|apply wL (eqMux _ hB)|apply wL (markMux _ hB hE _ _ _)|apply wL (markMuxResult _ hR hRE _ _ _)|apply wL (heldMuxResult (oneR s who (readRC (s.cons.getD who.toNat con0) n)) hR hRE _ _ _));conv=>whnf)|(intro _;first|omega|conv=>whnf)|(apply And.intro<;>intro _<;>first|omega|conv=>whnf)|refine ⟨Seal.mk ?_,Seal.mk ?_⟩|((first|(apply And.intro;focus exact leafT14)|(apply Or.inl;apply And.intro;focus exact leafT14)|apply Or.inr|refine ⟨_,rfl,?_⟩|refine ⟨_,⟨rfl,rfl⟩,?_⟩|refine ⟨intE .u8,⟨rfl,fun _=>rfl⟩,?_⟩|(refine Exists.intro _ (And.intro (And.intro rfl (And.intro rfl ?_)) ?_);focus exact leafT14));conv=>whnf)|with_reducible assumption|((fail_if_success refine Exists.intro ?_ ?_);exact leafT14)|fail)
  all_goals (first | (exact absurd rfl (by assumption)) | (exact absurd Iff.rfl (by assumption)) | (exfalso; omega) | (refine ⟨(),⟨⟩,?_⟩;((try refine wF ?_);repeat' (first|exact ⟨⟩|(apply And.intro;focus exact leafT14)|((conv=>whnf);first|exact ⟨⟩|(apply And.intro;focus exact leafT14))|fail))))
end Go.Mu
