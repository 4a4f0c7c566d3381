/- The law on a mux that is loaded with binds and texts. -/
import Derived.Test.YtofeeoknfhekkaaGreatT15
import Derived.Test.YtofeeoknfhekkaaGreatL15
set_option linter.unusedSimpArgs false
set_option linter.unusedVariables false
set_option linter.constructorNameAsVariable false
namespace Go.Mu
open Go Go.Vm Go.RowKit Go.Proofs
attribute [local irreducible] wpA opsA stillA drawA drawS
set_option maxRecDepth 20000
set_option maxHeartbeats 40000000
theorem leafT16 {P : Prop} (h : P := by
  first
  | exact leaf
  | exact PreC.of_eq rfl
  | rfl
  | exact Bool.false_ne_true
  | exact ⟨rfl, rfl⟩
  | fail) : P := h
theorem lawLoadMux (s : Mux) (bs : List Qd) (ts : List (List Int)) : CallA S 3 [.agg (muxC (.loc 0) (.loc 1) (.loc 2) (.loc 3) (.loc 4) s), .sl (.loc 5) 4 none bs.length, .sl (.loc 6) 1 none ts.length] ⟨muxH false (.loc 0) (.loc 1) (.loc 2) (.loc 3) (.loc 4) s [⟨.loc 5, false, .arr quadE bs⟩, ⟨.loc 6, false, .arr strE ts⟩], 7⟩ (Ret1 .tt ⟨[], 7⟩) := by
  refine .ofC hS _ _ _ Tryz.func3 ?_
  conv => whnf
  repeat' (first|refine Seal.mk ?_|(refine wS ?_;(conv=>whnf);fail_if_success show False)|((first|refine opsA_step ?_|refine drawS_go ?_|apply wL (szMux s _ _ _)|apply wL (szBindS _ _ _ _)|apply wL (szStringS ts _ _ _));conv=>whnf)|(intro _;first|omega|conv=>whnf)|(apply And.intro<;>intro _<;>first|omega|conv=>whnf)|refine ⟨Seal.mk ?_,Seal.mk ?_⟩|((first|(apply And.intro;focus exact leafT16)|(apply Or.inl;apply And.intro;focus exact leafT16)|apply Or.inr|refine ⟨_,rfl,?_⟩|refine ⟨_,⟨rfl,rfl⟩,?_⟩|refine ⟨intE .u8,⟨rfl,fun _=>rfl⟩,?_⟩|(refine Exists.intro _ (And.intro (And.intro rfl (And.intro rfl ?_)) ?_);focus exact leafT16));conv=>whnf)|with_reducible assumption|((fail_if_success refine Exists.intro ?_ ?_);exact leafT16)|fail)
  · (refine ⟨(),⟨⟩,?_⟩;((try refine wF ?_);repeat' (first|exact ⟨⟩|(apply And.intro;focus exact leafT16)|((conv=>whnf);first|exact ⟨⟩|(apply And.intro;focus exact leafT16))|fail)))
  · (refine ⟨(),⟨⟩,?_⟩;((try refine wF ?_);repeat' (first|exact ⟨⟩|(apply And.intro;focus exact leafT16)|((conv=>whnf);first|exact ⟨⟩|(apply And.intro;focus exact leafT16))|fail)))
  · (refine ⟨(),⟨⟩,?_⟩;((try refine wF ?_);repeat' (first|exact ⟨⟩|(apply And.intro;focus exact leafT16)|((conv=>whnf);first|exact ⟨⟩|(apply And.intro;focus exact leafT16))|fail)))
  have hb : bs.length ≤ 1048576 := by omega
  have ht : ts.length ≤ 1048576 := by omega
  have ht' : sumC List.length ts ≤ 1048576 := by omega
  have hB : MuxB s := muxB_of (by omega)
  have hE : sumC cntE s.cons ≤ 268435456 := size_E (by omega)
  have hW : MuxRW (loadR s bs ts) := loadR_W hB hb ht ht'
  have hR := hW.b
  have hRE := hW.e
  clear hW
  have hE' : cntCS s.cons ≤ 268435456 := hE
  repeat' (first|refine Seal.mk ?_|(refine wS ?_;(conv=>whnf);fail_if_success show False)|((first|refine opsA_step ?_|refine drawS_go ?_|apply wL (toMux _ hB)|apply wL (toBindS _ hb)|apply wL (toStringS _ ht)|apply wL (implLoadMux _ hB _ _ hb ht)|apply wL (specLoadMux _ hB _ _ hb ht)|apply wL (eqMuxResult _ hR)|apply wL (eqMux _ hB)|apply wL (eqBindS _ hb)|apply wL (eqStringS _ ht)|apply wL (markBindS _ hb _ _ _)|apply wL (markStringS _ ht _ _ _)|apply wL (markMux _ hB hE _ _ _)|apply wL (markMuxResult _ hR hRE _ _ _)|apply wL (heldMuxResult (loadR s bs ts) hR hRE _ _ _));conv=>whnf)|(intro _;first|omega|conv=>whnf)|(apply And.intro<;>intro _<;>first|omega|conv=>whnf)|refine ⟨Seal.mk ?_,Seal.mk ?_⟩|((first|(apply And.intro;focus exact leafT16)|(apply Or.inl;apply And.intro;focus exact leafT16)|apply Or.inr|refine ⟨_,rfl,?_⟩|refine ⟨_,⟨rfl,rfl⟩,?_⟩|refine ⟨intE .u8,⟨rfl,fun _=>rfl⟩,?_⟩|(refine Exists.intro _ (And.intro (And.intro rfl (And.intro rfl ?_)) ?_);focus exact leafT16));conv=>whnf)|with_reducible assumption|((fail_if_success refine Exists.intro ?_ ?_);exact leafT16)|fail)
  (apply Wp.keep [1, 2, 3, 6, 8, 9, 10, 11, 12]; (conv => whnf); apply Wp.meet; (focus ((repeat' (first|refine Seal.mk ?_|(refine wS ?_;(conv=>whnf);fail_if_success show False)|((first|refine opsA_step ?_|refine drawS_go ?_|refine wD (id:=18) (.stable 0 (.stable 1 (.all (.step 2 (.all (.step 3 (.quick 4 .done))))))) [2, 3] (by kernel_rfl) rfl ?_|apply wL (toMux _ hB)|apply wL (toBindS _ hb)|apply wL (toStringS _ ht)|apply wL (implLoadMux _ hB _ _ hb ht)|apply wL (specLoadMux _ hB _ _ hb ht)|apply wL (eqMuxResult _ hR)|apply wL (eqMux _ hB)|apply wL (eqBindS _ hb)|apply wL (eqStringS _ ht)|apply wL (markBindS _ hb _ _ _)|apply wL (markStringS _ ht _ _ _)|apply wL (markMux _ hB hE _ _ _)|apply wL (markMuxResult _ hR hRE _ _ _)|apply wL (heldMuxResult (loadR s bs ts) hR hRE _ _ _));conv=>whnf)|(intro _;first|omega|conv=>whnf)|(apply And.intro<;>intro _<;>first|omega|conv=>whnf)|refine ⟨Seal.mk ?_,Seal.mk ?_⟩|((first|(apply And.intro;focus exact leafT16)|(apply Or.inl;apply And.intro;focus exact leafT16)|apply Or.inr|refine ⟨_,rfl,?_⟩|refine ⟨_,⟨rfl,rfl⟩,?_⟩|refine ⟨intE .u8,⟨rfl,fun _=>rfl⟩,?_⟩|(refine Exists.intro _ (And.intro (And.intro rfl (And.intro rfl ?_)) ?_);focus exact leafT16));conv=>whnf)|with_reducible assumption|((fail_if_success refine Exists.intro ?_ ?_);exact leafT16)|fail)); (focus ((conv => whnf); apply FitsT.keep [1, 2, 3, 6, 8, 9, 10, 11, 12, 57]; (conv => whnf); (try exact rfl))); (all_goals (((try refine wF ?_);repeat' (first|exact ⟨⟩|(apply And.intro;focus exact leafT16)|((conv=>whnf);first|exact ⟨⟩|(apply And.intro;focus exact leafT16))|fail)))))); (conv => whnf))
  repeat' (first|refine Seal.mk ?_|(refine wS ?_;(conv=>whnf);fail_if_success show False)|((first|refine opsA_step ?_|refine drawS_go ?_|apply wL (toMux _ hB)|apply wL (toBindS _ hb)|apply wL (toStringS _ ht)|apply wL (implLoadMux _ hB _ _ hb ht)|apply wL (specLoadMux _ hB _ _ hb ht)|apply wL (eqMuxResult _ hR)|apply wL (eqMux _ hB)|apply wL (eqBindS _ hb)|apply wL (eqStringS _ ht)|apply wL (markBindS _ hb _ _ _)|apply wL (markStringS _ ht _ _ _)|apply wL (markMux _ hB hE _ _ _)|apply wL (markMuxResult _ hR hRE _ _ _)|apply wL (heldMuxResult (loadR s bs ts) hR hRE _ _ _));conv=>whnf)|(intro _;first|omega|conv=>whnf)|(apply And.intro<;>intro _<;>first|omega|conv=>whnf)|refine ⟨Seal.mk ?_,Seal.mk ?_⟩|((first|(apply And.intro;focus exact leafT16)|(apply Or.inl;apply And.intro;focus exact leafT16)|apply Or.inr|refine ⟨_,rfl,?_⟩|refine ⟨_,⟨rfl,rfl⟩,?_⟩|refine ⟨intE .u8,⟨rfl,fun _=>rfl⟩,?_⟩|(refine Exists.intro _ (And.intro (And.intro rfl (And.intro rfl ?_)) ?_);focus exact leafT16));conv=>whnf)|with_reducible assumption|((fail_if_success refine Exists.intro ?_ ?_);exact leafT16)|fail)
  all_goals (first | (exact absurd rfl (by assumption)) | (exact absurd Iff.rfl (by assumption)) | (exfalso; omega) | (refine ⟨(),⟨⟩,?_⟩;((try refine wF ?_);repeat' (first|exact ⟨⟩|(apply And.intro;focus exact leafT16)|((conv=>whnf);first|exact ⟨⟩|(apply And.intro;focus exact leafT16))|fail))))
end Go.Mu
