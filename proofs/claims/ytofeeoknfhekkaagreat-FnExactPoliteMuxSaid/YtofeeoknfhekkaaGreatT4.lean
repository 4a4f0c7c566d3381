/- A mux's console is made polite, or not. -/
import Derived.Test.YtofeeoknfhekkaaGreatTA
import Derived.Test.YtofeeoknfhekkaaGreatC5
set_option linter.unusedSimpArgs false
set_option linter.unusedVariables false
set_option linter.constructorNameAsVariable false
namespace Go.Mu
open Go Go.Vm Go.RowKit Go.Proofs
attribute [local irreducible] wpA opsA stillA drawA drawS
set_option maxRecDepth 20000
set_option maxHeartbeats 40000000
theorem leafT4 {P : Prop} (h : P := by
  first
  | exact leaf
  | exact PreC.of_eq rfl
  | rfl
  | exact Bool.false_ne_true
  | exact ⟨rfl, rfl⟩
  | exact PreC.of_eq (by rw [pb_bool])
  | fail) : P := h
theorem implPoliteMux (s : Mux) (h : MuxB s) (who : Int) (on : Bool) : CallA S 31 [.agg (muxC (.loc 0) (.loc 1) (.loc 2) (.loc 3) (.loc 4) s), .int .i64 who, .prop (on = true)] ⟨muxH false (.loc 0) (.loc 1) (.loc 2) (.loc 3) (.loc 4) s [], 5⟩ (Ret1 (.agg (muxRC (.loc 5) (.loc 6) (.loc 7) (.loc 8) (.loc 9) (.loc 10) (polR s who on))) ⟨muxRH true (.loc 5) (.loc 6) (.loc 7) (.loc 8) (.loc 9) (.loc 10) (polR s who on) [], 11⟩) := by
  by_cases hw : whoF s who = 0
  by_cases hp : ¬ on = true ∧ who = s.active
  · rw [polR_off hw hp]
    have hm := (whoF_is hw).1
    have hpl := (whoF_is hw).2
    obtain ⟨⟨⟨m0, m1⟩, m2⟩, ⟨⟨m3, m4⟩, ⟨m5, m6⟩, m7, m8⟩, _⟩ := muxF_ok hm
    refine .ofC hS _ _ _ Tryz.func31 ?_
    conv => whnf
    repeat' (first|refine Seal.mk ?_|(refine wS ?_;(conv=>whnf);fail_if_success show False)|((first|refine opsA_step ?_|refine drawS_go ?_|apply wL (whoCode _ h _)|apply wL (cloneMux _ h));conv=>whnf)|(intro _;first|omega|conv=>whnf)|(apply And.intro<;>intro _<;>first|omega|conv=>whnf)|refine ⟨Seal.mk ?_,Seal.mk ?_⟩|((first|(apply And.intro;focus exact leafT4)|(apply Or.inl;apply And.intro;focus exact leafT4)|apply Or.inr|refine ⟨_,rfl,?_⟩|refine ⟨_,⟨rfl,rfl⟩,?_⟩|refine ⟨intE .u8,⟨rfl,fun _=>rfl⟩,?_⟩|(refine Exists.intro _ (And.intro (And.intro rfl (And.intro rfl ?_)) ?_);focus exact leafT4));conv=>whnf)|with_reducible assumption|((fail_if_success refine Exists.intro ?_ ?_);exact leafT4)|fail)
    all_goals (first | (exfalso; simp_all; done) | (exfalso; omega) | (refine ⟨(),⟨⟩,?_⟩;((try refine wF ?_);repeat' (first|exact ⟨⟩|(apply And.intro;focus exact leafT4)|((conv=>whnf);first|exact ⟨⟩|(apply And.intro;focus exact leafT4))|fail))))
  · rw [polR_on hw hp]
    have hm := (whoF_is hw).1
    have hpl := (whoF_is hw).2
    obtain ⟨⟨⟨m0, m1⟩, m2⟩, ⟨⟨m3, m4⟩, ⟨m5, m6⟩, m7, m8⟩, _⟩ := muxF_ok hm
    refine .ofC hS _ _ _ Tryz.func31 ?_
    conv => whnf
    repeat' (first|refine Seal.mk ?_|(refine wS ?_;(conv=>whnf);fail_if_success show False)|((first|refine opsA_step ?_|refine drawS_go ?_|apply wL (whoCode _ h _)|apply wL (cloneMux _ h));conv=>whnf)|(intro _;first|omega|conv=>whnf)|(apply And.intro<;>intro _<;>first|omega|conv=>whnf)|refine ⟨Seal.mk ?_,Seal.mk ?_⟩|((first|(apply And.intro;focus exact leafT4)|(apply Or.inl;apply And.intro;focus exact leafT4)|apply Or.inr|refine ⟨_,rfl,?_⟩|refine ⟨_,⟨rfl,rfl⟩,?_⟩|refine ⟨intE .u8,⟨rfl,fun _=>rfl⟩,?_⟩|(refine Exists.intro _ (And.intro (And.intro rfl (And.intro rfl ?_)) ?_);focus exact leafT4));conv=>whnf)|with_reducible assumption|((fail_if_success refine Exists.intro ?_ ?_);exact leafT4)|fail)
    all_goals (first | (exfalso; simp_all; done) | (exfalso; omega) | (refine ⟨(),⟨⟩,?_⟩;((try refine wF ?_);repeat' (first|exact ⟨⟩|(apply And.intro;focus exact leafT4)|((conv=>whnf);first|exact ⟨⟩|(apply And.intro;focus exact leafT4))|fail))))
  · rw [polR_bad hw]
    refine .ofC hS _ _ _ Tryz.func31 ?_
    conv => whnf
    repeat' (first|refine Seal.mk ?_|(refine wS ?_;(conv=>whnf);fail_if_success show False)|((first|refine opsA_step ?_|refine drawS_go ?_|apply wL (whoCode _ h _)|apply wL (cloneMux _ h));conv=>whnf)|(intro _;first|omega|conv=>whnf)|(apply And.intro<;>intro _<;>first|omega|conv=>whnf)|refine ⟨Seal.mk ?_,Seal.mk ?_⟩|((first|(apply And.intro;focus exact leafT4)|(apply Or.inl;apply And.intro;focus exact leafT4)|apply Or.inr|refine ⟨_,rfl,?_⟩|refine ⟨_,⟨rfl,rfl⟩,?_⟩|refine ⟨intE .u8,⟨rfl,fun _=>rfl⟩,?_⟩|(refine Exists.intro _ (And.intro (And.intro rfl (And.intro rfl ?_)) ?_);focus exact leafT4));conv=>whnf)|with_reducible assumption|((fail_if_success refine Exists.intro ?_ ?_);exact leafT4)|fail)
    all_goals (first | (exfalso; omega) | (refine ⟨(),⟨⟩,?_⟩;((try refine wF ?_);repeat' (first|exact ⟨⟩|(apply And.intro;focus exact leafT4)|((conv=>whnf);first|exact ⟨⟩|(apply And.intro;focus exact leafT4))|fail))))
theorem specPoliteMux (s : Mux) (h : MuxB s) (who : Int) (on : Bool) : CallA S 30 [.agg (muxC (.loc 0) (.loc 1) (.loc 2) (.loc 3) (.loc 4) s), .int .i64 who, .prop (on = true)] ⟨muxH false (.loc 0) (.loc 1) (.loc 2) (.loc 3) (.loc 4) s [], 5⟩ (Ret1 (.agg (muxRC (.loc 5) (.loc 6) (.loc 7) (.loc 8) (.loc 9) (.loc 10) (polR s who on))) ⟨muxRH true (.loc 5) (.loc 6) (.loc 7) (.loc 8) (.loc 9) (.loc 10) (polR s who on) [], 11⟩) := by
  by_cases hw : whoF s who = 0
  by_cases hp : ¬ on = true ∧ who = s.active
  · rw [polR_off hw hp]
    have hm := (whoF_is hw).1
    have hpl := (whoF_is hw).2
    obtain ⟨⟨⟨m0, m1⟩, m2⟩, ⟨⟨m3, m4⟩, ⟨m5, m6⟩, m7, m8⟩, _⟩ := muxF_ok hm
    refine .ofC hS _ _ _ Tryz.func30 ?_
    conv => whnf
    repeat' (first|refine Seal.mk ?_|(refine wS ?_;(conv=>whnf);fail_if_success show False)|((first|refine opsA_step ?_|refine drawS_go ?_|apply wL (l14Asked _ h _)|apply wL (l14Bad _)|apply wL (l14Copy _ h)|apply wL (l14Polite0 _ _ _ (by omega) (by omega) hp));conv=>whnf)|(intro _;first|omega|conv=>whnf)|(apply And.intro<;>intro _<;>first|omega|conv=>whnf)|refine ⟨Seal.mk ?_,Seal.mk ?_⟩|((first|(apply And.intro;focus exact leafT4)|(apply Or.inl;apply And.intro;focus exact leafT4)|apply Or.inr|refine ⟨_,rfl,?_⟩|refine ⟨_,⟨rfl,rfl⟩,?_⟩|refine ⟨intE .u8,⟨rfl,fun _=>rfl⟩,?_⟩|(refine Exists.intro _ (And.intro (And.intro rfl (And.intro rfl ?_)) ?_);focus exact leafT4));conv=>whnf)|with_reducible assumption|((fail_if_success refine Exists.intro ?_ ?_);exact leafT4)|fail)
    all_goals (first | (exfalso; simp_all; done) | (exfalso; omega) | (refine ⟨(),⟨⟩,?_⟩;((try refine wF ?_);repeat' (first|exact ⟨⟩|(apply And.intro;focus exact leafT4)|((conv=>whnf);first|exact ⟨⟩|(apply And.intro;focus exact leafT4))|fail))))
  · rw [polR_on hw hp]
    have hm := (whoF_is hw).1
    have hpl := (whoF_is hw).2
    obtain ⟨⟨⟨m0, m1⟩, m2⟩, ⟨⟨m3, m4⟩, ⟨m5, m6⟩, m7, m8⟩, _⟩ := muxF_ok hm
    refine .ofC hS _ _ _ Tryz.func30 ?_
    conv => whnf
    repeat' (first|refine Seal.mk ?_|(refine wS ?_;(conv=>whnf);fail_if_success show False)|((first|refine opsA_step ?_|refine drawS_go ?_|apply wL (l14Asked _ h _)|apply wL (l14Bad _)|apply wL (l14Copy _ h)|apply wL (l14Polite1 _ _ _ (by omega) (by omega) hp));conv=>whnf)|(intro _;first|omega|conv=>whnf)|(apply And.intro<;>intro _<;>first|omega|conv=>whnf)|refine ⟨Seal.mk ?_,Seal.mk ?_⟩|((first|(apply And.intro;focus exact leafT4)|(apply Or.inl;apply And.intro;focus exact leafT4)|apply Or.inr|refine ⟨_,rfl,?_⟩|refine ⟨_,⟨rfl,rfl⟩,?_⟩|refine ⟨intE .u8,⟨rfl,fun _=>rfl⟩,?_⟩|(refine Exists.intro _ (And.intro (And.intro rfl (And.intro rfl ?_)) ?_);focus exact leafT4));conv=>whnf)|with_reducible assumption|((fail_if_success refine Exists.intro ?_ ?_);exact leafT4)|fail)
    all_goals (first | (exfalso; simp_all; done) | (exfalso; omega) | (refine ⟨(),⟨⟩,?_⟩;((try refine wF ?_);repeat' (first|exact ⟨⟩|(apply And.intro;focus exact leafT4)|((conv=>whnf);first|exact ⟨⟩|(apply And.intro;focus exact leafT4))|fail))))
  · rw [polR_bad hw]
    refine .ofC hS _ _ _ Tryz.func30 ?_
    conv => whnf
    repeat' (first|refine Seal.mk ?_|(refine wS ?_;(conv=>whnf);fail_if_success show False)|((first|refine opsA_step ?_|refine drawS_go ?_|apply wL (l14Asked _ h _)|apply wL (l14Bad _)|apply wL (l14Copy _ h));conv=>whnf)|(intro _;first|omega|conv=>whnf)|(apply And.intro<;>intro _<;>first|omega|conv=>whnf)|refine ⟨Seal.mk ?_,Seal.mk ?_⟩|((first|(apply And.intro;focus exact leafT4)|(apply Or.inl;apply And.intro;focus exact leafT4)|apply Or.inr|refine ⟨_,rfl,?_⟩|refine ⟨_,⟨rfl,rfl⟩,?_⟩|refine ⟨intE .u8,⟨rfl,fun _=>rfl⟩,?_⟩|(refine Exists.intro _ (And.intro (And.intro rfl (And.intro rfl ?_)) ?_);focus exact leafT4));conv=>whnf)|with_reducible assumption|((fail_if_success refine Exists.intro ?_ ?_);exact leafT4)|fail)
    all_goals (first | (exfalso; omega) | (refine ⟨(),⟨⟩,?_⟩;((try refine wF ?_);repeat' (first|exact ⟨⟩|(apply And.intro;focus exact leafT4)|((conv=>whnf);first|exact ⟨⟩|(apply And.intro;focus exact leafT4))|fail))))
end Go.Mu
