/- A mux is switched. -/
import Derived.Test.YtofeeoknfhekkaaGreatTA
import Derived.Test.YtofeeoknfhekkaaGreatC5
set_option linter.unusedSimpArgs false
set_option linter.unusedVariables false
set_option linter.constructorNameAsVariable false
namespace Go.Mu
open Go Go.Vm Go.RowKit Go.Proofs
attribute [local irreducible] wpA opsA stillA drawA drawS
set_option maxRecDepth 20000
set_option maxHeartbeats 40000000
theorem leafT6 {P : Prop} (h : P := by
  first
  | exact leaf
  | exact PreC.of_eq rfl
  | rfl
  | exact Bool.false_ne_true
  | exact ⟨rfl, rfl⟩
  | fail) : P := h
theorem implSwitchMux (s : Mux) (h : MuxB s) (who : Int) : CallA S 33 [.agg (muxC (.loc 0) (.loc 1) (.loc 2) (.loc 3) (.loc 4) s), .int .i64 who] ⟨muxH false (.loc 0) (.loc 1) (.loc 2) (.loc 3) (.loc 4) s [], 5⟩ (Ret1 (.agg (muxRC (.loc 5) (.loc 6) (.loc 7) (.loc 8) (.loc 9) (.loc 10) (swR s who))) ⟨muxRH true (.loc 5) (.loc 6) (.loc 7) (.loc 8) (.loc 9) (.loc 10) (swR s who) [], 11⟩) := by
  by_cases hw : whoF s who = 0
  by_cases hc : who = s.active
  rotate_left
  by_cases hq : s.polite.getD s.active.toNat boolE.d = true
  by_cases hk : s.asked + 1 ≤ 999
  · rw [swR_ok hw]
    have hm := (whoF_is hw).1
    have hpl := (whoF_is hw).2
    obtain ⟨⟨⟨m0, m1⟩, m2⟩, ⟨⟨m3, m4⟩, ⟨m5, m6⟩, m7, m8⟩, _⟩ := muxF_ok hm
    have e1 : swM s who = { s with pending := who + 1, asked := s.asked + 1 } := by unfold swM; rw [if_neg hc, if_pos hq, if_pos hk]
    rw [e1]
    refine .ofC hS _ _ _ Tryz.func33 ?_
    conv => whnf
    repeat' (first|refine Seal.mk ?_|(refine wS ?_;(conv=>whnf);fail_if_success show False)|((first|refine opsA_step ?_|refine drawS_go ?_|apply wL (whoCode _ h _)|apply wL (cloneMux _ h)|apply wL (switchTo1 s who (by omega) (by omega) (by omega) (by omega) hc hq hk));conv=>whnf)|(intro _;first|omega|conv=>whnf)|(apply And.intro<;>intro _<;>first|omega|conv=>whnf)|refine ⟨Seal.mk ?_,Seal.mk ?_⟩|((first|(apply And.intro;focus exact leafT6)|(apply Or.inl;apply And.intro;focus exact leafT6)|apply Or.inr|refine ⟨_,rfl,?_⟩|refine ⟨_,⟨rfl,rfl⟩,?_⟩|refine ⟨intE .u8,⟨rfl,fun _=>rfl⟩,?_⟩|(refine Exists.intro _ (And.intro (And.intro rfl (And.intro rfl ?_)) ?_);focus exact leafT6));conv=>whnf)|with_reducible assumption|((fail_if_success refine Exists.intro ?_ ?_);exact leafT6)|fail)
    all_goals (first | (exfalso; omega) | (refine ⟨(),⟨⟩,?_⟩;((try refine wF ?_);repeat' (first|exact ⟨⟩|(apply And.intro;focus exact leafT6)|((conv=>whnf);first|exact ⟨⟩|(apply And.intro;focus exact leafT6))|fail))))
  · rw [swR_ok hw]
    have hm := (whoF_is hw).1
    have hpl := (whoF_is hw).2
    obtain ⟨⟨⟨m0, m1⟩, m2⟩, ⟨⟨m3, m4⟩, ⟨m5, m6⟩, m7, m8⟩, _⟩ := muxF_ok hm
    have e1 : swM s who = { s with pending := who + 1, asked := 999 } := by unfold swM; rw [if_neg hc, if_pos hq, if_neg hk]
    rw [e1]
    refine .ofC hS _ _ _ Tryz.func33 ?_
    conv => whnf
    repeat' (first|refine Seal.mk ?_|(refine wS ?_;(conv=>whnf);fail_if_success show False)|((first|refine opsA_step ?_|refine drawS_go ?_|apply wL (whoCode _ h _)|apply wL (cloneMux _ h)|apply wL (switchTo2 s who (by omega) (by omega) (by omega) (by omega) hc hq hk));conv=>whnf)|(intro _;first|omega|conv=>whnf)|(apply And.intro<;>intro _<;>first|omega|conv=>whnf)|refine ⟨Seal.mk ?_,Seal.mk ?_⟩|((first|(apply And.intro;focus exact leafT6)|(apply Or.inl;apply And.intro;focus exact leafT6)|apply Or.inr|refine ⟨_,rfl,?_⟩|refine ⟨_,⟨rfl,rfl⟩,?_⟩|refine ⟨intE .u8,⟨rfl,fun _=>rfl⟩,?_⟩|(refine Exists.intro _ (And.intro (And.intro rfl (And.intro rfl ?_)) ?_);focus exact leafT6));conv=>whnf)|with_reducible assumption|((fail_if_success refine Exists.intro ?_ ?_);exact leafT6)|fail)
    all_goals (first | (exfalso; omega) | (refine ⟨(),⟨⟩,?_⟩;((try refine wF ?_);repeat' (first|exact ⟨⟩|(apply And.intro;focus exact leafT6)|((conv=>whnf);first|exact ⟨⟩|(apply And.intro;focus exact leafT6))|fail))))
  · rw [swR_ok hw]
    have hm := (whoF_is hw).1
    have hpl := (whoF_is hw).2
    obtain ⟨⟨⟨m0, m1⟩, m2⟩, ⟨⟨m3, m4⟩, ⟨m5, m6⟩, m7, m8⟩, _⟩ := muxF_ok hm
    have e1 : swM s who = { s with active := who } := by unfold swM; rw [if_neg hc, if_neg hq]
    rw [e1]
    refine .ofC hS _ _ _ Tryz.func33 ?_
    conv => whnf
    repeat' (first|refine Seal.mk ?_|(refine wS ?_;(conv=>whnf);fail_if_success show False)|((first|refine opsA_step ?_|refine drawS_go ?_|apply wL (whoCode _ h _)|apply wL (cloneMux _ h)|apply wL (switchTo3 s who (by omega) (by omega) (by omega) (by omega) hc hq));conv=>whnf)|(intro _;first|omega|conv=>whnf)|(apply And.intro<;>intro _<;>first|omega|conv=>whnf)|refine ⟨Seal.mk ?_,Seal.mk ?_⟩|((first|(apply And.intro;focus exact leafT6)|(apply Or.inl;apply And.intro;focus exact leafT6)|apply Or.inr|refine ⟨_,rfl,?_⟩|refine ⟨_,⟨rfl,rfl⟩,?_⟩|refine ⟨intE .u8,⟨rfl,fun _=>rfl⟩,?_⟩|(refine Exists.intro _ (And.intro (And.intro rfl (And.intro rfl ?_)) ?_);focus exact leafT6));conv=>whnf)|with_reducible assumption|((fail_if_success refine Exists.intro ?_ ?_);exact leafT6)|fail)
    all_goals (first | (exfalso; omega) | (refine ⟨(),⟨⟩,?_⟩;((try refine wF ?_);repeat' (first|exact ⟨⟩|(apply And.intro;focus exact leafT6)|((conv=>whnf);first|exact ⟨⟩|(apply And.intro;focus exact leafT6))|fail))))
  · rw [swR_bad hw]
    refine .ofC hS _ _ _ Tryz.func33 ?_
    conv => whnf
    repeat' (first|refine Seal.mk ?_|(refine wS ?_;(conv=>whnf);fail_if_success show False)|((first|refine opsA_step ?_|refine drawS_go ?_|apply wL (whoCode _ h _)|apply wL (cloneMux _ h));conv=>whnf)|(intro _;first|omega|conv=>whnf)|(apply And.intro<;>intro _<;>first|omega|conv=>whnf)|refine ⟨Seal.mk ?_,Seal.mk ?_⟩|((first|(apply And.intro;focus exact leafT6)|(apply Or.inl;apply And.intro;focus exact leafT6)|apply Or.inr|refine ⟨_,rfl,?_⟩|refine ⟨_,⟨rfl,rfl⟩,?_⟩|refine ⟨intE .u8,⟨rfl,fun _=>rfl⟩,?_⟩|(refine Exists.intro _ (And.intro (And.intro rfl (And.intro rfl ?_)) ?_);focus exact leafT6));conv=>whnf)|with_reducible assumption|((fail_if_success refine Exists.intro ?_ ?_);exact leafT6)|fail)
    all_goals (first | (exfalso; omega) | (refine ⟨(),⟨⟩,?_⟩;((try refine wF ?_);repeat' (first|exact ⟨⟩|(apply And.intro;focus exact leafT6)|((conv=>whnf);first|exact ⟨⟩|(apply And.intro;focus exact leafT6))|fail))))
  · rw [swR_ok hw]
    have hm := (whoF_is hw).1
    have hpl := (whoF_is hw).2
    obtain ⟨⟨⟨m0, m1⟩, m2⟩, ⟨⟨m3, m4⟩, ⟨m5, m6⟩, m7, m8⟩, _⟩ := muxF_ok hm
    have e1 : swM s who = s := by unfold swM; rw [if_pos hc]
    rw [e1]
    refine .ofC hS _ _ _ Tryz.func33 ?_
    conv => whnf
    repeat' (first|refine Seal.mk ?_|(refine wS ?_;(conv=>whnf);fail_if_success show False)|((first|refine opsA_step ?_|refine drawS_go ?_|apply wL (whoCode _ h _)|apply wL (cloneMux _ h)|apply wL (switchTo0 s who (by omega) (by omega) (by omega) (by omega) hc));conv=>whnf)|(intro _;first|omega|conv=>whnf)|(apply And.intro<;>intro _<;>first|omega|conv=>whnf)|refine ⟨Seal.mk ?_,Seal.mk ?_⟩|((first|(apply And.intro;focus exact leafT6)|(apply Or.inl;apply And.intro;focus exact leafT6)|apply Or.inr|refine ⟨_,rfl,?_⟩|refine ⟨_,⟨rfl,rfl⟩,?_⟩|refine ⟨intE .u8,⟨rfl,fun _=>rfl⟩,?_⟩|(refine Exists.intro _ (And.intro (And.intro rfl (And.intro rfl ?_)) ?_);focus exact leafT6));conv=>whnf)|with_reducible assumption|((fail_if_success refine Exists.intro ?_ ?_);exact leafT6)|fail)
    all_goals (first | (exfalso; omega) | (refine ⟨(),⟨⟩,?_⟩;((try refine wF ?_);repeat' (first|exact ⟨⟩|(apply And.intro;focus exact leafT6)|((conv=>whnf);first|exact ⟨⟩|(apply And.intro;focus exact leafT6))|fail))))
theorem specSwitchMux (s : Mux) (h : MuxB s) (who : Int) : CallA S 32 [.agg (muxC (.loc 0) (.loc 1) (.loc 2) (.loc 3) (.loc 4) s), .int .i64 who] ⟨muxH false (.loc 0) (.loc 1) (.loc 2) (.loc 3) (.loc 4) s [], 5⟩ (Ret1 (.agg (muxRC (.loc 5) (.loc 6) (.loc 7) (.loc 8) (.loc 9) (.loc 10) (swR s who))) ⟨muxRH true (.loc 5) (.loc 6) (.loc 7) (.loc 8) (.loc 9) (.loc 10) (swR s who) [], 11⟩) := by
  by_cases hw : whoF s who = 0
  by_cases hc : who = s.active
  rotate_left
  by_cases hq : s.polite.getD s.active.toNat boolE.d = true
  by_cases hk : s.asked + 1 ≤ 999
  · rw [swR_ok hw]
    have hm := (whoF_is hw).1
    have hpl := (whoF_is hw).2
    obtain ⟨⟨⟨m0, m1⟩, m2⟩, ⟨⟨m3, m4⟩, ⟨m5, m6⟩, m7, m8⟩, _⟩ := muxF_ok hm
    have e1 : swM s who = { s with pending := who + 1, asked := s.asked + 1 } := by unfold swM; rw [if_neg hc, if_pos hq, if_pos hk]
    rw [e1]
    refine .ofC hS _ _ _ Tryz.func32 ?_
    conv => whnf
    repeat' (first|refine Seal.mk ?_|(refine wS ?_;(conv=>whnf);fail_if_success show False)|((first|refine opsA_step ?_|refine drawS_go ?_|apply wL (l14Asked _ h _)|apply wL (l14Bad _)|apply wL (l14Copy _ h)|apply wL (l14Switch1 s who (by omega) (by omega) (by omega) (by omega) hc hq hk));conv=>whnf)|(intro _;first|omega|conv=>whnf)|(apply And.intro<;>intro _<;>first|omega|conv=>whnf)|refine ⟨Seal.mk ?_,Seal.mk ?_⟩|((first|(apply And.intro;focus exact leafT6)|(apply Or.inl;apply And.intro;focus exact leafT6)|apply Or.inr|refine ⟨_,rfl,?_⟩|refine ⟨_,⟨rfl,rfl⟩,?_⟩|refine ⟨intE .u8,⟨rfl,fun _=>rfl⟩,?_⟩|(refine Exists.intro _ (And.intro (And.intro rfl (And.intro rfl ?_)) ?_);focus exact leafT6));conv=>whnf)|with_reducible assumption|((fail_if_success refine Exists.intro ?_ ?_);exact leafT6)|fail)
    all_goals (first | (exfalso; omega) | (refine ⟨(),⟨⟩,?_⟩;((try refine wF ?_);repeat' (first|exact ⟨⟩|(apply And.intro;focus exact leafT6)|((conv=>whnf);first|exact ⟨⟩|(apply And.intro;focus exact leafT6))|fail))))
  · rw [swR_ok hw]
    have hm := (whoF_is hw).1
    have hpl := (whoF_is hw).2
    obtain ⟨⟨⟨m0, m1⟩, m2⟩, ⟨⟨m3, m4⟩, ⟨m5, m6⟩, m7, m8⟩, _⟩ := muxF_ok hm
    have e1 : swM s who = { s with pending := who + 1, asked := 999 } := by unfold swM; rw [if_neg hc, if_pos hq, if_neg hk]
    rw [e1]
    refine .ofC hS _ _ _ Tryz.func32 ?_
    conv => whnf
    repeat' (first|refine Seal.mk ?_|(refine wS ?_;(conv=>whnf);fail_if_success show False)|((first|refine opsA_step ?_|refine drawS_go ?_|apply wL (l14Asked _ h _)|apply wL (l14Bad _)|apply wL (l14Copy _ h)|apply wL (l14Switch2 s who (by omega) (by omega) (by omega) (by omega) hc hq hk));conv=>whnf)|(intro _;first|omega|conv=>whnf)|(apply And.intro<;>intro _<;>first|omega|conv=>whnf)|refine ⟨Seal.mk ?_,Seal.mk ?_⟩|((first|(apply And.intro;focus exact leafT6)|(apply Or.inl;apply And.intro;focus exact leafT6)|apply Or.inr|refine ⟨_,rfl,?_⟩|refine ⟨_,⟨rfl,rfl⟩,?_⟩|refine ⟨intE .u8,⟨rfl,fun _=>rfl⟩,?_⟩|(refine Exists.intro _ (And.intro (And.intro rfl (And.intro rfl ?_)) ?_);focus exact leafT6));conv=>whnf)|with_reducible assumption|((fail_if_success refine Exists.intro ?_ ?_);exact leafT6)|fail)
    all_goals (first | (exfalso; omega) | (refine ⟨(),⟨⟩,?_⟩;((try refine wF ?_);repeat' (first|exact ⟨⟩|(apply And.intro;focus exact leafT6)|((conv=>whnf);first|exact ⟨⟩|(apply And.intro;focus exact leafT6))|fail))))
  · rw [swR_ok hw]
    have hm := (whoF_is hw).1
    have hpl := (whoF_is hw).2
    obtain ⟨⟨⟨m0, m1⟩, m2⟩, ⟨⟨m3, m4⟩, ⟨m5, m6⟩, m7, m8⟩, _⟩ := muxF_ok hm
    have e1 : swM s who = { s with active := who } := by unfold swM; rw [if_neg hc, if_neg hq]
    rw [e1]
    refine .ofC hS _ _ _ Tryz.func32 ?_
    conv => whnf
    repeat' (first|refine Seal.mk ?_|(refine wS ?_;(conv=>whnf);fail_if_success show False)|((first|refine opsA_step ?_|refine drawS_go ?_|apply wL (l14Asked _ h _)|apply wL (l14Bad _)|apply wL (l14Copy _ h)|apply wL (l14Switch3 s who (by omega) (by omega) (by omega) (by omega) hc hq));conv=>whnf)|(intro _;first|omega|conv=>whnf)|(apply And.intro<;>intro _<;>first|omega|conv=>whnf)|refine ⟨Seal.mk ?_,Seal.mk ?_⟩|((first|(apply And.intro;focus exact leafT6)|(apply Or.inl;apply And.intro;focus exact leafT6)|apply Or.inr|refine ⟨_,rfl,?_⟩|refine ⟨_,⟨rfl,rfl⟩,?_⟩|refine ⟨intE .u8,⟨rfl,fun _=>rfl⟩,?_⟩|(refine Exists.intro _ (And.intro (And.intro rfl (And.intro rfl ?_)) ?_);focus exact leafT6));conv=>whnf)|with_reducible assumption|((fail_if_success refine Exists.intro ?_ ?_);exact leafT6)|fail)
    all_goals (first | (exfalso; omega) | (refine ⟨(),⟨⟩,?_⟩;((try refine wF ?_);repeat' (first|exact ⟨⟩|(apply And.intro;focus exact leafT6)|((conv=>whnf);first|exact ⟨⟩|(apply And.intro;focus exact leafT6))|fail))))
  · rw [swR_bad hw]
    refine .ofC hS _ _ _ Tryz.func32 ?_
    conv => whnf
    repeat' (first|refine Seal.mk ?_|(refine wS ?_;(conv=>whnf);fail_if_success show False)|((first|refine opsA_step ?_|refine drawS_go ?_|apply wL (l14Asked _ h _)|apply wL (l14Bad _)|apply wL (l14Copy _ h));conv=>whnf)|(intro _;first|omega|conv=>whnf)|(apply And.intro<;>intro _<;>first|omega|conv=>whnf)|refine ⟨Seal.mk ?_,Seal.mk ?_⟩|((first|(apply And.intro;focus exact leafT6)|(apply Or.inl;apply And.intro;focus exact leafT6)|apply Or.inr|refine ⟨_,rfl,?_⟩|refine ⟨_,⟨rfl,rfl⟩,?_⟩|refine ⟨intE .u8,⟨rfl,fun _=>rfl⟩,?_⟩|(refine Exists.intro _ (And.intro (And.intro rfl (And.intro rfl ?_)) ?_);focus exact leafT6));conv=>whnf)|with_reducible assumption|((fail_if_success refine Exists.intro ?_ ?_);exact leafT6)|fail)
    all_goals (first | (exfalso; omega) | (refine ⟨(),⟨⟩,?_⟩;((try refine wF ?_);repeat' (first|exact ⟨⟩|(apply And.intro;focus exact leafT6)|((conv=>whnf);first|exact ⟨⟩|(apply And.intro;focus exact leafT6))|fail))))
  · rw [swR_ok hw]
    have hm := (whoF_is hw).1
    have hpl := (whoF_is hw).2
    obtain ⟨⟨⟨m0, m1⟩, m2⟩, ⟨⟨m3, m4⟩, ⟨m5, m6⟩, m7, m8⟩, _⟩ := muxF_ok hm
    have e1 : swM s who = s := by unfold swM; rw [if_pos hc]
    rw [e1]
    refine .ofC hS _ _ _ Tryz.func32 ?_
    conv => whnf
    repeat' (first|refine Seal.mk ?_|(refine wS ?_;(conv=>whnf);fail_if_success show False)|((first|refine opsA_step ?_|refine drawS_go ?_|apply wL (l14Asked _ h _)|apply wL (l14Bad _)|apply wL (l14Copy _ h)|apply wL (l14Switch0 s who (by omega) (by omega) (by omega) (by omega) hc));conv=>whnf)|(intro _;first|omega|conv=>whnf)|(apply And.intro<;>intro _<;>first|omega|conv=>whnf)|refine ⟨Seal.mk ?_,Seal.mk ?_⟩|((first|(apply And.intro;focus exact leafT6)|(apply Or.inl;apply And.intro;focus exact leafT6)|apply Or.inr|refine ⟨_,rfl,?_⟩|refine ⟨_,⟨rfl,rfl⟩,?_⟩|refine ⟨intE .u8,⟨rfl,fun _=>rfl⟩,?_⟩|(refine Exists.intro _ (And.intro (And.intro rfl (And.intro rfl ?_)) ?_);focus exact leafT6));conv=>whnf)|with_reducible assumption|((fail_if_success refine Exists.intro ?_ ?_);exact leafT6)|fail)
    all_goals (first | (exfalso; omega) | (refine ⟨(),⟨⟩,?_⟩;((try refine wF ?_);repeat' (first|exact ⟨⟩|(apply And.intro;focus exact leafT6)|((conv=>whnf);first|exact ⟨⟩|(apply And.intro;focus exact leafT6))|fail))))
end Go.Mu
