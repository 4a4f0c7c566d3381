/- One console of a mux, as the reference turns it: Set. -/
import Derived.Test.YtofeeoknfhekkaaGreatTA
import Derived.Test.YtofeeoknfhekkaaGreatT8
set_option linter.unusedSimpArgs false
set_option linter.unusedVariables false
set_option linter.constructorNameAsVariable false
namespace Go.Mu
open Go Go.Vm Go.RowKit Go.Proofs
attribute [local irreducible] wpA opsA stillA drawA drawS
set_option maxRecDepth 20000
set_option maxHeartbeats 40000000
theorem leafT10 {P : Prop} (h : P := by
  first
  | exact leaf
  | exact PreC.of_eq rfl
  | rfl
  | exact Bool.false_ne_true
  | exact ⟨rfl, rfl⟩
  | fail) : P := h
theorem specSetMux (s : Mux) (h : MuxB s) (who : Int) (w : Wy) : CallA S 34 [.agg (muxC (.loc 0) (.loc 1) (.loc 2) (.loc 3) (.loc 4) s), .int .i64 who, .agg (wyC w)] ⟨muxH false (.loc 0) (.loc 1) (.loc 2) (.loc 3) (.loc 4) s [], 5⟩ (Ret1 (.agg (muxRC (.loc 5) (.loc 6) (.loc 7) (.loc 8) (.loc 9) (.loc 10) (oneR s who (setR (s.cons.getD who.toNat con0) w)))) ⟨muxRH true (.loc 5) (.loc 6) (.loc 7) (.loc 8) (.loc 9) (.loc 10) (oneR s who (setR (s.cons.getD who.toNat con0) w)) [], 11⟩) := by
  have hz : ConB (s.cons.getD who.toNat con0) := getD_all (d := con0) h.consB.all con0B who.toNat
  have hr : ConRB (setR (s.cons.getD who.toNat con0) w) := setR_B hz w
  have hcl := specSetConsole (s.cons.getD who.toNat con0) hz w
  generalize setR (s.cons.getD who.toNat con0) w = r at *
  by_cases hw : whoF s who = 0
  by_cases hc : r.code = 0
  · rw [oneR_ok hw hc]
    have hm := (whoF_is hw).1
    have hpl := (whoF_is hw).2
    obtain ⟨⟨⟨m0, m1⟩, m2⟩, ⟨⟨m3, m4⟩, ⟨m5, m6⟩, m7, m8⟩, _⟩ := muxF_ok hm
    have hsl : (s.cons.set who.toNat r.con).length = s.cons.length := List.length_set ..
    refine .ofC hS _ _ _ Tryz.func34 ?_
    conv => whnf
    repeat' (first|refine Seal.mk ?_|(refine wS ?_;(conv=>whnf);fail_if_success show False)|((first|refine opsA_step ?_|refine drawS_go ?_|apply wL (l14Asked _ h _)|apply wL (l14Bad _));conv=>whnf)|(intro _;first|omega|conv=>whnf)|(apply And.intro<;>intro _<;>first|omega|conv=>whnf)|refine ⟨Seal.mk ?_,Seal.mk ?_⟩|((first|(apply And.intro;focus exact leafT10)|(apply Or.inl;apply And.intro;focus exact leafT10)|apply Or.inr|refine ⟨_,rfl,?_⟩|refine ⟨_,⟨rfl,rfl⟩,?_⟩|refine ⟨intE .u8,⟨rfl,fun _=>rfl⟩,?_⟩|(refine Exists.intro _ (And.intro (And.intro rfl (And.intro rfl ?_)) ?_);focus exact leafT10));conv=>whnf)|with_reducible assumption|((fail_if_success refine Exists.intro ?_ ?_);exact leafT10)|fail)
    refine Wp.see ⟨[(1, .int .i64 who), (3, .ptr (.loc 5) 10 none 0), (5, .ptr (.loc 6) 7 none 0), (6, .ptr (.loc 7) 13 none 0)], ⟨⟨.loc 5, false, .raw (muxC (.loc 0) (.loc 1) (.loc 2) (.loc 3) (.loc 4) s)⟩ :: ⟨.loc 6, false, .raw (wyC w)⟩ :: ⟨.loc 7, true, .raw [.int .i64 0, .ff, .nils, .nils, .nils, .int .i64 0, .int .i64 0, .int .i64 0, .nils, .nils, .nils, .ff, .int .i64 0]⟩ :: muxH false (.loc 0) (.loc 1) (.loc 2) (.loc 3) (.loc 4) s [], 8⟩, 24, 5⟩ ?_ ?_
    · ((try refine wF ?_);repeat' (first|exact ⟨⟩|(apply And.intro;focus exact leafT10)|((conv=>whnf);first|exact ⟨⟩|(apply And.intro;focus exact leafT10))|fail))
    conv => whnf
    repeat' (first|refine Seal.mk ?_|(refine wS ?_;(conv=>whnf);fail_if_success show False)|((first|refine opsA_step ?_|refine drawS_go ?_|refine wD (id:=4) (.quick 1 (.quick 2 (.quick 4 (.stable 0 (.stable 3 (.quick 5 (.stable 6 (.stable 7 (.all (.step 8 (.all (.step 9 (.all (.step 10 .done)))))))))))))) [8, 9, 10] (by kernel_rfl) rfl ?_|apply wL (hcl)|apply wL (l14One s h who r hr hpl (by omega) hc));conv=>whnf)|(intro _;first|omega|conv=>whnf)|(apply And.intro<;>intro _<;>first|omega|conv=>whnf)|refine ⟨Seal.mk ?_,Seal.mk ?_⟩|((first|(apply And.intro;focus exact leafT10)|(apply Or.inl;apply And.intro;focus exact leafT10)|apply Or.inr|refine ⟨_,rfl,?_⟩|refine ⟨_,⟨rfl,rfl⟩,?_⟩|refine ⟨intE .u8,⟨rfl,fun _=>rfl⟩,?_⟩|(refine Exists.intro _ (And.intro (And.intro rfl (And.intro rfl ?_)) ?_);focus exact leafT10));conv=>whnf)|with_reducible assumption|((fail_if_success refine Exists.intro ?_ ?_);exact leafT10)|fail)
    all_goals (refine ⟨(),⟨⟩,?_⟩;((try refine wF ?_);repeat' (first|exact ⟨⟩|(apply And.intro;focus exact leafT10)|((conv=>whnf);first|exact ⟨⟩|(apply And.intro;focus exact leafT10))|fail)))
  · rw [oneR_n hw hc]
    have hm := (whoF_is hw).1
    have hpl := (whoF_is hw).2
    obtain ⟨⟨⟨m0, m1⟩, m2⟩, ⟨⟨m3, m4⟩, ⟨m5, m6⟩, m7, m8⟩, _⟩ := muxF_ok hm
    have hsl : (s.cons.set who.toNat r.con).length = s.cons.length := List.length_set ..
    refine .ofC hS _ _ _ Tryz.func34 ?_
    conv => whnf
    repeat' (first|refine Seal.mk ?_|(refine wS ?_;(conv=>whnf);fail_if_success show False)|((first|refine opsA_step ?_|refine drawS_go ?_|apply wL (l14Asked _ h _)|apply wL (l14Bad _));conv=>whnf)|(intro _;first|omega|conv=>whnf)|(apply And.intro<;>intro _<;>first|omega|conv=>whnf)|refine ⟨Seal.mk ?_,Seal.mk ?_⟩|((first|(apply And.intro;focus exact leafT10)|(apply Or.inl;apply And.intro;focus exact leafT10)|apply Or.inr|refine ⟨_,rfl,?_⟩|refine ⟨_,⟨rfl,rfl⟩,?_⟩|refine ⟨intE .u8,⟨rfl,fun _=>rfl⟩,?_⟩|(refine Exists.intro _ (And.intro (And.intro rfl (And.intro rfl ?_)) ?_);focus exact leafT10));conv=>whnf)|with_reducible assumption|((fail_if_success refine Exists.intro ?_ ?_);exact leafT10)|fail)
    refine Wp.see ⟨[(1, .int .i64 who), (3, .ptr (.loc 5) 10 none 0), (5, .ptr (.loc 6) 7 none 0), (6, .ptr (.loc 7) 13 none 0)], ⟨⟨.loc 5, false, .raw (muxC (.loc 0) (.loc 1) (.loc 2) (.loc 3) (.loc 4) s)⟩ :: ⟨.loc 6, false, .raw (wyC w)⟩ :: ⟨.loc 7, true, .raw [.int .i64 0, .ff, .nils, .nils, .nils, .int .i64 0, .int .i64 0, .int .i64 0, .nils, .nils, .nils, .ff, .int .i64 0]⟩ :: muxH false (.loc 0) (.loc 1) (.loc 2) (.loc 3) (.loc 4) s [], 8⟩, 24, 5⟩ ?_ ?_
    · ((try refine wF ?_);repeat' (first|exact ⟨⟩|(apply And.intro;focus exact leafT10)|((conv=>whnf);first|exact ⟨⟩|(apply And.intro;focus exact leafT10))|fail))
    conv => whnf
    repeat' (first|refine Seal.mk ?_|(refine wS ?_;(conv=>whnf);fail_if_success show False)|((first|refine opsA_step ?_|refine drawS_go ?_|refine wD (id:=4) (.quick 1 (.quick 2 (.quick 4 (.stable 0 (.stable 3 (.quick 5 (.stable 6 (.stable 7 (.all (.step 8 (.all (.step 9 (.all (.step 10 .done)))))))))))))) [8, 9, 10] (by kernel_rfl) rfl ?_|apply wL (hcl)|apply wL (l14OneBad s h who r hr hpl hc));conv=>whnf)|(intro _;first|omega|conv=>whnf)|(apply And.intro<;>intro _<;>first|omega|conv=>whnf)|refine ⟨Seal.mk ?_,Seal.mk ?_⟩|((first|(apply And.intro;focus exact leafT10)|(apply Or.inl;apply And.intro;focus exact leafT10)|apply Or.inr|refine ⟨_,rfl,?_⟩|refine ⟨_,⟨rfl,rfl⟩,?_⟩|refine ⟨intE .u8,⟨rfl,fun _=>rfl⟩,?_⟩|(refine Exists.intro _ (And.intro (And.intro rfl (And.intro rfl ?_)) ?_);focus exact leafT10));conv=>whnf)|with_reducible assumption|((fail_if_success refine Exists.intro ?_ ?_);exact leafT10)|fail)
    all_goals (refine ⟨(),⟨⟩,?_⟩;((try refine wF ?_);repeat' (first|exact ⟨⟩|(apply And.intro;focus exact leafT10)|((conv=>whnf);first|exact ⟨⟩|(apply And.intro;focus exact leafT10))|fail)))
  · rw [oneR_bad hw]
    refine .ofC hS _ _ _ Tryz.func34 ?_
    conv => whnf
    repeat' (first|refine Seal.mk ?_|(refine wS ?_;(conv=>whnf);fail_if_success show False)|((first|refine opsA_step ?_|refine drawS_go ?_|apply wL (l14Asked _ h _)|apply wL (l14Bad _));conv=>whnf)|(intro _;first|omega|conv=>whnf)|(apply And.intro<;>intro _<;>first|omega|conv=>whnf)|refine ⟨Seal.mk ?_,Seal.mk ?_⟩|((first|(apply And.intro;focus exact leafT10)|(apply Or.inl;apply And.intro;focus exact leafT10)|apply Or.inr|refine ⟨_,rfl,?_⟩|refine ⟨_,⟨rfl,rfl⟩,?_⟩|refine ⟨intE .u8,⟨rfl,fun _=>rfl⟩,?_⟩|(refine Exists.intro _ (And.intro (And.intro rfl (And.intro rfl ?_)) ?_);focus exact leafT10));conv=>whnf)|with_reducible assumption|((fail_if_success refine Exists.intro ?_ ?_);exact leafT10)|fail)
    all_goals (first | (exfalso; omega) | (refine ⟨(),⟨⟩,?_⟩;((try refine wF ?_);repeat' (first|exact ⟨⟩|(apply And.intro;focus exact leafT10)|((conv=>whnf);first|exact ⟨⟩|(apply And.intro;focus exact leafT10))|fail))))
end Go.Mu
