/- One console of a mux, as the reference turns it: Read. -/
import Derived.Test.YtofeeoknfhekkaaGreatTA
import Derived.Test.YtofeeoknfhekkaaGreatT11
set_option linter.unusedSimpArgs false
set_option linter.unusedVariables false
set_option linter.constructorNameAsVariable false
namespace Go.Mu
open Go Go.Vm Go.RowKit Go.Proofs
attribute [local irreducible] wpA opsA stillA drawA drawS
set_option maxRecDepth 20000
set_option maxHeartbeats 40000000
theorem leafT12 {P : Prop} (h : P := by
  first
  | exact leaf
  | exact PreC.of_eq rfl
  | rfl
  | exact Bool.false_ne_true
  | exact ⟨rfl, rfl⟩
  | fail) : P := h
theorem specReadMux (s : Mux) (h : MuxB s) (who : Int) (n : Int) : CallA S 43 [.agg (muxC (.loc 0) (.loc 1) (.loc 2) (.loc 3) (.loc 4) s), .int .i64 who, .int .i64 n] ⟨muxH false (.loc 0) (.loc 1) (.loc 2) (.loc 3) (.loc 4) s [], 5⟩ (Ret1 (.agg (muxRC (.loc 5) (.loc 6) (.loc 7) (.loc 8) (.loc 9) (.loc 10) (oneR s who (readRC (s.cons.getD who.toNat con0) n)))) ⟨muxRH true (.loc 5) (.loc 6) (.loc 7) (.loc 8) (.loc 9) (.loc 10) (oneR s who (readRC (s.cons.getD who.toNat con0) n)) [], 11⟩) := by
  have hz : ConB (s.cons.getD who.toNat con0) := getD_all (d := con0) h.consB.all con0B who.toNat
  have hr : ConRB (readRC (s.cons.getD who.toNat con0) n) := readRC_B hz n
  have hcl := specReadConsole (s.cons.getD who.toNat con0) hz n
  generalize readRC (s.cons.getD who.toNat con0) n = r at *
  by_cases hw : whoF s who = 0
  by_cases hc : r.code = 0
  · rw [oneR_ok hw hc]
    have hm := (whoF_is hw).1
    have hpl := (whoF_is hw).2
    obtain ⟨⟨⟨m0, m1⟩, m2⟩, ⟨⟨m3, m4⟩, ⟨m5, m6⟩, m7, m8⟩, _⟩ := muxF_ok hm
    have hsl : (s.cons.set who.toNat r.con).length = s.cons.length := List.length_set ..
    refine .ofC hS _ _ _ Tryz.func43 ?_
    conv => whnf
    repeat' (first|refine Seal.mk ?_|(refine wS ?_;(conv=>whnf);fail_if_success show False)|((first|refine opsA_step ?_|refine drawS_go ?_|apply wL (l14Asked _ h _)|apply wL (l14Bad _));conv=>whnf)|(intro _;first|omega|conv=>whnf)|(apply And.intro<;>intro _<;>first|omega|conv=>whnf)|refine ⟨Seal.mk ?_,Seal.mk ?_⟩|((first|(apply And.intro;focus exact leafT12)|(apply Or.inl;apply And.intro;focus exact leafT12)|apply Or.inr|refine ⟨_,rfl,?_⟩|refine ⟨_,⟨rfl,rfl⟩,?_⟩|refine ⟨intE .u8,⟨rfl,fun _=>rfl⟩,?_⟩|(refine Exists.intro _ (And.intro (And.intro rfl (And.intro rfl ?_)) ?_);focus exact leafT12));conv=>whnf)|with_reducible assumption|((fail_if_success refine Exists.intro ?_ ?_);exact leafT12)|fail)
    refine Wp.see ⟨[(1, .int .i64 who), (3, .ptr (.loc 5) 10 none 0), (2, .int .i64 n), (6, .ptr (.loc 6) 13 none 0)], ⟨⟨.loc 5, false, .raw (muxC (.loc 0) (.loc 1) (.loc 2) (.loc 3) (.loc 4) s)⟩ :: ⟨.loc 6, true, .raw [.int .i64 0, .ff, .nils, .nils, .nils, .int .i64 0, .int .i64 0, .int .i64 0, .nils, .nils, .nils, .ff, .int .i64 0]⟩ :: muxH false (.loc 0) (.loc 1) (.loc 2) (.loc 3) (.loc 4) s [], 7⟩, 24, 5⟩ ?_ ?_
    · ((try refine wF ?_);repeat' (first|exact ⟨⟩|(apply And.intro;focus exact leafT12)|((conv=>whnf);first|exact ⟨⟩|(apply And.intro;focus exact leafT12))|fail))
    conv => whnf
    repeat' (first|refine Seal.mk ?_|(refine wS ?_;(conv=>whnf);fail_if_success show False)|((first|refine opsA_step ?_|refine drawS_go ?_|refine wD (id:=4) (.quick 1 (.quick 2 (.quick 4 (.quick 7 (.stable 0 (.stable 3 (.quick 5 (.stable 6 (.all (.step 8 (.all (.step 9 (.all (.step 10 .done)))))))))))))) [8, 9, 10] (by kernel_rfl) rfl ?_|apply wL (hcl)|apply wL (l14One s h who r hr hpl (by omega) hc));conv=>whnf)|(intro _;first|omega|conv=>whnf)|(apply And.intro<;>intro _<;>first|omega|conv=>whnf)|refine ⟨Seal.mk ?_,Seal.mk ?_⟩|((first|(apply And.intro;focus exact leafT12)|(apply Or.inl;apply And.intro;focus exact leafT12)|apply Or.inr|refine ⟨_,rfl,?_⟩|refine ⟨_,⟨rfl,rfl⟩,?_⟩|refine ⟨intE .u8,⟨rfl,fun _=>rfl⟩,?_⟩|(refine Exists.intro _ (And.intro (And.intro rfl (And.intro rfl ?_)) ?_);focus exact leafT12));conv=>whnf)|with_reducible assumption|((fail_if_success refine Exists.intro ?_ ?_);exact leafT12)|fail)
    all_goals (refine ⟨(),⟨⟩,?_⟩;((try refine wF ?_);repeat' (first|exact ⟨⟩|(apply And.intro;focus exact leafT12)|((conv=>whnf);first|exact ⟨⟩|(apply And.intro;focus exact leafT12))|fail)))
  · rw [oneR_n hw hc]
    have hm := (whoF_is hw).1
    have hpl := (whoF_is hw).2
    obtain ⟨⟨⟨m0, m1⟩, m2⟩, ⟨⟨m3, m4⟩, ⟨m5, m6⟩, m7, m8⟩, _⟩ := muxF_ok hm
    have hsl : (s.cons.set who.toNat r.con).length = s.cons.length := List.length_set ..
    refine .ofC hS _ _ _ Tryz.func43 ?_
    conv => whnf
    repeat' (first|refine Seal.mk ?_|(refine wS ?_;(conv=>whnf);fail_if_success show False)|((first|refine opsA_step ?_|refine drawS_go ?_|apply wL (l14Asked _ h _)|apply wL (l14Bad _));conv=>whnf)|(intro _;first|omega|conv=>whnf)|(apply And.intro<;>intro _<;>first|omega|conv=>whnf)|refine ⟨Seal.mk ?_,Seal.mk ?_⟩|((first|(apply And.intro;focus exact leafT12)|(apply Or.inl;apply And.intro;focus exact leafT12)|apply Or.inr|refine ⟨_,rfl,?_⟩|refine ⟨_,⟨rfl,rfl⟩,?_⟩|refine ⟨intE .u8,⟨rfl,fun _=>rfl⟩,?_⟩|(refine Exists.intro _ (And.intro (And.intro rfl (And.intro rfl ?_)) ?_);focus exact leafT12));conv=>whnf)|with_reducible assumption|((fail_if_success refine Exists.intro ?_ ?_);exact leafT12)|fail)
    refine Wp.see ⟨[(1, .int .i64 who), (3, .ptr (.loc 5) 10 none 0), (2, .int .i64 n), (6, .ptr (.loc 6) 13 none 0)], ⟨⟨.loc 5, false, .raw (muxC (.loc 0) (.loc 1) (.loc 2) (.loc 3) (.loc 4) s)⟩ :: ⟨.loc 6, true, .raw [.int .i64 0, .ff, .nils, .nils, .nils, .int .i64 0, .int .i64 0, .int .i64 0, .nils, .nils, .nils, .ff, .int .i64 0]⟩ :: muxH false (.loc 0) (.loc 1) (.loc 2) (.loc 3) (.loc 4) s [], 7⟩, 24, 5⟩ ?_ ?_
    · ((try refine wF ?_);repeat' (first|exact ⟨⟩|(apply And.intro;focus exact leafT12)|((conv=>whnf);first|exact ⟨⟩|(apply And.intro;focus exact leafT12))|fail))
    conv => whnf
    repeat' (first|refine Seal.mk ?_|(refine wS ?_;(conv=>whnf);fail_if_success show False)|((first|refine opsA_step ?_|refine drawS_go ?_|refine wD (id:=4) (.quick 1 (.quick 2 (.quick 4 (.quick 7 (.stable 0 (.stable 3 (.quick 5 (.stable 6 (.all (.step 8 (.all (.step 9 (.all (.step 10 .done)))))))))))))) [8, 9, 10] (by kernel_rfl) rfl ?_|apply wL (hcl)|apply wL (l14OneBad s h who r hr hpl hc));conv=>whnf)|(intro _;first|omega|conv=>whnf)|(apply And.intro<;>intro _<;>first|omega|conv=>whnf)|refine ⟨Seal.mk ?_,Seal.mk ?_⟩|((first|(apply And.intro;focus exact leafT12)|(apply Or.inl;apply And.intro;focus exact leafT12)|apply Or.inr|refine ⟨_,rfl,?_⟩|refine ⟨_,⟨rfl,rfl⟩,?_⟩|refine ⟨intE .u8,⟨rfl,fun _=>rfl⟩,?_⟩|(refine Exists.intro _ (And.intro (And.intro rfl (And.intro rfl ?_)) ?_);focus exact leafT12));conv=>whnf)|with_reducible assumption|((fail_if_success refine Exists.intro ?_ ?_);exact leafT12)|fail)
    all_goals (refine ⟨(),⟨⟩,?_⟩;((try refine wF ?_);repeat' (first|exact ⟨⟩|(apply And.intro;focus exact leafT12)|((conv=>whnf);first|exact ⟨⟩|(apply And.intro;focus exact leafT12))|fail)))
  · rw [oneR_bad hw]
    refine .ofC hS _ _ _ Tryz.func43 ?_
    conv => whnf
    repeat' (first|refine Seal.mk ?_|(refine wS ?_;(conv=>whnf);fail_if_success show False)|((first|refine opsA_step ?_|refine drawS_go ?_|apply wL (l14Asked _ h _)|apply wL (l14Bad _));conv=>whnf)|(intro _;first|omega|conv=>whnf)|(apply And.intro<;>intro _<;>first|omega|conv=>whnf)|refine ⟨Seal.mk ?_,Seal.mk ?_⟩|((first|(apply And.intro;focus exact leafT12)|(apply Or.inl;apply And.intro;focus exact leafT12)|apply Or.inr|refine ⟨_,rfl,?_⟩|refine ⟨_,⟨rfl,rfl⟩,?_⟩|refine ⟨intE .u8,⟨rfl,fun _=>rfl⟩,?_⟩|(refine Exists.intro _ (And.intro (And.intro rfl (And.intro rfl ?_)) ?_);focus exact leafT12));conv=>whnf)|with_reducible assumption|((fail_if_success refine Exists.intro ?_ ?_);exact leafT12)|fail)
    all_goals (first | (exfalso; omega) | (refine ⟨(),⟨⟩,?_⟩;((try refine wF ?_);repeat' (first|exact ⟨⟩|(apply And.intro;focus exact leafT12)|((conv=>whnf);first|exact ⟨⟩|(apply And.intro;focus exact leafT12))|fail))))
end Go.Mu
