/- One console of a mux: Read. -/
import Derived.Test.YtofeeoknfhekkaaGreatTA
import Derived.Test.YtofeeoknfhekkaaGreatC5
import Derived.Test.YtofeeoknfhekkaaGreatS2
set_option linter.unusedSimpArgs false
set_option linter.unusedVariables false
set_option linter.constructorNameAsVariable false
namespace Go.Mu
open Go Go.Vm Go.RowKit Go.Proofs
attribute [local irreducible] wpA opsA stillA drawA drawS
set_option maxRecDepth 20000
set_option maxHeartbeats 40000000
theorem leafT11 {P : Prop} (h : P := by
  first
  | exact leaf
  | exact PreC.of_eq rfl
  | rfl
  | exact Bool.false_ne_true
  | exact ⟨rfl, rfl⟩
  | fail) : P := h
theorem cloRead (s : Con) (h : ConB s) (n : Int) : CallA S 101 [.agg (conC (.loc 0) (.loc 1) (.loc 2) (.loc 3) (.loc 4) (.loc 5) (.loc 6) s), .ptr (.loc 7) 1 none 0] ⟨conH false (.loc 0) (.loc 1) (.loc 2) (.loc 3) (.loc 4) (.loc 5) (.loc 6) s [⟨.loc 7, false, .raw [.int .i64 n]⟩], 8⟩ (Ret1 (.agg (conRC (.loc 8) (.loc 9) (.loc 10) (.loc 11) (.loc 12) (.loc 13) (.loc 14) (.loc 15) (readRC s n))) ⟨conRH true (.loc 8) (.loc 9) (.loc 10) (.loc 11) (.loc 12) (.loc 13) (.loc 14) (.loc 15) (readRC s n) [], 16⟩) := by
  refine .ofC hS _ _ _ Tryz.func101 ?_
  conv => whnf
  repeat' (first|refine Seal.mk ?_|(refine wS ?_;(conv=>whnf);fail_if_success show False)|((first|refine opsA_step ?_|refine drawS_go ?_|apply wL (implReadConsole _ h _));conv=>whnf)|(intro _;first|omega|conv=>whnf)|(apply And.intro<;>intro _<;>first|omega|conv=>whnf)|refine ⟨Seal.mk ?_,Seal.mk ?_⟩|((first|(apply And.intro;focus exact leafT11)|(apply Or.inl;apply And.intro;focus exact leafT11)|apply Or.inr|refine ⟨_,rfl,?_⟩|refine ⟨_,⟨rfl,rfl⟩,?_⟩|refine ⟨intE .u8,⟨rfl,fun _=>rfl⟩,?_⟩|(refine Exists.intro _ (And.intro (And.intro rfl (And.intro rfl ?_)) ?_);focus exact leafT11));conv=>whnf)|with_reducible assumption|((fail_if_success refine Exists.intro ?_ ?_);exact leafT11)|fail)
  all_goals (refine ⟨(),⟨⟩,?_⟩;((try refine wF ?_);repeat' (first|exact ⟨⟩|(apply And.intro;focus exact leafT11)|((conv=>whnf);first|exact ⟨⟩|(apply And.intro;focus exact leafT11))|fail)))
theorem ofOneRead (s : Mux) (h : MuxB s) (who : Int) (n : Int) : CallA S 84 [.agg (muxC (.loc 0) (.loc 1) (.loc 2) (.loc 3) (.loc 4) s), .int .i64 who, .fn 101 [.ptr (.loc 5) 1 none 0]] ⟨muxH false (.loc 0) (.loc 1) (.loc 2) (.loc 3) (.loc 4) s [⟨.loc 5, false, .raw [.int .i64 n]⟩], 6⟩ (Ret1 (.agg (muxRC (.loc 6) (.loc 7) (.loc 8) (.loc 9) (.loc 10) (.loc 11) (oneR s who (readRC (s.cons.getD who.toNat con0) n)))) ⟨muxRH true (.loc 6) (.loc 7) (.loc 8) (.loc 9) (.loc 10) (.loc 11) (oneR s who (readRC (s.cons.getD who.toNat con0) n)) [], 12⟩) := by
  have hz : ConB (s.cons.getD who.toNat con0) := getD_all (d := con0) h.consB.all con0B who.toNat
  have hr : ConRB (readRC (s.cons.getD who.toNat con0) n) := readRC_B hz n
  have hcl := cloRead (s.cons.getD who.toNat con0) hz n
  generalize readRC (s.cons.getD who.toNat con0) n = r at *
  by_cases hw : whoF s who = 0
  by_cases hc : r.code = 0
  · rw [oneR_ok hw hc]
    have hm := (whoF_is hw).1
    have hpl := (whoF_is hw).2
    obtain ⟨⟨⟨m0, m1⟩, m2⟩, ⟨⟨m3, m4⟩, ⟨m5, m6⟩, m7, m8⟩, _⟩ := muxF_ok hm
    have hset : (s.cons.set who.toNat r.con) = s.cons.set who.toNat r.con := rfl
    have hsl : (s.cons.set who.toNat r.con).length = s.cons.length := List.length_set ..
    refine .ofC hS _ _ _ Tryz.func84 ?_
    conv => whnf
    repeat' (first|refine Seal.mk ?_|(refine wS ?_;(conv=>whnf);fail_if_success show False)|((first|refine opsA_step ?_|refine drawS_go ?_|apply wL (whoCode _ h _)|apply wL (hcl)|apply wL (cloneMux _ h));conv=>whnf)|(apply Wp.turn;(focus (apply Turn.open hS (nb := 17) (i0 := (who : Int));(conv=>whnf);refine And.intro ⟨by omega,by omega⟩ ?_;(focus ((conv=>whnf);repeat' (first|exact rfl|(apply And.intro;focus exact leafT11)|((conv=>whnf);first|exact rfl|(apply And.intro;focus exact leafT11))|fail)))));(conv=>whnf))|(intro _;first|omega|conv=>whnf)|(apply And.intro<;>intro _<;>first|omega|conv=>whnf)|refine ⟨Seal.mk ?_,Seal.mk ?_⟩|((first|(apply And.intro;focus exact leafT11)|(apply Or.inl;apply And.intro;focus exact leafT11)|apply Or.inr|refine ⟨_,rfl,?_⟩|refine ⟨_,⟨rfl,rfl⟩,?_⟩|refine ⟨intE .u8,⟨rfl,fun _=>rfl⟩,?_⟩|(refine Exists.intro _ (And.intro (And.intro rfl (And.intro rfl ?_)) ?_);focus exact leafT11));conv=>whnf)|with_reducible assumption|((fail_if_success refine Exists.intro ?_ ?_);exact leafT11)|fail)
    refine ⟨(), ⟨⟩, ?_⟩
    apply FitsT.turn; (focus (apply Turn.close hS (nb := 17) (x := r.con) (xs' := (s.cons.set who.toNat r.con)); (conv => whnf); refine And.intro ⟨rfl, ?_⟩ ?_; (focus (first | exact Or.inr ⟨by omega, by omega, by first | (with_reducible assumption) | (exact Eq.symm (by with_reducible assumption)) | rfl⟩ | exact Or.inl ⟨by first | rfl | omega, by first | (with_reducible assumption) | rfl⟩)); (focus ((conv=>whnf);repeat' (first|exact rfl|(apply And.intro;focus exact leafT11)|((conv=>whnf);first|exact rfl|(apply And.intro;focus exact leafT11))|fail)))))
    ((try refine wF ?_);repeat' (first|exact ⟨⟩|(apply And.intro;focus exact leafT11)|((conv=>whnf);first|exact ⟨⟩|(apply And.intro;focus exact leafT11))|fail))
  · rw [oneR_n hw hc]
    have hm := (whoF_is hw).1
    have hpl := (whoF_is hw).2
    obtain ⟨⟨⟨m0, m1⟩, m2⟩, ⟨⟨m3, m4⟩, ⟨m5, m6⟩, m7, m8⟩, _⟩ := muxF_ok hm
    refine .ofC hS _ _ _ Tryz.func84 ?_
    conv => whnf
    repeat' (first|refine Seal.mk ?_|(refine wS ?_;(conv=>whnf);fail_if_success show False)|((first|refine opsA_step ?_|refine drawS_go ?_|apply wL (whoCode _ h _)|apply wL (hcl)|apply wL (cloneMux _ h));conv=>whnf)|(intro _;first|omega|conv=>whnf)|(apply And.intro<;>intro _<;>first|omega|conv=>whnf)|refine ⟨Seal.mk ?_,Seal.mk ?_⟩|((first|(apply And.intro;focus exact leafT11)|(apply Or.inl;apply And.intro;focus exact leafT11)|apply Or.inr|refine ⟨_,rfl,?_⟩|refine ⟨_,⟨rfl,rfl⟩,?_⟩|refine ⟨intE .u8,⟨rfl,fun _=>rfl⟩,?_⟩|(refine Exists.intro _ (And.intro (And.intro rfl (And.intro rfl ?_)) ?_);focus exact leafT11));conv=>whnf)|with_reducible assumption|((fail_if_success refine Exists.intro ?_ ?_);exact leafT11)|fail)
    all_goals (first | (exfalso; omega) | (refine ⟨(),⟨⟩,?_⟩;((try refine wF ?_);repeat' (first|exact ⟨⟩|(apply And.intro;focus exact leafT11)|((conv=>whnf);first|exact ⟨⟩|(apply And.intro;focus exact leafT11))|fail))))
  · rw [oneR_bad hw]
    refine .ofC hS _ _ _ Tryz.func84 ?_
    conv => whnf
    repeat' (first|refine Seal.mk ?_|(refine wS ?_;(conv=>whnf);fail_if_success show False)|((first|refine opsA_step ?_|refine drawS_go ?_|apply wL (whoCode _ h _)|apply wL (hcl)|apply wL (cloneMux _ h));conv=>whnf)|(intro _;first|omega|conv=>whnf)|(apply And.intro<;>intro _<;>first|omega|conv=>whnf)|refine ⟨Seal.mk ?_,Seal.mk ?_⟩|((first|(apply And.intro;focus exact leafT11)|(apply Or.inl;apply And.intro;focus exact leafT11)|apply Or.inr|refine ⟨_,rfl,?_⟩|refine ⟨_,⟨rfl,rfl⟩,?_⟩|refine ⟨intE .u8,⟨rfl,fun _=>rfl⟩,?_⟩|(refine Exists.intro _ (And.intro (And.intro rfl (And.intro rfl ?_)) ?_);focus exact leafT11));conv=>whnf)|with_reducible assumption|((fail_if_success refine Exists.intro ?_ ?_);exact leafT11)|fail)
    all_goals (first | (exfalso; omega) | (refine ⟨(),⟨⟩,?_⟩;((try refine wF ?_);repeat' (first|exact ⟨⟩|(apply And.intro;focus exact leafT11)|((conv=>whnf);first|exact ⟨⟩|(apply And.intro;focus exact leafT11))|fail))))
theorem implReadMux (s : Mux) (h : MuxB s) (who : Int) (n : Int) : CallA S 44 [.agg (muxC (.loc 0) (.loc 1) (.loc 2) (.loc 3) (.loc 4) s), .int .i64 who, .int .i64 n] ⟨muxH false (.loc 0) (.loc 1) (.loc 2) (.loc 3) (.loc 4) s [], 5⟩ (Ret1 (.agg (muxRC (.loc 5) (.loc 6) (.loc 7) (.loc 8) (.loc 9) (.loc 10) (oneR s who (readRC (s.cons.getD who.toNat con0) n)))) ⟨muxRH true (.loc 5) (.loc 6) (.loc 7) (.loc 8) (.loc 9) (.loc 10) (oneR s who (readRC (s.cons.getD who.toNat con0) n)) [], 11⟩) := by
  refine .ofC hS _ _ _ Tryz.func44 ?_
  conv => whnf
  repeat' (first|refine Seal.mk ?_|(refine wS ?_;(conv=>whnf);fail_if_success show False)|((first|refine opsA_step ?_|refine drawS_go ?_|apply wL (ofOneRead _ h _ _));conv=>whnf)|(intro _;first|omega|conv=>whnf)|(apply And.intro<;>intro _<;>first|omega|conv=>whnf)|refine ⟨Seal.mk ?_,Seal.mk ?_⟩|((first|(apply And.intro;focus exact leafT11)|(apply Or.inl;apply And.intro;focus exact leafT11)|apply Or.inr|refine ⟨_,rfl,?_⟩|refine ⟨_,⟨rfl,rfl⟩,?_⟩|refine ⟨intE .u8,⟨rfl,fun _=>rfl⟩,?_⟩|(refine Exists.intro _ (And.intro (And.intro rfl (And.intro rfl ?_)) ?_);focus exact leafT11));conv=>whnf)|with_reducible assumption|((fail_if_success refine Exists.intro ?_ ?_);exact leafT11)|fail)
  all_goals (refine ⟨(),⟨⟩,?_⟩;((try refine wF ?_);repeat' (first|exact ⟨⟩|(apply And.intro;focus exact leafT11)|((conv=>whnf);first|exact ⟨⟩|(apply And.intro;focus exact leafT11))|fail)))
end Go.Mu
