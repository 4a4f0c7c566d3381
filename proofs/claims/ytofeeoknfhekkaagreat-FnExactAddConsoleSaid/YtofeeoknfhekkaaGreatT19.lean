/- A mux with one more console, as the reference makes it. -/
import Derived.Test.YtofeeoknfhekkaaGreatTB
set_option linter.unusedSimpArgs false
set_option linter.unusedVariables false
set_option linter.constructorNameAsVariable false
namespace Go.Mu
open Go Go.Vm Go.RowKit Go.Proofs
attribute [local irreducible] wpA opsA stillA drawA drawS
set_option maxRecDepth 20000
set_option maxHeartbeats 40000000
theorem leafT19 {P : Prop} (h : P := by
  first
  | (rw [bytesCon]; omega)
  | exact leaf
  | exact PreC.of_eq rfl
  | rfl
  | exact Bool.false_ne_true
  | exact ⟨rfl, rfl⟩
  | exact PreC.of_eq (by simp)
  | fail) : P := h
theorem specAddConsole (s : Mux) (h : MuxB s) (r w : Int) : CallA S 41 [.agg (muxC (.loc 0) (.loc 1) (.loc 2) (.loc 3) (.loc 4) s), .int .i64 r, .int .i64 w] ⟨muxH false (.loc 0) (.loc 1) (.loc 2) (.loc 3) (.loc 4) s [], 5⟩ (Ret1 (.agg (muxRC (.loc 5) (.loc 6) (.loc 7) (.loc 8) (.loc 9) (.loc 10) (addR s r w))) ⟨muxRH true (.loc 5) (.loc 6) (.loc 7) (.loc 8) (.loc 9) (.loc 10) (addR s r w) [], 11⟩) := by
  have hl0 := h.cons
  by_cases h1 : muxF s = 0
  by_cases h2 : (1 ≤ r ∧ r ≤ 6) ∧ 2 ≤ w ∧ w ≤ 12
  by_cases h3 : s.cons.length < 3
  · rw [addR_ok h1 h2 h3]
    have h2' := h2
    obtain ⟨r, rfl⟩ := Int.eq_ofNat_of_zero_le (show 0 ≤ r by omega)
    obtain ⟨w, rfl⟩ := Int.eq_ofNat_of_zero_le (show 0 ≤ w by omega)
    have hr : 1 ≤ r ∧ r ≤ 6 := by omega
    have hw : 2 ≤ w ∧ w ≤ 12 := by omega
    simp only [Int.toNat_natCast]
    have hm := h1
    obtain ⟨⟨⟨m0, m1⟩, m2⟩, ⟨⟨m3, m4⟩, ⟨m5, m6⟩, m7, m8⟩, _⟩ := muxF_ok hm
    have hnc := l13New r w hr hw
    have hzB : ConB (newC r w) := newC_B hr.2 hw.2
    generalize newC r w = z at *
    have hca : s.cons ++ [z] = s.cons ++ [z] := rfl
    have hcl : (s.cons ++ [z]).length = s.cons.length + 1 := by simp
    have hpl : (s.polite ++ [false]).length = s.polite.length + 1 := by simp
    have e1 : (List.take ((1 : Nat) : Int).toNat [false]).length = 1 := rfl
    refine .ofC hS _ _ _ Tryz.func41 ?_
    conv => whnf
    repeat' (first|refine Seal.mk ?_|(refine wS ?_;(conv=>whnf);fail_if_success show False)|((first|refine opsA_step ?_|refine drawS_go ?_|apply wL (l14Fault _ h)|apply wL (l3Size _ _)|apply wL (l14Bad _)|apply wL (l14Copy _ h));conv=>whnf)|(intro _;first|omega|conv=>whnf)|(apply And.intro<;>intro _<;>first|omega|conv=>whnf)|refine ⟨Seal.mk ?_,Seal.mk ?_⟩|((first|(apply And.intro;focus exact leafT19)|(apply Or.inl;apply And.intro;focus exact leafT19)|apply Or.inr|refine ⟨_,rfl,?_⟩|refine ⟨_,⟨rfl,rfl⟩,?_⟩|refine ⟨intE .u8,⟨rfl,fun _=>rfl⟩,?_⟩|(refine Exists.intro _ (And.intro (And.intro rfl (And.intro rfl ?_)) ?_);focus exact leafT19));conv=>whnf)|with_reducible assumption|((fail_if_success refine Exists.intro ?_ ?_);exact leafT19)|fail)
    (apply Wp.prune [1, 2, 6, 8, 43]; (conv => whnf); apply Wp.meet; (focus ((repeat' (first|refine Seal.mk ?_|(refine wS ?_;(conv=>whnf);fail_if_success show False)|((first|refine opsA_step ?_|refine drawS_go ?_|refine wD (id:=9) (.quick 0 (.quick 2 (.quick 3 (.all (.fork (.step 1 (.all (.step 4 (.all (.step 5 (.all (.step 6 (.quick 7 (.all (.step 8 .done)))))))))) (.step 4 (.all (.fork (.step 1 (.all (.step 5 (.all (.step 6 (.quick 7 (.all (.step 8 .done)))))))) (.step 5 (.all (.step 1 (.all (.step 6 (.quick 7 (.all (.step 8 .done)))))))))))))))) [1, 4, 5, 6, 8] (by kernel_rfl) rfl ?_|apply wL (hnc));conv=>whnf)|(intro _;first|omega|conv=>whnf)|(apply And.intro<;>intro _<;>first|omega|conv=>whnf)|refine ⟨Seal.mk ?_,Seal.mk ?_⟩|((first|(apply And.intro;focus exact leafT19)|(apply Or.inl;apply And.intro;focus exact leafT19)|apply Or.inr|refine ⟨_,rfl,?_⟩|refine ⟨_,⟨rfl,rfl⟩,?_⟩|refine ⟨intE .u8,⟨rfl,fun _=>rfl⟩,?_⟩|(refine Exists.intro _ (And.intro (And.intro rfl (And.intro rfl ?_)) ?_);focus exact leafT19));conv=>whnf)|with_reducible assumption|((fail_if_success refine Exists.intro ?_ ?_);exact leafT19)|fail)); (focus ((conv => whnf); (first | (apply FitsT.turn; (focus (apply Turn.close hS (nb := 21) (x := z) (xs' := s.cons ++ [z]); (conv => whnf); refine And.intro ⟨rfl, ?_⟩ ?_; (focus (first | exact Or.inr ⟨by omega, by omega, by first | (with_reducible assumption) | (exact Eq.symm (by with_reducible assumption)) | rfl⟩ | exact Or.inl ⟨by first | rfl | omega, by first | (with_reducible assumption) | rfl⟩)); (focus ((conv=>whnf);repeat' (first|exact rfl|(apply And.intro;focus exact leafT19)|((conv=>whnf);first|exact rfl|(apply And.intro;focus exact leafT19))|fail))))))); apply FitsT.keep [6, 8, 43]; (conv => whnf); (try exact rfl))); (all_goals ((try (conv => whnf)); (first | (apply FitsT.turn; (focus (apply Turn.close hS (nb := 21) (x := z) (xs' := s.cons ++ [z]); (conv => whnf); refine And.intro ⟨rfl, ?_⟩ ?_; (focus (first | exact Or.inr ⟨by omega, by omega, by first | (with_reducible assumption) | (exact Eq.symm (by with_reducible assumption)) | rfl⟩ | exact Or.inl ⟨by first | rfl | omega, by first | (with_reducible assumption) | rfl⟩)); (focus ((conv=>whnf);repeat' (first|exact rfl|(apply And.intro;focus exact leafT19)|((conv=>whnf);first|exact rfl|(apply And.intro;focus exact leafT19))|fail))))))); ((try refine wF ?_);repeat' (first|exact ⟨⟩|(apply And.intro;focus exact leafT19)|((conv=>whnf);first|exact ⟨⟩|(apply And.intro;focus exact leafT19))|fail)))))); (conv => whnf))
    repeat' (first|refine Seal.mk ?_|(refine wS ?_;(conv=>whnf);fail_if_success show False)|((first|refine opsA_step ?_|refine drawS_go ?_);conv=>whnf)|(intro _;first|omega|conv=>whnf)|(apply And.intro<;>intro _<;>first|omega|conv=>whnf)|refine ⟨Seal.mk ?_,Seal.mk ?_⟩|((first|(apply And.intro;focus exact leafT19)|(apply Or.inl;apply And.intro;focus exact leafT19)|apply Or.inr|refine ⟨_,rfl,?_⟩|refine ⟨_,⟨rfl,rfl⟩,?_⟩|refine ⟨intE .u8,⟨rfl,fun _=>rfl⟩,?_⟩|(refine Exists.intro _ (And.intro (And.intro rfl (And.intro rfl ?_)) ?_);focus exact leafT19));conv=>whnf)|with_reducible assumption|((fail_if_success refine Exists.intro ?_ ?_);exact leafT19)|fail)
    (refine ⟨(),⟨⟩,?_⟩;((try refine wF ?_);repeat' (first|exact ⟨⟩|(apply And.intro;focus exact leafT19)|((conv=>whnf);first|exact ⟨⟩|(apply And.intro;focus exact leafT19))|fail)))
  · rw [addR_n h1 h2 h3]
    refine .ofC hS _ _ _ Tryz.func41 ?_
    conv => whnf
    repeat' (first|refine Seal.mk ?_|(refine wS ?_;(conv=>whnf);fail_if_success show False)|((first|refine opsA_step ?_|refine drawS_go ?_|apply wL (l14Fault _ h)|apply wL (l3Size _ _)|apply wL (l14Bad _)|apply wL (l14Copy _ h));conv=>whnf)|(intro _;first|omega|conv=>whnf)|(apply And.intro<;>intro _<;>first|omega|conv=>whnf)|refine ⟨Seal.mk ?_,Seal.mk ?_⟩|((first|(apply And.intro;focus exact leafT19)|(apply Or.inl;apply And.intro;focus exact leafT19)|apply Or.inr|refine ⟨_,rfl,?_⟩|refine ⟨_,⟨rfl,rfl⟩,?_⟩|refine ⟨intE .u8,⟨rfl,fun _=>rfl⟩,?_⟩|(refine Exists.intro _ (And.intro (And.intro rfl (And.intro rfl ?_)) ?_);focus exact leafT19));conv=>whnf)|with_reducible assumption|((fail_if_success refine Exists.intro ?_ ?_);exact leafT19)|fail)
    all_goals (first | (exfalso; omega) | (refine ⟨(),⟨⟩,?_⟩;((try refine wF ?_);repeat' (first|exact ⟨⟩|(apply And.intro;focus exact leafT19)|((conv=>whnf);first|exact ⟨⟩|(apply And.intro;focus exact leafT19))|fail))))
  · rw [addR_z h1 h2]
    refine .ofC hS _ _ _ Tryz.func41 ?_
    conv => whnf
    repeat' (first|refine Seal.mk ?_|(refine wS ?_;(conv=>whnf);fail_if_success show False)|((first|refine opsA_step ?_|refine drawS_go ?_|apply wL (l14Fault _ h)|apply wL (l3Size _ _)|apply wL (l14Bad _)|apply wL (l14Copy _ h));conv=>whnf)|(intro _;first|omega|conv=>whnf)|(apply And.intro<;>intro _<;>first|omega|conv=>whnf)|refine ⟨Seal.mk ?_,Seal.mk ?_⟩|((first|(apply And.intro;focus exact leafT19)|(apply Or.inl;apply And.intro;focus exact leafT19)|apply Or.inr|refine ⟨_,rfl,?_⟩|refine ⟨_,⟨rfl,rfl⟩,?_⟩|refine ⟨intE .u8,⟨rfl,fun _=>rfl⟩,?_⟩|(refine Exists.intro _ (And.intro (And.intro rfl (And.intro rfl ?_)) ?_);focus exact leafT19));conv=>whnf)|with_reducible assumption|((fail_if_success refine Exists.intro ?_ ?_);exact leafT19)|fail)
    all_goals (first | (exfalso; omega) | (refine ⟨(),⟨⟩,?_⟩;((try refine wF ?_);repeat' (first|exact ⟨⟩|(apply And.intro;focus exact leafT19)|((conv=>whnf);first|exact ⟨⟩|(apply And.intro;focus exact leafT19))|fail))))
  · rw [addR_m h1]
    refine .ofC hS _ _ _ Tryz.func41 ?_
    conv => whnf
    repeat' (first|refine Seal.mk ?_|(refine wS ?_;(conv=>whnf);fail_if_success show False)|((first|refine opsA_step ?_|refine drawS_go ?_|apply wL (l14Fault _ h)|apply wL (l3Size _ _)|apply wL (l14Bad _)|apply wL (l14Copy _ h));conv=>whnf)|(intro _;first|omega|conv=>whnf)|(apply And.intro<;>intro _<;>first|omega|conv=>whnf)|refine ⟨Seal.mk ?_,Seal.mk ?_⟩|((first|(apply And.intro;focus exact leafT19)|(apply Or.inl;apply And.intro;focus exact leafT19)|apply Or.inr|refine ⟨_,rfl,?_⟩|refine ⟨_,⟨rfl,rfl⟩,?_⟩|refine ⟨intE .u8,⟨rfl,fun _=>rfl⟩,?_⟩|(refine Exists.intro _ (And.intro (And.intro rfl (And.intro rfl ?_)) ?_);focus exact leafT19));conv=>whnf)|with_reducible assumption|((fail_if_success refine Exists.intro ?_ ?_);exact leafT19)|fail)
    all_goals (first | (exfalso; omega) | (refine ⟨(),⟨⟩,?_⟩;((try refine wF ?_);repeat' (first|exact ⟨⟩|(apply And.intro;focus exact leafT19)|((conv=>whnf);first|exact ⟨⟩|(apply And.intro;focus exact leafT19))|fail))))
end Go.Mu
