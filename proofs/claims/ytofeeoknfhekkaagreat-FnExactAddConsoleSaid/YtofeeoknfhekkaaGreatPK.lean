/- What is wrong with a mux, as the reference tells: the whole. -/
import Derived.Test.YtofeeoknfhekkaaGreatPJ
set_option linter.unusedSimpArgs false
set_option linter.unusedVariables false
set_option linter.constructorNameAsVariable false
namespace Go.Mu
open Go Go.Vm Go.RowKit Go.Proofs
attribute [local irreducible] wpA opsA stillA drawA drawS
set_option maxRecDepth 20000
set_option maxHeartbeats 4000000

theorem l14Fault (s : Mux) (h : MuxB s) : CallA S 48 [.ptr (.loc 0) 10 none 0] ⟨⟨.loc 0, false, .raw (muxC (.loc 1) (.loc 2) (.loc 3) (.loc 4) (.loc 5) s)⟩ :: muxH false (.loc 1) (.loc 2) (.loc 3) (.loc 4) (.loc 5) s [], 6⟩ (Ret1 (.int .i64 (muxF s)) ⟨[], 6⟩) := by
  refine .ofC hS _ _ _ Tryz.func48 ?_
  conv => whnf
  obtain ⟨h0, h1, h2, h3, h4, h5, h6⟩ := h
  repeat' (first|refine Seal.mk ?_|(refine wS ?_;(conv=>whnf);fail_if_success show False)|((first|refine opsA_step ?_|refine drawS_go ?_|apply wL (l1In _ _ _));conv=>whnf)|(intro _;first|omega|conv=>whnf)|(apply And.intro<;>intro _<;>first|omega|conv=>whnf)|refine ⟨Seal.mk ?_,Seal.mk ?_⟩|((first|(apply And.intro;focus exact leaf)|(apply Or.inl;apply And.intro;focus exact leaf)|apply Or.inr|refine ⟨_,rfl,?_⟩|refine ⟨_,⟨rfl,rfl⟩,?_⟩|refine ⟨intE .u8,⟨rfl,fun _=>rfl⟩,?_⟩|(refine Exists.intro _ (And.intro (And.intro rfl (And.intro rfl ?_)) ?_);focus exact leaf));conv=>whnf)|with_reducible assumption|((fail_if_success refine Exists.intro ?_ ?_);exact leaf)|fail)
  · have e : 2 = muxF s := by unfold muxF; rw [if_pos (by omega)]
    (refine ⟨(),⟨⟩,?_⟩;((try refine wF ?_);repeat' (first|exact ⟨⟩|(apply And.intro;focus exact leaf)|((conv=>whnf);first|exact ⟨⟩|(apply And.intro;focus exact leaf))|fail)))
  · have e : 1 = muxF s := by unfold muxF; rw [if_neg (by omega), if_pos (by omega)]
    (refine ⟨(),⟨⟩,?_⟩;((try refine wF ?_);repeat' (first|exact ⟨⟩|(apply And.intro;focus exact leaf)|((conv=>whnf);first|exact ⟨⟩|(apply And.intro;focus exact leaf))|fail)))
  have hh : (1 ≤ s.cons.length ∧ s.cons.length ≤ 3) ∧ s.polite.length = s.cons.length := by omega
  refine .loop hS (γ := Nat) (fun i => ⟨[(0, .ptr (.loc 0) 10 none 0), (3, .int .i64 s.cons.length), (4, .int .i64 i)], ⟨⟨.loc 0, false, .raw (muxC (.loc 1) (.loc 2) (.loc 3) (.loc 4) (.loc 5) s)⟩ :: muxH false (.loc 1) (.loc 2) (.loc 3) (.loc 4) (.loc 5) s [], 6⟩, 90, 6⟩) (fun i => i ≤ s.cons.length ∧ ∀ k, k < i → conAt s.cons k = 0) (fun i => s.cons.length - i) 0 ⟨by omega, by omega⟩ ?_ ?_
  · ((try dsimp only);((try refine wF ?_);repeat' (first|exact ⟨⟩|(apply And.intro;focus exact leaf)|((conv=>whnf);first|exact ⟨⟩|(apply And.intro;focus exact leaf))|fail)))
  · intro i hi
    obtain ⟨hi, hk⟩ := hi
    have hb := getD_all (d := con0) h1.all con0B (i : Int).toNat
    conv => whnf
    repeat' (first|refine Seal.mk ?_|(refine wS ?_;(conv=>whnf);fail_if_success show False)|((first|refine opsA_step ?_|refine drawS_go ?_|apply wL (l13Fault (s.cons.getD (i : Int).toNat con0) hb)|apply wL (l1In _ _ _));conv=>whnf)|(intro _;first|omega|conv=>whnf)|(apply And.intro<;>intro _<;>first|omega|conv=>whnf)|refine ⟨Seal.mk ?_,Seal.mk ?_⟩|((first|(apply And.intro;focus exact leaf)|(apply Or.inl;apply And.intro;focus exact leaf)|apply Or.inr|refine ⟨_,rfl,?_⟩|refine ⟨_,⟨rfl,rfl⟩,?_⟩|refine ⟨intE .u8,⟨rfl,fun _=>rfl⟩,?_⟩|(refine Exists.intro _ (And.intro (And.intro rfl (And.intro rfl ?_)) ?_);focus exact leaf));conv=>whnf)|with_reducible assumption|((fail_if_success refine Exists.intro ?_ ?_);exact leaf)|fail)
    · have e : conF (s.cons.getD (i : Int).toNat con0) = muxF s := muxF_con hh (by omega) hk ‹_›
      (refine ⟨(),⟨⟩,?_⟩;((try refine wF ?_);repeat' (first|exact ⟨⟩|(apply And.intro;focus exact leaf)|((conv=>whnf);first|exact ⟨⟩|(apply And.intro;focus exact leaf))|fail)))
    · refine ⟨i + 1, ⟨⟨by omega, all_next hk (show conAt s.cons i = 0 from Classical.not_not.1 ‹_›)⟩, by omega⟩, ?_⟩
      ((try dsimp only);((try refine wF ?_);repeat' (first|exact ⟨⟩|(apply And.intro;focus exact leaf)|((conv=>whnf);first|exact ⟨⟩|(apply And.intro;focus exact leaf))|fail)))
    · have e : 3 = muxF s := ((muxF_rest hh fun k h => hk k (by omega)).1 (by unfold rangeM; omega)).symm
      (refine ⟨(),⟨⟩,?_⟩;((try refine wF ?_);repeat' (first|exact ⟨⟩|(apply And.intro;focus exact leaf)|((conv=>whnf);first|exact ⟨⟩|(apply And.intro;focus exact leaf))|fail)))
    · have e : 3 = muxF s := ((muxF_rest hh fun k h => hk k (by omega)).1 (by unfold rangeM; omega)).symm
      (refine ⟨(),⟨⟩,?_⟩;((try refine wF ?_);repeat' (first|exact ⟨⟩|(apply And.intro;focus exact leaf)|((conv=>whnf);first|exact ⟨⟩|(apply And.intro;focus exact leaf))|fail)))
    · have e : 3 = muxF s := ((muxF_rest hh fun k h => hk k (by omega)).1 (by unfold rangeM; omega)).symm
      (refine ⟨(),⟨⟩,?_⟩;((try refine wF ?_);repeat' (first|exact ⟨⟩|(apply And.intro;focus exact leaf)|((conv=>whnf);first|exact ⟨⟩|(apply And.intro;focus exact leaf))|fail)))
    · have hq : rangeM s := by unfold rangeM; omega
      have hr := (muxF_rest hh fun k h => hk k (by omega)).2 hq
      repeat' (first|refine Seal.mk ?_|(refine wS ?_;(conv=>whnf);fail_if_success show False)|((first|refine opsA_step ?_|refine drawS_go ?_|apply wL (l14Waits s (by omega) (by omega) (by omega) (by omega))|apply wL (l8Fault _ _)|apply wL (l9Texts _ _)|apply wL (l9Fault _ _));conv=>whnf)|(intro _;first|omega|conv=>whnf)|(apply And.intro<;>intro _<;>first|omega|conv=>whnf)|refine ⟨Seal.mk ?_,Seal.mk ?_⟩|((first|(apply And.intro;focus exact leaf)|(apply Or.inl;apply And.intro;focus exact leaf)|apply Or.inr|refine ⟨_,rfl,?_⟩|refine ⟨_,⟨rfl,rfl⟩,?_⟩|refine ⟨intE .u8,⟨rfl,fun _=>rfl⟩,?_⟩|(refine Exists.intro _ (And.intro (And.intro rfl (And.intro rfl ?_)) ?_);focus exact leaf));conv=>whnf)|with_reducible assumption|((fail_if_success refine Exists.intro ?_ ?_);exact leaf)|fail)
      all_goals (refine ⟨(), trivial, ?_⟩; (try refine FitsT.now hS ?_); (conv => whnf); apply And.intro; (case right => (repeat' (first|exact ⟨⟩|(apply And.intro;focus exact leaf)|((conv=>whnf);first|exact ⟨⟩|(apply And.intro;focus exact leaf))|fail))))
      all_goals (by_cases q : waitsP s <;> simp_all [firstNZ])
end Go.Mu
