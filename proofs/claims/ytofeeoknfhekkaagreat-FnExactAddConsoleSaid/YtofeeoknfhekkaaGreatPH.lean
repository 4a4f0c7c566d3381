/- What is wrong with a keyboard, a mux, as the program tells. -/
import Derived.Test.YtofeeoknfhekkaaGreatPG
import Derived.Test.YtofeeoknfhekkaaGreatPE
set_option linter.unusedSimpArgs false
set_option linter.unusedVariables false
set_option linter.constructorNameAsVariable false
namespace Go.Mu
open Go Go.Vm Go.RowKit Go.Proofs
attribute [local irreducible] wpA opsA stillA drawA drawS
set_option maxRecDepth 20000
set_option maxHeartbeats 4000000

theorem keyboardFault (s : Kbd) (h : KbdB s) : CallA S 95 [.agg (kbdC (.loc 0) s)] ⟨kbdH false (.loc 0) s [], 1⟩ (Ret1 (.int .i64 (kbdF s)) ⟨[], 1⟩) := by
  refine .ofC hS _ _ _ Tryz.func95 ?_
  conv => whnf
  obtain ⟨h0⟩ := h
  repeat' (first|refine Seal.mk ?_|(refine wS ?_;(conv=>whnf);fail_if_success show False)|((first|refine opsA_step ?_|refine drawS_go ?_|refine wD (id:=6) (.quick 0 (.read 1 (.all (.step 2 (.quick 3 (.quick 4 (.quick 5 (.read 6 (.all (.step 7 (.quick 8 (.quick 9 (.quick 10 (.quick 11 (.quick 12 (.quick 13 (.quick 14 (.quick 16 (.quick 18 (.quick 19 (.read 15 (.read 17 (.quick 20 (.quick 21 (.stable 22 (.quick 23 (.quick 24 (.quick 25 .done)))))))))))))))))))))))))))) [2, 7] (by kernel_rfl) rfl ?_);conv=>whnf)|(intro _;first|omega|conv=>whnf)|(apply And.intro<;>intro _<;>first|omega|conv=>whnf)|refine ⟨Seal.mk ?_,Seal.mk ?_⟩|((first|(apply And.intro;focus exact leaf)|(apply Or.inl;apply And.intro;focus exact leaf)|apply Or.inr|refine ⟨_,rfl,?_⟩|refine ⟨_,⟨rfl,rfl⟩,?_⟩|refine ⟨intE .u8,⟨rfl,fun _=>rfl⟩,?_⟩|(refine Exists.intro _ (And.intro (And.intro rfl (And.intro rfl ?_)) ?_);focus exact leaf));conv=>whnf)|with_reducible assumption|((fail_if_success refine Exists.intro ?_ ?_);exact leaf)|fail)
  · (refine ⟨(), trivial, ?_⟩; (try refine FitsT.now hS ?_); (conv => whnf); apply And.intro; (case right => (repeat' (first|exact ⟨⟩|(apply And.intro;focus exact leaf)|((conv=>whnf);first|exact ⟨⟩|(apply And.intro;focus exact leaf))|fail))))
    unfold kbdF; rw [if_neg (by omega)]
  refine .loop hS (γ := Nat) (fun i => ⟨[(1, .ptr (.loc 1) 3 none 0), (10, .sl (.loc 0) 2 none s.holds.length), (11, .int .i64 s.holds.length), (12, .int .i64 i)],
      ⟨⟨.loc 1, false, .raw (kbdC (.loc 0) s)⟩ :: kbdH false (.loc 0) s [], 2⟩, 48, 1⟩) (fun i => i ≤ s.holds.length ∧ ∀ k, k < i → holdP s.holds k) (fun i => s.holds.length - i) 0 ⟨by omega, by omega⟩ ?_ ?_
  · ((try dsimp only);((try refine wF ?_);repeat' (first|exact ⟨⟩|(apply And.intro;focus exact leaf)|((conv=>whnf);first|exact ⟨⟩|(apply And.intro;focus exact leaf))|fail)))
  · intro i hi
    obtain ⟨hi, hk⟩ := hi
    have e0 : s.holds.getD (i : Int).toNat pairE.d = s.holds.getD i pairE.d := rfl
    have e1 : s.holds.getD ((i : Int) - 1).toNat pairE.d = s.holds.getD (i - 1) pairE.d := by rw [show ((i : Int) - 1).toNat = i - 1 by omega]
    conv => whnf
    repeat' (first|refine Seal.mk ?_|(refine wS ?_;(conv=>whnf);fail_if_success show False)|((first|refine opsA_step ?_|refine drawS_go ?_|refine wD (id:=6) (.quick 0 (.read 1 (.all (.step 2 (.quick 3 (.quick 4 (.quick 5 (.read 6 (.all (.step 7 (.quick 8 (.quick 9 (.quick 10 (.quick 11 (.quick 12 (.quick 13 (.quick 14 (.quick 16 (.quick 18 (.quick 19 (.read 15 (.read 17 (.quick 20 (.quick 21 (.stable 22 (.quick 23 (.quick 24 (.quick 25 .done)))))))))))))))))))))))))))) [2, 7] (by kernel_rfl) rfl ?_|apply wL (isKey _)|apply wL (isBit _)|apply wL (inF _ _ _)|apply wL (unlessF _ _));conv=>whnf)|(intro _;first|omega|conv=>whnf)|(apply And.intro<;>intro _<;>first|omega|conv=>whnf)|refine ⟨Seal.mk ?_,Seal.mk ?_⟩|((first|(apply And.intro;focus exact leaf)|(apply Or.inl;apply And.intro;focus exact leaf)|apply Or.inr|refine ⟨_,rfl,?_⟩|refine ⟨_,⟨rfl,rfl⟩,?_⟩|refine ⟨intE .u8,⟨rfl,fun _=>rfl⟩,?_⟩|(refine Exists.intro _ (And.intro (And.intro rfl (And.intro rfl ?_)) ?_);focus exact leaf));conv=>whnf)|with_reducible assumption|((fail_if_success refine Exists.intro ?_ ?_);exact leaf)|fail)
    all_goals (simp only [e0, e1] at *)
    all_goals first
      | (refine ⟨i + 1, ⟨⟨by omega, all_next hk (by unfold holdP; omega)⟩, by omega⟩, ?_⟩; ((try dsimp only);((try refine wF ?_);repeat' (first|exact ⟨⟩|(apply And.intro;focus exact leaf)|((conv=>whnf);first|exact ⟨⟩|(apply And.intro;focus exact leaf))|fail))))
      | (have hn : ¬ ∀ k, k < s.holds.length → holdP s.holds k := fun q => by
           have q1 := q i (by omega)
           unfold holdP at q1; omega
         (refine ⟨(), trivial, ?_⟩; (try refine FitsT.now hS ?_); (conv => whnf); apply And.intro; (case right => (repeat' (first|exact ⟨⟩|(apply And.intro;focus exact leaf)|((conv=>whnf);first|exact ⟨⟩|(apply And.intro;focus exact leaf))|fail)))); unfold kbdF; rw [if_pos (by omega), if_neg fun q => hn q.1])
      | (have hp : ∀ k, k < s.holds.length → holdP s.holds k := fun k q => hk k (by omega)
         rename_i hg
         (refine ⟨(), trivial, ?_⟩; (try refine FitsT.now hS ?_); (conv => whnf); apply And.intro; (case right => (repeat' (first|exact ⟨⟩|(apply And.intro;focus exact leaf)|((conv=>whnf);first|exact ⟨⟩|(apply And.intro;focus exact leaf))|fail)))); unfold kbdF; rw [if_pos (by omega)]
         by_cases q : 0 ≤ s.accent ∧ s.accent ≤ 3
         · rw [if_pos ⟨hp, q⟩]; exact hg.1 q
         · rw [if_neg fun x => q x.2]; exact hg.2 q)
end Go.Mu
