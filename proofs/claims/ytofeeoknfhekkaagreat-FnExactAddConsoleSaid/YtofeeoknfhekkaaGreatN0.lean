/- New screens and consoles. -/
import Derived.Test.YtofeeoknfhekkaaGreatRR
set_option linter.unusedSimpArgs false
set_option linter.unusedVariables false
set_option linter.constructorNameAsVariable false
namespace Go.Mu
open Go Go.Vm Go.RowKit Go.Proofs
attribute [local irreducible] wpA opsA stillA drawA drawS
set_option maxRecDepth 20000
set_option maxHeartbeats 40000000
theorem leafN0 {P : Prop} (h : P := by
  first
  | exact leaf
  | exact PreC.of_eq rfl
  | rfl
  | exact Bool.false_ne_true
  | exact ⟨rfl, rfl⟩
  | fail) : P := h
@[reducible] noncomputable def newS (r w : Nat) : Scr := ⟨⟨r, w, List.replicate ((r : Int) * w).toNat (bl 0), []⟩, 0, 0, false, 0, 0, (r : Int) - 1, false, true, false, tabRun 0 w, 0, 0, 0, [1, 1], 0, 0⟩
@[reducible] noncomputable def newC (r w : Nat) : Con := ⟨⟨⟨0, 0, 0⟩, ⟨0, 0, false, []⟩, newS r w⟩, ⟨511, 127, 21, 23, 4, 3, 22⟩, ⟨[], [], false, 0⟩⟩
theorem newS_B {r w : Nat} (hr : r ≤ 6) (hw : w ≤ 12) : ScrB (newS r w) := by
  have h : r * w ≤ 6 * 12 := Nat.mul_le_mul hr hw
  have hi : (r : Int) * w = ((r * w : Nat) : Int) := (Int.natCast_mul _ _).symm
  refine ⟨⟨?_, by simp⟩, ?_, by simp⟩
  · simp only [List.length_replicate]; omega
  · simp only [tabRun_len]; omega
theorem newC_B {r w : Nat} (hr : r ≤ 6) (hw : w ≤ 12) : ConB (newC r w) := ⟨⟨⟨by simp⟩, newS_B hr hw⟩, ⟨by simp, by simp [sumC], by simp⟩⟩
theorem newGrid (r w : Nat) (hrw : r * w ≤ 72) : CallA S 202 [.int .i64 r, .int .i64 w] ⟨[], 0⟩ (Ret1 (.agg [.int .i64 r, .int .i64 w, .sl (.loc 0) 2 none ((r : Int) * w).toNat, .nils]) ⟨[⟨.loc 0, true, .arr pairE (List.replicate ((r : Int) * w).toNat (bl 0))⟩], 1⟩) := by
  have hi : (r : Int) * w = ((r * w : Nat) : Int) := (Int.natCast_mul _ _).symm
  refine .ofC hS _ _ _ Tryz.func202 ?_
  conv => whnf
  repeat' (first|refine Seal.mk ?_|(refine wS ?_;(conv=>whnf);fail_if_success show False)|((first|refine opsA_step ?_|refine drawS_go ?_|apply wL (blanks ((r : Int) * w) 0 (by omega) (by omega)));conv=>whnf)|(intro _;first|omega|conv=>whnf)|(apply And.intro<;>intro _<;>first|omega|conv=>whnf)|refine ⟨Seal.mk ?_,Seal.mk ?_⟩|((first|(apply And.intro;focus exact leafN0)|(apply Or.inl;apply And.intro;focus exact leafN0)|apply Or.inr|refine ⟨_,rfl,?_⟩|refine ⟨_,⟨rfl,rfl⟩,?_⟩|refine ⟨intE .u8,⟨rfl,fun _=>rfl⟩,?_⟩|(refine Exists.intro _ (And.intro (And.intro rfl (And.intro rfl ?_)) ?_);focus exact leafN0));conv=>whnf)|with_reducible assumption|((fail_if_success refine Exists.intro ?_ ?_);exact leafN0)|fail)
  (refine ⟨(),⟨⟩,?_⟩;((try refine wF ?_);repeat' (first|exact ⟨⟩|(apply And.intro;focus exact leafN0)|((conv=>whnf);first|exact ⟨⟩|(apply And.intro;focus exact leafN0))|fail)))
theorem usual  : CallA S 154 [.int .i64 511] ⟨[], 0⟩ (Ret1 (.agg (wyC ⟨511, 127, 21, 23, 4, 3, 22⟩)) ⟨[], 0⟩) := by
  refine .ofC hS _ _ _ Tryz.func154 ?_
  conv => whnf
  repeat' (first|refine Seal.mk ?_|(refine wS ?_;(conv=>whnf);fail_if_success show False)|((first|refine opsA_step ?_|refine drawS_go ?_);conv=>whnf)|(intro _;first|omega|conv=>whnf)|(apply And.intro<;>intro _<;>first|omega|conv=>whnf)|refine ⟨Seal.mk ?_,Seal.mk ?_⟩|((first|(apply And.intro;focus exact leafN0)|(apply Or.inl;apply And.intro;focus exact leafN0)|apply Or.inr|refine ⟨_,rfl,?_⟩|refine ⟨_,⟨rfl,rfl⟩,?_⟩|refine ⟨intE .u8,⟨rfl,fun _=>rfl⟩,?_⟩|(refine Exists.intro _ (And.intro (And.intro rfl (And.intro rfl ?_)) ?_);focus exact leafN0));conv=>whnf)|with_reducible assumption|((fail_if_success refine Exists.intro ?_ ?_);exact leafN0)|fail)
  (refine ⟨(),⟨⟩,?_⟩;((try refine wF ?_);repeat' (first|exact ⟨⟩|(apply And.intro;focus exact leafN0)|((conv=>whnf);first|exact ⟨⟩|(apply And.intro;focus exact leafN0))|fail)))
theorem l10Usual  : CallA S 152 [.int .i64 511] ⟨[], 0⟩ (Ret1 (.agg (wyC ⟨511, 127, 21, 23, 4, 3, 22⟩)) ⟨[], 0⟩) := by
  refine .ofC hS _ _ _ Tryz.func152 ?_
  conv => whnf
  repeat' (first|refine Seal.mk ?_|(refine wS ?_;(conv=>whnf);fail_if_success show False)|((first|refine opsA_step ?_|refine drawS_go ?_);conv=>whnf)|(intro _;first|omega|conv=>whnf)|(apply And.intro<;>intro _<;>first|omega|conv=>whnf)|refine ⟨Seal.mk ?_,Seal.mk ?_⟩|((first|(apply And.intro;focus exact leafN0)|(apply Or.inl;apply And.intro;focus exact leafN0)|apply Or.inr|refine ⟨_,rfl,?_⟩|refine ⟨_,⟨rfl,rfl⟩,?_⟩|refine ⟨intE .u8,⟨rfl,fun _=>rfl⟩,?_⟩|(refine Exists.intro _ (And.intro (And.intro rfl (And.intro rfl ?_)) ?_);focus exact leafN0));conv=>whnf)|with_reducible assumption|((fail_if_success refine Exists.intro ?_ ?_);exact leafN0)|fail)
  (refine ⟨(),⟨⟩,?_⟩;((try refine wF ?_);repeat' (first|exact ⟨⟩|(apply And.intro;focus exact leafN0)|((conv=>whnf);first|exact ⟨⟩|(apply And.intro;focus exact leafN0))|fail)))
theorem newScreen (r w : Nat) (hr : 1 ≤ r ∧ r ≤ 6) (hw : 2 ≤ w ∧ w ≤ 12) : CallA S 153 [.int .i64 r, .int .i64 w] ⟨[], 0⟩ (Ret1 (.agg (scrC (.loc 0) (.loc 1) (.loc 2) (.loc 3) (newS r w))) ⟨scrH true (.loc 0) (.loc 1) (.loc 2) (.loc 3) (newS r w) [], 4⟩) := by
  have hrw : r * w ≤ 6 * 12 := Nat.mul_le_mul hr.2 hw.2
  have hi : (r : Int) * w = ((r * w : Nat) : Int) := (Int.natCast_mul _ _).symm
  refine .ofC hS _ _ _ Tryz.func153 ?_
  conv => whnf
  repeat' (first|refine Seal.mk ?_|(refine wS ?_;(conv=>whnf);fail_if_success show False)|((first|refine opsA_step ?_|refine drawS_go ?_|apply wL (newGrid r w (by omega)));conv=>whnf)|(intro _;first|omega|conv=>whnf)|(apply And.intro<;>intro _<;>first|omega|conv=>whnf)|refine ⟨Seal.mk ?_,Seal.mk ?_⟩|((first|(apply And.intro;focus exact leafN0)|(apply Or.inl;apply And.intro;focus exact leafN0)|apply Or.inr|refine ⟨_,rfl,?_⟩|refine ⟨_,⟨rfl,rfl⟩,?_⟩|refine ⟨intE .u8,⟨rfl,fun _=>rfl⟩,?_⟩|(refine Exists.intro _ (And.intro (And.intro rfl (And.intro rfl ?_)) ?_);focus exact leafN0));conv=>whnf)|with_reducible assumption|((fail_if_success refine Exists.intro ?_ ?_);exact leafN0)|fail)
  refine .loop hS (γ := Nat) (fun i => ⟨[(4, .ptr (.loc 0) 20 none 0), (5, .ptr (.loc 3) 20 none 0), (14, .int .i64 w), (15, .int .i64 i)], ⟨[⟨.loc 4, true, .arr boolE (tabRun 0 i)⟩, ⟨.loc 1, true, .arr pairE (List.replicate ((r : Int) * w).toNat (bl 0))⟩, ⟨.loc 2, true, .arr (intE .i64) [1, 1]⟩, ⟨.loc 3, true, .raw [.int .i64 r, .int .i64 w, .sl (.loc 1) 2 none ((r : Int) * w).toNat, .nils, .int .i64 0, .int .i64 0, .ff, .int .i64 0, .int .i64 0, .int .i64 ((r : Int) - 1), .ff, .tt, .ff, .sl (.loc 4) 1 none i, .int .i64 0, .int .i64 0, .int .i64 0, .sl (.loc 2) 1 none 2, .int .i64 0, .int .i64 0]⟩, ⟨.loc 0, true, .raw [.int .i64 0, .int .i64 0, .nils, .nils, .int .i64 0, .int .i64 0, .ff, .int .i64 0, .int .i64 0, .int .i64 0, .ff, .ff, .ff, .nils, .int .i64 0, .int .i64 0, .int .i64 0, .nils, .int .i64 0, .int .i64 0]⟩], 5⟩, 27, 0⟩) (fun i => i ≤ w) (fun i => w - i) 0 (by omega) ?_ ?_
  · have h0 : (tabRun 0 0).length = 0 := rfl
    ((try dsimp only);((try refine wF ?_);repeat' (first|exact ⟨⟩|(apply And.intro;focus exact leafN0)|((conv=>whnf);first|exact ⟨⟩|(apply And.intro;focus exact leafN0))|fail)))
  · intro i hx
    have hl := tabRun_len 0 i
    conv => whnf
    by_cases hgo : i < w
    · have hn : tabRun 0 (i + 1) = tabRun 0 i ++ [tabAt (i : Int)] := by rw [tabRun_succ, Nat.zero_add]
      have hnl := tabRun_len 0 (i + 1)
      have e1 : (List.take ((1 : Nat) : Int).toNat [pb (0 < (i : Int) ∧ (i : Int) % 8 = 0)]).length = 1 := rfl
      have hn2 : tabRun 0 i ++ List.take ((1 : Nat) : Int).toNat [pb (0 < (i : Int) ∧ (i : Int) % 8 = 0)] = tabRun 0 (i + 1) := hn.symm
      repeat' (first|refine Seal.mk ?_|(refine wS ?_;(conv=>whnf);fail_if_success show False)|((first|refine opsA_step ?_|refine drawS_go ?_|refine wD (id:=5) (.quick 0 (.quick 2 (.all (.fork (.step 1 (.all (.step 3 (.all (.step 4 (.all (.step 5 (.quick 6 (.all (.step 7 .done)))))))))) (.step 3 (.all (.fork (.step 1 (.all (.step 4 (.all (.step 5 (.quick 6 (.all (.step 7 .done)))))))) (.step 4 (.all (.step 1 (.all (.step 5 (.quick 6 (.all (.step 7 .done))))))))))))))) [1, 3, 4, 5, 7] (by kernel_rfl) rfl ?_|apply wL (isTab _));conv=>whnf)|(intro _;first|omega|conv=>whnf)|(apply And.intro<;>intro _<;>first|omega|conv=>whnf)|refine ⟨Seal.mk ?_,Seal.mk ?_⟩|((first|(apply And.intro;focus exact leafN0)|(apply Or.inl;apply And.intro;focus exact leafN0)|apply Or.inr|refine ⟨_,rfl,?_⟩|refine ⟨_,⟨rfl,rfl⟩,?_⟩|refine ⟨intE .u8,⟨rfl,fun _=>rfl⟩,?_⟩|(refine Exists.intro _ (And.intro (And.intro rfl (And.intro rfl ?_)) ?_);focus exact leafN0));conv=>whnf)|with_reducible assumption|((fail_if_success refine Exists.intro ?_ ?_);exact leafN0)|fail)
      all_goals
        refine ⟨i + 1, ⟨by omega, by omega⟩, ?_⟩
        ((try dsimp only);((try refine wF ?_);repeat' (first|exact ⟨⟩|(apply And.intro;focus exact leafN0)|((conv=>whnf);first|exact ⟨⟩|(apply And.intro;focus exact leafN0))|fail)))
    · have hi : i = w := by omega
      subst hi
      repeat' (first|refine Seal.mk ?_|(refine wS ?_;(conv=>whnf);fail_if_success show False)|((first|refine opsA_step ?_|refine drawS_go ?_);conv=>whnf)|(intro _;first|omega|conv=>whnf)|(apply And.intro<;>intro _<;>first|omega|conv=>whnf)|refine ⟨Seal.mk ?_,Seal.mk ?_⟩|((first|(apply And.intro;focus exact leafN0)|(apply Or.inl;apply And.intro;focus exact leafN0)|apply Or.inr|refine ⟨_,rfl,?_⟩|refine ⟨_,⟨rfl,rfl⟩,?_⟩|refine ⟨intE .u8,⟨rfl,fun _=>rfl⟩,?_⟩|(refine Exists.intro _ (And.intro (And.intro rfl (And.intro rfl ?_)) ?_);focus exact leafN0));conv=>whnf)|with_reducible assumption|((fail_if_success refine Exists.intro ?_ ?_);exact leafN0)|fail)
      (refine ⟨(),⟨⟩,?_⟩;((try refine wF ?_);repeat' (first|exact ⟨⟩|(apply And.intro;focus exact leafN0)|((conv=>whnf);first|exact ⟨⟩|(apply And.intro;focus exact leafN0))|fail)))
theorem l5New (r w : Nat) (hr : 1 ≤ r ∧ r ≤ 6) (hw : 2 ≤ w ∧ w ≤ 12) : CallA S 151 [.int .i64 r, .int .i64 w] ⟨[], 0⟩ (Ret1 (.agg (scrC (.loc 0) (.loc 1) (.loc 2) (.loc 3) (newS r w))) ⟨scrH true (.loc 0) (.loc 1) (.loc 2) (.loc 3) (newS r w) [], 4⟩) := by
  have hrw : r * w ≤ 6 * 12 := Nat.mul_le_mul hr.2 hw.2
  have hi : (r : Int) * w = ((r * w : Nat) : Int) := (Int.natCast_mul _ _).symm
  have hl := tabRun_len 0 w
  refine .ofC hS _ _ _ Tryz.func151 ?_
  conv => whnf
  repeat' (first|refine Seal.mk ?_|(refine wS ?_;(conv=>whnf);fail_if_success show False)|((first|refine opsA_step ?_|refine drawS_go ?_|apply wL (l3New r w (by omega))|apply wL (l5Tabs 0 w hw.2 (by omega)));conv=>whnf)|(intro _;first|omega|conv=>whnf)|(apply And.intro<;>intro _<;>first|omega|conv=>whnf)|refine ⟨Seal.mk ?_,Seal.mk ?_⟩|((first|(apply And.intro;focus exact leafN0)|(apply Or.inl;apply And.intro;focus exact leafN0)|apply Or.inr|refine ⟨_,rfl,?_⟩|refine ⟨_,⟨rfl,rfl⟩,?_⟩|refine ⟨intE .u8,⟨rfl,fun _=>rfl⟩,?_⟩|(refine Exists.intro _ (And.intro (And.intro rfl (And.intro rfl ?_)) ?_);focus exact leafN0));conv=>whnf)|with_reducible assumption|((fail_if_success refine Exists.intro ?_ ?_);exact leafN0)|fail)
  (refine ⟨(),⟨⟩,?_⟩;((try refine wF ?_);repeat' (first|exact ⟨⟩|(apply And.intro;focus exact leafN0)|((conv=>whnf);first|exact ⟨⟩|(apply And.intro;focus exact leafN0))|fail)))
theorem newConsole (r w : Nat) (hr : 1 ≤ r ∧ r ≤ 6) (hw : 2 ≤ w ∧ w ≤ 12) : CallA S 99 [.int .i64 r, .int .i64 w] ⟨[], 0⟩ (Ret1 (.agg (conC (.loc 0) (.loc 1) (.loc 2) (.loc 3) (.loc 4) (.loc 5) (.loc 6) (newC r w))) ⟨conH true (.loc 0) (.loc 1) (.loc 2) (.loc 3) (.loc 4) (.loc 5) (.loc 6) (newC r w) [], 7⟩) := by
  refine .ofC hS _ _ _ Tryz.func99 ?_
  conv => whnf
  repeat' (first|refine Seal.mk ?_|(refine wS ?_;(conv=>whnf);fail_if_success show False)|((first|refine opsA_step ?_|refine drawS_go ?_|apply wL (newScreen r w hr hw)|apply wL (usual));conv=>whnf)|(intro _;first|omega|conv=>whnf)|(apply And.intro<;>intro _<;>first|omega|conv=>whnf)|refine ⟨Seal.mk ?_,Seal.mk ?_⟩|((first|(apply And.intro;focus exact leafN0)|(apply Or.inl;apply And.intro;focus exact leafN0)|apply Or.inr|refine ⟨_,rfl,?_⟩|refine ⟨_,⟨rfl,rfl⟩,?_⟩|refine ⟨intE .u8,⟨rfl,fun _=>rfl⟩,?_⟩|(refine Exists.intro _ (And.intro (And.intro rfl (And.intro rfl ?_)) ?_);focus exact leafN0));conv=>whnf)|with_reducible assumption|((fail_if_success refine Exists.intro ?_ ?_);exact leafN0)|fail)
  (refine ⟨(),⟨⟩,?_⟩;((try refine wF ?_);repeat' (first|exact ⟨⟩|(apply And.intro;focus exact leafN0)|((conv=>whnf);first|exact ⟨⟩|(apply And.intro;focus exact leafN0))|fail)))
theorem l13New (r w : Nat) (hr : 1 ≤ r ∧ r ≤ 6) (hw : 2 ≤ w ∧ w ≤ 12) : CallA S 97 [.int .i64 r, .int .i64 w] ⟨[], 0⟩ (Ret1 (.agg (conC (.loc 0) (.loc 1) (.loc 2) (.loc 3) (.loc 4) (.loc 5) (.loc 6) (newC r w))) ⟨conH true (.loc 0) (.loc 1) (.loc 2) (.loc 3) (.loc 4) (.loc 5) (.loc 6) (newC r w) [], 7⟩) := by
  refine .ofC hS _ _ _ Tryz.func97 ?_
  conv => whnf
  repeat' (first|refine Seal.mk ?_|(refine wS ?_;(conv=>whnf);fail_if_success show False)|((first|refine opsA_step ?_|refine drawS_go ?_|apply wL (l5New r w hr hw)|apply wL (l10Usual));conv=>whnf)|(intro _;first|omega|conv=>whnf)|(apply And.intro<;>intro _<;>first|omega|conv=>whnf)|refine ⟨Seal.mk ?_,Seal.mk ?_⟩|((first|(apply And.intro;focus exact leafN0)|(apply Or.inl;apply And.intro;focus exact leafN0)|apply Or.inr|refine ⟨_,rfl,?_⟩|refine ⟨_,⟨rfl,rfl⟩,?_⟩|refine ⟨intE .u8,⟨rfl,fun _=>rfl⟩,?_⟩|(refine Exists.intro _ (And.intro (And.intro rfl (And.intro rfl ?_)) ?_);focus exact leafN0));conv=>whnf)|with_reducible assumption|((fail_if_success refine Exists.intro ?_ ?_);exact leafN0)|fail)
  (refine ⟨(),⟨⟩,?_⟩;((try refine wF ?_);repeat' (first|exact ⟨⟩|(apply And.intro;focus exact leafN0)|((conv=>whnf);first|exact ⟨⟩|(apply And.intro;focus exact leafN0))|fail)))
end Go.Mu
