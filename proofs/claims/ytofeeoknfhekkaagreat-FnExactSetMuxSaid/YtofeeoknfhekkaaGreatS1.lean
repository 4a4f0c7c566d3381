/- Another way for a console. -/
import Derived.Test.YtofeeoknfhekkaaGreatCD
import Derived.Test.YtofeeoknfhekkaaGreatLH
import Derived.Test.YtofeeoknfhekkaaGreatPF
import Derived.Test.YtofeeoknfhekkaaGreatLI
import Derived.Test.YtofeeoknfhekkaaGreatVmI
set_option linter.unusedSimpArgs false
set_option linter.unusedVariables false
set_option linter.constructorNameAsVariable false
namespace Go.Mu
open Go Go.Vm Go.RowKit Go.Proofs
attribute [local irreducible] wpA opsA stillA drawA drawS
set_option maxRecDepth 20000
set_option maxHeartbeats 40000000
theorem leafS1 {P : Prop} (h : P := by
  first
  | exact leaf
  | exact PreC.of_eq rfl
  | rfl
  | exact Bool.false_ne_true
  | exact ⟨rfl, rfl⟩
  | fail) : P := h
def errC (k : Int) : ConR := ⟨k, false, [], con0⟩
open Classical in
noncomputable def setR (s : Con) (w : Wy) : ConR := if conF s = 0 then (if wayF w = 0 then ⟨0, false, [], { s with way := w }⟩ else errC (wayF w)) else errC (conF s)
theorem setR_ok {s : Con} {w : Wy} (hf : conF s = 0) (hw : wayF w = 0) : setR s w = ⟨0, false, [], { s with way := w }⟩ := by unfold setR; rw [if_pos hf, if_pos hw]
theorem setR_way {s : Con} {w : Wy} (hf : conF s = 0) (hw : ¬ wayF w = 0) : setR s w = ⟨wayF w, false, [], con0⟩ := by unfold setR; rw [if_pos hf, if_neg hw]; rfl
theorem setR_bad {s : Con} {w : Wy} (hf : ¬ conF s = 0) : setR s w = ⟨conF s, false, [], con0⟩ := by unfold setR; rw [if_neg hf]; rfl
theorem setR_B {s : Con} (h : ConB s) (w : Wy) : ConRB (setR s w) := by
  unfold setR
  split
  · split
    · exact ⟨by simp, ⟨h.vt, h.lin⟩⟩
    · exact ⟨by simp [errC], con0B⟩
  · exact ⟨by simp [errC], con0B⟩
theorem implSetConsole (s : Con) (h : ConB s) (w : Wy) : CallA S 86 [.agg (conC (.loc 0) (.loc 1) (.loc 2) (.loc 3) (.loc 4) (.loc 5) (.loc 6) s), .agg (wyC w)] ⟨conH false (.loc 0) (.loc 1) (.loc 2) (.loc 3) (.loc 4) (.loc 5) (.loc 6) s [], 7⟩ (Ret1 (.agg (conRC (.loc 7) (.loc 8) (.loc 9) (.loc 10) (.loc 11) (.loc 12) (.loc 13) (.loc 14) (setR s w))) ⟨conRH true (.loc 7) (.loc 8) (.loc 9) (.loc 10) (.loc 11) (.loc 12) (.loc 13) (.loc 14) (setR s w) [], 15⟩) := by
  by_cases hf : conF s = 0
  by_cases hw : wayF w = 0
  · rw [setR_ok hf hw]
    have e : firstNZ [conF s, wayF w] = 0 := by simp [firstNZ, *]
    refine .ofC hS _ _ _ Tryz.func86 ?_
    conv => whnf
    repeat' (first|refine Seal.mk ?_|(refine wS ?_;(conv=>whnf);fail_if_success show False)|((first|refine opsA_step ?_|refine drawS_go ?_|refine wD (id:=1) (.all (.fork (.step 0 (.all (.fork (.step 1 (.all (.step 2 (.all (.step 3 (.all (.step 4 (.all (.step 5 (.quick 6 .done)))))))))) (.step 2 (.all (.step 1 (.all (.step 3 (.all (.step 4 (.all (.step 5 (.quick 6 .done))))))))))))) (.step 2 (.all (.step 0 (.all (.step 1 (.all (.step 3 (.all (.step 4 (.all (.step 5 (.quick 6 .done)))))))))))))) [0, 1, 2, 3, 4, 5] (by kernel_rfl) rfl ?_|apply wL (conFault _ h)|apply wL (wayFault _)|apply wL (first [_, _] (Nat.le_of_ble_eq_true rfl))|apply wL (cloneCon _ h));conv=>whnf)|(intro _;first|omega|conv=>whnf)|(apply And.intro<;>intro _<;>first|omega|conv=>whnf)|refine ⟨Seal.mk ?_,Seal.mk ?_⟩|((first|(apply And.intro;focus exact leafS1)|(apply Or.inl;apply And.intro;focus exact leafS1)|apply Or.inr|refine ⟨_,rfl,?_⟩|refine ⟨_,⟨rfl,rfl⟩,?_⟩|refine ⟨intE .u8,⟨rfl,fun _=>rfl⟩,?_⟩|(refine Exists.intro _ (And.intro (And.intro rfl (And.intro rfl ?_)) ?_);focus exact leafS1));conv=>whnf)|with_reducible assumption|((fail_if_success refine Exists.intro ?_ ?_);exact leafS1)|fail)
    all_goals (refine ⟨(),⟨⟩,?_⟩;((try refine wF ?_);repeat' (first|exact ⟨⟩|(apply And.intro;focus exact leafS1)|((conv=>whnf);first|exact ⟨⟩|(apply And.intro;focus exact leafS1))|fail)))
  · rw [setR_way hf hw]
    have e : firstNZ [conF s, wayF w] = wayF w := by simp [firstNZ, *]
    refine .ofC hS _ _ _ Tryz.func86 ?_
    conv => whnf
    repeat' (first|refine Seal.mk ?_|(refine wS ?_;(conv=>whnf);fail_if_success show False)|((first|refine opsA_step ?_|refine drawS_go ?_|refine wD (id:=1) (.all (.fork (.step 0 (.all (.fork (.step 1 (.all (.step 2 (.all (.step 3 (.all (.step 4 (.all (.step 5 (.quick 6 .done)))))))))) (.step 2 (.all (.step 1 (.all (.step 3 (.all (.step 4 (.all (.step 5 (.quick 6 .done))))))))))))) (.step 2 (.all (.step 0 (.all (.step 1 (.all (.step 3 (.all (.step 4 (.all (.step 5 (.quick 6 .done)))))))))))))) [0, 1, 2, 3, 4, 5] (by kernel_rfl) rfl ?_|apply wL (conFault _ h)|apply wL (wayFault _)|apply wL (first [_, _] (Nat.le_of_ble_eq_true rfl))|apply wL (cloneCon _ h));conv=>whnf)|(intro _;first|omega|conv=>whnf)|(apply And.intro<;>intro _<;>first|omega|conv=>whnf)|refine ⟨Seal.mk ?_,Seal.mk ?_⟩|((first|(apply And.intro;focus exact leafS1)|(apply Or.inl;apply And.intro;focus exact leafS1)|apply Or.inr|refine ⟨_,rfl,?_⟩|refine ⟨_,⟨rfl,rfl⟩,?_⟩|refine ⟨intE .u8,⟨rfl,fun _=>rfl⟩,?_⟩|(refine Exists.intro _ (And.intro (And.intro rfl (And.intro rfl ?_)) ?_);focus exact leafS1));conv=>whnf)|with_reducible assumption|((fail_if_success refine Exists.intro ?_ ?_);exact leafS1)|fail)
    all_goals (refine ⟨(),⟨⟩,?_⟩;((try refine wF ?_);repeat' (first|exact ⟨⟩|(apply And.intro;focus exact leafS1)|((conv=>whnf);first|exact ⟨⟩|(apply And.intro;focus exact leafS1))|fail)))
  · rw [setR_bad hf]
    have e : firstNZ [conF s, wayF w] = conF s := by simp [firstNZ, *]
    refine .ofC hS _ _ _ Tryz.func86 ?_
    conv => whnf
    repeat' (first|refine Seal.mk ?_|(refine wS ?_;(conv=>whnf);fail_if_success show False)|((first|refine opsA_step ?_|refine drawS_go ?_|refine wD (id:=1) (.all (.fork (.step 0 (.all (.fork (.step 1 (.all (.step 2 (.all (.step 3 (.all (.step 4 (.all (.step 5 (.quick 6 .done)))))))))) (.step 2 (.all (.step 1 (.all (.step 3 (.all (.step 4 (.all (.step 5 (.quick 6 .done))))))))))))) (.step 2 (.all (.step 0 (.all (.step 1 (.all (.step 3 (.all (.step 4 (.all (.step 5 (.quick 6 .done)))))))))))))) [0, 1, 2, 3, 4, 5] (by kernel_rfl) rfl ?_|apply wL (conFault _ h)|apply wL (wayFault _)|apply wL (first [_, _] (Nat.le_of_ble_eq_true rfl))|apply wL (cloneCon _ h));conv=>whnf)|(intro _;first|omega|conv=>whnf)|(apply And.intro<;>intro _<;>first|omega|conv=>whnf)|refine ⟨Seal.mk ?_,Seal.mk ?_⟩|((first|(apply And.intro;focus exact leafS1)|(apply Or.inl;apply And.intro;focus exact leafS1)|apply Or.inr|refine ⟨_,rfl,?_⟩|refine ⟨_,⟨rfl,rfl⟩,?_⟩|refine ⟨intE .u8,⟨rfl,fun _=>rfl⟩,?_⟩|(refine Exists.intro _ (And.intro (And.intro rfl (And.intro rfl ?_)) ?_);focus exact leafS1));conv=>whnf)|with_reducible assumption|((fail_if_success refine Exists.intro ?_ ?_);exact leafS1)|fail)
    all_goals (refine ⟨(),⟨⟩,?_⟩;((try refine wF ?_);repeat' (first|exact ⟨⟩|(apply And.intro;focus exact leafS1)|((conv=>whnf);first|exact ⟨⟩|(apply And.intro;focus exact leafS1))|fail)))
theorem specSetConsole (s : Con) (h : ConB s) (w : Wy) : CallA S 83 [.agg (conC (.loc 0) (.loc 1) (.loc 2) (.loc 3) (.loc 4) (.loc 5) (.loc 6) s), .agg (wyC w)] ⟨conH false (.loc 0) (.loc 1) (.loc 2) (.loc 3) (.loc 4) (.loc 5) (.loc 6) s [], 7⟩ (Ret1 (.agg (conRC (.loc 7) (.loc 8) (.loc 9) (.loc 10) (.loc 11) (.loc 12) (.loc 13) (.loc 14) (setR s w))) ⟨conRH true (.loc 7) (.loc 8) (.loc 9) (.loc 10) (.loc 11) (.loc 12) (.loc 13) (.loc 14) (setR s w) [], 15⟩) := by
  by_cases hf : conF s = 0
  by_cases hw : wayF w = 0
  · rw [setR_ok hf hw]
    refine .ofC hS _ _ _ Tryz.func83 ?_
    conv => whnf
    repeat' (first|refine Seal.mk ?_|(refine wS ?_;(conv=>whnf);fail_if_success show False)|((first|refine opsA_step ?_|refine drawS_go ?_|apply wL (l13Fault _ h)|apply wL (l10Fault _)|apply wL (l13Bad _)|apply wL (l13Copy _ h));conv=>whnf)|(intro _;first|omega|conv=>whnf)|(apply And.intro<;>intro _<;>first|omega|conv=>whnf)|refine ⟨Seal.mk ?_,Seal.mk ?_⟩|((first|(apply And.intro;focus exact leafS1)|(apply Or.inl;apply And.intro;focus exact leafS1)|apply Or.inr|refine ⟨_,rfl,?_⟩|refine ⟨_,⟨rfl,rfl⟩,?_⟩|refine ⟨intE .u8,⟨rfl,fun _=>rfl⟩,?_⟩|(refine Exists.intro _ (And.intro (And.intro rfl (And.intro rfl ?_)) ?_);focus exact leafS1));conv=>whnf)|with_reducible assumption|((fail_if_success refine Exists.intro ?_ ?_);exact leafS1)|fail)
    all_goals (refine ⟨(),⟨⟩,?_⟩;((try refine wF ?_);repeat' (first|exact ⟨⟩|(apply And.intro;focus exact leafS1)|((conv=>whnf);first|exact ⟨⟩|(apply And.intro;focus exact leafS1))|fail)))
  · rw [setR_way hf hw]
    refine .ofC hS _ _ _ Tryz.func83 ?_
    conv => whnf
    repeat' (first|refine Seal.mk ?_|(refine wS ?_;(conv=>whnf);fail_if_success show False)|((first|refine opsA_step ?_|refine drawS_go ?_|apply wL (l13Fault _ h)|apply wL (l10Fault _)|apply wL (l13Bad _)|apply wL (l13Copy _ h));conv=>whnf)|(intro _;first|omega|conv=>whnf)|(apply And.intro<;>intro _<;>first|omega|conv=>whnf)|refine ⟨Seal.mk ?_,Seal.mk ?_⟩|((first|(apply And.intro;focus exact leafS1)|(apply Or.inl;apply And.intro;focus exact leafS1)|apply Or.inr|refine ⟨_,rfl,?_⟩|refine ⟨_,⟨rfl,rfl⟩,?_⟩|refine ⟨intE .u8,⟨rfl,fun _=>rfl⟩,?_⟩|(refine Exists.intro _ (And.intro (And.intro rfl (And.intro rfl ?_)) ?_);focus exact leafS1));conv=>whnf)|with_reducible assumption|((fail_if_success refine Exists.intro ?_ ?_);exact leafS1)|fail)
    all_goals (refine ⟨(),⟨⟩,?_⟩;((try refine wF ?_);repeat' (first|exact ⟨⟩|(apply And.intro;focus exact leafS1)|((conv=>whnf);first|exact ⟨⟩|(apply And.intro;focus exact leafS1))|fail)))
  · rw [setR_bad hf]
    refine .ofC hS _ _ _ Tryz.func83 ?_
    conv => whnf
    repeat' (first|refine Seal.mk ?_|(refine wS ?_;(conv=>whnf);fail_if_success show False)|((first|refine opsA_step ?_|refine drawS_go ?_|apply wL (l13Fault _ h)|apply wL (l10Fault _)|apply wL (l13Bad _)|apply wL (l13Copy _ h));conv=>whnf)|(intro _;first|omega|conv=>whnf)|(apply And.intro<;>intro _<;>first|omega|conv=>whnf)|refine ⟨Seal.mk ?_,Seal.mk ?_⟩|((first|(apply And.intro;focus exact leafS1)|(apply Or.inl;apply And.intro;focus exact leafS1)|apply Or.inr|refine ⟨_,rfl,?_⟩|refine ⟨_,⟨rfl,rfl⟩,?_⟩|refine ⟨intE .u8,⟨rfl,fun _=>rfl⟩,?_⟩|(refine Exists.intro _ (And.intro (And.intro rfl (And.intro rfl ?_)) ?_);focus exact leafS1));conv=>whnf)|with_reducible assumption|((fail_if_success refine Exists.intro ?_ ?_);exact leafS1)|fail)
    all_goals (refine ⟨(),⟨⟩,?_⟩;((try refine wF ?_);repeat' (first|exact ⟨⟩|(apply And.intro;focus exact leafS1)|((conv=>whnf);first|exact ⟨⟩|(apply And.intro;focus exact leafS1))|fail)))
end Go.Mu
