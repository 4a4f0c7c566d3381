/- Copies: flat slices. -/
import Derived.Test.YtcimmkokkmbhpaaGreatLA
set_option linter.unusedSimpArgs false
set_option linter.unusedVariables false
set_option linter.constructorNameAsVariable false
namespace Go.Mu
open Go Go.Vm Go.RowKit Go.Proofs
attribute [local irreducible] wpA opsA stillA drawA drawS
set_option maxRecDepth 20000
set_option maxHeartbeats 4000000
theorem leafC1 {P : Prop} (h : P := by
  first
  | exact leaf
  | exact PreC.of_eq (by simp)
  | fail) : P := h
theorem cloneI (xs : List Int) (hx : xs.length ≤ 1048576) : CallA S 260 [.sl (.loc 0) 1 none xs.length] ⟨[⟨.loc 0, false, .arr (intE .i64) xs⟩], 1⟩ (Ret1 (.sl (.loc 1) 1 none xs.length) ⟨[⟨.loc 1, true, .arr (intE .i64) xs⟩], 2⟩) := by
  refine .ofC hS _ _ _ Tryz.func260 ?_
  conv => whnf
  repeat' (first|refine Seal.mk ?_|(refine wS ?_;(conv=>whnf);fail_if_success show False)|((first|refine opsA_step ?_|refine drawS_go ?_);conv=>whnf)|(intro _;first|omega|conv=>whnf)|(apply And.intro<;>intro _<;>first|omega|conv=>whnf)|refine ⟨Seal.mk ?_,Seal.mk ?_⟩|((first|refine ⟨leafC1,?_⟩|refine Or.inl ⟨leafC1,?_⟩|apply Or.inr|refine ⟨_,rfl,?_⟩|refine ⟨_,⟨rfl,rfl⟩,?_⟩|refine ⟨intE .u8,⟨rfl,fun _=>rfl⟩,?_⟩|refine ⟨_,⟨rfl,rfl,leafC1⟩,?_⟩);conv=>whnf)|with_reducible assumption|exact leafC1|fail)
  all_goals (first | (rename_i p a b; have h0 : xs = [] := List.eq_nil_of_length_eq_zero (by have := a b; omega); clear a; subst h0; (refine ⟨(),⟨⟩,?_⟩;((try refine wF ?_);repeat' (first|exact ⟨⟩|refine ⟨leafC1,?_⟩|((conv=>whnf);first|exact ⟨⟩|refine ⟨leafC1,?_⟩))))) | (refine ⟨(),⟨⟩,?_⟩;((try refine wF ?_);repeat' (first|exact ⟨⟩|refine ⟨leafC1,?_⟩|((conv=>whnf);first|exact ⟨⟩|refine ⟨leafC1,?_⟩)))))
theorem cloneB (xs : List Bool) (hx : xs.length ≤ 1048576) : CallA S 220 [.sl (.loc 0) 1 none xs.length] ⟨[⟨.loc 0, false, .arr boolE xs⟩], 1⟩ (Ret1 (.sl (.loc 1) 1 none xs.length) ⟨[⟨.loc 1, true, .arr boolE xs⟩], 2⟩) := by
  refine .ofC hS _ _ _ Tryz.func220 ?_
  conv => whnf
  repeat' (first|refine Seal.mk ?_|(refine wS ?_;(conv=>whnf);fail_if_success show False)|((first|refine opsA_step ?_|refine drawS_go ?_);conv=>whnf)|(intro _;first|omega|conv=>whnf)|(apply And.intro<;>intro _<;>first|omega|conv=>whnf)|refine ⟨Seal.mk ?_,Seal.mk ?_⟩|((first|refine ⟨leafC1,?_⟩|refine Or.inl ⟨leafC1,?_⟩|apply Or.inr|refine ⟨_,rfl,?_⟩|refine ⟨_,⟨rfl,rfl⟩,?_⟩|refine ⟨intE .u8,⟨rfl,fun _=>rfl⟩,?_⟩|refine ⟨_,⟨rfl,rfl,leafC1⟩,?_⟩);conv=>whnf)|with_reducible assumption|exact leafC1|fail)
  all_goals (first | (rename_i p a b; have h0 : xs = [] := List.eq_nil_of_length_eq_zero (by have := a b; omega); clear a; subst h0; (refine ⟨(),⟨⟩,?_⟩;((try refine wF ?_);repeat' (first|exact ⟨⟩|refine ⟨leafC1,?_⟩|((conv=>whnf);first|exact ⟨⟩|refine ⟨leafC1,?_⟩))))) | (refine ⟨(),⟨⟩,?_⟩;((try refine wF ?_);repeat' (first|exact ⟨⟩|refine ⟨leafC1,?_⟩|((conv=>whnf);first|exact ⟨⟩|refine ⟨leafC1,?_⟩)))))
theorem cloneC (xs : List (Int × Int)) (hx : xs.length ≤ 1048576) : CallA S 301 [.sl (.loc 0) 2 none xs.length] ⟨[⟨.loc 0, false, .arr pairE xs⟩], 1⟩ (Ret1 (.sl (.loc 1) 2 none xs.length) ⟨[⟨.loc 1, true, .arr pairE xs⟩], 2⟩) := by
  refine .ofC hS _ _ _ Tryz.func301 ?_
  conv => whnf
  repeat' (first|refine Seal.mk ?_|(refine wS ?_;(conv=>whnf);fail_if_success show False)|((first|refine opsA_step ?_|refine drawS_go ?_);conv=>whnf)|(intro _;first|omega|conv=>whnf)|(apply And.intro<;>intro _<;>first|omega|conv=>whnf)|refine ⟨Seal.mk ?_,Seal.mk ?_⟩|((first|refine ⟨leafC1,?_⟩|refine Or.inl ⟨leafC1,?_⟩|apply Or.inr|refine ⟨_,rfl,?_⟩|refine ⟨_,⟨rfl,rfl⟩,?_⟩|refine ⟨intE .u8,⟨rfl,fun _=>rfl⟩,?_⟩|refine ⟨_,⟨rfl,rfl,leafC1⟩,?_⟩);conv=>whnf)|with_reducible assumption|exact leafC1|fail)
  all_goals (first | (rename_i p a b; have h0 : xs = [] := List.eq_nil_of_length_eq_zero (by have := a b; omega); clear a; subst h0; (refine ⟨(),⟨⟩,?_⟩;((try refine wF ?_);repeat' (first|exact ⟨⟩|refine ⟨leafC1,?_⟩|((conv=>whnf);first|exact ⟨⟩|refine ⟨leafC1,?_⟩))))) | (refine ⟨(),⟨⟩,?_⟩;((try refine wF ?_);repeat' (first|exact ⟨⟩|refine ⟨leafC1,?_⟩|((conv=>whnf);first|exact ⟨⟩|refine ⟨leafC1,?_⟩)))))
theorem cloneU (xs : List Int) (hx : xs.length ≤ 1048576) : CallA S 269 [.sl (.loc 0) 1 none xs.length] ⟨[⟨.loc 0, false, .arr (intE .u8) xs⟩], 1⟩ (Ret1 (.sl (.loc 1) 1 none xs.length) ⟨[⟨.loc 1, true, .arr (intE .u8) xs⟩], 2⟩) := by
  refine .ofC hS _ _ _ Tryz.func269 ?_
  conv => whnf
  repeat' (first|refine Seal.mk ?_|(refine wS ?_;(conv=>whnf);fail_if_success show False)|((first|refine opsA_step ?_|refine drawS_go ?_);conv=>whnf)|(intro _;first|omega|conv=>whnf)|(apply And.intro<;>intro _<;>first|omega|conv=>whnf)|refine ⟨Seal.mk ?_,Seal.mk ?_⟩|((first|refine ⟨leafC1,?_⟩|refine Or.inl ⟨leafC1,?_⟩|apply Or.inr|refine ⟨_,rfl,?_⟩|refine ⟨_,⟨rfl,rfl⟩,?_⟩|refine ⟨intE .u8,⟨rfl,fun _=>rfl⟩,?_⟩|refine ⟨_,⟨rfl,rfl,leafC1⟩,?_⟩);conv=>whnf)|with_reducible assumption|exact leafC1|fail)
  all_goals (first | (rename_i p a b; have h0 : xs = [] := List.eq_nil_of_length_eq_zero (by have := a b; omega); clear a; subst h0; (refine ⟨(),⟨⟩,?_⟩;((try refine wF ?_);repeat' (first|exact ⟨⟩|refine ⟨leafC1,?_⟩|((conv=>whnf);first|exact ⟨⟩|refine ⟨leafC1,?_⟩))))) | (refine ⟨(),⟨⟩,?_⟩;((try refine wF ?_);repeat' (first|exact ⟨⟩|refine ⟨leafC1,?_⟩|((conv=>whnf);first|exact ⟨⟩|refine ⟨leafC1,?_⟩)))))
theorem cloneQ (xs : List Qd) (hx : xs.length ≤ 1048576) : CallA S 135 [.sl (.loc 0) 4 none xs.length] ⟨[⟨.loc 0, false, .arr quadE xs⟩], 1⟩ (Ret1 (.sl (.loc 1) 4 none xs.length) ⟨[⟨.loc 1, true, .arr quadE xs⟩], 2⟩) := by
  refine .ofC hS _ _ _ Tryz.func135 ?_
  conv => whnf
  repeat' (first|refine Seal.mk ?_|(refine wS ?_;(conv=>whnf);fail_if_success show False)|((first|refine opsA_step ?_|refine drawS_go ?_);conv=>whnf)|(intro _;first|omega|conv=>whnf)|(apply And.intro<;>intro _<;>first|omega|conv=>whnf)|refine ⟨Seal.mk ?_,Seal.mk ?_⟩|((first|refine ⟨leafC1,?_⟩|refine Or.inl ⟨leafC1,?_⟩|apply Or.inr|refine ⟨_,rfl,?_⟩|refine ⟨_,⟨rfl,rfl⟩,?_⟩|refine ⟨intE .u8,⟨rfl,fun _=>rfl⟩,?_⟩|refine ⟨_,⟨rfl,rfl,leafC1⟩,?_⟩);conv=>whnf)|with_reducible assumption|exact leafC1|fail)
  all_goals (first | (rename_i p a b; have h0 : xs = [] := List.eq_nil_of_length_eq_zero (by have := a b; omega); clear a; subst h0; (refine ⟨(),⟨⟩,?_⟩;((try refine wF ?_);repeat' (first|exact ⟨⟩|refine ⟨leafC1,?_⟩|((conv=>whnf);first|exact ⟨⟩|refine ⟨leafC1,?_⟩))))) | (refine ⟨(),⟨⟩,?_⟩;((try refine wF ?_);repeat' (first|exact ⟨⟩|refine ⟨leafC1,?_⟩|((conv=>whnf);first|exact ⟨⟩|refine ⟨leafC1,?_⟩)))))
theorem cloneS (xs : List (List Int)) (hx : xs.length ≤ 1048576) : CallA S 136 [.sl (.loc 0) 1 none xs.length] ⟨[⟨.loc 0, false, .arr strE xs⟩], 1⟩ (Ret1 (.sl (.loc 1) 1 none xs.length) ⟨[⟨.loc 1, true, .arr strE xs⟩], 2⟩) := by
  refine .ofC hS _ _ _ Tryz.func136 ?_
  conv => whnf
  repeat' (first|refine Seal.mk ?_|(refine wS ?_;(conv=>whnf);fail_if_success show False)|((first|refine opsA_step ?_|refine drawS_go ?_);conv=>whnf)|(intro _;first|omega|conv=>whnf)|(apply And.intro<;>intro _<;>first|omega|conv=>whnf)|refine ⟨Seal.mk ?_,Seal.mk ?_⟩|((first|refine ⟨leafC1,?_⟩|refine Or.inl ⟨leafC1,?_⟩|apply Or.inr|refine ⟨_,rfl,?_⟩|refine ⟨_,⟨rfl,rfl⟩,?_⟩|refine ⟨intE .u8,⟨rfl,fun _=>rfl⟩,?_⟩|refine ⟨_,⟨rfl,rfl,leafC1⟩,?_⟩);conv=>whnf)|with_reducible assumption|exact leafC1|fail)
  all_goals (first | (rename_i p a b; have h0 : xs = [] := List.eq_nil_of_length_eq_zero (by have := a b; omega); clear a; subst h0; (refine ⟨(),⟨⟩,?_⟩;((try refine wF ?_);repeat' (first|exact ⟨⟩|refine ⟨leafC1,?_⟩|((conv=>whnf);first|exact ⟨⟩|refine ⟨leafC1,?_⟩))))) | (refine ⟨(),⟨⟩,?_⟩;((try refine wF ?_);repeat' (first|exact ⟨⟩|refine ⟨leafC1,?_⟩|((conv=>whnf);first|exact ⟨⟩|refine ⟨leafC1,?_⟩)))))
theorem cloneH (xs : List (Int × Int)) (hx : xs.length ≤ 1048576) : CallA S 278 [.sl (.loc 0) 2 none xs.length] ⟨[⟨.loc 0, false, .arr pairE xs⟩], 1⟩ (Ret1 (.sl (.loc 1) 2 none xs.length) ⟨[⟨.loc 1, true, .arr pairE xs⟩], 2⟩) := by
  refine .ofC hS _ _ _ Tryz.func278 ?_
  conv => whnf
  repeat' (first|refine Seal.mk ?_|(refine wS ?_;(conv=>whnf);fail_if_success show False)|((first|refine opsA_step ?_|refine drawS_go ?_);conv=>whnf)|(intro _;first|omega|conv=>whnf)|(apply And.intro<;>intro _<;>first|omega|conv=>whnf)|refine ⟨Seal.mk ?_,Seal.mk ?_⟩|((first|refine ⟨leafC1,?_⟩|refine Or.inl ⟨leafC1,?_⟩|apply Or.inr|refine ⟨_,rfl,?_⟩|refine ⟨_,⟨rfl,rfl⟩,?_⟩|refine ⟨intE .u8,⟨rfl,fun _=>rfl⟩,?_⟩|refine ⟨_,⟨rfl,rfl,leafC1⟩,?_⟩);conv=>whnf)|with_reducible assumption|exact leafC1|fail)
  all_goals (first | (rename_i p a b; have h0 : xs = [] := List.eq_nil_of_length_eq_zero (by have := a b; omega); clear a; subst h0; (refine ⟨(),⟨⟩,?_⟩;((try refine wF ?_);repeat' (first|exact ⟨⟩|refine ⟨leafC1,?_⟩|((conv=>whnf);first|exact ⟨⟩|refine ⟨leafC1,?_⟩))))) | (refine ⟨(),⟨⟩,?_⟩;((try refine wF ?_);repeat' (first|exact ⟨⟩|refine ⟨leafC1,?_⟩|((conv=>whnf);first|exact ⟨⟩|refine ⟨leafC1,?_⟩)))))
theorem l1Copy (xs : List Int) (hx : xs.length ≤ 1048576) : CallA S 268 [.sl (.loc 0) 1 none xs.length] ⟨[⟨.loc 0, false, .arr (intE .u8) xs⟩], 1⟩ (Ret1 (.sl (.loc 1) 1 none xs.length) ⟨[⟨.loc 1, true, .arr (intE .u8) xs⟩], 2⟩) := by
  refine .ofC hS _ _ _ Tryz.func268 ?_
  conv => whnf
  repeat' (first|refine Seal.mk ?_|(refine wS ?_;(conv=>whnf);fail_if_success show False)|((first|refine opsA_step ?_|refine drawS_go ?_);conv=>whnf)|(intro _;first|omega|conv=>whnf)|(apply And.intro<;>intro _<;>first|omega|conv=>whnf)|refine ⟨Seal.mk ?_,Seal.mk ?_⟩|((first|refine ⟨leafC1,?_⟩|refine Or.inl ⟨leafC1,?_⟩|apply Or.inr|refine ⟨_,rfl,?_⟩|refine ⟨_,⟨rfl,rfl⟩,?_⟩|refine ⟨intE .u8,⟨rfl,fun _=>rfl⟩,?_⟩|refine ⟨_,⟨rfl,rfl,leafC1⟩,?_⟩);conv=>whnf)|with_reducible assumption|exact leafC1|fail)
  all_goals (refine ⟨(),⟨⟩,?_⟩;((try refine wF ?_);repeat' (first|exact ⟨⟩|refine ⟨leafC1,?_⟩|((conv=>whnf);first|exact ⟨⟩|refine ⟨leafC1,?_⟩))))
end Go.Mu
