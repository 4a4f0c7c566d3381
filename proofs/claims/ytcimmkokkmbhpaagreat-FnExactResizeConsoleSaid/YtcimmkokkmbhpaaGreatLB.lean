/- The law's own functions: copies of flat slices. -/
import Derived.Test.YtcimmkokkmbhpaaGreatLA
set_option linter.unusedSimpArgs false
set_option linter.unusedVariables false
set_option linter.constructorNameAsVariable false
namespace Go.Mu
open Go Go.Vm Go.RowKit Go.Proofs
attribute [local irreducible] wpA opsA stillA drawA drawS
set_option maxRecDepth 20000
set_option maxHeartbeats 4000000
theorem toSym (a b : Int) : CallA S 219 [.agg [.int .i64 a, .int .i64 b]] ⟨[], 0⟩ (Ret1 (.agg [.int .i64 a, .int .i64 b]) ⟨[], 0⟩) := by
  refine .ofC hS _ _ _ Tryz.func219 ?_
  conv => whnf
  repeat' (first|refine Seal.mk ?_|(refine wS ?_;(conv=>whnf);fail_if_success show False)|((first|refine opsA_step ?_|refine drawS_go ?_);conv=>whnf)|(intro _;first|omega|conv=>whnf)|(apply And.intro<;>intro _<;>first|omega|conv=>whnf)|refine ⟨Seal.mk ?_,Seal.mk ?_⟩|((first|refine ⟨leaf,?_⟩|refine Or.inl ⟨leaf,?_⟩|apply Or.inr|refine ⟨_,rfl,?_⟩|refine ⟨_,⟨rfl,rfl⟩,?_⟩|refine ⟨intE .u8,⟨rfl,fun _=>rfl⟩,?_⟩|refine ⟨_,⟨rfl,rfl,leaf⟩,?_⟩);conv=>whnf)|with_reducible assumption|exact leaf|fail)
  (refine ⟨(),⟨⟩,?_⟩;((try refine wF ?_);repeat' (first|exact ⟨⟩|refine ⟨leaf,?_⟩|((conv=>whnf);first|exact ⟨⟩|refine ⟨leaf,?_⟩))))
theorem toInt64S (xs : List Int) (hx : xs.length ≤ 1048576) : CallA S 180 [.sl (.loc 0) 1 none xs.length] ⟨[⟨.loc 0, false, .arr (intE .i64) xs⟩], 1⟩ (Ret1 (.sl (.loc 1) 1 none xs.length) ⟨[⟨.loc 1, true, .arr (intE .i64) xs⟩], 2⟩) := by
  refine .ofC hS _ _ _ Tryz.func180 ?_
  conv => whnf
  repeat' (first|refine Seal.mk ?_|(refine wS ?_;(conv=>whnf);fail_if_success show False)|((first|refine opsA_step ?_|refine drawS_go ?_);conv=>whnf)|(intro _;first|omega|conv=>whnf)|(apply And.intro<;>intro _<;>first|omega|conv=>whnf)|refine ⟨Seal.mk ?_,Seal.mk ?_⟩|((first|refine ⟨leaf,?_⟩|refine Or.inl ⟨leaf,?_⟩|apply Or.inr|refine ⟨_,rfl,?_⟩|refine ⟨_,⟨rfl,rfl⟩,?_⟩|refine ⟨intE .u8,⟨rfl,fun _=>rfl⟩,?_⟩|refine ⟨_,⟨rfl,rfl,leaf⟩,?_⟩);conv=>whnf)|with_reducible assumption|exact leaf|fail)
  refine .loop hS (γ := Nat) (fun i => ⟨[(0, .sl (.loc 0) 1 none xs.length), (3, .sl (.loc 1) 1 none xs.length), (4, .int .i64 i)],
    ⟨[⟨.loc 1, true, .arr (intE .i64) (xs.take i ++ List.replicate (xs.length - i) (intE .i64).d)⟩, ⟨.loc 0, false, .arr (intE .i64) xs⟩], 2⟩, 22, 1⟩) (fun i => i ≤ xs.length) (fun i => xs.length - i) 0 (by omega) ?_ ?_
  · ((try dsimp only);((try refine wF ?_);repeat' (first|exact ⟨⟩|refine ⟨leaf,?_⟩|((conv=>whnf);first|exact ⟨⟩|refine ⟨leaf,?_⟩))))
  · intro i hi
    have hl : (xs.take i ++ List.replicate (xs.length - i) (intE .i64).d).length = xs.length := by simp; omega
    conv => whnf
    repeat' (first|refine Seal.mk ?_|(refine wS ?_;(conv=>whnf);fail_if_success show False)|((first|refine opsA_step ?_|refine drawS_go ?_);conv=>whnf)|(intro _;first|omega|conv=>whnf)|(apply And.intro<;>intro _<;>first|omega|conv=>whnf)|refine ⟨Seal.mk ?_,Seal.mk ?_⟩|((first|refine ⟨leaf,?_⟩|refine Or.inl ⟨leaf,?_⟩|apply Or.inr|refine ⟨_,rfl,?_⟩|refine ⟨_,⟨rfl,rfl⟩,?_⟩|refine ⟨intE .u8,⟨rfl,fun _=>rfl⟩,?_⟩|refine ⟨_,⟨rfl,rfl,leaf⟩,?_⟩);conv=>whnf)|with_reducible assumption|exact leaf|fail)
    · have hs : (xs.take i ++ List.replicate (xs.length - i) (intE .i64).d).set (i : Int).toNat (xs.getD (i : Int).toNat (intE .i64).d) = xs.take (i + 1) ++ List.replicate (xs.length - (i + 1)) (intE .i64).d := fill_set (by omega)
      refine ⟨i + 1, ⟨by omega, by omega⟩, ?_⟩
      skip
      ((try dsimp only);((try refine wF ?_);repeat' (first|exact ⟨⟩|refine ⟨leaf,?_⟩|((conv=>whnf);first|exact ⟨⟩|refine ⟨leaf,?_⟩))))
    · have hi : i = xs.length := by omega
      subst hi
      have h0 : xs.take xs.length ++ List.replicate (xs.length - xs.length) (intE .i64).d = xs := by simp
      (refine ⟨(),⟨⟩,?_⟩;((try refine wF ?_);repeat' (first|exact ⟨⟩|refine ⟨leaf,?_⟩|((conv=>whnf);first|exact ⟨⟩|refine ⟨leaf,?_⟩))))
theorem toCell (c : Int × Int) : CallA S 289 [.agg [.int .i64 c.1, .int .i64 c.2]] ⟨[], 0⟩ (Ret1 (.agg [.int .i64 c.1, .int .i64 c.2]) ⟨[], 0⟩) := by
  refine .ofC hS _ _ _ Tryz.func289 ?_
  conv => whnf
  repeat' (first|refine Seal.mk ?_|(refine wS ?_;(conv=>whnf);fail_if_success show False)|((first|refine opsA_step ?_|refine drawS_go ?_);conv=>whnf)|(intro _;first|omega|conv=>whnf)|(apply And.intro<;>intro _<;>first|omega|conv=>whnf)|refine ⟨Seal.mk ?_,Seal.mk ?_⟩|((first|refine ⟨leaf,?_⟩|refine Or.inl ⟨leaf,?_⟩|apply Or.inr|refine ⟨_,rfl,?_⟩|refine ⟨_,⟨rfl,rfl⟩,?_⟩|refine ⟨intE .u8,⟨rfl,fun _=>rfl⟩,?_⟩|refine ⟨_,⟨rfl,rfl,leaf⟩,?_⟩);conv=>whnf)|with_reducible assumption|exact leaf|fail)
  (refine ⟨(),⟨⟩,?_⟩;((try refine wF ?_);repeat' (first|exact ⟨⟩|refine ⟨leaf,?_⟩|((conv=>whnf);first|exact ⟨⟩|refine ⟨leaf,?_⟩))))
theorem toCellS (xs : List (Int × Int)) (hx : xs.length ≤ 1048576) : CallA S 254 [.sl (.loc 0) 2 none xs.length] ⟨[⟨.loc 0, false, .arr pairE xs⟩], 1⟩ (Ret1 (.sl (.loc 1) 2 none xs.length) ⟨[⟨.loc 1, true, .arr pairE xs⟩], 2⟩) := by
  refine .ofC hS _ _ _ Tryz.func254 ?_
  conv => whnf
  repeat' (first|refine Seal.mk ?_|(refine wS ?_;(conv=>whnf);fail_if_success show False)|((first|refine opsA_step ?_|refine drawS_go ?_);conv=>whnf)|(intro _;first|omega|conv=>whnf)|(apply And.intro<;>intro _<;>first|omega|conv=>whnf)|refine ⟨Seal.mk ?_,Seal.mk ?_⟩|((first|refine ⟨leaf,?_⟩|refine Or.inl ⟨leaf,?_⟩|apply Or.inr|refine ⟨_,rfl,?_⟩|refine ⟨_,⟨rfl,rfl⟩,?_⟩|refine ⟨intE .u8,⟨rfl,fun _=>rfl⟩,?_⟩|refine ⟨_,⟨rfl,rfl,leaf⟩,?_⟩);conv=>whnf)|with_reducible assumption|exact leaf|fail)
  refine .loop hS (γ := Nat) (fun i => ⟨[(0, .sl (.loc 0) 2 none xs.length), (3, .sl (.loc 1) 2 none xs.length), (4, .int .i64 i)],
    ⟨[⟨.loc 1, true, .arr pairE (xs.take i ++ List.replicate (xs.length - i) pairE.d)⟩, ⟨.loc 0, false, .arr pairE xs⟩], 2⟩, 23, 1⟩) (fun i => i ≤ xs.length) (fun i => xs.length - i) 0 (by omega) ?_ ?_
  · ((try dsimp only);((try refine wF ?_);repeat' (first|exact ⟨⟩|refine ⟨leaf,?_⟩|((conv=>whnf);first|exact ⟨⟩|refine ⟨leaf,?_⟩))))
  · intro i hi
    have hl : (xs.take i ++ List.replicate (xs.length - i) pairE.d).length = xs.length := by simp; omega
    conv => whnf
    repeat' (first|refine Seal.mk ?_|(refine wS ?_;(conv=>whnf);fail_if_success show False)|((first|refine opsA_step ?_|refine drawS_go ?_|apply wL (toCell _));conv=>whnf)|(intro _;first|omega|conv=>whnf)|(apply And.intro<;>intro _<;>first|omega|conv=>whnf)|refine ⟨Seal.mk ?_,Seal.mk ?_⟩|((first|refine ⟨leaf,?_⟩|refine Or.inl ⟨leaf,?_⟩|apply Or.inr|refine ⟨_,rfl,?_⟩|refine ⟨_,⟨rfl,rfl⟩,?_⟩|refine ⟨intE .u8,⟨rfl,fun _=>rfl⟩,?_⟩|refine ⟨_,⟨rfl,rfl,leaf⟩,?_⟩);conv=>whnf)|with_reducible assumption|exact leaf|fail)
    · have hs : (xs.take i ++ List.replicate (xs.length - i) pairE.d).set (i : Int).toNat ((xs.getD (i : Int).toNat pairE.d).1, (xs.getD (i : Int).toNat pairE.d).2) = xs.take (i + 1) ++ List.replicate (xs.length - (i + 1)) pairE.d := fill_set (by omega)
      refine ⟨i + 1, ⟨by omega, by omega⟩, ?_⟩
      skip
      ((try dsimp only);((try refine wF ?_);repeat' (first|exact ⟨⟩|refine ⟨leaf,?_⟩|((conv=>whnf);first|exact ⟨⟩|refine ⟨leaf,?_⟩))))
    · have hi : i = xs.length := by omega
      subst hi
      have h0 : xs.take xs.length ++ List.replicate (xs.length - xs.length) pairE.d = xs := by simp
      (refine ⟨(),⟨⟩,?_⟩;((try refine wF ?_);repeat' (first|exact ⟨⟩|refine ⟨leaf,?_⟩|((conv=>whnf);first|exact ⟨⟩|refine ⟨leaf,?_⟩))))
theorem toBoolS (xs : List Bool) (hx : xs.length ≤ 1048576) : CallA S 118 [.sl (.loc 0) 1 none xs.length] ⟨[⟨.loc 0, false, .arr boolE xs⟩], 1⟩ (Ret1 (.sl (.loc 1) 1 none xs.length) ⟨[⟨.loc 1, true, .arr boolE xs⟩], 2⟩) := by
  refine .ofC hS _ _ _ Tryz.func118 ?_
  conv => whnf
  repeat' (first|refine Seal.mk ?_|(refine wS ?_;(conv=>whnf);fail_if_success show False)|((first|refine opsA_step ?_|refine drawS_go ?_);conv=>whnf)|(intro _;first|omega|conv=>whnf)|(apply And.intro<;>intro _<;>first|omega|conv=>whnf)|refine ⟨Seal.mk ?_,Seal.mk ?_⟩|((first|refine ⟨leaf,?_⟩|refine Or.inl ⟨leaf,?_⟩|apply Or.inr|refine ⟨_,rfl,?_⟩|refine ⟨_,⟨rfl,rfl⟩,?_⟩|refine ⟨intE .u8,⟨rfl,fun _=>rfl⟩,?_⟩|refine ⟨_,⟨rfl,rfl,leaf⟩,?_⟩);conv=>whnf)|with_reducible assumption|exact leaf|fail)
  refine .loop hS (γ := Nat) (fun i => ⟨[(0, .sl (.loc 0) 1 none xs.length), (3, .sl (.loc 1) 1 none xs.length), (4, .int .i64 i)],
    ⟨[⟨.loc 1, true, .arr boolE (xs.take i ++ List.replicate (xs.length - i) boolE.d)⟩, ⟨.loc 0, false, .arr boolE xs⟩], 2⟩, 22, 1⟩) (fun i => i ≤ xs.length) (fun i => xs.length - i) 0 (by omega) ?_ ?_
  · ((try dsimp only);((try refine wF ?_);repeat' (first|exact ⟨⟩|refine ⟨leaf,?_⟩|((conv=>whnf);first|exact ⟨⟩|refine ⟨leaf,?_⟩))))
  · intro i hi
    have hl : (xs.take i ++ List.replicate (xs.length - i) boolE.d).length = xs.length := by simp; omega
    conv => whnf
    repeat' (first|refine Seal.mk ?_|(refine wS ?_;(conv=>whnf);fail_if_success show False)|((first|refine opsA_step ?_|refine drawS_go ?_);conv=>whnf)|(intro _;first|omega|conv=>whnf)|(apply And.intro<;>intro _<;>first|omega|conv=>whnf)|refine ⟨Seal.mk ?_,Seal.mk ?_⟩|((first|refine ⟨leaf,?_⟩|refine Or.inl ⟨leaf,?_⟩|apply Or.inr|refine ⟨_,rfl,?_⟩|refine ⟨_,⟨rfl,rfl⟩,?_⟩|refine ⟨intE .u8,⟨rfl,fun _=>rfl⟩,?_⟩|refine ⟨_,⟨rfl,rfl,leaf⟩,?_⟩);conv=>whnf)|with_reducible assumption|exact leaf|fail)
    · have hs : (xs.take i ++ List.replicate (xs.length - i) boolE.d).set (i : Int).toNat (xs.getD (i : Int).toNat boolE.d) = xs.take (i + 1) ++ List.replicate (xs.length - (i + 1)) boolE.d := fill_set (by omega)
      refine ⟨i + 1, ⟨by omega, by omega⟩, ?_⟩
      try simp only [pb_bool]
      ((try dsimp only);((try refine wF ?_);repeat' (first|exact ⟨⟩|refine ⟨leaf,?_⟩|((conv=>whnf);first|exact ⟨⟩|refine ⟨leaf,?_⟩))))
    · have hi : i = xs.length := by omega
      subst hi
      have h0 : xs.take xs.length ++ List.replicate (xs.length - xs.length) boolE.d = xs := by simp
      (refine ⟨(),⟨⟩,?_⟩;((try refine wF ?_);repeat' (first|exact ⟨⟩|refine ⟨leaf,?_⟩|((conv=>whnf);first|exact ⟨⟩|refine ⟨leaf,?_⟩))))
theorem toByteS (xs : List Int) (hx : xs.length ≤ 1048576) : CallA S 162 [.sl (.loc 0) 1 none xs.length] ⟨[⟨.loc 0, false, .arr (intE .u8) xs⟩], 1⟩ (Ret1 (.sl (.loc 1) 1 none xs.length) ⟨[⟨.loc 1, true, .arr (intE .u8) xs⟩], 2⟩) := by
  refine .ofC hS _ _ _ Tryz.func162 ?_
  conv => whnf
  repeat' (first|refine Seal.mk ?_|(refine wS ?_;(conv=>whnf);fail_if_success show False)|((first|refine opsA_step ?_|refine drawS_go ?_);conv=>whnf)|(intro _;first|omega|conv=>whnf)|(apply And.intro<;>intro _<;>first|omega|conv=>whnf)|refine ⟨Seal.mk ?_,Seal.mk ?_⟩|((first|refine ⟨leaf,?_⟩|refine Or.inl ⟨leaf,?_⟩|apply Or.inr|refine ⟨_,rfl,?_⟩|refine ⟨_,⟨rfl,rfl⟩,?_⟩|refine ⟨intE .u8,⟨rfl,fun _=>rfl⟩,?_⟩|refine ⟨_,⟨rfl,rfl,leaf⟩,?_⟩);conv=>whnf)|with_reducible assumption|exact leaf|fail)
  refine .loop hS (γ := Nat) (fun i => ⟨[(0, .sl (.loc 0) 1 none xs.length), (3, .sl (.loc 1) 1 none xs.length), (4, .int .i64 i)],
    ⟨[⟨.loc 1, true, .arr (intE .u8) (xs.take i ++ List.replicate (xs.length - i) (intE .u8).d)⟩, ⟨.loc 0, false, .arr (intE .u8) xs⟩], 2⟩, 22, 1⟩) (fun i => i ≤ xs.length) (fun i => xs.length - i) 0 (by omega) ?_ ?_
  · ((try dsimp only);((try refine wF ?_);repeat' (first|exact ⟨⟩|refine ⟨leaf,?_⟩|((conv=>whnf);first|exact ⟨⟩|refine ⟨leaf,?_⟩))))
  · intro i hi
    have hl : (xs.take i ++ List.replicate (xs.length - i) (intE .u8).d).length = xs.length := by simp; omega
    conv => whnf
    repeat' (first|refine Seal.mk ?_|(refine wS ?_;(conv=>whnf);fail_if_success show False)|((first|refine opsA_step ?_|refine drawS_go ?_);conv=>whnf)|(intro _;first|omega|conv=>whnf)|(apply And.intro<;>intro _<;>first|omega|conv=>whnf)|refine ⟨Seal.mk ?_,Seal.mk ?_⟩|((first|refine ⟨leaf,?_⟩|refine Or.inl ⟨leaf,?_⟩|apply Or.inr|refine ⟨_,rfl,?_⟩|refine ⟨_,⟨rfl,rfl⟩,?_⟩|refine ⟨intE .u8,⟨rfl,fun _=>rfl⟩,?_⟩|refine ⟨_,⟨rfl,rfl,leaf⟩,?_⟩);conv=>whnf)|with_reducible assumption|exact leaf|fail)
    · have hs : (xs.take i ++ List.replicate (xs.length - i) (intE .u8).d).set (i : Int).toNat (xs.getD (i : Int).toNat (intE .u8).d) = xs.take (i + 1) ++ List.replicate (xs.length - (i + 1)) (intE .u8).d := fill_set (by omega)
      refine ⟨i + 1, ⟨by omega, by omega⟩, ?_⟩
      skip
      ((try dsimp only);((try refine wF ?_);repeat' (first|exact ⟨⟩|refine ⟨leaf,?_⟩|((conv=>whnf);first|exact ⟨⟩|refine ⟨leaf,?_⟩))))
    · have hi : i = xs.length := by omega
      subst hi
      have h0 : xs.take xs.length ++ List.replicate (xs.length - xs.length) (intE .u8).d = xs := by simp
      (refine ⟨(),⟨⟩,?_⟩;((try refine wF ?_);repeat' (first|exact ⟨⟩|refine ⟨leaf,?_⟩|((conv=>whnf);first|exact ⟨⟩|refine ⟨leaf,?_⟩))))
theorem toHold (c : Int × Int) : CallA S 271 [.agg [.int .i64 c.1, .int .i64 c.2]] ⟨[], 0⟩ (Ret1 (.agg [.int .i64 c.1, .int .i64 c.2]) ⟨[], 0⟩) := by
  refine .ofC hS _ _ _ Tryz.func271 ?_
  conv => whnf
  repeat' (first|refine Seal.mk ?_|(refine wS ?_;(conv=>whnf);fail_if_success show False)|((first|refine opsA_step ?_|refine drawS_go ?_);conv=>whnf)|(intro _;first|omega|conv=>whnf)|(apply And.intro<;>intro _<;>first|omega|conv=>whnf)|refine ⟨Seal.mk ?_,Seal.mk ?_⟩|((first|refine ⟨leaf,?_⟩|refine Or.inl ⟨leaf,?_⟩|apply Or.inr|refine ⟨_,rfl,?_⟩|refine ⟨_,⟨rfl,rfl⟩,?_⟩|refine ⟨intE .u8,⟨rfl,fun _=>rfl⟩,?_⟩|refine ⟨_,⟨rfl,rfl,leaf⟩,?_⟩);conv=>whnf)|with_reducible assumption|exact leaf|fail)
  (refine ⟨(),⟨⟩,?_⟩;((try refine wF ?_);repeat' (first|exact ⟨⟩|refine ⟨leaf,?_⟩|((conv=>whnf);first|exact ⟨⟩|refine ⟨leaf,?_⟩))))
theorem toHoldS (xs : List (Int × Int)) (hx : xs.length ≤ 1048576) : CallA S 207 [.sl (.loc 0) 2 none xs.length] ⟨[⟨.loc 0, false, .arr pairE xs⟩], 1⟩ (Ret1 (.sl (.loc 1) 2 none xs.length) ⟨[⟨.loc 1, true, .arr pairE xs⟩], 2⟩) := by
  refine .ofC hS _ _ _ Tryz.func207 ?_
  conv => whnf
  repeat' (first|refine Seal.mk ?_|(refine wS ?_;(conv=>whnf);fail_if_success show False)|((first|refine opsA_step ?_|refine drawS_go ?_);conv=>whnf)|(intro _;first|omega|conv=>whnf)|(apply And.intro<;>intro _<;>first|omega|conv=>whnf)|refine ⟨Seal.mk ?_,Seal.mk ?_⟩|((first|refine ⟨leaf,?_⟩|refine Or.inl ⟨leaf,?_⟩|apply Or.inr|refine ⟨_,rfl,?_⟩|refine ⟨_,⟨rfl,rfl⟩,?_⟩|refine ⟨intE .u8,⟨rfl,fun _=>rfl⟩,?_⟩|refine ⟨_,⟨rfl,rfl,leaf⟩,?_⟩);conv=>whnf)|with_reducible assumption|exact leaf|fail)
  refine .loop hS (γ := Nat) (fun i => ⟨[(0, .sl (.loc 0) 2 none xs.length), (3, .sl (.loc 1) 2 none xs.length), (4, .int .i64 i)],
    ⟨[⟨.loc 1, true, .arr pairE (xs.take i ++ List.replicate (xs.length - i) pairE.d)⟩, ⟨.loc 0, false, .arr pairE xs⟩], 2⟩, 23, 1⟩) (fun i => i ≤ xs.length) (fun i => xs.length - i) 0 (by omega) ?_ ?_
  · ((try dsimp only);((try refine wF ?_);repeat' (first|exact ⟨⟩|refine ⟨leaf,?_⟩|((conv=>whnf);first|exact ⟨⟩|refine ⟨leaf,?_⟩))))
  · intro i hi
    have hl : (xs.take i ++ List.replicate (xs.length - i) pairE.d).length = xs.length := by simp; omega
    conv => whnf
    repeat' (first|refine Seal.mk ?_|(refine wS ?_;(conv=>whnf);fail_if_success show False)|((first|refine opsA_step ?_|refine drawS_go ?_|apply wL (toHold _));conv=>whnf)|(intro _;first|omega|conv=>whnf)|(apply And.intro<;>intro _<;>first|omega|conv=>whnf)|refine ⟨Seal.mk ?_,Seal.mk ?_⟩|((first|refine ⟨leaf,?_⟩|refine Or.inl ⟨leaf,?_⟩|apply Or.inr|refine ⟨_,rfl,?_⟩|refine ⟨_,⟨rfl,rfl⟩,?_⟩|refine ⟨intE .u8,⟨rfl,fun _=>rfl⟩,?_⟩|refine ⟨_,⟨rfl,rfl,leaf⟩,?_⟩);conv=>whnf)|with_reducible assumption|exact leaf|fail)
    · have hs : (xs.take i ++ List.replicate (xs.length - i) pairE.d).set (i : Int).toNat ((xs.getD (i : Int).toNat pairE.d).1, (xs.getD (i : Int).toNat pairE.d).2) = xs.take (i + 1) ++ List.replicate (xs.length - (i + 1)) pairE.d := fill_set (by omega)
      refine ⟨i + 1, ⟨by omega, by omega⟩, ?_⟩
      skip
      ((try dsimp only);((try refine wF ?_);repeat' (first|exact ⟨⟩|refine ⟨leaf,?_⟩|((conv=>whnf);first|exact ⟨⟩|refine ⟨leaf,?_⟩))))
    · have hi : i = xs.length := by omega
      subst hi
      have h0 : xs.take xs.length ++ List.replicate (xs.length - xs.length) pairE.d = xs := by simp
      (refine ⟨(),⟨⟩,?_⟩;((try refine wF ?_);repeat' (first|exact ⟨⟩|refine ⟨leaf,?_⟩|((conv=>whnf);first|exact ⟨⟩|refine ⟨leaf,?_⟩))))
theorem toBind (c : Qd) : CallA S 133 [.agg [.int .i64 c.1, .int .i64 c.2.1, .int .i64 c.2.2.1, .int .i64 c.2.2.2]] ⟨[], 0⟩ (Ret1 (.agg [.int .i64 c.1, .int .i64 c.2.1, .int .i64 c.2.2.1, .int .i64 c.2.2.2]) ⟨[], 0⟩) := by
  refine .ofC hS _ _ _ Tryz.func133 ?_
  conv => whnf
  repeat' (first|refine Seal.mk ?_|(refine wS ?_;(conv=>whnf);fail_if_success show False)|((first|refine opsA_step ?_|refine drawS_go ?_|apply wL (toSym _ _));conv=>whnf)|(intro _;first|omega|conv=>whnf)|(apply And.intro<;>intro _<;>first|omega|conv=>whnf)|refine ⟨Seal.mk ?_,Seal.mk ?_⟩|((first|refine ⟨leaf,?_⟩|refine Or.inl ⟨leaf,?_⟩|apply Or.inr|refine ⟨_,rfl,?_⟩|refine ⟨_,⟨rfl,rfl⟩,?_⟩|refine ⟨intE .u8,⟨rfl,fun _=>rfl⟩,?_⟩|refine ⟨_,⟨rfl,rfl,leaf⟩,?_⟩);conv=>whnf)|with_reducible assumption|exact leaf|fail)
  (refine ⟨(),⟨⟩,?_⟩;((try refine wF ?_);repeat' (first|exact ⟨⟩|refine ⟨leaf,?_⟩|((conv=>whnf);first|exact ⟨⟩|refine ⟨leaf,?_⟩))))
theorem toBindS (xs : List Qd) (hx : xs.length ≤ 1048576) : CallA S 49 [.sl (.loc 0) 4 none xs.length] ⟨[⟨.loc 0, false, .arr quadE xs⟩], 1⟩ (Ret1 (.sl (.loc 1) 4 none xs.length) ⟨[⟨.loc 1, true, .arr quadE xs⟩], 2⟩) := by
  refine .ofC hS _ _ _ Tryz.func49 ?_
  conv => whnf
  repeat' (first|refine Seal.mk ?_|(refine wS ?_;(conv=>whnf);fail_if_success show False)|((first|refine opsA_step ?_|refine drawS_go ?_);conv=>whnf)|(intro _;first|omega|conv=>whnf)|(apply And.intro<;>intro _<;>first|omega|conv=>whnf)|refine ⟨Seal.mk ?_,Seal.mk ?_⟩|((first|refine ⟨leaf,?_⟩|refine Or.inl ⟨leaf,?_⟩|apply Or.inr|refine ⟨_,rfl,?_⟩|refine ⟨_,⟨rfl,rfl⟩,?_⟩|refine ⟨intE .u8,⟨rfl,fun _=>rfl⟩,?_⟩|refine ⟨_,⟨rfl,rfl,leaf⟩,?_⟩);conv=>whnf)|with_reducible assumption|exact leaf|fail)
  refine .loop hS (γ := Nat) (fun i => ⟨[(0, .sl (.loc 0) 4 none xs.length), (3, .sl (.loc 1) 4 none xs.length), (4, .int .i64 i)],
    ⟨[⟨.loc 1, true, .arr quadE (xs.take i ++ List.replicate (xs.length - i) quadE.d)⟩, ⟨.loc 0, false, .arr quadE xs⟩], 2⟩, 23, 1⟩) (fun i => i ≤ xs.length) (fun i => xs.length - i) 0 (by omega) ?_ ?_
  · ((try dsimp only);((try refine wF ?_);repeat' (first|exact ⟨⟩|refine ⟨leaf,?_⟩|((conv=>whnf);first|exact ⟨⟩|refine ⟨leaf,?_⟩))))
  · intro i hi
    have hl : (xs.take i ++ List.replicate (xs.length - i) quadE.d).length = xs.length := by simp; omega
    conv => whnf
    repeat' (first|refine Seal.mk ?_|(refine wS ?_;(conv=>whnf);fail_if_success show False)|((first|refine opsA_step ?_|refine drawS_go ?_|apply wL (toBind _));conv=>whnf)|(intro _;first|omega|conv=>whnf)|(apply And.intro<;>intro _<;>first|omega|conv=>whnf)|refine ⟨Seal.mk ?_,Seal.mk ?_⟩|((first|refine ⟨leaf,?_⟩|refine Or.inl ⟨leaf,?_⟩|apply Or.inr|refine ⟨_,rfl,?_⟩|refine ⟨_,⟨rfl,rfl⟩,?_⟩|refine ⟨intE .u8,⟨rfl,fun _=>rfl⟩,?_⟩|refine ⟨_,⟨rfl,rfl,leaf⟩,?_⟩);conv=>whnf)|with_reducible assumption|exact leaf|fail)
    · have hs : (xs.take i ++ List.replicate (xs.length - i) quadE.d).set (i : Int).toNat ((xs.getD (i : Int).toNat quadE.d).1, (xs.getD (i : Int).toNat quadE.d).2.1, (xs.getD (i : Int).toNat quadE.d).2.2.1, (xs.getD (i : Int).toNat quadE.d).2.2.2) = xs.take (i + 1) ++ List.replicate (xs.length - (i + 1)) quadE.d := fill_set (by omega)
      refine ⟨i + 1, ⟨by omega, by omega⟩, ?_⟩
      skip
      ((try dsimp only);((try refine wF ?_);repeat' (first|exact ⟨⟩|refine ⟨leaf,?_⟩|((conv=>whnf);first|exact ⟨⟩|refine ⟨leaf,?_⟩))))
    · have hi : i = xs.length := by omega
      subst hi
      have h0 : xs.take xs.length ++ List.replicate (xs.length - xs.length) quadE.d = xs := by simp
      (refine ⟨(),⟨⟩,?_⟩;((try refine wF ?_);repeat' (first|exact ⟨⟩|refine ⟨leaf,?_⟩|((conv=>whnf);first|exact ⟨⟩|refine ⟨leaf,?_⟩))))
theorem toStringS (xs : List (List Int)) (hx : xs.length ≤ 1048576) : CallA S 50 [.sl (.loc 0) 1 none xs.length] ⟨[⟨.loc 0, false, .arr strE xs⟩], 1⟩ (Ret1 (.sl (.loc 1) 1 none xs.length) ⟨[⟨.loc 1, true, .arr strE xs⟩], 2⟩) := by
  refine .ofC hS _ _ _ Tryz.func50 ?_
  conv => whnf
  repeat' (first|refine Seal.mk ?_|(refine wS ?_;(conv=>whnf);fail_if_success show False)|((first|refine opsA_step ?_|refine drawS_go ?_);conv=>whnf)|(intro _;first|omega|conv=>whnf)|(apply And.intro<;>intro _<;>first|omega|conv=>whnf)|refine ⟨Seal.mk ?_,Seal.mk ?_⟩|((first|refine ⟨leaf,?_⟩|refine Or.inl ⟨leaf,?_⟩|apply Or.inr|refine ⟨_,rfl,?_⟩|refine ⟨_,⟨rfl,rfl⟩,?_⟩|refine ⟨intE .u8,⟨rfl,fun _=>rfl⟩,?_⟩|refine ⟨_,⟨rfl,rfl,leaf⟩,?_⟩);conv=>whnf)|with_reducible assumption|exact leaf|fail)
  refine .loop hS (γ := Nat) (fun i => ⟨[(0, .sl (.loc 0) 1 none xs.length), (3, .sl (.loc 1) 1 none xs.length), (4, .int .i64 i)],
    ⟨[⟨.loc 1, true, .arr strE (xs.take i ++ List.replicate (xs.length - i) strE.d)⟩, ⟨.loc 0, false, .arr strE xs⟩], 2⟩, 22, 1⟩) (fun i => i ≤ xs.length) (fun i => xs.length - i) 0 (by omega) ?_ ?_
  · ((try dsimp only);((try refine wF ?_);repeat' (first|exact ⟨⟩|refine ⟨leaf,?_⟩|((conv=>whnf);first|exact ⟨⟩|refine ⟨leaf,?_⟩))))
  · intro i hi
    have hl : (xs.take i ++ List.replicate (xs.length - i) strE.d).length = xs.length := by simp; omega
    conv => whnf
    repeat' (first|refine Seal.mk ?_|(refine wS ?_;(conv=>whnf);fail_if_success show False)|((first|refine opsA_step ?_|refine drawS_go ?_);conv=>whnf)|(intro _;first|omega|conv=>whnf)|(apply And.intro<;>intro _<;>first|omega|conv=>whnf)|refine ⟨Seal.mk ?_,Seal.mk ?_⟩|((first|refine ⟨leaf,?_⟩|refine Or.inl ⟨leaf,?_⟩|apply Or.inr|refine ⟨_,rfl,?_⟩|refine ⟨_,⟨rfl,rfl⟩,?_⟩|refine ⟨intE .u8,⟨rfl,fun _=>rfl⟩,?_⟩|refine ⟨_,⟨rfl,rfl,leaf⟩,?_⟩);conv=>whnf)|with_reducible assumption|exact leaf|fail)
    · have hs : (xs.take i ++ List.replicate (xs.length - i) strE.d).set (i : Int).toNat (xs.getD (i : Int).toNat strE.d) = xs.take (i + 1) ++ List.replicate (xs.length - (i + 1)) strE.d := fill_set (by omega)
      refine ⟨i + 1, ⟨by omega, by omega⟩, ?_⟩
      skip
      ((try dsimp only);((try refine wF ?_);repeat' (first|exact ⟨⟩|refine ⟨leaf,?_⟩|((conv=>whnf);first|exact ⟨⟩|refine ⟨leaf,?_⟩))))
    · have hi : i = xs.length := by omega
      subst hi
      have h0 : xs.take xs.length ++ List.replicate (xs.length - xs.length) strE.d = xs := by simp
      (refine ⟨(),⟨⟩,?_⟩;((try refine wF ?_);repeat' (first|exact ⟨⟩|refine ⟨leaf,?_⟩|((conv=>whnf);first|exact ⟨⟩|refine ⟨leaf,?_⟩))))
end Go.Mu

namespace Go.Mu
open Go Go.Vm Go.RowKit Go.Proofs
attribute [local irreducible] wpA opsA stillA drawA drawS
set_option maxRecDepth 20000
set_option maxHeartbeats 4000000
theorem eqInt64S (xs : List Int) (hx : xs.length ≤ 1048576) : CallA S 189 [.sl (.loc 0) 1 none xs.length, .sl (.loc 1) 1 none xs.length] ⟨[⟨.loc 0, false, .arr (intE .i64) xs⟩, ⟨.loc 1, false, .arr (intE .i64) xs⟩], 2⟩ (Ret1 (.tt) ⟨[], 2⟩) := by
  refine .ofC hS _ _ _ Tryz.func189 ?_
  conv => whnf
  repeat' (first|refine Seal.mk ?_|(refine wS ?_;(conv=>whnf);fail_if_success show False)|((first|refine opsA_step ?_|refine drawS_go ?_|refine wD (id:=6) (.quick 0 (.quick 1 (.quick 2 (.quick 4 (.quick 5 (.quick 6 (.stable 3 (.stable 7 (.quick 8 .done))))))))) [] (by kernel_rfl) rfl ?_);conv=>whnf)|(intro _;first|omega|conv=>whnf)|(apply And.intro<;>intro _<;>first|omega|conv=>whnf)|refine ⟨Seal.mk ?_,Seal.mk ?_⟩|((first|refine ⟨leaf,?_⟩|refine Or.inl ⟨leaf,?_⟩|apply Or.inr|refine ⟨_,rfl,?_⟩|refine ⟨_,⟨rfl,rfl⟩,?_⟩|refine ⟨intE .u8,⟨rfl,fun _=>rfl⟩,?_⟩|refine ⟨_,⟨rfl,rfl,leaf⟩,?_⟩);conv=>whnf)|with_reducible assumption|exact leaf|fail)
  refine .loop hS (γ := Nat) (fun i => ⟨[(0, .sl (.loc 0) 1 none xs.length), (1, .sl (.loc 1) 1 none xs.length), (5, .int .i64 i)],
    ⟨[⟨.loc 0, false, .arr (intE .i64) xs⟩, ⟨.loc 1, false, .arr (intE .i64) xs⟩], 2⟩, 26, 2⟩) (fun i => i ≤ xs.length) (fun i => xs.length - i) 0 (by omega) ?_ ?_
  · ((try dsimp only);((try refine wF ?_);repeat' (first|exact ⟨⟩|refine ⟨leaf,?_⟩|((conv=>whnf);first|exact ⟨⟩|refine ⟨leaf,?_⟩))))
  · intro i hi
    conv => whnf
    repeat' (first|refine Seal.mk ?_|(refine wS ?_;(conv=>whnf);fail_if_success show False)|((first|refine opsA_step ?_|refine drawS_go ?_|refine wD (id:=6) (.quick 0 (.quick 1 (.quick 2 (.quick 4 (.quick 5 (.quick 6 (.stable 3 (.stable 7 (.quick 8 .done))))))))) [] (by kernel_rfl) rfl ?_);conv=>whnf)|(intro _;first|omega|conv=>whnf)|(apply And.intro<;>intro _<;>first|omega|conv=>whnf)|refine ⟨Seal.mk ?_,Seal.mk ?_⟩|((first|refine ⟨leaf,?_⟩|refine Or.inl ⟨leaf,?_⟩|apply Or.inr|refine ⟨_,rfl,?_⟩|refine ⟨_,⟨rfl,rfl⟩,?_⟩|refine ⟨intE .u8,⟨rfl,fun _=>rfl⟩,?_⟩|refine ⟨_,⟨rfl,rfl,leaf⟩,?_⟩);conv=>whnf)|with_reducible assumption|exact leaf|fail)
    all_goals (first | (exact absurd rfl (by assumption)) | (exact absurd Iff.rfl (by assumption)) | (refine ⟨(),⟨⟩,?_⟩;((try refine wF ?_);repeat' (first|exact ⟨⟩|refine ⟨leaf,?_⟩|((conv=>whnf);first|exact ⟨⟩|refine ⟨leaf,?_⟩)))) | (refine ⟨i + 1, ⟨by omega, by omega⟩, ?_⟩; ((try dsimp only);((try refine wF ?_);repeat' (first|exact ⟨⟩|refine ⟨leaf,?_⟩|((conv=>whnf);first|exact ⟨⟩|refine ⟨leaf,?_⟩))))))
theorem szInt64S (n : Nat) (left : Int) (hl : -1 ≤ left) (hl' : left ≤ 1048576) : CallA S 168 [.sl (.loc 0) 1 none n, .int .i64 left] ⟨[], 1⟩ (Ret (γ := Int) (fun g => (left - n < 0 → g = -1) ∧ (¬ left - n < 0 → g = left - n)) (fun g => .int .i64 g) fun g => ⟨[], 1⟩) := by
  refine .ofC hS _ _ _ Tryz.func168 ?_
  conv => whnf
  repeat' (first|refine Seal.mk ?_|(refine wS ?_;(conv=>whnf);fail_if_success show False)|((first|refine opsA_step ?_|refine drawS_go ?_);conv=>whnf)|(intro _;first|omega|conv=>whnf)|(apply And.intro<;>intro _<;>first|omega|conv=>whnf)|refine ⟨Seal.mk ?_,Seal.mk ?_⟩|((first|refine ⟨leaf,?_⟩|refine Or.inl ⟨leaf,?_⟩|apply Or.inr|refine ⟨_,rfl,?_⟩|refine ⟨_,⟨rfl,rfl⟩,?_⟩|refine ⟨intE .u8,⟨rfl,fun _=>rfl⟩,?_⟩|refine ⟨_,⟨rfl,rfl,leaf⟩,?_⟩);conv=>whnf)|with_reducible assumption|exact leaf|fail)
  all_goals (first | (refine ⟨-1, ⟨by omega, by omega⟩, ?_⟩; ((try refine wF ?_);repeat' (first|exact ⟨⟩|refine ⟨leaf,?_⟩|((conv=>whnf);first|exact ⟨⟩|refine ⟨leaf,?_⟩)))) | (refine ⟨left - n, ⟨by omega, by omega⟩, ?_⟩; ((try refine wF ?_);repeat' (first|exact ⟨⟩|refine ⟨leaf,?_⟩|((conv=>whnf);first|exact ⟨⟩|refine ⟨leaf,?_⟩)))))
theorem eqCell (c : Int × Int) : CallA S 304 [.agg [.int .i64 c.1, .int .i64 c.2], .agg [.int .i64 c.1, .int .i64 c.2]] ⟨[], 0⟩ (Ret1 (.tt) ⟨[], 0⟩) := by
  refine .ofC hS _ _ _ Tryz.func304 ?_
  conv => whnf
  repeat' (first|refine Seal.mk ?_|(refine wS ?_;(conv=>whnf);fail_if_success show False)|((first|refine opsA_step ?_|refine drawS_go ?_);conv=>whnf)|(intro _;first|omega|conv=>whnf)|(apply And.intro<;>intro _<;>first|omega|conv=>whnf)|refine ⟨Seal.mk ?_,Seal.mk ?_⟩|((first|refine ⟨leaf,?_⟩|refine Or.inl ⟨leaf,?_⟩|apply Or.inr|refine ⟨_,rfl,?_⟩|refine ⟨_,⟨rfl,rfl⟩,?_⟩|refine ⟨intE .u8,⟨rfl,fun _=>rfl⟩,?_⟩|refine ⟨_,⟨rfl,rfl,leaf⟩,?_⟩);conv=>whnf)|with_reducible assumption|exact leaf|fail)
  all_goals (first | (exact absurd rfl (by assumption)) | (exact absurd Iff.rfl (by assumption)) | (refine ⟨(),⟨⟩,?_⟩;((try refine wF ?_);repeat' (first|exact ⟨⟩|refine ⟨leaf,?_⟩|((conv=>whnf);first|exact ⟨⟩|refine ⟨leaf,?_⟩)))))
theorem eqCellS (xs : List (Int × Int)) (hx : xs.length ≤ 1048576) : CallA S 265 [.sl (.loc 0) 2 none xs.length, .sl (.loc 1) 2 none xs.length] ⟨[⟨.loc 0, false, .arr pairE xs⟩, ⟨.loc 1, false, .arr pairE xs⟩], 2⟩ (Ret1 (.tt) ⟨[], 2⟩) := by
  refine .ofC hS _ _ _ Tryz.func265 ?_
  conv => whnf
  repeat' (first|refine Seal.mk ?_|(refine wS ?_;(conv=>whnf);fail_if_success show False)|((first|refine opsA_step ?_|refine drawS_go ?_|refine wD (id:=6) (.quick 0 (.quick 1 (.quick 2 (.quick 4 (.quick 5 (.quick 6 (.stable 3 (.stable 7 (.all (.step 8 (.quick 9 .done))))))))))) [8] (by kernel_rfl) rfl ?_);conv=>whnf)|(intro _;first|omega|conv=>whnf)|(apply And.intro<;>intro _<;>first|omega|conv=>whnf)|refine ⟨Seal.mk ?_,Seal.mk ?_⟩|((first|refine ⟨leaf,?_⟩|refine Or.inl ⟨leaf,?_⟩|apply Or.inr|refine ⟨_,rfl,?_⟩|refine ⟨_,⟨rfl,rfl⟩,?_⟩|refine ⟨intE .u8,⟨rfl,fun _=>rfl⟩,?_⟩|refine ⟨_,⟨rfl,rfl,leaf⟩,?_⟩);conv=>whnf)|with_reducible assumption|exact leaf|fail)
  refine .loop hS (γ := Nat) (fun i => ⟨[(0, .sl (.loc 0) 2 none xs.length), (1, .sl (.loc 1) 2 none xs.length), (5, .int .i64 i)],
    ⟨[⟨.loc 0, false, .arr pairE xs⟩, ⟨.loc 1, false, .arr pairE xs⟩], 2⟩, 27, 2⟩) (fun i => i ≤ xs.length) (fun i => xs.length - i) 0 (by omega) ?_ ?_
  · ((try dsimp only);((try refine wF ?_);repeat' (first|exact ⟨⟩|refine ⟨leaf,?_⟩|((conv=>whnf);first|exact ⟨⟩|refine ⟨leaf,?_⟩))))
  · intro i hi
    conv => whnf
    repeat' (first|refine Seal.mk ?_|(refine wS ?_;(conv=>whnf);fail_if_success show False)|((first|refine opsA_step ?_|refine drawS_go ?_|refine wD (id:=6) (.quick 0 (.quick 1 (.quick 2 (.quick 4 (.quick 5 (.quick 6 (.stable 3 (.stable 7 (.all (.step 8 (.quick 9 .done))))))))))) [8] (by kernel_rfl) rfl ?_|apply wL (eqCell _));conv=>whnf)|(intro _;first|omega|conv=>whnf)|(apply And.intro<;>intro _<;>first|omega|conv=>whnf)|refine ⟨Seal.mk ?_,Seal.mk ?_⟩|((first|refine ⟨leaf,?_⟩|refine Or.inl ⟨leaf,?_⟩|apply Or.inr|refine ⟨_,rfl,?_⟩|refine ⟨_,⟨rfl,rfl⟩,?_⟩|refine ⟨intE .u8,⟨rfl,fun _=>rfl⟩,?_⟩|refine ⟨_,⟨rfl,rfl,leaf⟩,?_⟩);conv=>whnf)|with_reducible assumption|exact leaf|fail)
    all_goals (first | (exact absurd rfl (by assumption)) | (exact absurd Iff.rfl (by assumption)) | (refine ⟨(),⟨⟩,?_⟩;((try refine wF ?_);repeat' (first|exact ⟨⟩|refine ⟨leaf,?_⟩|((conv=>whnf);first|exact ⟨⟩|refine ⟨leaf,?_⟩)))) | (refine ⟨i + 1, ⟨by omega, by omega⟩, ?_⟩; ((try dsimp only);((try refine wF ?_);repeat' (first|exact ⟨⟩|refine ⟨leaf,?_⟩|((conv=>whnf);first|exact ⟨⟩|refine ⟨leaf,?_⟩))))))
theorem szCellS (n : Nat) (left : Int) (hl : -1 ≤ left) (hl' : left ≤ 1048576) : CallA S 243 [.sl (.loc 0) 2 none n, .int .i64 left] ⟨[], 1⟩ (Ret (γ := Int) (fun g => (left - n < 0 → g = -1) ∧ (¬ left - n < 0 → g = left - n)) (fun g => .int .i64 g) fun g => ⟨[], 1⟩) := by
  refine .ofC hS _ _ _ Tryz.func243 ?_
  conv => whnf
  repeat' (first|refine Seal.mk ?_|(refine wS ?_;(conv=>whnf);fail_if_success show False)|((first|refine opsA_step ?_|refine drawS_go ?_);conv=>whnf)|(intro _;first|omega|conv=>whnf)|(apply And.intro<;>intro _<;>first|omega|conv=>whnf)|refine ⟨Seal.mk ?_,Seal.mk ?_⟩|((first|refine ⟨leaf,?_⟩|refine Or.inl ⟨leaf,?_⟩|apply Or.inr|refine ⟨_,rfl,?_⟩|refine ⟨_,⟨rfl,rfl⟩,?_⟩|refine ⟨intE .u8,⟨rfl,fun _=>rfl⟩,?_⟩|refine ⟨_,⟨rfl,rfl,leaf⟩,?_⟩);conv=>whnf)|with_reducible assumption|exact leaf|fail)
  all_goals (first | (refine ⟨-1, ⟨by omega, by omega⟩, ?_⟩; ((try refine wF ?_);repeat' (first|exact ⟨⟩|refine ⟨leaf,?_⟩|((conv=>whnf);first|exact ⟨⟩|refine ⟨leaf,?_⟩)))) | (refine ⟨left - n, ⟨by omega, by omega⟩, ?_⟩; ((try refine wF ?_);repeat' (first|exact ⟨⟩|refine ⟨leaf,?_⟩|((conv=>whnf);first|exact ⟨⟩|refine ⟨leaf,?_⟩)))))
theorem eqBoolS (xs : List Bool) (hx : xs.length ≤ 1048576) : CallA S 127 [.sl (.loc 0) 1 none xs.length, .sl (.loc 1) 1 none xs.length] ⟨[⟨.loc 0, false, .arr boolE xs⟩, ⟨.loc 1, false, .arr boolE xs⟩], 2⟩ (Ret1 (.tt) ⟨[], 2⟩) := by
  refine .ofC hS _ _ _ Tryz.func127 ?_
  conv => whnf
  repeat' (first|refine Seal.mk ?_|(refine wS ?_;(conv=>whnf);fail_if_success show False)|((first|refine opsA_step ?_|refine drawS_go ?_|refine wD (id:=6) (.quick 0 (.quick 1 (.quick 2 (.quick 4 (.quick 5 (.quick 6 (.stable 3 (.stable 7 (.quick 8 .done))))))))) [] (by kernel_rfl) rfl ?_);conv=>whnf)|(intro _;first|omega|conv=>whnf)|(apply And.intro<;>intro _<;>first|omega|conv=>whnf)|refine ⟨Seal.mk ?_,Seal.mk ?_⟩|((first|refine ⟨leaf,?_⟩|refine Or.inl ⟨leaf,?_⟩|apply Or.inr|refine ⟨_,rfl,?_⟩|refine ⟨_,⟨rfl,rfl⟩,?_⟩|refine ⟨intE .u8,⟨rfl,fun _=>rfl⟩,?_⟩|refine ⟨_,⟨rfl,rfl,leaf⟩,?_⟩);conv=>whnf)|with_reducible assumption|exact leaf|fail)
  refine .loop hS (γ := Nat) (fun i => ⟨[(0, .sl (.loc 0) 1 none xs.length), (1, .sl (.loc 1) 1 none xs.length), (5, .int .i64 i)],
    ⟨[⟨.loc 0, false, .arr boolE xs⟩, ⟨.loc 1, false, .arr boolE xs⟩], 2⟩, 26, 2⟩) (fun i => i ≤ xs.length) (fun i => xs.length - i) 0 (by omega) ?_ ?_
  · ((try dsimp only);((try refine wF ?_);repeat' (first|exact ⟨⟩|refine ⟨leaf,?_⟩|((conv=>whnf);first|exact ⟨⟩|refine ⟨leaf,?_⟩))))
  · intro i hi
    conv => whnf
    repeat' (first|refine Seal.mk ?_|(refine wS ?_;(conv=>whnf);fail_if_success show False)|((first|refine opsA_step ?_|refine drawS_go ?_|refine wD (id:=6) (.quick 0 (.quick 1 (.quick 2 (.quick 4 (.quick 5 (.quick 6 (.stable 3 (.stable 7 (.quick 8 .done))))))))) [] (by kernel_rfl) rfl ?_);conv=>whnf)|(intro _;first|omega|conv=>whnf)|(apply And.intro<;>intro _<;>first|omega|conv=>whnf)|refine ⟨Seal.mk ?_,Seal.mk ?_⟩|((first|refine ⟨leaf,?_⟩|refine Or.inl ⟨leaf,?_⟩|apply Or.inr|refine ⟨_,rfl,?_⟩|refine ⟨_,⟨rfl,rfl⟩,?_⟩|refine ⟨intE .u8,⟨rfl,fun _=>rfl⟩,?_⟩|refine ⟨_,⟨rfl,rfl,leaf⟩,?_⟩);conv=>whnf)|with_reducible assumption|exact leaf|fail)
    all_goals (first | (exact absurd rfl (by assumption)) | (exact absurd Iff.rfl (by assumption)) | (refine ⟨(),⟨⟩,?_⟩;((try refine wF ?_);repeat' (first|exact ⟨⟩|refine ⟨leaf,?_⟩|((conv=>whnf);first|exact ⟨⟩|refine ⟨leaf,?_⟩)))) | (refine ⟨i + 1, ⟨by omega, by omega⟩, ?_⟩; ((try dsimp only);((try refine wF ?_);repeat' (first|exact ⟨⟩|refine ⟨leaf,?_⟩|((conv=>whnf);first|exact ⟨⟩|refine ⟨leaf,?_⟩))))))
theorem szBoolS (n : Nat) (left : Int) (hl : -1 ≤ left) (hl' : left ≤ 1048576) : CallA S 114 [.sl (.loc 0) 1 none n, .int .i64 left] ⟨[], 1⟩ (Ret (γ := Int) (fun g => (left - n < 0 → g = -1) ∧ (¬ left - n < 0 → g = left - n)) (fun g => .int .i64 g) fun g => ⟨[], 1⟩) := by
  refine .ofC hS _ _ _ Tryz.func114 ?_
  conv => whnf
  repeat' (first|refine Seal.mk ?_|(refine wS ?_;(conv=>whnf);fail_if_success show False)|((first|refine opsA_step ?_|refine drawS_go ?_);conv=>whnf)|(intro _;first|omega|conv=>whnf)|(apply And.intro<;>intro _<;>first|omega|conv=>whnf)|refine ⟨Seal.mk ?_,Seal.mk ?_⟩|((first|refine ⟨leaf,?_⟩|refine Or.inl ⟨leaf,?_⟩|apply Or.inr|refine ⟨_,rfl,?_⟩|refine ⟨_,⟨rfl,rfl⟩,?_⟩|refine ⟨intE .u8,⟨rfl,fun _=>rfl⟩,?_⟩|refine ⟨_,⟨rfl,rfl,leaf⟩,?_⟩);conv=>whnf)|with_reducible assumption|exact leaf|fail)
  all_goals (first | (refine ⟨-1, ⟨by omega, by omega⟩, ?_⟩; ((try refine wF ?_);repeat' (first|exact ⟨⟩|refine ⟨leaf,?_⟩|((conv=>whnf);first|exact ⟨⟩|refine ⟨leaf,?_⟩)))) | (refine ⟨left - n, ⟨by omega, by omega⟩, ?_⟩; ((try refine wF ?_);repeat' (first|exact ⟨⟩|refine ⟨leaf,?_⟩|((conv=>whnf);first|exact ⟨⟩|refine ⟨leaf,?_⟩)))))
theorem eqByteS (xs : List Int) (hx : xs.length ≤ 1048576) : CallA S 106 [.sl (.loc 0) 1 none xs.length, .sl (.loc 1) 1 none xs.length] ⟨[⟨.loc 0, false, .arr (intE .u8) xs⟩, ⟨.loc 1, false, .arr (intE .u8) xs⟩], 2⟩ (Ret1 (.tt) ⟨[], 2⟩) := by
  refine .ofC hS _ _ _ Tryz.func106 ?_
  conv => whnf
  repeat' (first|refine Seal.mk ?_|(refine wS ?_;(conv=>whnf);fail_if_success show False)|((first|refine opsA_step ?_|refine drawS_go ?_|refine wD (id:=6) (.quick 0 (.quick 1 (.quick 2 (.quick 4 (.quick 5 (.quick 6 (.stable 3 (.stable 7 (.quick 8 .done))))))))) [] (by kernel_rfl) rfl ?_);conv=>whnf)|(intro _;first|omega|conv=>whnf)|(apply And.intro<;>intro _<;>first|omega|conv=>whnf)|refine ⟨Seal.mk ?_,Seal.mk ?_⟩|((first|refine ⟨leaf,?_⟩|refine Or.inl ⟨leaf,?_⟩|apply Or.inr|refine ⟨_,rfl,?_⟩|refine ⟨_,⟨rfl,rfl⟩,?_⟩|refine ⟨intE .u8,⟨rfl,fun _=>rfl⟩,?_⟩|refine ⟨_,⟨rfl,rfl,leaf⟩,?_⟩);conv=>whnf)|with_reducible assumption|exact leaf|fail)
  refine .loop hS (γ := Nat) (fun i => ⟨[(0, .sl (.loc 0) 1 none xs.length), (1, .sl (.loc 1) 1 none xs.length), (5, .int .i64 i)],
    ⟨[⟨.loc 0, false, .arr (intE .u8) xs⟩, ⟨.loc 1, false, .arr (intE .u8) xs⟩], 2⟩, 26, 2⟩) (fun i => i ≤ xs.length) (fun i => xs.length - i) 0 (by omega) ?_ ?_
  · ((try dsimp only);((try refine wF ?_);repeat' (first|exact ⟨⟩|refine ⟨leaf,?_⟩|((conv=>whnf);first|exact ⟨⟩|refine ⟨leaf,?_⟩))))
  · intro i hi
    conv => whnf
    repeat' (first|refine Seal.mk ?_|(refine wS ?_;(conv=>whnf);fail_if_success show False)|((first|refine opsA_step ?_|refine drawS_go ?_|refine wD (id:=6) (.quick 0 (.quick 1 (.quick 2 (.quick 4 (.quick 5 (.quick 6 (.stable 3 (.stable 7 (.quick 8 .done))))))))) [] (by kernel_rfl) rfl ?_);conv=>whnf)|(intro _;first|omega|conv=>whnf)|(apply And.intro<;>intro _<;>first|omega|conv=>whnf)|refine ⟨Seal.mk ?_,Seal.mk ?_⟩|((first|refine ⟨leaf,?_⟩|refine Or.inl ⟨leaf,?_⟩|apply Or.inr|refine ⟨_,rfl,?_⟩|refine ⟨_,⟨rfl,rfl⟩,?_⟩|refine ⟨intE .u8,⟨rfl,fun _=>rfl⟩,?_⟩|refine ⟨_,⟨rfl,rfl,leaf⟩,?_⟩);conv=>whnf)|with_reducible assumption|exact leaf|fail)
    all_goals (first | (exact absurd rfl (by assumption)) | (exact absurd Iff.rfl (by assumption)) | (refine ⟨(),⟨⟩,?_⟩;((try refine wF ?_);repeat' (first|exact ⟨⟩|refine ⟨leaf,?_⟩|((conv=>whnf);first|exact ⟨⟩|refine ⟨leaf,?_⟩)))) | (refine ⟨i + 1, ⟨by omega, by omega⟩, ?_⟩; ((try dsimp only);((try refine wF ?_);repeat' (first|exact ⟨⟩|refine ⟨leaf,?_⟩|((conv=>whnf);first|exact ⟨⟩|refine ⟨leaf,?_⟩))))))
theorem szByteS (n : Nat) (left : Int) (hl : -1 ≤ left) (hl' : left ≤ 1048576) : CallA S 157 [.sl (.loc 0) 1 none n, .int .i64 left] ⟨[], 1⟩ (Ret (γ := Int) (fun g => (left - n < 0 → g = -1) ∧ (¬ left - n < 0 → g = left - n)) (fun g => .int .i64 g) fun g => ⟨[], 1⟩) := by
  refine .ofC hS _ _ _ Tryz.func157 ?_
  conv => whnf
  repeat' (first|refine Seal.mk ?_|(refine wS ?_;(conv=>whnf);fail_if_success show False)|((first|refine opsA_step ?_|refine drawS_go ?_);conv=>whnf)|(intro _;first|omega|conv=>whnf)|(apply And.intro<;>intro _<;>first|omega|conv=>whnf)|refine ⟨Seal.mk ?_,Seal.mk ?_⟩|((first|refine ⟨leaf,?_⟩|refine Or.inl ⟨leaf,?_⟩|apply Or.inr|refine ⟨_,rfl,?_⟩|refine ⟨_,⟨rfl,rfl⟩,?_⟩|refine ⟨intE .u8,⟨rfl,fun _=>rfl⟩,?_⟩|refine ⟨_,⟨rfl,rfl,leaf⟩,?_⟩);conv=>whnf)|with_reducible assumption|exact leaf|fail)
  all_goals (first | (refine ⟨-1, ⟨by omega, by omega⟩, ?_⟩; ((try refine wF ?_);repeat' (first|exact ⟨⟩|refine ⟨leaf,?_⟩|((conv=>whnf);first|exact ⟨⟩|refine ⟨leaf,?_⟩)))) | (refine ⟨left - n, ⟨by omega, by omega⟩, ?_⟩; ((try refine wF ?_);repeat' (first|exact ⟨⟩|refine ⟨leaf,?_⟩|((conv=>whnf);first|exact ⟨⟩|refine ⟨leaf,?_⟩)))))
theorem eqHold (c : Int × Int) : CallA S 276 [.agg [.int .i64 c.1, .int .i64 c.2], .agg [.int .i64 c.1, .int .i64 c.2]] ⟨[], 0⟩ (Ret1 (.tt) ⟨[], 0⟩) := by
  refine .ofC hS _ _ _ Tryz.func276 ?_
  conv => whnf
  repeat' (first|refine Seal.mk ?_|(refine wS ?_;(conv=>whnf);fail_if_success show False)|((first|refine opsA_step ?_|refine drawS_go ?_);conv=>whnf)|(intro _;first|omega|conv=>whnf)|(apply And.intro<;>intro _<;>first|omega|conv=>whnf)|refine ⟨Seal.mk ?_,Seal.mk ?_⟩|((first|refine ⟨leaf,?_⟩|refine Or.inl ⟨leaf,?_⟩|apply Or.inr|refine ⟨_,rfl,?_⟩|refine ⟨_,⟨rfl,rfl⟩,?_⟩|refine ⟨intE .u8,⟨rfl,fun _=>rfl⟩,?_⟩|refine ⟨_,⟨rfl,rfl,leaf⟩,?_⟩);conv=>whnf)|with_reducible assumption|exact leaf|fail)
  all_goals (first | (exact absurd rfl (by assumption)) | (exact absurd Iff.rfl (by assumption)) | (refine ⟨(),⟨⟩,?_⟩;((try refine wF ?_);repeat' (first|exact ⟨⟩|refine ⟨leaf,?_⟩|((conv=>whnf);first|exact ⟨⟩|refine ⟨leaf,?_⟩)))))
theorem eqHoldS (xs : List (Int × Int)) (hx : xs.length ≤ 1048576) : CallA S 214 [.sl (.loc 0) 2 none xs.length, .sl (.loc 1) 2 none xs.length] ⟨[⟨.loc 0, false, .arr pairE xs⟩, ⟨.loc 1, false, .arr pairE xs⟩], 2⟩ (Ret1 (.tt) ⟨[], 2⟩) := by
  refine .ofC hS _ _ _ Tryz.func214 ?_
  conv => whnf
  repeat' (first|refine Seal.mk ?_|(refine wS ?_;(conv=>whnf);fail_if_success show False)|((first|refine opsA_step ?_|refine drawS_go ?_|refine wD (id:=6) (.quick 0 (.quick 1 (.quick 2 (.quick 4 (.quick 5 (.quick 6 (.stable 3 (.stable 7 (.all (.step 8 (.quick 9 .done))))))))))) [8] (by kernel_rfl) rfl ?_);conv=>whnf)|(intro _;first|omega|conv=>whnf)|(apply And.intro<;>intro _<;>first|omega|conv=>whnf)|refine ⟨Seal.mk ?_,Seal.mk ?_⟩|((first|refine ⟨leaf,?_⟩|refine Or.inl ⟨leaf,?_⟩|apply Or.inr|refine ⟨_,rfl,?_⟩|refine ⟨_,⟨rfl,rfl⟩,?_⟩|refine ⟨intE .u8,⟨rfl,fun _=>rfl⟩,?_⟩|refine ⟨_,⟨rfl,rfl,leaf⟩,?_⟩);conv=>whnf)|with_reducible assumption|exact leaf|fail)
  refine .loop hS (γ := Nat) (fun i => ⟨[(0, .sl (.loc 0) 2 none xs.length), (1, .sl (.loc 1) 2 none xs.length), (5, .int .i64 i)],
    ⟨[⟨.loc 0, false, .arr pairE xs⟩, ⟨.loc 1, false, .arr pairE xs⟩], 2⟩, 27, 2⟩) (fun i => i ≤ xs.length) (fun i => xs.length - i) 0 (by omega) ?_ ?_
  · ((try dsimp only);((try refine wF ?_);repeat' (first|exact ⟨⟩|refine ⟨leaf,?_⟩|((conv=>whnf);first|exact ⟨⟩|refine ⟨leaf,?_⟩))))
  · intro i hi
    conv => whnf
    repeat' (first|refine Seal.mk ?_|(refine wS ?_;(conv=>whnf);fail_if_success show False)|((first|refine opsA_step ?_|refine drawS_go ?_|refine wD (id:=6) (.quick 0 (.quick 1 (.quick 2 (.quick 4 (.quick 5 (.quick 6 (.stable 3 (.stable 7 (.all (.step 8 (.quick 9 .done))))))))))) [8] (by kernel_rfl) rfl ?_|apply wL (eqHold _));conv=>whnf)|(intro _;first|omega|conv=>whnf)|(apply And.intro<;>intro _<;>first|omega|conv=>whnf)|refine ⟨Seal.mk ?_,Seal.mk ?_⟩|((first|refine ⟨leaf,?_⟩|refine Or.inl ⟨leaf,?_⟩|apply Or.inr|refine ⟨_,rfl,?_⟩|refine ⟨_,⟨rfl,rfl⟩,?_⟩|refine ⟨intE .u8,⟨rfl,fun _=>rfl⟩,?_⟩|refine ⟨_,⟨rfl,rfl,leaf⟩,?_⟩);conv=>whnf)|with_reducible assumption|exact leaf|fail)
    all_goals (first | (exact absurd rfl (by assumption)) | (exact absurd Iff.rfl (by assumption)) | (refine ⟨(),⟨⟩,?_⟩;((try refine wF ?_);repeat' (first|exact ⟨⟩|refine ⟨leaf,?_⟩|((conv=>whnf);first|exact ⟨⟩|refine ⟨leaf,?_⟩)))) | (refine ⟨i + 1, ⟨by omega, by omega⟩, ?_⟩; ((try dsimp only);((try refine wF ?_);repeat' (first|exact ⟨⟩|refine ⟨leaf,?_⟩|((conv=>whnf);first|exact ⟨⟩|refine ⟨leaf,?_⟩))))))
theorem szHoldS (n : Nat) (left : Int) (hl : -1 ≤ left) (hl' : left ≤ 1048576) : CallA S 204 [.sl (.loc 0) 2 none n, .int .i64 left] ⟨[], 1⟩ (Ret (γ := Int) (fun g => (left - n < 0 → g = -1) ∧ (¬ left - n < 0 → g = left - n)) (fun g => .int .i64 g) fun g => ⟨[], 1⟩) := by
  refine .ofC hS _ _ _ Tryz.func204 ?_
  conv => whnf
  repeat' (first|refine Seal.mk ?_|(refine wS ?_;(conv=>whnf);fail_if_success show False)|((first|refine opsA_step ?_|refine drawS_go ?_);conv=>whnf)|(intro _;first|omega|conv=>whnf)|(apply And.intro<;>intro _<;>first|omega|conv=>whnf)|refine ⟨Seal.mk ?_,Seal.mk ?_⟩|((first|refine ⟨leaf,?_⟩|refine Or.inl ⟨leaf,?_⟩|apply Or.inr|refine ⟨_,rfl,?_⟩|refine ⟨_,⟨rfl,rfl⟩,?_⟩|refine ⟨intE .u8,⟨rfl,fun _=>rfl⟩,?_⟩|refine ⟨_,⟨rfl,rfl,leaf⟩,?_⟩);conv=>whnf)|with_reducible assumption|exact leaf|fail)
  all_goals (first | (refine ⟨-1, ⟨by omega, by omega⟩, ?_⟩; ((try refine wF ?_);repeat' (first|exact ⟨⟩|refine ⟨leaf,?_⟩|((conv=>whnf);first|exact ⟨⟩|refine ⟨leaf,?_⟩)))) | (refine ⟨left - n, ⟨by omega, by omega⟩, ?_⟩; ((try refine wF ?_);repeat' (first|exact ⟨⟩|refine ⟨leaf,?_⟩|((conv=>whnf);first|exact ⟨⟩|refine ⟨leaf,?_⟩)))))
theorem eqSym (a b : Int) : CallA S 222 [.agg [.int .i64 a, .int .i64 b], .agg [.int .i64 a, .int .i64 b]] ⟨[], 0⟩ (Ret1 (.tt) ⟨[], 0⟩) := by
  refine .ofC hS _ _ _ Tryz.func222 ?_
  conv => whnf
  repeat' (first|refine Seal.mk ?_|(refine wS ?_;(conv=>whnf);fail_if_success show False)|((first|refine opsA_step ?_|refine drawS_go ?_);conv=>whnf)|(intro _;first|omega|conv=>whnf)|(apply And.intro<;>intro _<;>first|omega|conv=>whnf)|refine ⟨Seal.mk ?_,Seal.mk ?_⟩|((first|refine ⟨leaf,?_⟩|refine Or.inl ⟨leaf,?_⟩|apply Or.inr|refine ⟨_,rfl,?_⟩|refine ⟨_,⟨rfl,rfl⟩,?_⟩|refine ⟨intE .u8,⟨rfl,fun _=>rfl⟩,?_⟩|refine ⟨_,⟨rfl,rfl,leaf⟩,?_⟩);conv=>whnf)|with_reducible assumption|exact leaf|fail)
  all_goals (first | (exact absurd rfl (by assumption)) | (exact absurd Iff.rfl (by assumption)) | (refine ⟨(),⟨⟩,?_⟩;((try refine wF ?_);repeat' (first|exact ⟨⟩|refine ⟨leaf,?_⟩|((conv=>whnf);first|exact ⟨⟩|refine ⟨leaf,?_⟩)))))
theorem eqBind (c : Qd) : CallA S 137 [.agg [.int .i64 c.1, .int .i64 c.2.1, .int .i64 c.2.2.1, .int .i64 c.2.2.2], .agg [.int .i64 c.1, .int .i64 c.2.1, .int .i64 c.2.2.1, .int .i64 c.2.2.2]] ⟨[], 0⟩ (Ret1 (.tt) ⟨[], 0⟩) := by
  refine .ofC hS _ _ _ Tryz.func137 ?_
  conv => whnf
  repeat' (first|refine Seal.mk ?_|(refine wS ?_;(conv=>whnf);fail_if_success show False)|((first|refine opsA_step ?_|refine drawS_go ?_|apply wL (eqSym _ _));conv=>whnf)|(intro _;first|omega|conv=>whnf)|(apply And.intro<;>intro _<;>first|omega|conv=>whnf)|refine ⟨Seal.mk ?_,Seal.mk ?_⟩|((first|refine ⟨leaf,?_⟩|refine Or.inl ⟨leaf,?_⟩|apply Or.inr|refine ⟨_,rfl,?_⟩|refine ⟨_,⟨rfl,rfl⟩,?_⟩|refine ⟨intE .u8,⟨rfl,fun _=>rfl⟩,?_⟩|refine ⟨_,⟨rfl,rfl,leaf⟩,?_⟩);conv=>whnf)|with_reducible assumption|exact leaf|fail)
  all_goals (first | (exact absurd rfl (by assumption)) | (exact absurd Iff.rfl (by assumption)) | (refine ⟨(),⟨⟩,?_⟩;((try refine wF ?_);repeat' (first|exact ⟨⟩|refine ⟨leaf,?_⟩|((conv=>whnf);first|exact ⟨⟩|refine ⟨leaf,?_⟩)))))
theorem eqBindS (xs : List Qd) (hx : xs.length ≤ 1048576) : CallA S 53 [.sl (.loc 0) 4 none xs.length, .sl (.loc 1) 4 none xs.length] ⟨[⟨.loc 0, false, .arr quadE xs⟩, ⟨.loc 1, false, .arr quadE xs⟩], 2⟩ (Ret1 (.tt) ⟨[], 2⟩) := by
  refine .ofC hS _ _ _ Tryz.func53 ?_
  conv => whnf
  repeat' (first|refine Seal.mk ?_|(refine wS ?_;(conv=>whnf);fail_if_success show False)|((first|refine opsA_step ?_|refine drawS_go ?_|refine wD (id:=6) (.quick 0 (.quick 1 (.quick 2 (.quick 4 (.quick 5 (.quick 6 (.stable 3 (.stable 7 (.all (.step 8 (.quick 9 .done))))))))))) [8] (by kernel_rfl) rfl ?_);conv=>whnf)|(intro _;first|omega|conv=>whnf)|(apply And.intro<;>intro _<;>first|omega|conv=>whnf)|refine ⟨Seal.mk ?_,Seal.mk ?_⟩|((first|refine ⟨leaf,?_⟩|refine Or.inl ⟨leaf,?_⟩|apply Or.inr|refine ⟨_,rfl,?_⟩|refine ⟨_,⟨rfl,rfl⟩,?_⟩|refine ⟨intE .u8,⟨rfl,fun _=>rfl⟩,?_⟩|refine ⟨_,⟨rfl,rfl,leaf⟩,?_⟩);conv=>whnf)|with_reducible assumption|exact leaf|fail)
  refine .loop hS (γ := Nat) (fun i => ⟨[(0, .sl (.loc 0) 4 none xs.length), (1, .sl (.loc 1) 4 none xs.length), (5, .int .i64 i)],
    ⟨[⟨.loc 0, false, .arr quadE xs⟩, ⟨.loc 1, false, .arr quadE xs⟩], 2⟩, 27, 2⟩) (fun i => i ≤ xs.length) (fun i => xs.length - i) 0 (by omega) ?_ ?_
  · ((try dsimp only);((try refine wF ?_);repeat' (first|exact ⟨⟩|refine ⟨leaf,?_⟩|((conv=>whnf);first|exact ⟨⟩|refine ⟨leaf,?_⟩))))
  · intro i hi
    conv => whnf
    repeat' (first|refine Seal.mk ?_|(refine wS ?_;(conv=>whnf);fail_if_success show False)|((first|refine opsA_step ?_|refine drawS_go ?_|refine wD (id:=6) (.quick 0 (.quick 1 (.quick 2 (.quick 4 (.quick 5 (.quick 6 (.stable 3 (.stable 7 (.all (.step 8 (.quick 9 .done))))))))))) [8] (by kernel_rfl) rfl ?_|apply wL (eqBind _));conv=>whnf)|(intro _;first|omega|conv=>whnf)|(apply And.intro<;>intro _<;>first|omega|conv=>whnf)|refine ⟨Seal.mk ?_,Seal.mk ?_⟩|((first|refine ⟨leaf,?_⟩|refine Or.inl ⟨leaf,?_⟩|apply Or.inr|refine ⟨_,rfl,?_⟩|refine ⟨_,⟨rfl,rfl⟩,?_⟩|refine ⟨intE .u8,⟨rfl,fun _=>rfl⟩,?_⟩|refine ⟨_,⟨rfl,rfl,leaf⟩,?_⟩);conv=>whnf)|with_reducible assumption|exact leaf|fail)
    all_goals (first | (exact absurd rfl (by assumption)) | (exact absurd Iff.rfl (by assumption)) | (refine ⟨(),⟨⟩,?_⟩;((try refine wF ?_);repeat' (first|exact ⟨⟩|refine ⟨leaf,?_⟩|((conv=>whnf);first|exact ⟨⟩|refine ⟨leaf,?_⟩)))) | (refine ⟨i + 1, ⟨by omega, by omega⟩, ?_⟩; ((try dsimp only);((try refine wF ?_);repeat' (first|exact ⟨⟩|refine ⟨leaf,?_⟩|((conv=>whnf);first|exact ⟨⟩|refine ⟨leaf,?_⟩))))))
theorem szBindS (n : Nat) (left : Int) (hl : -1 ≤ left) (hl' : left ≤ 1048576) : CallA S 46 [.sl (.loc 0) 4 none n, .int .i64 left] ⟨[], 1⟩ (Ret (γ := Int) (fun g => (left - n < 0 → g = -1) ∧ (¬ left - n < 0 → g = left - n)) (fun g => .int .i64 g) fun g => ⟨[], 1⟩) := by
  refine .ofC hS _ _ _ Tryz.func46 ?_
  conv => whnf
  repeat' (first|refine Seal.mk ?_|(refine wS ?_;(conv=>whnf);fail_if_success show False)|((first|refine opsA_step ?_|refine drawS_go ?_);conv=>whnf)|(intro _;first|omega|conv=>whnf)|(apply And.intro<;>intro _<;>first|omega|conv=>whnf)|refine ⟨Seal.mk ?_,Seal.mk ?_⟩|((first|refine ⟨leaf,?_⟩|refine Or.inl ⟨leaf,?_⟩|apply Or.inr|refine ⟨_,rfl,?_⟩|refine ⟨_,⟨rfl,rfl⟩,?_⟩|refine ⟨intE .u8,⟨rfl,fun _=>rfl⟩,?_⟩|refine ⟨_,⟨rfl,rfl,leaf⟩,?_⟩);conv=>whnf)|with_reducible assumption|exact leaf|fail)
  all_goals (first | (refine ⟨-1, ⟨by omega, by omega⟩, ?_⟩; ((try refine wF ?_);repeat' (first|exact ⟨⟩|refine ⟨leaf,?_⟩|((conv=>whnf);first|exact ⟨⟩|refine ⟨leaf,?_⟩)))) | (refine ⟨left - n, ⟨by omega, by omega⟩, ?_⟩; ((try refine wF ?_);repeat' (first|exact ⟨⟩|refine ⟨leaf,?_⟩|((conv=>whnf);first|exact ⟨⟩|refine ⟨leaf,?_⟩)))))
theorem eqStringS (xs : List (List Int)) (hx : xs.length ≤ 1048576) : CallA S 54 [.sl (.loc 0) 1 none xs.length, .sl (.loc 1) 1 none xs.length] ⟨[⟨.loc 0, false, .arr strE xs⟩, ⟨.loc 1, false, .arr strE xs⟩], 2⟩ (Ret1 (.tt) ⟨[], 2⟩) := by
  refine .ofC hS _ _ _ Tryz.func54 ?_
  conv => whnf
  repeat' (first|refine Seal.mk ?_|(refine wS ?_;(conv=>whnf);fail_if_success show False)|((first|refine opsA_step ?_|refine drawS_go ?_|refine wD (id:=6) (.quick 0 (.quick 1 (.quick 2 (.quick 4 (.quick 5 (.quick 6 (.stable 3 (.stable 7 (.quick 8 .done))))))))) [] (by kernel_rfl) rfl ?_);conv=>whnf)|(intro _;first|omega|conv=>whnf)|(apply And.intro<;>intro _<;>first|omega|conv=>whnf)|refine ⟨Seal.mk ?_,Seal.mk ?_⟩|((first|refine ⟨leaf,?_⟩|refine Or.inl ⟨leaf,?_⟩|apply Or.inr|refine ⟨_,rfl,?_⟩|refine ⟨_,⟨rfl,rfl⟩,?_⟩|refine ⟨intE .u8,⟨rfl,fun _=>rfl⟩,?_⟩|refine ⟨_,⟨rfl,rfl,leaf⟩,?_⟩);conv=>whnf)|with_reducible assumption|exact leaf|fail)
  refine .loop hS (γ := Nat) (fun i => ⟨[(0, .sl (.loc 0) 1 none xs.length), (1, .sl (.loc 1) 1 none xs.length), (5, .int .i64 i)],
    ⟨[⟨.loc 0, false, .arr strE xs⟩, ⟨.loc 1, false, .arr strE xs⟩], 2⟩, 26, 2⟩) (fun i => i ≤ xs.length) (fun i => xs.length - i) 0 (by omega) ?_ ?_
  · ((try dsimp only);((try refine wF ?_);repeat' (first|exact ⟨⟩|refine ⟨leaf,?_⟩|((conv=>whnf);first|exact ⟨⟩|refine ⟨leaf,?_⟩))))
  · intro i hi
    conv => whnf
    repeat' (first|refine Seal.mk ?_|(refine wS ?_;(conv=>whnf);fail_if_success show False)|((first|refine opsA_step ?_|refine drawS_go ?_|refine wD (id:=6) (.quick 0 (.quick 1 (.quick 2 (.quick 4 (.quick 5 (.quick 6 (.stable 3 (.stable 7 (.quick 8 .done))))))))) [] (by kernel_rfl) rfl ?_);conv=>whnf)|(intro _;first|omega|conv=>whnf)|(apply And.intro<;>intro _<;>first|omega|conv=>whnf)|refine ⟨Seal.mk ?_,Seal.mk ?_⟩|((first|refine ⟨leaf,?_⟩|refine Or.inl ⟨leaf,?_⟩|apply Or.inr|refine ⟨_,rfl,?_⟩|refine ⟨_,⟨rfl,rfl⟩,?_⟩|refine ⟨intE .u8,⟨rfl,fun _=>rfl⟩,?_⟩|refine ⟨_,⟨rfl,rfl,leaf⟩,?_⟩);conv=>whnf)|with_reducible assumption|exact leaf|fail)
    all_goals (first | (exact absurd rfl (by assumption)) | (exact absurd Iff.rfl (by assumption)) | (refine ⟨(),⟨⟩,?_⟩;((try refine wF ?_);repeat' (first|exact ⟨⟩|refine ⟨leaf,?_⟩|((conv=>whnf);first|exact ⟨⟩|refine ⟨leaf,?_⟩)))) | (refine ⟨i + 1, ⟨by omega, by omega⟩, ?_⟩; ((try dsimp only);((try refine wF ?_);repeat' (first|exact ⟨⟩|refine ⟨leaf,?_⟩|((conv=>whnf);first|exact ⟨⟩|refine ⟨leaf,?_⟩))))))
end Go.Mu
