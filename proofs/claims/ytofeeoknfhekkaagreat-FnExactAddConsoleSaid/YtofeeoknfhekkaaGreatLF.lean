/- The law's own functions: marks in flat slices. -/
import Derived.Test.YtofeeoknfhekkaaGreatLA
set_option linter.unusedSimpArgs false
set_option linter.unusedVariables false
set_option linter.constructorNameAsVariable false
namespace Go.Mu
open Go Go.Vm Go.RowKit Go.Proofs
attribute [local irreducible] wpA opsA stillA drawA drawS
set_option maxRecDepth 20000
set_option maxHeartbeats 4000000
theorem leafL3 {P : Prop} (h : P := by
  first
  | exact leaf
  | exact PreC.of_eq (mks_set (by omega))
  | exact PreC.of_eq ((set_two (by simp [mks_len]; omega) _ _ _ _).trans (mks_set (f := mkP n) (by omega)))
  | exact PreC.of_eq ((set_four (by simp [mks_len]; omega) _ _ _ _ _).trans (mks_set (f := mkQ n) (by omega)))
  | (simp [mks_len]; omega)
  | fail) : P := h
theorem markInt64S (xs : List Int) (hx : xs.length ≤ 1048576) (n : Int) (hn : 0 ≤ n) (hn' : n ≤ 549755813888) : CallA S 127 [.sl (.loc 0) 1 none xs.length, .int .i64 n] ⟨[⟨.loc 0, true, .arr (intE .i64) xs⟩], 1⟩ (Ret1 (.int .i64 (n + xs.length)) ⟨[⟨.loc 0, true, .arr (intE .i64) (mks (mkI n) xs.length)⟩], 1⟩) := by
  refine .ofC hS _ _ _ Tryz.func127 ?_
  conv => whnf
  repeat' (first|refine Seal.mk ?_|(refine wS ?_;(conv=>whnf);fail_if_success show False)|((first|refine opsA_step ?_|refine drawS_go ?_);conv=>whnf)|(intro _;first|omega|conv=>whnf)|(apply And.intro<;>intro _<;>first|omega|conv=>whnf)|refine ⟨Seal.mk ?_,Seal.mk ?_⟩|((first|(apply And.intro;focus exact leafL3)|(apply Or.inl;apply And.intro;focus exact leafL3)|apply Or.inr|refine ⟨_,rfl,?_⟩|refine ⟨_,⟨rfl,rfl⟩,?_⟩|refine ⟨intE .u8,⟨rfl,fun _=>rfl⟩,?_⟩|(refine Exists.intro _ (And.intro (And.intro rfl (And.intro rfl ?_)) ?_);focus exact leafL3));conv=>whnf)|with_reducible assumption|((fail_if_success refine Exists.intro ?_ ?_);exact leafL3)|fail)
  refine .loop hS (γ := Nat) (fun i => ⟨[(0, .sl (.loc 0) 1 none xs.length), (1, .int .i64 (n + i)), (5, .int .i64 i)],
    ⟨[⟨.loc 0, true, .arr (intE .i64) (mks (mkI n) i ++ xs.drop i)⟩], 1⟩, 19, 1⟩) (fun i => i ≤ xs.length) (fun i => xs.length - i) 0 (by omega) ?_ ?_
  · have h0 : mks (mkI n) 0 ++ xs.drop 0 = xs := by simp [mks]
    have h1 := h0.symm
    ((try refine wF ?_);repeat' (first|exact ⟨⟩|(apply And.intro;focus exact leafL3)|((conv=>whnf);first|exact ⟨⟩|(apply And.intro;focus exact leafL3))|fail))
  · intro i hi
    have hl : (mks (mkI n) i ++ xs.drop i).length = xs.length := by simp [mks_len]; omega
    conv => whnf
    repeat' (first|refine Seal.mk ?_|(refine wS ?_;(conv=>whnf);fail_if_success show False)|((first|refine opsA_step ?_|refine drawS_go ?_);conv=>whnf)|(intro _;first|omega|conv=>whnf)|(apply And.intro<;>intro _<;>first|omega|conv=>whnf)|refine ⟨Seal.mk ?_,Seal.mk ?_⟩|((first|(apply And.intro;focus exact leafL3)|(apply Or.inl;apply And.intro;focus exact leafL3)|apply Or.inr|refine ⟨_,rfl,?_⟩|refine ⟨_,⟨rfl,rfl⟩,?_⟩|refine ⟨intE .u8,⟨rfl,fun _=>rfl⟩,?_⟩|(refine Exists.intro _ (And.intro (And.intro rfl (And.intro rfl ?_)) ?_);focus exact leafL3));conv=>whnf)|with_reducible assumption|((fail_if_success refine Exists.intro ?_ ?_);exact leafL3)|fail)
    · refine ⟨i + 1, ⟨by omega, by omega⟩, ?_⟩
      ((try dsimp only);((try refine wF ?_);repeat' (first|exact ⟨⟩|(apply And.intro;focus exact leafL3)|((conv=>whnf);first|exact ⟨⟩|(apply And.intro;focus exact leafL3))|fail)))
    · have hi : i = xs.length := by omega
      subst hi
      have h0 : mks (mkI n) xs.length ++ xs.drop xs.length = mks (mkI n) xs.length := by simp
      (refine ⟨(),⟨⟩,?_⟩;((try refine wF ?_);repeat' (first|exact ⟨⟩|(apply And.intro;focus exact leafL3)|((conv=>whnf);first|exact ⟨⟩|(apply And.intro;focus exact leafL3))|fail)))
theorem heldInt64S (n : Int) (k : Nat) (hk : k ≤ 1048576) (hn : 0 ≤ n) (hn' : n ≤ 549755813888) : CallA S 178 [.sl (.loc 0) 1 none k, .int .i64 n] ⟨[⟨.loc 0, false, .arr (intE .i64) (mks (mkI n) k)⟩], 1⟩ (Ret1 (.int .i64 (n + k)) ⟨[], 1⟩) := by
  refine .ofC hS _ _ _ Tryz.func178 ?_
  conv => whnf
  repeat' (first|refine Seal.mk ?_|(refine wS ?_;(conv=>whnf);fail_if_success show False)|((first|refine opsA_step ?_|refine drawS_go ?_);conv=>whnf)|(intro _;first|omega|conv=>whnf)|(apply And.intro<;>intro _<;>first|omega|conv=>whnf)|refine ⟨Seal.mk ?_,Seal.mk ?_⟩|((first|(apply And.intro;focus exact leafL3)|(apply Or.inl;apply And.intro;focus exact leafL3)|apply Or.inr|refine ⟨_,rfl,?_⟩|refine ⟨_,⟨rfl,rfl⟩,?_⟩|refine ⟨intE .u8,⟨rfl,fun _=>rfl⟩,?_⟩|(refine Exists.intro _ (And.intro (And.intro rfl (And.intro rfl ?_)) ?_);focus exact leafL3));conv=>whnf)|with_reducible assumption|((fail_if_success refine Exists.intro ?_ ?_);exact leafL3)|fail)
  refine .loop hS (γ := Nat) (fun i => ⟨[(0, .sl (.loc 0) 1 none k), (1, .int .i64 (n + i)), (5, .int .i64 i)],
    ⟨[⟨.loc 0, false, .arr (intE .i64) (mks (mkI n) k)⟩], 1⟩, 21, 1⟩) (fun i => i ≤ k) (fun i => k - i) 0 (by omega) ?_ ?_
  · ((try refine wF ?_);repeat' (first|exact ⟨⟩|(apply And.intro;focus exact leafL3)|((conv=>whnf);first|exact ⟨⟩|(apply And.intro;focus exact leafL3))|fail))
  · intro i hi
    have hl : (mks (mkI n) k).length = k := mks_len _ _
    have hm : i < k → (mks (mkI n) k).getD (i : Int).toNat (intE .i64).d = n + i := fun h => mks_get h _
    conv => whnf
    repeat' (first|refine Seal.mk ?_|(refine wS ?_;(conv=>whnf);fail_if_success show False)|((first|refine opsA_step ?_|refine drawS_go ?_);conv=>whnf)|(intro _;first|omega|conv=>whnf)|(apply And.intro<;>intro _<;>first|omega|conv=>whnf)|refine ⟨Seal.mk ?_,Seal.mk ?_⟩|((first|(apply And.intro;focus exact leafL3)|(apply Or.inl;apply And.intro;focus exact leafL3)|apply Or.inr|refine ⟨_,rfl,?_⟩|refine ⟨_,⟨rfl,rfl⟩,?_⟩|refine ⟨intE .u8,⟨rfl,fun _=>rfl⟩,?_⟩|(refine Exists.intro _ (And.intro (And.intro rfl (And.intro rfl ?_)) ?_);focus exact leafL3));conv=>whnf)|with_reducible assumption|((fail_if_success refine Exists.intro ?_ ?_);exact leafL3)|fail)
    all_goals (first
      | (exact absurd (hm (by omega)) (by assumption))
      | (refine ⟨i + 1, ⟨by omega, by omega⟩, ?_⟩; ((try refine wF ?_);repeat' (first|exact ⟨⟩|(apply And.intro;focus exact leafL3)|((conv=>whnf);first|exact ⟨⟩|(apply And.intro;focus exact leafL3))|fail)))
      | (have hi : i = k := by omega
         subst hi
         (refine ⟨(),⟨⟩,?_⟩;((try refine wF ?_);repeat' (first|exact ⟨⟩|(apply And.intro;focus exact leafL3)|((conv=>whnf);first|exact ⟨⟩|(apply And.intro;focus exact leafL3))|fail)))))
theorem markCellS (xs : List (Int × Int)) (hx : xs.length ≤ 1048576) (n : Int) (hn : 0 ≤ n) (hn' : n ≤ 549755813888) : CallA S 128 [.sl (.loc 0) 2 none xs.length, .int .i64 n] ⟨[⟨.loc 0, true, .arr pairE xs⟩], 1⟩ (Ret1 (.int .i64 (n + 2 * xs.length)) ⟨[⟨.loc 0, true, .arr pairE (mks (mkP n) xs.length)⟩], 1⟩) := by
  refine .ofC hS _ _ _ Tryz.func128 ?_
  conv => whnf
  repeat' (first|refine Seal.mk ?_|(refine wS ?_;(conv=>whnf);fail_if_success show False)|((first|refine opsA_step ?_|refine drawS_go ?_);conv=>whnf)|(intro _;first|omega|conv=>whnf)|(apply And.intro<;>intro _<;>first|omega|conv=>whnf)|refine ⟨Seal.mk ?_,Seal.mk ?_⟩|((first|(apply And.intro;focus exact leafL3)|(apply Or.inl;apply And.intro;focus exact leafL3)|apply Or.inr|refine ⟨_,rfl,?_⟩|refine ⟨_,⟨rfl,rfl⟩,?_⟩|refine ⟨intE .u8,⟨rfl,fun _=>rfl⟩,?_⟩|(refine Exists.intro _ (And.intro (And.intro rfl (And.intro rfl ?_)) ?_);focus exact leafL3));conv=>whnf)|with_reducible assumption|((fail_if_success refine Exists.intro ?_ ?_);exact leafL3)|fail)
  refine .loop hS (γ := Nat) (fun i => ⟨[(0, .sl (.loc 0) 2 none xs.length), (1, .int .i64 (n + 2 * i)), (5, .int .i64 i)],
    ⟨[⟨.loc 0, true, .arr pairE (mks (mkP n) i ++ xs.drop i)⟩], 1⟩, 27, 1⟩) (fun i => i ≤ xs.length) (fun i => xs.length - i) 0 (by omega) ?_ ?_
  · have h0 : mks (mkP n) 0 ++ xs.drop 0 = xs := by simp [mks]
    have h1 := h0.symm
    ((try refine wF ?_);repeat' (first|exact ⟨⟩|(apply And.intro;focus exact leafL3)|((conv=>whnf);first|exact ⟨⟩|(apply And.intro;focus exact leafL3))|fail))
  · intro i hi
    have hl : (mks (mkP n) i ++ xs.drop i).length = xs.length := by simp [mks_len]; omega
    conv => whnf
    repeat' (first|refine Seal.mk ?_|(refine wS ?_;(conv=>whnf);fail_if_success show False)|((first|refine opsA_step ?_|refine drawS_go ?_);conv=>whnf)|(intro _;first|omega|conv=>whnf)|(apply And.intro<;>intro _<;>first|omega|conv=>whnf)|refine ⟨Seal.mk ?_,Seal.mk ?_⟩|((first|(apply And.intro;focus exact leafL3)|(apply Or.inl;apply And.intro;focus exact leafL3)|apply Or.inr|refine ⟨_,rfl,?_⟩|refine ⟨_,⟨rfl,rfl⟩,?_⟩|refine ⟨intE .u8,⟨rfl,fun _=>rfl⟩,?_⟩|(refine Exists.intro _ (And.intro (And.intro rfl (And.intro rfl ?_)) ?_);focus exact leafL3));conv=>whnf)|with_reducible assumption|((fail_if_success refine Exists.intro ?_ ?_);exact leafL3)|fail)
    · refine ⟨i + 1, ⟨by omega, by omega⟩, ?_⟩
      ((try dsimp only);((try refine wF ?_);repeat' (first|exact ⟨⟩|(apply And.intro;focus exact leafL3)|((conv=>whnf);first|exact ⟨⟩|(apply And.intro;focus exact leafL3))|fail)))
    · have hi : i = xs.length := by omega
      subst hi
      have h0 : mks (mkP n) xs.length ++ xs.drop xs.length = mks (mkP n) xs.length := by simp
      (refine ⟨(),⟨⟩,?_⟩;((try refine wF ?_);repeat' (first|exact ⟨⟩|(apply And.intro;focus exact leafL3)|((conv=>whnf);first|exact ⟨⟩|(apply And.intro;focus exact leafL3))|fail)))
theorem heldCellS (n : Int) (k : Nat) (hk : k ≤ 1048576) (hn : 0 ≤ n) (hn' : n ≤ 549755813888) : CallA S 179 [.sl (.loc 0) 2 none k, .int .i64 n] ⟨[⟨.loc 0, false, .arr pairE (mks (mkP n) k)⟩], 1⟩ (Ret1 (.int .i64 (n + 2 * k)) ⟨[], 1⟩) := by
  refine .ofC hS _ _ _ Tryz.func179 ?_
  conv => whnf
  repeat' (first|refine Seal.mk ?_|(refine wS ?_;(conv=>whnf);fail_if_success show False)|((first|refine opsA_step ?_|refine drawS_go ?_);conv=>whnf)|(intro _;first|omega|conv=>whnf)|(apply And.intro<;>intro _<;>first|omega|conv=>whnf)|refine ⟨Seal.mk ?_,Seal.mk ?_⟩|((first|(apply And.intro;focus exact leafL3)|(apply Or.inl;apply And.intro;focus exact leafL3)|apply Or.inr|refine ⟨_,rfl,?_⟩|refine ⟨_,⟨rfl,rfl⟩,?_⟩|refine ⟨intE .u8,⟨rfl,fun _=>rfl⟩,?_⟩|(refine Exists.intro _ (And.intro (And.intro rfl (And.intro rfl ?_)) ?_);focus exact leafL3));conv=>whnf)|with_reducible assumption|((fail_if_success refine Exists.intro ?_ ?_);exact leafL3)|fail)
  refine .loop hS (γ := Nat) (fun i => ⟨[(0, .sl (.loc 0) 2 none k), (1, .int .i64 (n + 2 * i)), (5, .int .i64 i)],
    ⟨[⟨.loc 0, false, .arr pairE (mks (mkP n) k)⟩], 1⟩, 31, 1⟩) (fun i => i ≤ k) (fun i => k - i) 0 (by omega) ?_ ?_
  · ((try refine wF ?_);repeat' (first|exact ⟨⟩|(apply And.intro;focus exact leafL3)|((conv=>whnf);first|exact ⟨⟩|(apply And.intro;focus exact leafL3))|fail))
  · intro i hi
    have hl : (mks (mkP n) k).length = k := mks_len _ _
    have hm1 : i < k → ((mks (mkP n) k).getD (i : Int).toNat pairE.d).1 = n + 2 * i := fun h => by rw [mks_get h]
    have hm2 : i < k → ((mks (mkP n) k).getD (i : Int).toNat pairE.d).2 = n + 2 * i + 1 := fun h => by rw [mks_get h]
    conv => whnf
    repeat' (first|refine Seal.mk ?_|(refine wS ?_;(conv=>whnf);fail_if_success show False)|((first|refine opsA_step ?_|refine drawS_go ?_);conv=>whnf)|(intro _;first|omega|conv=>whnf)|(apply And.intro<;>intro _<;>first|omega|conv=>whnf)|refine ⟨Seal.mk ?_,Seal.mk ?_⟩|((first|(apply And.intro;focus exact leafL3)|(apply Or.inl;apply And.intro;focus exact leafL3)|apply Or.inr|refine ⟨_,rfl,?_⟩|refine ⟨_,⟨rfl,rfl⟩,?_⟩|refine ⟨intE .u8,⟨rfl,fun _=>rfl⟩,?_⟩|(refine Exists.intro _ (And.intro (And.intro rfl (And.intro rfl ?_)) ?_);focus exact leafL3));conv=>whnf)|with_reducible assumption|((fail_if_success refine Exists.intro ?_ ?_);exact leafL3)|fail)
    all_goals (first
      | (exact absurd (hm (by omega)) (by assumption))
      | (refine ⟨i + 1, ⟨by omega, by omega⟩, ?_⟩; ((try refine wF ?_);repeat' (first|exact ⟨⟩|(apply And.intro;focus exact leafL3)|((conv=>whnf);first|exact ⟨⟩|(apply And.intro;focus exact leafL3))|fail)))
      | (have hi : i = k := by omega
         subst hi
         (refine ⟨(),⟨⟩,?_⟩;((try refine wF ?_);repeat' (first|exact ⟨⟩|(apply And.intro;focus exact leafL3)|((conv=>whnf);first|exact ⟨⟩|(apply And.intro;focus exact leafL3))|fail)))))
theorem markBoolS (xs : List Bool) (hx : xs.length ≤ 1048576) (n : Int) (hn : 0 ≤ n) (hn' : n ≤ 549755813888) : CallA S 69 [.sl (.loc 0) 1 none xs.length, .int .i64 n] ⟨[⟨.loc 0, true, .arr boolE xs⟩], 1⟩ (Ret1 (.int .i64 (n + xs.length)) ⟨[⟨.loc 0, true, .arr boolE (mks (mkB n) xs.length)⟩], 1⟩) := by
  refine .ofC hS _ _ _ Tryz.func69 ?_
  conv => whnf
  repeat' (first|refine Seal.mk ?_|(refine wS ?_;(conv=>whnf);fail_if_success show False)|((first|refine opsA_step ?_|refine drawS_go ?_);conv=>whnf)|(intro _;first|omega|conv=>whnf)|(apply And.intro<;>intro _<;>first|omega|conv=>whnf)|refine ⟨Seal.mk ?_,Seal.mk ?_⟩|((first|(apply And.intro;focus exact leafL3)|(apply Or.inl;apply And.intro;focus exact leafL3)|apply Or.inr|refine ⟨_,rfl,?_⟩|refine ⟨_,⟨rfl,rfl⟩,?_⟩|refine ⟨intE .u8,⟨rfl,fun _=>rfl⟩,?_⟩|(refine Exists.intro _ (And.intro (And.intro rfl (And.intro rfl ?_)) ?_);focus exact leafL3));conv=>whnf)|with_reducible assumption|((fail_if_success refine Exists.intro ?_ ?_);exact leafL3)|fail)
  refine .loop hS (γ := Nat) (fun i => ⟨[(0, .sl (.loc 0) 1 none xs.length), (1, .int .i64 (n + i)), (5, .int .i64 i)],
    ⟨[⟨.loc 0, true, .arr boolE (mks (mkB n) i ++ xs.drop i)⟩], 1⟩, 21, 1⟩) (fun i => i ≤ xs.length) (fun i => xs.length - i) 0 (by omega) ?_ ?_
  · have h0 : mks (mkB n) 0 ++ xs.drop 0 = xs := by simp [mks]
    have h1 := h0.symm
    ((try refine wF ?_);repeat' (first|exact ⟨⟩|(apply And.intro;focus exact leafL3)|((conv=>whnf);first|exact ⟨⟩|(apply And.intro;focus exact leafL3))|fail))
  · intro i hi
    have hl : (mks (mkB n) i ++ xs.drop i).length = xs.length := by simp [mks_len]; omega
    conv => whnf
    repeat' (first|refine Seal.mk ?_|(refine wS ?_;(conv=>whnf);fail_if_success show False)|((first|refine opsA_step ?_|refine drawS_go ?_);conv=>whnf)|(intro _;first|omega|conv=>whnf)|(apply And.intro<;>intro _<;>first|omega|conv=>whnf)|refine ⟨Seal.mk ?_,Seal.mk ?_⟩|((first|(apply And.intro;focus exact leafL3)|(apply Or.inl;apply And.intro;focus exact leafL3)|apply Or.inr|refine ⟨_,rfl,?_⟩|refine ⟨_,⟨rfl,rfl⟩,?_⟩|refine ⟨intE .u8,⟨rfl,fun _=>rfl⟩,?_⟩|(refine Exists.intro _ (And.intro (And.intro rfl (And.intro rfl ?_)) ?_);focus exact leafL3));conv=>whnf)|with_reducible assumption|((fail_if_success refine Exists.intro ?_ ?_);exact leafL3)|fail)
    · refine ⟨i + 1, ⟨by omega, by omega⟩, ?_⟩
      ((try dsimp only);((try refine wF ?_);repeat' (first|exact ⟨⟩|(apply And.intro;focus exact leafL3)|((conv=>whnf);first|exact ⟨⟩|(apply And.intro;focus exact leafL3))|fail)))
    · have hi : i = xs.length := by omega
      subst hi
      have h0 : mks (mkB n) xs.length ++ xs.drop xs.length = mks (mkB n) xs.length := by simp
      (refine ⟨(),⟨⟩,?_⟩;((try refine wF ?_);repeat' (first|exact ⟨⟩|(apply And.intro;focus exact leafL3)|((conv=>whnf);first|exact ⟨⟩|(apply And.intro;focus exact leafL3))|fail)))
theorem heldBoolS (n : Int) (k : Nat) (hk : k ≤ 1048576) (hn : 0 ≤ n) (hn' : n ≤ 549755813888) : CallA S 132 [.sl (.loc 0) 1 none k, .int .i64 n] ⟨[⟨.loc 0, false, .arr boolE (mks (mkB n) k)⟩], 1⟩ (Ret1 (.int .i64 (n + k)) ⟨[], 1⟩) := by
  refine .ofC hS _ _ _ Tryz.func132 ?_
  conv => whnf
  repeat' (first|refine Seal.mk ?_|(refine wS ?_;(conv=>whnf);fail_if_success show False)|((first|refine opsA_step ?_|refine drawS_go ?_);conv=>whnf)|(intro _;first|omega|conv=>whnf)|(apply And.intro<;>intro _<;>first|omega|conv=>whnf)|refine ⟨Seal.mk ?_,Seal.mk ?_⟩|((first|(apply And.intro;focus exact leafL3)|(apply Or.inl;apply And.intro;focus exact leafL3)|apply Or.inr|refine ⟨_,rfl,?_⟩|refine ⟨_,⟨rfl,rfl⟩,?_⟩|refine ⟨intE .u8,⟨rfl,fun _=>rfl⟩,?_⟩|(refine Exists.intro _ (And.intro (And.intro rfl (And.intro rfl ?_)) ?_);focus exact leafL3));conv=>whnf)|with_reducible assumption|((fail_if_success refine Exists.intro ?_ ?_);exact leafL3)|fail)
  refine .loop hS (γ := Nat) (fun i => ⟨[(0, .sl (.loc 0) 1 none k), (1, .int .i64 (n + i)), (5, .int .i64 i)],
    ⟨[⟨.loc 0, false, .arr boolE (mks (mkB n) k)⟩], 1⟩, 23, 1⟩) (fun i => i ≤ k) (fun i => k - i) 0 (by omega) ?_ ?_
  · ((try refine wF ?_);repeat' (first|exact ⟨⟩|(apply And.intro;focus exact leafL3)|((conv=>whnf);first|exact ⟨⟩|(apply And.intro;focus exact leafL3))|fail))
  · intro i hi
    have hl : (mks (mkB n) k).length = k := mks_len _ _
    have hm : i < k → ((mks (mkB n) k).getD (i : Int).toNat boolE.d = true ↔ (n + i) % 3 = 0) := fun h => by rw [mks_get h]; exact pb_iff _
    conv => whnf
    repeat' (first|refine Seal.mk ?_|(refine wS ?_;(conv=>whnf);fail_if_success show False)|((first|refine opsA_step ?_|refine drawS_go ?_);conv=>whnf)|(intro _;first|omega|conv=>whnf)|(apply And.intro<;>intro _<;>first|omega|conv=>whnf)|refine ⟨Seal.mk ?_,Seal.mk ?_⟩|((first|(apply And.intro;focus exact leafL3)|(apply Or.inl;apply And.intro;focus exact leafL3)|apply Or.inr|refine ⟨_,rfl,?_⟩|refine ⟨_,⟨rfl,rfl⟩,?_⟩|refine ⟨intE .u8,⟨rfl,fun _=>rfl⟩,?_⟩|(refine Exists.intro _ (And.intro (And.intro rfl (And.intro rfl ?_)) ?_);focus exact leafL3));conv=>whnf)|with_reducible assumption|((fail_if_success refine Exists.intro ?_ ?_);exact leafL3)|fail)
    all_goals (first
      | (exact absurd (hm (by omega)) (by assumption))
      | (refine ⟨i + 1, ⟨by omega, by omega⟩, ?_⟩; ((try refine wF ?_);repeat' (first|exact ⟨⟩|(apply And.intro;focus exact leafL3)|((conv=>whnf);first|exact ⟨⟩|(apply And.intro;focus exact leafL3))|fail)))
      | (have hi : i = k := by omega
         subst hi
         (refine ⟨(),⟨⟩,?_⟩;((try refine wF ?_);repeat' (first|exact ⟨⟩|(apply And.intro;focus exact leafL3)|((conv=>whnf);first|exact ⟨⟩|(apply And.intro;focus exact leafL3))|fail)))))
theorem markByteS (xs : List Int) (hx : xs.length ≤ 1048576) (n : Int) (hn : 0 ≤ n) (hn' : n ≤ 549755813888) : CallA S 72 [.sl (.loc 0) 1 none xs.length, .int .i64 n] ⟨[⟨.loc 0, true, .arr (intE .u8) xs⟩], 1⟩ (Ret1 (.int .i64 (n + xs.length)) ⟨[⟨.loc 0, true, .arr (intE .u8) (mks (mkU n) xs.length)⟩], 1⟩) := by
  refine .ofC hS _ _ _ Tryz.func72 ?_
  conv => whnf
  repeat' (first|refine Seal.mk ?_|(refine wS ?_;(conv=>whnf);fail_if_success show False)|((first|refine opsA_step ?_|refine drawS_go ?_);conv=>whnf)|(intro _;first|omega|conv=>whnf)|(apply And.intro<;>intro _<;>first|omega|conv=>whnf)|refine ⟨Seal.mk ?_,Seal.mk ?_⟩|((first|(apply And.intro;focus exact leafL3)|(apply Or.inl;apply And.intro;focus exact leafL3)|apply Or.inr|refine ⟨_,rfl,?_⟩|refine ⟨_,⟨rfl,rfl⟩,?_⟩|refine ⟨intE .u8,⟨rfl,fun _=>rfl⟩,?_⟩|(refine Exists.intro _ (And.intro (And.intro rfl (And.intro rfl ?_)) ?_);focus exact leafL3));conv=>whnf)|with_reducible assumption|((fail_if_success refine Exists.intro ?_ ?_);exact leafL3)|fail)
  refine .loop hS (γ := Nat) (fun i => ⟨[(0, .sl (.loc 0) 1 none xs.length), (1, .int .i64 (n + i)), (5, .int .i64 i)],
    ⟨[⟨.loc 0, true, .arr (intE .u8) (mks (mkU n) i ++ xs.drop i)⟩], 1⟩, 20, 1⟩) (fun i => i ≤ xs.length) (fun i => xs.length - i) 0 (by omega) ?_ ?_
  · have h0 : mks (mkU n) 0 ++ xs.drop 0 = xs := by simp [mks]
    have h1 := h0.symm
    ((try refine wF ?_);repeat' (first|exact ⟨⟩|(apply And.intro;focus exact leafL3)|((conv=>whnf);first|exact ⟨⟩|(apply And.intro;focus exact leafL3))|fail))
  · intro i hi
    have hl : (mks (mkU n) i ++ xs.drop i).length = xs.length := by simp [mks_len]; omega
    conv => whnf
    repeat' (first|refine Seal.mk ?_|(refine wS ?_;(conv=>whnf);fail_if_success show False)|((first|refine opsA_step ?_|refine drawS_go ?_);conv=>whnf)|(intro _;first|omega|conv=>whnf)|(apply And.intro<;>intro _<;>first|omega|conv=>whnf)|refine ⟨Seal.mk ?_,Seal.mk ?_⟩|((first|(apply And.intro;focus exact leafL3)|(apply Or.inl;apply And.intro;focus exact leafL3)|apply Or.inr|refine ⟨_,rfl,?_⟩|refine ⟨_,⟨rfl,rfl⟩,?_⟩|refine ⟨intE .u8,⟨rfl,fun _=>rfl⟩,?_⟩|(refine Exists.intro _ (And.intro (And.intro rfl (And.intro rfl ?_)) ?_);focus exact leafL3));conv=>whnf)|with_reducible assumption|((fail_if_success refine Exists.intro ?_ ?_);exact leafL3)|fail)
    · refine ⟨i + 1, ⟨by omega, by omega⟩, ?_⟩
      ((try dsimp only);((try refine wF ?_);repeat' (first|exact ⟨⟩|(apply And.intro;focus exact leafL3)|((conv=>whnf);first|exact ⟨⟩|(apply And.intro;focus exact leafL3))|fail)))
    · have hi : i = xs.length := by omega
      subst hi
      have h0 : mks (mkU n) xs.length ++ xs.drop xs.length = mks (mkU n) xs.length := by simp
      (refine ⟨(),⟨⟩,?_⟩;((try refine wF ?_);repeat' (first|exact ⟨⟩|(apply And.intro;focus exact leafL3)|((conv=>whnf);first|exact ⟨⟩|(apply And.intro;focus exact leafL3))|fail)))
theorem heldByteS (n : Int) (k : Nat) (hk : k ≤ 1048576) (hn : 0 ≤ n) (hn' : n ≤ 549755813888) : CallA S 73 [.sl (.loc 0) 1 none k, .int .i64 n] ⟨[⟨.loc 0, false, .arr (intE .u8) (mks (mkU n) k)⟩], 1⟩ (Ret1 (.int .i64 (n + k)) ⟨[], 1⟩) := by
  refine .ofC hS _ _ _ Tryz.func73 ?_
  conv => whnf
  repeat' (first|refine Seal.mk ?_|(refine wS ?_;(conv=>whnf);fail_if_success show False)|((first|refine opsA_step ?_|refine drawS_go ?_);conv=>whnf)|(intro _;first|omega|conv=>whnf)|(apply And.intro<;>intro _<;>first|omega|conv=>whnf)|refine ⟨Seal.mk ?_,Seal.mk ?_⟩|((first|(apply And.intro;focus exact leafL3)|(apply Or.inl;apply And.intro;focus exact leafL3)|apply Or.inr|refine ⟨_,rfl,?_⟩|refine ⟨_,⟨rfl,rfl⟩,?_⟩|refine ⟨intE .u8,⟨rfl,fun _=>rfl⟩,?_⟩|(refine Exists.intro _ (And.intro (And.intro rfl (And.intro rfl ?_)) ?_);focus exact leafL3));conv=>whnf)|with_reducible assumption|((fail_if_success refine Exists.intro ?_ ?_);exact leafL3)|fail)
  refine .loop hS (γ := Nat) (fun i => ⟨[(0, .sl (.loc 0) 1 none k), (1, .int .i64 (n + i)), (5, .int .i64 i)],
    ⟨[⟨.loc 0, false, .arr (intE .u8) (mks (mkU n) k)⟩], 1⟩, 22, 1⟩) (fun i => i ≤ k) (fun i => k - i) 0 (by omega) ?_ ?_
  · ((try refine wF ?_);repeat' (first|exact ⟨⟩|(apply And.intro;focus exact leafL3)|((conv=>whnf);first|exact ⟨⟩|(apply And.intro;focus exact leafL3))|fail))
  · intro i hi
    have hl : (mks (mkU n) k).length = k := mks_len _ _
    have hm : i < k → (mks (mkU n) k).getD (i : Int).toNat (intE .u8).d = IntKind.u8.wrap (n + i) := fun h => mks_get h _
    conv => whnf
    repeat' (first|refine Seal.mk ?_|(refine wS ?_;(conv=>whnf);fail_if_success show False)|((first|refine opsA_step ?_|refine drawS_go ?_);conv=>whnf)|(intro _;first|omega|conv=>whnf)|(apply And.intro<;>intro _<;>first|omega|conv=>whnf)|refine ⟨Seal.mk ?_,Seal.mk ?_⟩|((first|(apply And.intro;focus exact leafL3)|(apply Or.inl;apply And.intro;focus exact leafL3)|apply Or.inr|refine ⟨_,rfl,?_⟩|refine ⟨_,⟨rfl,rfl⟩,?_⟩|refine ⟨intE .u8,⟨rfl,fun _=>rfl⟩,?_⟩|(refine Exists.intro _ (And.intro (And.intro rfl (And.intro rfl ?_)) ?_);focus exact leafL3));conv=>whnf)|with_reducible assumption|((fail_if_success refine Exists.intro ?_ ?_);exact leafL3)|fail)
    all_goals (first
      | (exact absurd (hm (by omega)) (by assumption))
      | (refine ⟨i + 1, ⟨by omega, by omega⟩, ?_⟩; ((try refine wF ?_);repeat' (first|exact ⟨⟩|(apply And.intro;focus exact leafL3)|((conv=>whnf);first|exact ⟨⟩|(apply And.intro;focus exact leafL3))|fail)))
      | (have hi : i = k := by omega
         subst hi
         (refine ⟨(),⟨⟩,?_⟩;((try refine wF ?_);repeat' (first|exact ⟨⟩|(apply And.intro;focus exact leafL3)|((conv=>whnf);first|exact ⟨⟩|(apply And.intro;focus exact leafL3))|fail)))))
theorem markHoldS (xs : List (Int × Int)) (hx : xs.length ≤ 1048576) (n : Int) (hn : 0 ≤ n) (hn' : n ≤ 549755813888) : CallA S 130 [.sl (.loc 0) 2 none xs.length, .int .i64 n] ⟨[⟨.loc 0, true, .arr pairE xs⟩], 1⟩ (Ret1 (.int .i64 (n + 2 * xs.length)) ⟨[⟨.loc 0, true, .arr pairE (mks (mkP n) xs.length)⟩], 1⟩) := by
  refine .ofC hS _ _ _ Tryz.func130 ?_
  conv => whnf
  repeat' (first|refine Seal.mk ?_|(refine wS ?_;(conv=>whnf);fail_if_success show False)|((first|refine opsA_step ?_|refine drawS_go ?_);conv=>whnf)|(intro _;first|omega|conv=>whnf)|(apply And.intro<;>intro _<;>first|omega|conv=>whnf)|refine ⟨Seal.mk ?_,Seal.mk ?_⟩|((first|(apply And.intro;focus exact leafL3)|(apply Or.inl;apply And.intro;focus exact leafL3)|apply Or.inr|refine ⟨_,rfl,?_⟩|refine ⟨_,⟨rfl,rfl⟩,?_⟩|refine ⟨intE .u8,⟨rfl,fun _=>rfl⟩,?_⟩|(refine Exists.intro _ (And.intro (And.intro rfl (And.intro rfl ?_)) ?_);focus exact leafL3));conv=>whnf)|with_reducible assumption|((fail_if_success refine Exists.intro ?_ ?_);exact leafL3)|fail)
  refine .loop hS (γ := Nat) (fun i => ⟨[(0, .sl (.loc 0) 2 none xs.length), (1, .int .i64 (n + 2 * i)), (5, .int .i64 i)],
    ⟨[⟨.loc 0, true, .arr pairE (mks (mkP n) i ++ xs.drop i)⟩], 1⟩, 27, 1⟩) (fun i => i ≤ xs.length) (fun i => xs.length - i) 0 (by omega) ?_ ?_
  · have h0 : mks (mkP n) 0 ++ xs.drop 0 = xs := by simp [mks]
    have h1 := h0.symm
    ((try refine wF ?_);repeat' (first|exact ⟨⟩|(apply And.intro;focus exact leafL3)|((conv=>whnf);first|exact ⟨⟩|(apply And.intro;focus exact leafL3))|fail))
  · intro i hi
    have hl : (mks (mkP n) i ++ xs.drop i).length = xs.length := by simp [mks_len]; omega
    conv => whnf
    repeat' (first|refine Seal.mk ?_|(refine wS ?_;(conv=>whnf);fail_if_success show False)|((first|refine opsA_step ?_|refine drawS_go ?_);conv=>whnf)|(intro _;first|omega|conv=>whnf)|(apply And.intro<;>intro _<;>first|omega|conv=>whnf)|refine ⟨Seal.mk ?_,Seal.mk ?_⟩|((first|(apply And.intro;focus exact leafL3)|(apply Or.inl;apply And.intro;focus exact leafL3)|apply Or.inr|refine ⟨_,rfl,?_⟩|refine ⟨_,⟨rfl,rfl⟩,?_⟩|refine ⟨intE .u8,⟨rfl,fun _=>rfl⟩,?_⟩|(refine Exists.intro _ (And.intro (And.intro rfl (And.intro rfl ?_)) ?_);focus exact leafL3));conv=>whnf)|with_reducible assumption|((fail_if_success refine Exists.intro ?_ ?_);exact leafL3)|fail)
    · refine ⟨i + 1, ⟨by omega, by omega⟩, ?_⟩
      ((try dsimp only);((try refine wF ?_);repeat' (first|exact ⟨⟩|(apply And.intro;focus exact leafL3)|((conv=>whnf);first|exact ⟨⟩|(apply And.intro;focus exact leafL3))|fail)))
    · have hi : i = xs.length := by omega
      subst hi
      have h0 : mks (mkP n) xs.length ++ xs.drop xs.length = mks (mkP n) xs.length := by simp
      (refine ⟨(),⟨⟩,?_⟩;((try refine wF ?_);repeat' (first|exact ⟨⟩|(apply And.intro;focus exact leafL3)|((conv=>whnf);first|exact ⟨⟩|(apply And.intro;focus exact leafL3))|fail)))
theorem heldHoldS (n : Int) (k : Nat) (hk : k ≤ 1048576) (hn : 0 ≤ n) (hn' : n ≤ 549755813888) : CallA S 181 [.sl (.loc 0) 2 none k, .int .i64 n] ⟨[⟨.loc 0, false, .arr pairE (mks (mkP n) k)⟩], 1⟩ (Ret1 (.int .i64 (n + 2 * k)) ⟨[], 1⟩) := by
  refine .ofC hS _ _ _ Tryz.func181 ?_
  conv => whnf
  repeat' (first|refine Seal.mk ?_|(refine wS ?_;(conv=>whnf);fail_if_success show False)|((first|refine opsA_step ?_|refine drawS_go ?_);conv=>whnf)|(intro _;first|omega|conv=>whnf)|(apply And.intro<;>intro _<;>first|omega|conv=>whnf)|refine ⟨Seal.mk ?_,Seal.mk ?_⟩|((first|(apply And.intro;focus exact leafL3)|(apply Or.inl;apply And.intro;focus exact leafL3)|apply Or.inr|refine ⟨_,rfl,?_⟩|refine ⟨_,⟨rfl,rfl⟩,?_⟩|refine ⟨intE .u8,⟨rfl,fun _=>rfl⟩,?_⟩|(refine Exists.intro _ (And.intro (And.intro rfl (And.intro rfl ?_)) ?_);focus exact leafL3));conv=>whnf)|with_reducible assumption|((fail_if_success refine Exists.intro ?_ ?_);exact leafL3)|fail)
  refine .loop hS (γ := Nat) (fun i => ⟨[(0, .sl (.loc 0) 2 none k), (1, .int .i64 (n + 2 * i)), (5, .int .i64 i)],
    ⟨[⟨.loc 0, false, .arr pairE (mks (mkP n) k)⟩], 1⟩, 31, 1⟩) (fun i => i ≤ k) (fun i => k - i) 0 (by omega) ?_ ?_
  · ((try refine wF ?_);repeat' (first|exact ⟨⟩|(apply And.intro;focus exact leafL3)|((conv=>whnf);first|exact ⟨⟩|(apply And.intro;focus exact leafL3))|fail))
  · intro i hi
    have hl : (mks (mkP n) k).length = k := mks_len _ _
    have hm1 : i < k → ((mks (mkP n) k).getD (i : Int).toNat pairE.d).1 = n + 2 * i := fun h => by rw [mks_get h]
    have hm2 : i < k → ((mks (mkP n) k).getD (i : Int).toNat pairE.d).2 = n + 2 * i + 1 := fun h => by rw [mks_get h]
    conv => whnf
    repeat' (first|refine Seal.mk ?_|(refine wS ?_;(conv=>whnf);fail_if_success show False)|((first|refine opsA_step ?_|refine drawS_go ?_);conv=>whnf)|(intro _;first|omega|conv=>whnf)|(apply And.intro<;>intro _<;>first|omega|conv=>whnf)|refine ⟨Seal.mk ?_,Seal.mk ?_⟩|((first|(apply And.intro;focus exact leafL3)|(apply Or.inl;apply And.intro;focus exact leafL3)|apply Or.inr|refine ⟨_,rfl,?_⟩|refine ⟨_,⟨rfl,rfl⟩,?_⟩|refine ⟨intE .u8,⟨rfl,fun _=>rfl⟩,?_⟩|(refine Exists.intro _ (And.intro (And.intro rfl (And.intro rfl ?_)) ?_);focus exact leafL3));conv=>whnf)|with_reducible assumption|((fail_if_success refine Exists.intro ?_ ?_);exact leafL3)|fail)
    all_goals (first
      | (exact absurd (hm (by omega)) (by assumption))
      | (refine ⟨i + 1, ⟨by omega, by omega⟩, ?_⟩; ((try refine wF ?_);repeat' (first|exact ⟨⟩|(apply And.intro;focus exact leafL3)|((conv=>whnf);first|exact ⟨⟩|(apply And.intro;focus exact leafL3))|fail)))
      | (have hi : i = k := by omega
         subst hi
         (refine ⟨(),⟨⟩,?_⟩;((try refine wF ?_);repeat' (first|exact ⟨⟩|(apply And.intro;focus exact leafL3)|((conv=>whnf);first|exact ⟨⟩|(apply And.intro;focus exact leafL3))|fail)))))
theorem markBindS (xs : List Qd) (hx : xs.length ≤ 1048576) (n : Int) (hn : 0 ≤ n) (hn' : n ≤ 549755813888) : CallA S 24 [.sl (.loc 0) 4 none xs.length, .int .i64 n] ⟨[⟨.loc 0, true, .arr quadE xs⟩], 1⟩ (Ret1 (.int .i64 (n + 4 * xs.length)) ⟨[⟨.loc 0, true, .arr quadE (mks (mkQ n) xs.length)⟩], 1⟩) := by
  refine .ofC hS _ _ _ Tryz.func24 ?_
  conv => whnf
  repeat' (first|refine Seal.mk ?_|(refine wS ?_;(conv=>whnf);fail_if_success show False)|((first|refine opsA_step ?_|refine drawS_go ?_);conv=>whnf)|(intro _;first|omega|conv=>whnf)|(apply And.intro<;>intro _<;>first|omega|conv=>whnf)|refine ⟨Seal.mk ?_,Seal.mk ?_⟩|((first|(apply And.intro;focus exact leafL3)|(apply Or.inl;apply And.intro;focus exact leafL3)|apply Or.inr|refine ⟨_,rfl,?_⟩|refine ⟨_,⟨rfl,rfl⟩,?_⟩|refine ⟨intE .u8,⟨rfl,fun _=>rfl⟩,?_⟩|(refine Exists.intro _ (And.intro (And.intro rfl (And.intro rfl ?_)) ?_);focus exact leafL3));conv=>whnf)|with_reducible assumption|((fail_if_success refine Exists.intro ?_ ?_);exact leafL3)|fail)
  refine .loop hS (γ := Nat) (fun i => ⟨[(0, .sl (.loc 0) 4 none xs.length), (1, .int .i64 (n + 4 * i)), (5, .int .i64 i)],
    ⟨[⟨.loc 0, true, .arr quadE (mks (mkQ n) i ++ xs.drop i)⟩], 1⟩, 43, 1⟩) (fun i => i ≤ xs.length) (fun i => xs.length - i) 0 (by omega) ?_ ?_
  · have h0 : mks (mkQ n) 0 ++ xs.drop 0 = xs := by simp [mks]
    have h1 := h0.symm
    ((try refine wF ?_);repeat' (first|exact ⟨⟩|(apply And.intro;focus exact leafL3)|((conv=>whnf);first|exact ⟨⟩|(apply And.intro;focus exact leafL3))|fail))
  · intro i hi
    have hl : (mks (mkQ n) i ++ xs.drop i).length = xs.length := by simp [mks_len]; omega
    conv => whnf
    repeat' (first|refine Seal.mk ?_|(refine wS ?_;(conv=>whnf);fail_if_success show False)|((first|refine opsA_step ?_|refine drawS_go ?_);conv=>whnf)|(intro _;first|omega|conv=>whnf)|(apply And.intro<;>intro _<;>first|omega|conv=>whnf)|refine ⟨Seal.mk ?_,Seal.mk ?_⟩|((first|(apply And.intro;focus exact leafL3)|(apply Or.inl;apply And.intro;focus exact leafL3)|apply Or.inr|refine ⟨_,rfl,?_⟩|refine ⟨_,⟨rfl,rfl⟩,?_⟩|refine ⟨intE .u8,⟨rfl,fun _=>rfl⟩,?_⟩|(refine Exists.intro _ (And.intro (And.intro rfl (And.intro rfl ?_)) ?_);focus exact leafL3));conv=>whnf)|with_reducible assumption|((fail_if_success refine Exists.intro ?_ ?_);exact leafL3)|fail)
    · refine ⟨i + 1, ⟨by omega, by omega⟩, ?_⟩
      ((try dsimp only);((try refine wF ?_);repeat' (first|exact ⟨⟩|(apply And.intro;focus exact leafL3)|((conv=>whnf);first|exact ⟨⟩|(apply And.intro;focus exact leafL3))|fail)))
    · have hi : i = xs.length := by omega
      subst hi
      have h0 : mks (mkQ n) xs.length ++ xs.drop xs.length = mks (mkQ n) xs.length := by simp
      (refine ⟨(),⟨⟩,?_⟩;((try refine wF ?_);repeat' (first|exact ⟨⟩|(apply And.intro;focus exact leafL3)|((conv=>whnf);first|exact ⟨⟩|(apply And.intro;focus exact leafL3))|fail)))
theorem heldBindS (n : Int) (k : Nat) (hk : k ≤ 1048576) (hn : 0 ≤ n) (hn' : n ≤ 549755813888) : CallA S 133 [.sl (.loc 0) 4 none k, .int .i64 n] ⟨[⟨.loc 0, false, .arr quadE (mks (mkQ n) k)⟩], 1⟩ (Ret1 (.int .i64 (n + 4 * k)) ⟨[], 1⟩) := by
  refine .ofC hS _ _ _ Tryz.func133 ?_
  conv => whnf
  repeat' (first|refine Seal.mk ?_|(refine wS ?_;(conv=>whnf);fail_if_success show False)|((first|refine opsA_step ?_|refine drawS_go ?_);conv=>whnf)|(intro _;first|omega|conv=>whnf)|(apply And.intro<;>intro _<;>first|omega|conv=>whnf)|refine ⟨Seal.mk ?_,Seal.mk ?_⟩|((first|(apply And.intro;focus exact leafL3)|(apply Or.inl;apply And.intro;focus exact leafL3)|apply Or.inr|refine ⟨_,rfl,?_⟩|refine ⟨_,⟨rfl,rfl⟩,?_⟩|refine ⟨intE .u8,⟨rfl,fun _=>rfl⟩,?_⟩|(refine Exists.intro _ (And.intro (And.intro rfl (And.intro rfl ?_)) ?_);focus exact leafL3));conv=>whnf)|with_reducible assumption|((fail_if_success refine Exists.intro ?_ ?_);exact leafL3)|fail)
  refine .loop hS (γ := Nat) (fun i => ⟨[(0, .sl (.loc 0) 4 none k), (1, .int .i64 (n + 4 * i)), (5, .int .i64 i)],
    ⟨[⟨.loc 0, false, .arr quadE (mks (mkQ n) k)⟩], 1⟩, 51, 1⟩) (fun i => i ≤ k) (fun i => k - i) 0 (by omega) ?_ ?_
  · ((try refine wF ?_);repeat' (first|exact ⟨⟩|(apply And.intro;focus exact leafL3)|((conv=>whnf);first|exact ⟨⟩|(apply And.intro;focus exact leafL3))|fail))
  · intro i hi
    have hl : (mks (mkQ n) k).length = k := mks_len _ _
    have hm0 : i < k → ((mks (mkQ n) k).getD (i : Int).toNat quadE.d).1 = n + 4 * i := fun h => by rw [mks_get h]; (try simp only [mkQ]); (try omega)
    have hm1 : i < k → ((mks (mkQ n) k).getD (i : Int).toNat quadE.d).2.1 = n + 4 * i + 1 := fun h => by rw [mks_get h]; (try simp only [mkQ]); (try omega)
    have hm2 : i < k → ((mks (mkQ n) k).getD (i : Int).toNat quadE.d).2.2.1 = n + 4 * i + 2 := fun h => by rw [mks_get h]; (try simp only [mkQ]); (try omega)
    have hm3 : i < k → ((mks (mkQ n) k).getD (i : Int).toNat quadE.d).2.2.2 = n + 4 * i + 3 := fun h => by rw [mks_get h]; (try simp only [mkQ]); (try omega)
    conv => whnf
    repeat' (first|refine Seal.mk ?_|(refine wS ?_;(conv=>whnf);fail_if_success show False)|((first|refine opsA_step ?_|refine drawS_go ?_);conv=>whnf)|(intro _;first|omega|conv=>whnf)|(apply And.intro<;>intro _<;>first|omega|conv=>whnf)|refine ⟨Seal.mk ?_,Seal.mk ?_⟩|((first|(apply And.intro;focus exact leafL3)|(apply Or.inl;apply And.intro;focus exact leafL3)|apply Or.inr|refine ⟨_,rfl,?_⟩|refine ⟨_,⟨rfl,rfl⟩,?_⟩|refine ⟨intE .u8,⟨rfl,fun _=>rfl⟩,?_⟩|(refine Exists.intro _ (And.intro (And.intro rfl (And.intro rfl ?_)) ?_);focus exact leafL3));conv=>whnf)|with_reducible assumption|((fail_if_success refine Exists.intro ?_ ?_);exact leafL3)|fail)
    all_goals (first
      | (exact absurd (hm (by omega)) (by assumption))
      | (refine ⟨i + 1, ⟨by omega, by omega⟩, ?_⟩; ((try refine wF ?_);repeat' (first|exact ⟨⟩|(apply And.intro;focus exact leafL3)|((conv=>whnf);first|exact ⟨⟩|(apply And.intro;focus exact leafL3))|fail)))
      | (have hi : i = k := by omega
         subst hi
         (refine ⟨(),⟨⟩,?_⟩;((try refine wF ?_);repeat' (first|exact ⟨⟩|(apply And.intro;focus exact leafL3)|((conv=>whnf);first|exact ⟨⟩|(apply And.intro;focus exact leafL3))|fail)))))
end Go.Mu
