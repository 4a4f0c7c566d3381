/- A grid of another size, as the reference makes it. -/
import Derived.Test.YtcimmkokkmbhpaaGreatR4
import Derived.Test.YtcimmkokkmbhpaaGreatPA
set_option linter.unusedSimpArgs false
set_option linter.unusedVariables false
set_option linter.constructorNameAsVariable false
namespace Go.Mu
open Go Go.Vm Go.RowKit Go.Proofs
attribute [local irreducible] wpA opsA stillA drawA drawS
set_option maxRecDepth 20000
set_option maxHeartbeats 4000000
theorem leafR6 {P : Prop} (h : P := by
  first
  | exact leaf
  | exact Bool.false_ne_true
  | fail) : P := h
theorem l3Blanks (n a : Int) (h1 : n ≤ 4096) : CallA S 288 [.int .i64 n, .int .i64 a] ⟨[], 0⟩ (Ret1 (.sl (.loc 0) 2 none n.toNat) ⟨[⟨.loc 0, true, .arr pairE (List.replicate n.toNat (bl a))⟩], 1⟩) := by
  refine .ofC hS _ _ _ Tryz.func288 ?_
  conv => whnf
  repeat' (first|refine Seal.mk ?_|(refine wS ?_;(conv=>whnf);fail_if_success show False)|((first|refine opsA_step ?_|refine drawS_go ?_);conv=>whnf)|(intro _;first|omega|conv=>whnf)|(apply And.intro<;>intro _<;>first|omega|conv=>whnf)|refine ⟨Seal.mk ?_,Seal.mk ?_⟩|((first|refine ⟨leafR6,?_⟩|refine Or.inl ⟨leafR6,?_⟩|apply Or.inr|refine ⟨_,rfl,?_⟩|refine ⟨_,⟨rfl,rfl⟩,?_⟩|refine ⟨intE .u8,⟨rfl,fun _=>rfl⟩,?_⟩|refine ⟨_,⟨rfl,rfl,leafR6⟩,?_⟩);conv=>whnf)|with_reducible assumption|exact leafR6|fail)
  refine .loop hS (γ := Nat) (fun k => ⟨[(0, .int .i64 (n - k)), (1, .int .i64 a), (5, .sl (.loc 0) 2 none k)], ⟨[⟨.loc 0, true, .arr pairE (List.replicate k (bl a))⟩], 1⟩, 17, 0⟩) (fun k => k ≤ n.toNat) (fun k => n.toNat - k) 0 (by omega) ?_ ?_
  · ((try dsimp only);((try refine wF ?_);repeat' (first|exact ⟨⟩|refine ⟨leafR6,?_⟩|((conv=>whnf);first|exact ⟨⟩|refine ⟨leafR6,?_⟩))))
  · intro k hk
    have hl : (List.replicate k (bl a)).length = k := List.length_replicate
    have e1 : (List.take ((1 : Nat) : Int).toNat [bl a]).length = 1 := rfl
    have hn : List.replicate k (bl a) ++ List.take ((1 : Nat) : Int).toNat [bl a] = List.replicate (k + 1) (bl a) := List.replicate_succ'.symm
    conv => whnf
    repeat' (first|refine Seal.mk ?_|(refine wS ?_;(conv=>whnf);fail_if_success show False)|((first|refine opsA_step ?_|refine drawS_go ?_);conv=>whnf)|(intro _;first|omega|conv=>whnf)|(apply And.intro<;>intro _<;>first|omega|conv=>whnf)|refine ⟨Seal.mk ?_,Seal.mk ?_⟩|((first|refine ⟨leafR6,?_⟩|refine Or.inl ⟨leafR6,?_⟩|apply Or.inr|refine ⟨_,rfl,?_⟩|refine ⟨_,⟨rfl,rfl⟩,?_⟩|refine ⟨intE .u8,⟨rfl,fun _=>rfl⟩,?_⟩|refine ⟨_,⟨rfl,rfl,leafR6⟩,?_⟩);conv=>whnf)|with_reducible assumption|exact leafR6|fail)
    · refine ⟨k + 1, ⟨by omega, by omega⟩, ?_⟩
      ((try dsimp only);((try refine wF ?_);repeat' (first|exact ⟨⟩|refine ⟨leafR6,?_⟩|((conv=>whnf);first|exact ⟨⟩|refine ⟨leafR6,?_⟩))))
    · have hkn : k = n.toNat := by omega
      subst hkn
      (refine ⟨(),⟨⟩,?_⟩;((try refine wF ?_);repeat' (first|exact ⟨⟩|refine ⟨leafR6,?_⟩|((conv=>whnf);first|exact ⟨⟩|refine ⟨leafR6,?_⟩))))
theorem l3New (r w : Nat) (hrw : r * w ≤ 72) : CallA S 249 [.int .i64 r, .int .i64 w] ⟨[], 0⟩ (Ret1 (.agg [.int .i64 r, .int .i64 w, .sl (.loc 0) 2 none ((r : Int) * w).toNat, .nils]) ⟨[⟨.loc 0, true, .arr pairE (List.replicate ((r : Int) * w).toNat (bl 0))⟩], 1⟩) := by
  have hi : (r : Int) * w = ((r * w : Nat) : Int) := (Int.natCast_mul _ _).symm
  refine .ofC hS _ _ _ Tryz.func249 ?_
  conv => whnf
  repeat' (first|refine Seal.mk ?_|(refine wS ?_;(conv=>whnf);fail_if_success show False)|((first|refine opsA_step ?_|refine drawS_go ?_|apply wL (l3Blanks ((r : Int) * w) 0 (by omega)));conv=>whnf)|(intro _;first|omega|conv=>whnf)|(apply And.intro<;>intro _<;>first|omega|conv=>whnf)|refine ⟨Seal.mk ?_,Seal.mk ?_⟩|((first|refine ⟨leafR6,?_⟩|refine Or.inl ⟨leafR6,?_⟩|apply Or.inr|refine ⟨_,rfl,?_⟩|refine ⟨_,⟨rfl,rfl⟩,?_⟩|refine ⟨intE .u8,⟨rfl,fun _=>rfl⟩,?_⟩|refine ⟨_,⟨rfl,rfl,leafR6⟩,?_⟩);conv=>whnf)|with_reducible assumption|exact leafR6|fail)
  (refine ⟨(),⟨⟩,?_⟩;((try refine wF ?_);repeat' (first|exact ⟨⟩|refine ⟨leafR6,?_⟩|((conv=>whnf);first|exact ⟨⟩|refine ⟨leafR6,?_⟩))))
theorem l3Fit (c : List (Int × Int)) (j o w : Nat) (hj : j + o ≤ c.length) (hc : c.length ≤ 4096) (hw : w ≤ 12) : CallA S 251 [.sl (.loc 0) 2 (some j) o, .int .i64 w] ⟨[⟨.loc 0, false, .arr pairE c⟩], 1⟩ (Ret1 (.sl (.loc 1) 2 none w) ⟨[⟨.loc 1, true, .arr pairE (fitRow ((c.drop j).take o) w)⟩], 2⟩) := by
  have hrl : ((c.drop j).take o).length = o := by simp; omega
  have e : over (List.replicate (w : Int).toNat (bl 0)) 0 (List.take (((w : Int).toNat : Nat) : Int).toNat (List.take (o : Int).toNat (List.drop (j : Int).toNat c))) = fitRow ((c.drop j).take o) w := by
    simp only [Int.toNat_natCast]
    unfold over fitRow
    simp only [List.take_zero, List.nil_append, Nat.zero_add, List.drop_replicate, List.length_take, hrl]
    rw [show w - min w o = w - o by omega]
  refine .ofC hS _ _ _ Tryz.func251 ?_
  conv => whnf
  repeat' (first|refine Seal.mk ?_|(refine wS ?_;(conv=>whnf);fail_if_success show False)|((first|refine opsA_step ?_|refine drawS_go ?_|apply wL (l3Blanks (w : Int) 0 (by omega)));conv=>whnf)|(intro _;first|omega|conv=>whnf)|(apply And.intro<;>intro _<;>first|omega|conv=>whnf)|refine ⟨Seal.mk ?_,Seal.mk ?_⟩|((first|refine ⟨leafR6,?_⟩|refine Or.inl ⟨leafR6,?_⟩|apply Or.inr|refine ⟨_,rfl,?_⟩|refine ⟨_,⟨rfl,rfl⟩,?_⟩|refine ⟨intE .u8,⟨rfl,fun _=>rfl⟩,?_⟩|refine ⟨_,⟨rfl,rfl,leafR6⟩,?_⟩);conv=>whnf)|with_reducible assumption|exact leafR6|fail)
  all_goals (refine ⟨(),⟨⟩,?_⟩;((try refine wF ?_);repeat' (first|exact ⟨⟩|refine ⟨leafR6,?_⟩|((conv=>whnf);first|exact ⟨⟩|refine ⟨leafR6,?_⟩))))
end Go.Mu
