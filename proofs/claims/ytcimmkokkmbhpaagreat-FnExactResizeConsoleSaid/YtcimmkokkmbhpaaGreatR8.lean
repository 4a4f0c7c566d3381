/- A screen of another size, as the reference makes it. -/
import Derived.Test.YtcimmkokkmbhpaaGreatR5
import Derived.Test.YtcimmkokkmbhpaaGreatR7
import Derived.Test.YtcimmkokkmbhpaaGreatCC
set_option linter.unusedSimpArgs false
set_option linter.unusedVariables false
set_option linter.constructorNameAsVariable false
namespace Go.Mu
open Go Go.Vm Go.RowKit Go.Proofs
attribute [local irreducible] wpA opsA stillA drawA drawS
set_option maxRecDepth 20000
set_option maxHeartbeats 4000000
theorem leafR8 {P : Prop} (h : P := by
  first
  | exact leaf
  | exact Bool.false_ne_true
  | exact ⟨rfl, rfl⟩
  | rfl
  | fail) : P := h
theorem maxS (a b : Int) : CallA S 253 [.int .i64 a, .int .i64 b] ⟨[], 0⟩ (Ret1 (.int .i64 (max a b)) ⟨[], 0⟩) := by
  refine .ofC hS _ _ _ Tryz.func253 ?_
  conv => whnf
  repeat' (first|refine Seal.mk ?_|(refine wS ?_;(conv=>whnf);fail_if_success show False)|((first|refine opsA_step ?_|refine drawS_go ?_);conv=>whnf)|(intro _;first|omega|conv=>whnf)|(apply And.intro<;>intro _<;>first|omega|conv=>whnf)|refine ⟨Seal.mk ?_,Seal.mk ?_⟩|((first|refine ⟨leafR8,?_⟩|refine Or.inl ⟨leafR8,?_⟩|apply Or.inr|refine ⟨_,rfl,?_⟩|refine ⟨_,⟨rfl,rfl⟩,?_⟩|refine ⟨intE .u8,⟨rfl,fun _=>rfl⟩,?_⟩|refine ⟨_,⟨rfl,rfl,leafR8⟩,?_⟩);conv=>whnf)|with_reducible assumption|exact leafR8|fail)
  all_goals (refine ⟨(),⟨⟩,?_⟩;((try refine wF ?_);repeat' (first|exact ⟨⟩|refine ⟨leafR8,?_⟩|((conv=>whnf);first|exact ⟨⟩|refine ⟨leafR8,?_⟩))))
theorem l5Tabs (a w : Nat) (h : w ≤ 12) (ha : a ≤ w) : CallA S 177 [.int .i64 a, .int .i64 w] ⟨[], 0⟩ (Ret1 (.sl (.loc 0) 1 none (tabRun a (w - a)).length) ⟨[⟨.loc 0, true, .arr boolE (tabRun a (w - a))⟩], 1⟩) := by
  refine .ofC hS _ _ _ Tryz.func177 ?_
  conv => whnf
  repeat' (first|refine Seal.mk ?_|(refine wS ?_;(conv=>whnf);fail_if_success show False)|((first|refine opsA_step ?_|refine drawS_go ?_);conv=>whnf)|(intro _;first|omega|conv=>whnf)|(apply And.intro<;>intro _<;>first|omega|conv=>whnf)|refine ⟨Seal.mk ?_,Seal.mk ?_⟩|((first|refine ⟨leafR8,?_⟩|refine Or.inl ⟨leafR8,?_⟩|apply Or.inr|refine ⟨_,rfl,?_⟩|refine ⟨_,⟨rfl,rfl⟩,?_⟩|refine ⟨intE .u8,⟨rfl,fun _=>rfl⟩,?_⟩|refine ⟨_,⟨rfl,rfl,leafR8⟩,?_⟩);conv=>whnf)|with_reducible assumption|exact leafR8|fail)
  refine .loop hS (γ := Nat) (fun k => ⟨[(1, .int .i64 w), (5, .sl (.loc 0) 1 none (tabRun a k).length), (6, .int .i64 (a + k))], ⟨[⟨.loc 0, true, .arr boolE (tabRun a k)⟩], 1⟩, 25, 0⟩) (fun k => k ≤ w - a) (fun k => w - a - k) 0 (by omega) ?_ ?_
  · have h0 : (tabRun a 0).length = 0 := rfl
    ((try dsimp only);((try refine wF ?_);repeat' (first|exact ⟨⟩|refine ⟨leafR8,?_⟩|((conv=>whnf);first|exact ⟨⟩|refine ⟨leafR8,?_⟩))))
  · intro k hk
    have hl := tabRun_len a k
    conv => whnf
    by_cases hgo : k < w - a
    · have hn := tabRun_succ a k
      have hnl := tabRun_len a (k + 1)
      have hc : ((a + k : Nat) : Int) = (a : Int) + k := by omega
      rw [hc] at hn
      repeat' (first|refine Seal.mk ?_|(refine wS ?_;(conv=>whnf);fail_if_success show False)|((first|refine opsA_step ?_|refine drawS_go ?_);conv=>whnf)|(intro _;first|omega|conv=>whnf)|(apply And.intro<;>intro _<;>first|omega|conv=>whnf)|refine ⟨Seal.mk ?_,Seal.mk ?_⟩|((first|refine ⟨leafR8,?_⟩|refine Or.inl ⟨leafR8,?_⟩|apply Or.inr|refine ⟨_,rfl,?_⟩|refine ⟨_,⟨rfl,rfl⟩,?_⟩|refine ⟨intE .u8,⟨rfl,fun _=>rfl⟩,?_⟩|refine ⟨_,⟨rfl,rfl,leafR8⟩,?_⟩);conv=>whnf)|with_reducible assumption|exact leafR8|fail)
      · have ht : tabAt ((a : Int) + k) = pb (((a : Int) + k) % 8 = 0) := congrArg pb (propext ⟨fun q => q.2, fun q => ⟨by omega, q⟩⟩)
        rw [ht] at hn
        have e1 : (List.take ((1 : Nat) : Int).toNat [pb (((a : Int) + k) % 8 = 0)]).length = 1 := rfl
        have hn2 : tabRun a k ++ List.take ((1 : Nat) : Int).toNat [pb (((a : Int) + k) % 8 = 0)] = tabRun a (k + 1) := hn.symm
        refine ⟨k + 1, ⟨by omega, by omega⟩, ?_⟩
        ((try dsimp only);((try refine wF ?_);repeat' (first|exact ⟨⟩|refine ⟨leafR8,?_⟩|((conv=>whnf);first|exact ⟨⟩|refine ⟨leafR8,?_⟩))))
      · have ht : tabAt ((a : Int) + k) = false := by
          cases hb : tabAt ((a : Int) + k) with
          | false => rfl
          | true => exact absurd ((pb_iff _).1 hb).1 (by omega)
        rw [ht] at hn
        have e1 : (List.take ((1 : Nat) : Int).toNat [false]).length = 1 := rfl
        have hn2 : tabRun a k ++ List.take ((1 : Nat) : Int).toNat [false] = tabRun a (k + 1) := hn.symm
        refine ⟨k + 1, ⟨by omega, by omega⟩, ?_⟩
        ((try dsimp only);((try refine wF ?_);repeat' (first|exact ⟨⟩|refine ⟨leafR8,?_⟩|((conv=>whnf);first|exact ⟨⟩|refine ⟨leafR8,?_⟩))))
    · have hke : k = w - a := by omega
      subst hke
      repeat' (first|refine Seal.mk ?_|(refine wS ?_;(conv=>whnf);fail_if_success show False)|((first|refine opsA_step ?_|refine drawS_go ?_);conv=>whnf)|(intro _;first|omega|conv=>whnf)|(apply And.intro<;>intro _<;>first|omega|conv=>whnf)|refine ⟨Seal.mk ?_,Seal.mk ?_⟩|((first|refine ⟨leafR8,?_⟩|refine Or.inl ⟨leafR8,?_⟩|apply Or.inr|refine ⟨_,rfl,?_⟩|refine ⟨_,⟨rfl,rfl⟩,?_⟩|refine ⟨intE .u8,⟨rfl,fun _=>rfl⟩,?_⟩|refine ⟨_,⟨rfl,rfl,leafR8⟩,?_⟩);conv=>whnf)|with_reducible assumption|exact leafR8|fail)
      all_goals (refine ⟨(),⟨⟩,?_⟩;((try refine wF ?_);repeat' (first|exact ⟨⟩|refine ⟨leafR8,?_⟩|((conv=>whnf);first|exact ⟨⟩|refine ⟨leafR8,?_⟩))))
theorem l5Go (s : Scr) (b0 b1 b2 b3 : Blk) (r w : Nat) (hrr : 1 ≤ r ∧ r ≤ 6) (hww : 2 ≤ w ∧ w ≤ 12) (y x : Int) (hy : 0 ≤ y ∧ y ≤ 100) (hx : 0 ≤ x ∧ x ≤ 100) (h1 : s.grid.rows = r) (h2 : s.grid.width = w) (h3 : s.top = 0) (h4 : s.bottom = r - 1) :
    CallA S 178 [.ptr (.loc 0) 20 none 0, .int .i64 y, .int .i64 x] ⟨[⟨.loc 0, true, .raw (scrC (.loc 1) (.loc 2) (.loc 3) (.loc 4) s)⟩], 5⟩ (Ret1 (.tup []) ⟨[⟨.loc 0, true, .raw (scrC (.loc 1) (.loc 2) (.loc 3) (.loc 4) { s with y := min y (r - 1), x := min x (w - 1), wrap := false })⟩], 5⟩) := by
  refine .ofC hS _ _ _ Tryz.func178 ?_
  conv => whnf
  repeat' (first|refine Seal.mk ?_|(refine wS ?_;(conv=>whnf);fail_if_success show False)|((first|refine opsA_step ?_|refine drawS_go ?_|apply wL (minS _ _)|apply wL (maxS _ _));conv=>whnf)|(intro _;first|omega|conv=>whnf)|(apply And.intro<;>intro _<;>first|omega|conv=>whnf)|refine ⟨Seal.mk ?_,Seal.mk ?_⟩|((first|refine ⟨leafR8,?_⟩|refine Or.inl ⟨leafR8,?_⟩|apply Or.inr|refine ⟨_,rfl,?_⟩|refine ⟨_,⟨rfl,rfl⟩,?_⟩|refine ⟨intE .u8,⟨rfl,fun _=>rfl⟩,?_⟩|refine ⟨_,⟨rfl,rfl,leafR8⟩,?_⟩);conv=>whnf)|with_reducible assumption|exact leafR8|fail)
  all_goals (refine ⟨(),⟨⟩,?_⟩;((try refine wF ?_);repeat' (first|exact ⟨⟩|refine ⟨leafR8,?_⟩|((conv=>whnf);first|exact ⟨⟩|refine ⟨leafR8,?_⟩))))
end Go.Mu
