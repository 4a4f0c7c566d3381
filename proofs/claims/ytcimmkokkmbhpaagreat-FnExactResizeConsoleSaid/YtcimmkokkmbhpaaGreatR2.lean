/- Cells of another width, as the program makes them. -/
import Derived.Test.YtcimmkokkmbhpaaGreatR1
set_option linter.unusedSimpArgs false
set_option linter.unusedVariables false
set_option linter.constructorNameAsVariable false
namespace Go.Mu
open Go Go.Vm Go.RowKit Go.Proofs
attribute [local irreducible] wpA opsA stillA drawA drawS
set_option maxRecDepth 20000
set_option maxHeartbeats 4000000
abbrev bl (a : Int) : Int × Int := (32, a)
theorem blanks (n a : Int) (h0 : 0 ≤ n) (h1 : n ≤ 1048576) : CallA S 264 [.int .i64 n, .int .i64 a] ⟨[], 0⟩ (Ret1 (.sl (.loc 0) 2 none n.toNat) ⟨[⟨.loc 0, true, .arr pairE (List.replicate n.toNat (bl a))⟩], 1⟩) := by
  refine .ofC hS _ _ _ Tryz.func264 ?_
  conv => whnf
  repeat' (first|refine Seal.mk ?_|(refine wS ?_;(conv=>whnf);fail_if_success show False)|((first|refine opsA_step ?_|refine drawS_go ?_|apply wL (repeatC (bl a) n h0 h1));conv=>whnf)|(intro _;first|omega|conv=>whnf)|(apply And.intro<;>intro _<;>first|omega|conv=>whnf)|refine ⟨Seal.mk ?_,Seal.mk ?_⟩|((first|refine ⟨leaf,?_⟩|refine Or.inl ⟨leaf,?_⟩|apply Or.inr|refine ⟨_,rfl,?_⟩|refine ⟨_,⟨rfl,rfl⟩,?_⟩|refine ⟨intE .u8,⟨rfl,fun _=>rfl⟩,?_⟩|refine ⟨_,⟨rfl,rfl,leaf⟩,?_⟩);conv=>whnf)|with_reducible assumption|exact leaf|fail)
  (refine ⟨(),⟨⟩,?_⟩;((try refine wF ?_);repeat' (first|exact ⟨⟩|refine ⟨leaf,?_⟩|((conv=>whnf);first|exact ⟨⟩|refine ⟨leaf,?_⟩))))
theorem growC (n : Int) (h0 : 0 ≤ n) (h1 : n ≤ 1048576) : CallA S 302 [.nils, .int .i64 n] ⟨[], 0⟩ (Ret1 (.sl (.loc 0) 2 (some 0) 0) ⟨[⟨.loc 0, true, .arr pairE (List.replicate n.toNat pairE.d)⟩], 1⟩) := by
  refine .ofC hS _ _ _ Tryz.func302 ?_
  conv => whnf
  have e : [] ++ List.replicate (n - (0 - 0)).toNat pairE.d = List.replicate n.toNat pairE.d := by rw [List.nil_append, show (n - (0 - 0)).toNat = n.toNat by omega]
  by_cases hn : n = 0
  · subst hn
    repeat' (first|refine Seal.mk ?_|(refine wS ?_;(conv=>whnf);fail_if_success show False)|((first|refine opsA_step ?_|refine drawS_go ?_);conv=>whnf)|(intro _;first|omega|conv=>whnf)|(apply And.intro<;>intro _<;>first|omega|conv=>whnf)|refine ⟨Seal.mk ?_,Seal.mk ?_⟩|((first|refine ⟨leaf,?_⟩|refine Or.inl ⟨leaf,?_⟩|apply Or.inr|refine ⟨_,rfl,?_⟩|refine ⟨_,⟨rfl,rfl⟩,?_⟩|refine ⟨intE .u8,⟨rfl,fun _=>rfl⟩,?_⟩|refine ⟨_,⟨rfl,rfl,leaf⟩,?_⟩);conv=>whnf)|with_reducible assumption|exact leaf|fail)
    all_goals (refine ⟨(),⟨⟩,?_⟩;((try refine wF ?_);repeat' (first|exact ⟨⟩|refine ⟨leaf,?_⟩|((conv=>whnf);first|exact ⟨⟩|refine ⟨leaf,?_⟩))))
  · repeat' (first|refine Seal.mk ?_|(refine wS ?_;(conv=>whnf);fail_if_success show False)|((first|refine opsA_step ?_|refine drawS_go ?_);conv=>whnf)|(intro _;first|omega|conv=>whnf)|(apply And.intro<;>intro _<;>first|omega|conv=>whnf)|refine ⟨Seal.mk ?_,Seal.mk ?_⟩|((first|refine ⟨leaf,?_⟩|refine Or.inl ⟨leaf,?_⟩|apply Or.inr|refine ⟨_,rfl,?_⟩|refine ⟨_,⟨rfl,rfl⟩,?_⟩|refine ⟨intE .u8,⟨rfl,fun _=>rfl⟩,?_⟩|refine ⟨_,⟨rfl,rfl,leaf⟩,?_⟩);conv=>whnf)|with_reducible assumption|exact leaf|fail)
    all_goals (refine ⟨(),⟨⟩,?_⟩;((try refine wF ?_);repeat' (first|exact ⟨⟩|refine ⟨leaf,?_⟩|((conv=>whnf);first|exact ⟨⟩|refine ⟨leaf,?_⟩))))
def tot (xs ys : List (Int × Int)) : Nat → Int
  | 0 => 0
  | 1 => xs.length
  | _ => xs.length + ys.length
def acc (xs ys : List (Int × Int)) : Nat → List (Int × Int)
  | 0 => []
  | 1 => xs
  | _ => xs ++ ys
theorem concatC (zs ys : List (Int × Int)) (j n1 : Nat) (hj : j + n1 ≤ zs.length) (hx : zs.length ≤ 4096) (hy : ys.length ≤ 4096) : CallA S 262 [.sl (.loc 0) 1 none 2] ⟨[⟨.loc 0, false, .raw [.sl (.loc 1) 2 (some j) n1, .sl (.loc 2) 2 none ys.length]⟩, ⟨.loc 1, false, .arr pairE zs⟩, ⟨.loc 2, false, .arr pairE ys⟩], 3⟩
    (Ret1 (.sl (.loc 3) 2 none ((zs.drop j).take n1 ++ ys).length) ⟨[⟨.loc 3, true, .arr pairE ((zs.drop j).take n1 ++ ys)⟩], 4⟩) := by
  refine .ofC hS _ _ _ Tryz.func262 ?_
  conv => whnf
  have hxl : ((zs.drop j).take n1).length = n1 := by simp; omega
  generalize hxs : (zs.drop j).take n1 = xs at *
  have t0 : tot xs ys 0 = 0 := rfl
  have t1 : tot xs ys 1 = xs.length := rfl
  have t2 : tot xs ys 2 = xs.length + ys.length := rfl
  have a0 : (acc xs ys 0).length = 0 := rfl
  have a1 : (acc xs ys 1).length = xs.length := rfl
  have a2 : (acc xs ys 2).length = xs.length + ys.length := List.length_append
  repeat' (first|refine Seal.mk ?_|(refine wS ?_;(conv=>whnf);fail_if_success show False)|((first|refine opsA_step ?_|refine drawS_go ?_);conv=>whnf)|(intro _;first|omega|conv=>whnf)|(apply And.intro<;>intro _<;>first|omega|conv=>whnf)|refine ⟨Seal.mk ?_,Seal.mk ?_⟩|((first|refine ⟨leaf,?_⟩|refine Or.inl ⟨leaf,?_⟩|apply Or.inr|refine ⟨_,rfl,?_⟩|refine ⟨_,⟨rfl,rfl⟩,?_⟩|refine ⟨intE .u8,⟨rfl,fun _=>rfl⟩,?_⟩|refine ⟨_,⟨rfl,rfl,leaf⟩,?_⟩);conv=>whnf)|with_reducible assumption|exact leaf|fail)
  refine .loop hS (γ := Nat) (fun i => ⟨[(0, .sl (.loc 0) 1 none 2), (3, .int .i64 (tot xs ys i)), (9, .sl (.loc 0) 1 none 2), (10, .int .i64 2), (11, .int .i64 i)],
    ⟨[⟨.loc 0, false, .raw [.sl (.loc 1) 2 (some j) n1, .sl (.loc 2) 2 none ys.length]⟩, ⟨.loc 1, false, .arr pairE zs⟩, ⟨.loc 2, false, .arr pairE ys⟩], 3⟩, 36, 3⟩) (fun i => i ≤ 2) (fun i => 2 - i) 0 (by omega) ?_ ?_
  · ((try dsimp only);((try refine wF ?_);repeat' (first|exact ⟨⟩|refine ⟨leaf,?_⟩|((conv=>whnf);first|exact ⟨⟩|refine ⟨leaf,?_⟩))))
  · intro i hi
    obtain rfl | rfl | rfl : i = 0 ∨ i = 1 ∨ i = 2 := by omega
    · conv => whnf
      repeat' (first|refine Seal.mk ?_|(refine wS ?_;(conv=>whnf);fail_if_success show False)|((first|refine opsA_step ?_|refine drawS_go ?_);conv=>whnf)|(intro _;first|omega|conv=>whnf)|(apply And.intro<;>intro _<;>first|omega|conv=>whnf)|refine ⟨Seal.mk ?_,Seal.mk ?_⟩|((first|refine ⟨leaf,?_⟩|refine Or.inl ⟨leaf,?_⟩|apply Or.inr|refine ⟨_,rfl,?_⟩|refine ⟨_,⟨rfl,rfl⟩,?_⟩|refine ⟨intE .u8,⟨rfl,fun _=>rfl⟩,?_⟩|refine ⟨_,⟨rfl,rfl,leaf⟩,?_⟩);conv=>whnf)|with_reducible assumption|exact leaf|fail)
      all_goals (refine ⟨1, ⟨by omega, by omega⟩, ?_⟩; ((try dsimp only);((try refine wF ?_);repeat' (first|exact ⟨⟩|refine ⟨leaf,?_⟩|((conv=>whnf);first|exact ⟨⟩|refine ⟨leaf,?_⟩)))))
    · conv => whnf
      repeat' (first|refine Seal.mk ?_|(refine wS ?_;(conv=>whnf);fail_if_success show False)|((first|refine opsA_step ?_|refine drawS_go ?_);conv=>whnf)|(intro _;first|omega|conv=>whnf)|(apply And.intro<;>intro _<;>first|omega|conv=>whnf)|refine ⟨Seal.mk ?_,Seal.mk ?_⟩|((first|refine ⟨leaf,?_⟩|refine Or.inl ⟨leaf,?_⟩|apply Or.inr|refine ⟨_,rfl,?_⟩|refine ⟨_,⟨rfl,rfl⟩,?_⟩|refine ⟨intE .u8,⟨rfl,fun _=>rfl⟩,?_⟩|refine ⟨_,⟨rfl,rfl,leaf⟩,?_⟩);conv=>whnf)|with_reducible assumption|exact leaf|fail)
      all_goals (refine ⟨2, ⟨by omega, by omega⟩, ?_⟩; ((try dsimp only);((try refine wF ?_);repeat' (first|exact ⟨⟩|refine ⟨leaf,?_⟩|((conv=>whnf);first|exact ⟨⟩|refine ⟨leaf,?_⟩)))))
    · conv => whnf
      repeat' (first|refine Seal.mk ?_|(refine wS ?_;(conv=>whnf);fail_if_success show False)|((first|refine opsA_step ?_|refine drawS_go ?_|apply wL (growC (n1 + ys.length) (by omega) (by omega)));conv=>whnf)|(intro _;first|omega|conv=>whnf)|(apply And.intro<;>intro _<;>first|omega|conv=>whnf)|refine ⟨Seal.mk ?_,Seal.mk ?_⟩|((first|refine ⟨leaf,?_⟩|refine Or.inl ⟨leaf,?_⟩|apply Or.inr|refine ⟨_,rfl,?_⟩|refine ⟨_,⟨rfl,rfl⟩,?_⟩|refine ⟨intE .u8,⟨rfl,fun _=>rfl⟩,?_⟩|refine ⟨_,⟨rfl,rfl,leaf⟩,?_⟩);conv=>whnf)|with_reducible assumption|exact leaf|fail)
      refine .loop hS (γ := Nat) (fun i => ⟨[(0, .sl (.loc 0) 1 none 2), (6, .sl (.loc 3) 2 (some 0) (acc xs ys i).length), (25, .sl (.loc 0) 1 none 2), (26, .int .i64 2), (27, .int .i64 i)],
        ⟨[⟨.loc 3, true, .arr pairE (acc xs ys i)⟩, ⟨.loc 0, false, .raw [.sl (.loc 1) 2 (some j) n1, .sl (.loc 2) 2 none ys.length]⟩, ⟨.loc 1, false, .arr pairE zs⟩, ⟨.loc 2, false, .arr pairE ys⟩], 4⟩, 36, 3⟩) (fun i => i ≤ 2) (fun i => 2 - i) 0 (by omega) ?_ ?_
      · ((try dsimp only);((try refine wF ?_);repeat' (first|exact ⟨⟩|refine ⟨leaf,?_⟩|((conv=>whnf);first|exact ⟨⟩|refine ⟨leaf,?_⟩))))
      · clear hi
        intro i hi
        have e1 : (acc xs ys 0).take ((acc xs ys 0).length : Int).toNat ++ List.take (n1 : Int).toNat (List.drop (j : Int).toNat zs) = acc xs ys 1 := by
          simp only [Int.toNat_natCast, List.take_length, hxs]; rfl
        have e2 : (acc xs ys 1).take ((acc xs ys 1).length : Int).toNat ++ ys.take (ys.length : Int).toNat = acc xs ys 2 := by
          simp only [Int.toNat_natCast, List.take_length]; rfl
        obtain rfl | rfl | rfl : i = 0 ∨ i = 1 ∨ i = 2 := by omega
        · conv => whnf
          repeat' (first|refine Seal.mk ?_|(refine wS ?_;(conv=>whnf);fail_if_success show False)|((first|refine opsA_step ?_|refine drawS_go ?_);conv=>whnf)|(intro _;first|omega|conv=>whnf)|(apply And.intro<;>intro _<;>first|omega|conv=>whnf)|refine ⟨Seal.mk ?_,Seal.mk ?_⟩|((first|refine ⟨leaf,?_⟩|refine Or.inl ⟨leaf,?_⟩|apply Or.inr|refine ⟨_,rfl,?_⟩|refine ⟨_,⟨rfl,rfl⟩,?_⟩|refine ⟨intE .u8,⟨rfl,fun _=>rfl⟩,?_⟩|refine ⟨_,⟨rfl,rfl,leaf⟩,?_⟩);conv=>whnf)|with_reducible assumption|exact leaf|fail)
          all_goals (refine ⟨1, ⟨by omega, by omega⟩, ?_⟩; ((try dsimp only);((try refine wF ?_);repeat' (first|exact ⟨⟩|refine ⟨leaf,?_⟩|((conv=>whnf);first|exact ⟨⟩|refine ⟨leaf,?_⟩)))))
        · conv => whnf
          repeat' (first|refine Seal.mk ?_|(refine wS ?_;(conv=>whnf);fail_if_success show False)|((first|refine opsA_step ?_|refine drawS_go ?_);conv=>whnf)|(intro _;first|omega|conv=>whnf)|(apply And.intro<;>intro _<;>first|omega|conv=>whnf)|refine ⟨Seal.mk ?_,Seal.mk ?_⟩|((first|refine ⟨leaf,?_⟩|refine Or.inl ⟨leaf,?_⟩|apply Or.inr|refine ⟨_,rfl,?_⟩|refine ⟨_,⟨rfl,rfl⟩,?_⟩|refine ⟨intE .u8,⟨rfl,fun _=>rfl⟩,?_⟩|refine ⟨_,⟨rfl,rfl,leaf⟩,?_⟩);conv=>whnf)|with_reducible assumption|exact leaf|fail)
          all_goals (refine ⟨2, ⟨by omega, by omega⟩, ?_⟩; ((try dsimp only);((try refine wF ?_);repeat' (first|exact ⟨⟩|refine ⟨leaf,?_⟩|((conv=>whnf);first|exact ⟨⟩|refine ⟨leaf,?_⟩)))))
        · conv => whnf
          repeat' (first|refine Seal.mk ?_|(refine wS ?_;(conv=>whnf);fail_if_success show False)|((first|refine opsA_step ?_|refine drawS_go ?_);conv=>whnf)|(intro _;first|omega|conv=>whnf)|(apply And.intro<;>intro _<;>first|omega|conv=>whnf)|refine ⟨Seal.mk ?_,Seal.mk ?_⟩|((first|refine ⟨leaf,?_⟩|refine Or.inl ⟨leaf,?_⟩|apply Or.inr|refine ⟨_,rfl,?_⟩|refine ⟨_,⟨rfl,rfl⟩,?_⟩|refine ⟨intE .u8,⟨rfl,fun _=>rfl⟩,?_⟩|refine ⟨_,⟨rfl,rfl,leaf⟩,?_⟩);conv=>whnf)|with_reducible assumption|exact leaf|fail)
          (refine ⟨(),⟨⟩,?_⟩;((try refine wF ?_);repeat' (first|exact ⟨⟩|refine ⟨leaf,?_⟩|((conv=>whnf);first|exact ⟨⟩|refine ⟨leaf,?_⟩))))
end Go.Mu
