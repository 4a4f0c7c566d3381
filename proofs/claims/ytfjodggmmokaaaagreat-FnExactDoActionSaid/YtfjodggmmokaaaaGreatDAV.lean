/- Cells moved, as the program moves them. -/
import Derived.Test.YtfjodggmmokaaaaGreatDAK
import Derived.Test.YtfjodggmmokaaaaGreatDAU
import Derived.Test.YtfjodggmmokaaaaGreatDAQ
set_option linter.unusedSimpArgs false
set_option linter.unusedVariables false
set_option linter.constructorNameAsVariable false
namespace Go.Mu
open Go Go.Vm Go.RowKit Go.Proofs
attribute [local irreducible] wpA opsA stillA drawA drawS
set_option maxRecDepth 20000
set_option maxHeartbeats 40000000
theorem growC (n : Int) (h0 : 0 ≤ n) (h1 : n ≤ 1048576) : CallA S 373 [.nils, .int .i64 n] ⟨[], 0⟩ (Ret1 (.sl (.loc 0) 2 (some 0) 0) ⟨[⟨.loc 0, true, .arr pairE (List.replicate n.toNat pairE.d)⟩], 1⟩) := by
  refine .ofC hS _ _ _ Tryz.func373 ?_
  conv => whnf
  have e : [] ++ List.replicate (n - (0 - 0)).toNat pairE.d = List.replicate n.toNat pairE.d := by rw [List.nil_append, show (n - (0 - 0)).toNat = n.toNat by omega]
  by_cases hn : n = 0
  · subst hn
    repeat' (first|refine Seal.mk ?_|(refine wS ?_;(conv=>whnf);fail_if_success show False)|((first|refine opsA_step ?_);conv=>whnf)|(intro _;first|omega|conv=>whnf)|(apply And.intro<;>intro _<;>first|omega|conv=>whnf)|((first|refine aLQ ?_|refine oLQ ?_|apply Roads.one|refine ⟨_,rfl,?_⟩|refine ⟨_,⟨rfl,rfl⟩,?_⟩|refine ⟨_,⟨rfl,rfl,leafQ⟩,?_⟩);conv=>whnf)|with_reducible assumption|exact lfQ|fail)
    all_goals (refine ⟨(),⟨⟩,?_⟩;exact fzQ)
  · repeat' (first|refine Seal.mk ?_|(refine wS ?_;(conv=>whnf);fail_if_success show False)|((first|refine opsA_step ?_);conv=>whnf)|(intro _;first|omega|conv=>whnf)|(apply And.intro<;>intro _<;>first|omega|conv=>whnf)|((first|refine aLQ ?_|refine oLQ ?_|apply Roads.one|refine ⟨_,rfl,?_⟩|refine ⟨_,⟨rfl,rfl⟩,?_⟩|refine ⟨_,⟨rfl,rfl,leafQ⟩,?_⟩);conv=>whnf)|with_reducible assumption|exact lfQ|fail)
    all_goals (refine ⟨(),⟨⟩,?_⟩;exact fzQ)
def tot (xs ys : List (Int × Int)) : Nat → Int
  | 0 => 0
  | 1 => xs.length
  | _ => xs.length + ys.length
def acc (xs ys : List (Int × Int)) : Nat → List (Int × Int)
  | 0 => []
  | 1 => xs
  | _ => xs ++ ys
theorem concatC (zs ys : List (Int × Int)) (j n1 : Nat) (hj : j + n1 ≤ zs.length) (hx : zs.length ≤ 4096) (hy : ys.length ≤ 4096) : CallA S 353 [.sl (.loc 0) 1 none 2] ⟨[⟨.loc 0, false, .raw [.sl (.loc 1) 2 (some j) n1, .sl (.loc 2) 2 none ys.length]⟩, ⟨.loc 1, false, .arr pairE zs⟩, ⟨.loc 2, false, .arr pairE ys⟩], 3⟩
    (Ret1 (.sl (.loc 3) 2 none ((zs.drop j).take n1 ++ ys).length) ⟨[⟨.loc 3, true, .arr pairE ((zs.drop j).take n1 ++ ys)⟩], 4⟩) := by
  refine .ofC hS _ _ _ Tryz.func353 ?_
  conv => whnf
  have hxl : ((zs.drop j).take n1).length = n1 := by simp; omega
  generalize hxs : (zs.drop j).take n1 = xs at *
  have t0 : tot xs ys 0 = 0 := rfl
  have t1 : tot xs ys 1 = xs.length := rfl
  have t2 : tot xs ys 2 = xs.length + ys.length := rfl
  have a0 : (acc xs ys 0).length = 0 := rfl
  have a1 : (acc xs ys 1).length = xs.length := rfl
  have a2 : (acc xs ys 2).length = xs.length + ys.length := List.length_append
  repeat' (first|refine Seal.mk ?_|(refine wS ?_;(conv=>whnf);fail_if_success show False)|((first|refine opsA_step ?_);conv=>whnf)|(intro _;first|omega|conv=>whnf)|(apply And.intro<;>intro _<;>first|omega|conv=>whnf)|((first|refine aLQ ?_|refine oLQ ?_|apply Roads.one|refine ⟨_,rfl,?_⟩|refine ⟨_,⟨rfl,rfl⟩,?_⟩|refine ⟨_,⟨rfl,rfl,leafQ⟩,?_⟩);conv=>whnf)|with_reducible assumption|exact lfQ|fail)
  refine .loop hS (γ := Nat) (fun i => ⟨[(0, .sl (.loc 0) 1 none 2), (3, .int .i64 (tot xs ys i)), (9, .sl (.loc 0) 1 none 2), (10, .int .i64 2), (11, .int .i64 i)],
    ⟨[⟨.loc 0, false, .raw [.sl (.loc 1) 2 (some j) n1, .sl (.loc 2) 2 none ys.length]⟩, ⟨.loc 1, false, .arr pairE zs⟩, ⟨.loc 2, false, .arr pairE ys⟩], 3⟩, 36, 3⟩) (fun i => i ≤ 2) (fun i => 2 - i) 0 (by omega) ?_ ?_
  · ((try dsimp only);exact fzQ)
  · intro i hi
    obtain rfl | rfl | rfl : i = 0 ∨ i = 1 ∨ i = 2 := by omega
    · conv => whnf
      repeat' (first|refine Seal.mk ?_|(refine wS ?_;(conv=>whnf);fail_if_success show False)|((first|refine opsA_step ?_);conv=>whnf)|(intro _;first|omega|conv=>whnf)|(apply And.intro<;>intro _<;>first|omega|conv=>whnf)|((first|refine aLQ ?_|refine oLQ ?_|apply Roads.one|refine ⟨_,rfl,?_⟩|refine ⟨_,⟨rfl,rfl⟩,?_⟩|refine ⟨_,⟨rfl,rfl,leafQ⟩,?_⟩);conv=>whnf)|with_reducible assumption|exact lfQ|fail)
      all_goals (refine ⟨1, ⟨by omega, by omega⟩, ?_⟩; ((try dsimp only);exact fzQ))
    · conv => whnf
      repeat' (first|refine Seal.mk ?_|(refine wS ?_;(conv=>whnf);fail_if_success show False)|((first|refine opsA_step ?_);conv=>whnf)|(intro _;first|omega|conv=>whnf)|(apply And.intro<;>intro _<;>first|omega|conv=>whnf)|((first|refine aLQ ?_|refine oLQ ?_|apply Roads.one|refine ⟨_,rfl,?_⟩|refine ⟨_,⟨rfl,rfl⟩,?_⟩|refine ⟨_,⟨rfl,rfl,leafQ⟩,?_⟩);conv=>whnf)|with_reducible assumption|exact lfQ|fail)
      all_goals (refine ⟨2, ⟨by omega, by omega⟩, ?_⟩; ((try dsimp only);exact fzQ))
    · conv => whnf
      repeat' (first|refine Seal.mk ?_|(refine wS ?_;(conv=>whnf);fail_if_success show False)|((first|refine opsA_step ?_|apply wL (growC (n1 + ys.length) (by omega) (by omega)));conv=>whnf)|(intro _;first|omega|conv=>whnf)|(apply And.intro<;>intro _<;>first|omega|conv=>whnf)|((first|refine aLQ ?_|refine oLQ ?_|apply Roads.one|refine ⟨_,rfl,?_⟩|refine ⟨_,⟨rfl,rfl⟩,?_⟩|refine ⟨_,⟨rfl,rfl,leafQ⟩,?_⟩);conv=>whnf)|with_reducible assumption|exact lfQ|fail)
      refine .loop hS (γ := Nat) (fun i => ⟨[(0, .sl (.loc 0) 1 none 2), (6, .sl (.loc 3) 2 (some 0) (acc xs ys i).length), (25, .sl (.loc 0) 1 none 2), (26, .int .i64 2), (27, .int .i64 i)],
        ⟨[⟨.loc 3, true, .arr pairE (acc xs ys i)⟩, ⟨.loc 0, false, .raw [.sl (.loc 1) 2 (some j) n1, .sl (.loc 2) 2 none ys.length]⟩, ⟨.loc 1, false, .arr pairE zs⟩, ⟨.loc 2, false, .arr pairE ys⟩], 4⟩, 36, 3⟩) (fun i => i ≤ 2) (fun i => 2 - i) 0 (by omega) ?_ ?_
      · ((try dsimp only);exact fzQ)
      · clear hi
        intro i hi
        have e1 : (acc xs ys 0).take ((acc xs ys 0).length : Int).toNat ++ List.take (n1 : Int).toNat (List.drop (j : Int).toNat zs) = acc xs ys 1 := by
          simp only [Int.toNat_natCast, List.take_length, hxs]; rfl
        have e2 : (acc xs ys 1).take ((acc xs ys 1).length : Int).toNat ++ ys.take (ys.length : Int).toNat = acc xs ys 2 := by
          simp only [Int.toNat_natCast, List.take_length]; rfl
        obtain rfl | rfl | rfl : i = 0 ∨ i = 1 ∨ i = 2 := by omega
        · conv => whnf
          repeat' (first|refine Seal.mk ?_|(refine wS ?_;(conv=>whnf);fail_if_success show False)|((first|refine opsA_step ?_);conv=>whnf)|(intro _;first|omega|conv=>whnf)|(apply And.intro<;>intro _<;>first|omega|conv=>whnf)|((first|refine aLQ ?_|refine oLQ ?_|apply Roads.one|refine ⟨_,rfl,?_⟩|refine ⟨_,⟨rfl,rfl⟩,?_⟩|refine ⟨_,⟨rfl,rfl,leafQ⟩,?_⟩);conv=>whnf)|with_reducible assumption|exact lfQ|fail)
          all_goals (refine ⟨1, ⟨by omega, by omega⟩, ?_⟩; ((try dsimp only);exact fzQ))
        · conv => whnf
          repeat' (first|refine Seal.mk ?_|(refine wS ?_;(conv=>whnf);fail_if_success show False)|((first|refine opsA_step ?_);conv=>whnf)|(intro _;first|omega|conv=>whnf)|(apply And.intro<;>intro _<;>first|omega|conv=>whnf)|((first|refine aLQ ?_|refine oLQ ?_|apply Roads.one|refine ⟨_,rfl,?_⟩|refine ⟨_,⟨rfl,rfl⟩,?_⟩|refine ⟨_,⟨rfl,rfl,leafQ⟩,?_⟩);conv=>whnf)|with_reducible assumption|exact lfQ|fail)
          all_goals (refine ⟨2, ⟨by omega, by omega⟩, ?_⟩; ((try dsimp only);exact fzQ))
        · conv => whnf
          repeat' (first|refine Seal.mk ?_|(refine wS ?_;(conv=>whnf);fail_if_success show False)|((first|refine opsA_step ?_);conv=>whnf)|(intro _;first|omega|conv=>whnf)|(apply And.intro<;>intro _<;>first|omega|conv=>whnf)|((first|refine aLQ ?_|refine oLQ ?_|apply Roads.one|refine ⟨_,rfl,?_⟩|refine ⟨_,⟨rfl,rfl⟩,?_⟩|refine ⟨_,⟨rfl,rfl,leafQ⟩,?_⟩);conv=>whnf)|with_reducible assumption|exact lfQ|fail)
          (refine ⟨(),⟨⟩,?_⟩;exact fzQ)
theorem concatD (zs ys : List (Int × Int)) (j n1 : Nat) (hj : j + n1 ≤ zs.length) (hx : zs.length ≤ 4096) (hy : ys.length ≤ 4096) : CallA S 353 [.sl (.loc 0) 1 none 2] ⟨[⟨.loc 0, false, .raw [.sl (.loc 2) 2 none ys.length, .sl (.loc 1) 2 (some j) n1]⟩, ⟨.loc 1, false, .arr pairE zs⟩, ⟨.loc 2, false, .arr pairE ys⟩], 3⟩
    (Ret1 (.sl (.loc 3) 2 none (ys ++ (zs.drop j).take n1).length) ⟨[⟨.loc 3, true, .arr pairE (ys ++ (zs.drop j).take n1)⟩], 4⟩) := by
  refine .ofC hS _ _ _ Tryz.func353 ?_
  conv => whnf
  have hxl : ((zs.drop j).take n1).length = n1 := by simp; omega
  generalize hxs : (zs.drop j).take n1 = xs at *
  have t0 : tot ys xs 0 = 0 := rfl
  have t1 : tot ys xs 1 = ys.length := rfl
  have t2 : tot ys xs 2 = ys.length + xs.length := rfl
  have a0 : (acc ys xs 0).length = 0 := rfl
  have a1 : (acc ys xs 1).length = ys.length := rfl
  have a2 : (acc ys xs 2).length = ys.length + xs.length := List.length_append
  repeat' (first|refine Seal.mk ?_|(refine wS ?_;(conv=>whnf);fail_if_success show False)|((first|refine opsA_step ?_);conv=>whnf)|(intro _;first|omega|conv=>whnf)|(apply And.intro<;>intro _<;>first|omega|conv=>whnf)|((first|refine aLQ ?_|refine oLQ ?_|apply Roads.one|refine ⟨_,rfl,?_⟩|refine ⟨_,⟨rfl,rfl⟩,?_⟩|refine ⟨_,⟨rfl,rfl,leafQ⟩,?_⟩);conv=>whnf)|with_reducible assumption|exact lfQ|fail)
  refine .loop hS (γ := Nat) (fun i => ⟨[(0, .sl (.loc 0) 1 none 2), (3, .int .i64 (tot ys xs i)), (9, .sl (.loc 0) 1 none 2), (10, .int .i64 2), (11, .int .i64 i)],
    ⟨[⟨.loc 0, false, .raw [.sl (.loc 2) 2 none ys.length, .sl (.loc 1) 2 (some j) n1]⟩, ⟨.loc 1, false, .arr pairE zs⟩, ⟨.loc 2, false, .arr pairE ys⟩], 3⟩, 36, 3⟩) (fun i => i ≤ 2) (fun i => 2 - i) 0 (by omega) ?_ ?_
  · ((try dsimp only);exact fzQ)
  · intro i hi
    obtain rfl | rfl | rfl : i = 0 ∨ i = 1 ∨ i = 2 := by omega
    · conv => whnf
      repeat' (first|refine Seal.mk ?_|(refine wS ?_;(conv=>whnf);fail_if_success show False)|((first|refine opsA_step ?_);conv=>whnf)|(intro _;first|omega|conv=>whnf)|(apply And.intro<;>intro _<;>first|omega|conv=>whnf)|((first|refine aLQ ?_|refine oLQ ?_|apply Roads.one|refine ⟨_,rfl,?_⟩|refine ⟨_,⟨rfl,rfl⟩,?_⟩|refine ⟨_,⟨rfl,rfl,leafQ⟩,?_⟩);conv=>whnf)|with_reducible assumption|exact lfQ|fail)
      all_goals (refine ⟨1, ⟨by omega, by omega⟩, ?_⟩; ((try dsimp only);exact fzQ))
    · conv => whnf
      repeat' (first|refine Seal.mk ?_|(refine wS ?_;(conv=>whnf);fail_if_success show False)|((first|refine opsA_step ?_);conv=>whnf)|(intro _;first|omega|conv=>whnf)|(apply And.intro<;>intro _<;>first|omega|conv=>whnf)|((first|refine aLQ ?_|refine oLQ ?_|apply Roads.one|refine ⟨_,rfl,?_⟩|refine ⟨_,⟨rfl,rfl⟩,?_⟩|refine ⟨_,⟨rfl,rfl,leafQ⟩,?_⟩);conv=>whnf)|with_reducible assumption|exact lfQ|fail)
      all_goals (refine ⟨2, ⟨by omega, by omega⟩, ?_⟩; ((try dsimp only);exact fzQ))
    · conv => whnf
      repeat' (first|refine Seal.mk ?_|(refine wS ?_;(conv=>whnf);fail_if_success show False)|((first|refine opsA_step ?_|apply wL (growC (ys.length + n1) (by omega) (by omega)));conv=>whnf)|(intro _;first|omega|conv=>whnf)|(apply And.intro<;>intro _<;>first|omega|conv=>whnf)|((first|refine aLQ ?_|refine oLQ ?_|apply Roads.one|refine ⟨_,rfl,?_⟩|refine ⟨_,⟨rfl,rfl⟩,?_⟩|refine ⟨_,⟨rfl,rfl,leafQ⟩,?_⟩);conv=>whnf)|with_reducible assumption|exact lfQ|fail)
      refine .loop hS (γ := Nat) (fun i => ⟨[(0, .sl (.loc 0) 1 none 2), (6, .sl (.loc 3) 2 (some 0) (acc ys xs i).length), (25, .sl (.loc 0) 1 none 2), (26, .int .i64 2), (27, .int .i64 i)],
        ⟨[⟨.loc 3, true, .arr pairE (acc ys xs i)⟩, ⟨.loc 0, false, .raw [.sl (.loc 2) 2 none ys.length, .sl (.loc 1) 2 (some j) n1]⟩, ⟨.loc 1, false, .arr pairE zs⟩, ⟨.loc 2, false, .arr pairE ys⟩], 4⟩, 36, 3⟩) (fun i => i ≤ 2) (fun i => 2 - i) 0 (by omega) ?_ ?_
      · ((try dsimp only);exact fzQ)
      · clear hi
        intro i hi
        have e1 : (acc ys xs 0).take ((acc ys xs 0).length : Int).toNat ++ ys.take (ys.length : Int).toNat = acc ys xs 1 := by
          simp only [Int.toNat_natCast, List.take_length]; rfl
        have e2 : (acc ys xs 1).take ((acc ys xs 1).length : Int).toNat ++ List.take (n1 : Int).toNat (List.drop (j : Int).toNat zs) = acc ys xs 2 := by
          simp only [Int.toNat_natCast, List.take_length, hxs]; rfl
        obtain rfl | rfl | rfl : i = 0 ∨ i = 1 ∨ i = 2 := by omega
        · conv => whnf
          repeat' (first|refine Seal.mk ?_|(refine wS ?_;(conv=>whnf);fail_if_success show False)|((first|refine opsA_step ?_);conv=>whnf)|(intro _;first|omega|conv=>whnf)|(apply And.intro<;>intro _<;>first|omega|conv=>whnf)|((first|refine aLQ ?_|refine oLQ ?_|apply Roads.one|refine ⟨_,rfl,?_⟩|refine ⟨_,⟨rfl,rfl⟩,?_⟩|refine ⟨_,⟨rfl,rfl,leafQ⟩,?_⟩);conv=>whnf)|with_reducible assumption|exact lfQ|fail)
          all_goals (refine ⟨1, ⟨by omega, by omega⟩, ?_⟩; ((try dsimp only);exact fzQ))
        · conv => whnf
          repeat' (first|refine Seal.mk ?_|(refine wS ?_;(conv=>whnf);fail_if_success show False)|((first|refine opsA_step ?_);conv=>whnf)|(intro _;first|omega|conv=>whnf)|(apply And.intro<;>intro _<;>first|omega|conv=>whnf)|((first|refine aLQ ?_|refine oLQ ?_|apply Roads.one|refine ⟨_,rfl,?_⟩|refine ⟨_,⟨rfl,rfl⟩,?_⟩|refine ⟨_,⟨rfl,rfl,leafQ⟩,?_⟩);conv=>whnf)|with_reducible assumption|exact lfQ|fail)
          all_goals (refine ⟨2, ⟨by omega, by omega⟩, ?_⟩; ((try dsimp only);exact fzQ))
        · conv => whnf
          repeat' (first|refine Seal.mk ?_|(refine wS ?_;(conv=>whnf);fail_if_success show False)|((first|refine opsA_step ?_);conv=>whnf)|(intro _;first|omega|conv=>whnf)|(apply And.intro<;>intro _<;>first|omega|conv=>whnf)|((first|refine aLQ ?_|refine oLQ ?_|apply Roads.one|refine ⟨_,rfl,?_⟩|refine ⟨_,⟨rfl,rfl⟩,?_⟩|refine ⟨_,⟨rfl,rfl,leafQ⟩,?_⟩);conv=>whnf)|with_reducible assumption|exact lfQ|fail)
          (refine ⟨(),⟨⟩,?_⟩;exact fzQ)
theorem movedC (c : Cs) (i m : Nat) (n a : Int) (hi : i + m ≤ c.length) (hc : c.length ≤ 4000) (hn : -100000 ≤ n ∧ n ≤ 100000) : CallA S 321 [.sl (.loc 0) 2 (some i) m, .int .i64 n, .int .i64 a] ⟨[⟨.loc 0, true, .arr pairE c⟩], 1⟩ (Ret1 (.tup []) ⟨[⟨.loc 0, true, .arr pairE (over c i (mvL ((c.drop i).take m) n a))⟩], 1⟩) := by
  obtain ⟨f, hf⟩ := Int.eq_ofNat_of_zero_le (show 0 ≤ min (max n (-n)) (m : Int) by omega)
  have hb := blanks (min (max n (-n)) (m : Int)) a (by omega) (by omega)
  have hl : ((c.drop i).take m).length = m := by simp only [List.length_take, List.length_drop]; omega
  have hfn : (min (max n (-n)) (m : Int)).toNat = f := by omega
  rw [hfn] at hb
  have hrl : (List.replicate f (bl a)).length = f := List.length_replicate
  by_cases hp : 0 < n
  · have hcc := concatD c (List.replicate f (bl a)) i m hi (by omega) (by omega)
    have hcl : (List.replicate f (bl a) ++ (c.drop i).take m).length = f + m := by rw [List.length_append, hl, hrl]
    have hmv : mvL ((c.drop i).take m) n a = (List.replicate f (bl a) ++ (c.drop i).take m).take m := by unfold mvL; rw [if_pos hp, hl, show min n.toNat m = f by omega]
    rw [hrl] at hcc
    rw [hmv]
    generalize List.replicate f (bl a) ++ (c.drop i).take m = cat at *
    have eo : over c (i : Int).toNat (List.take (m : Int).toNat (List.take ((m : Int) - 0).toNat (List.drop (Int.toNat 0) cat))) = over c i (List.take m cat) := by
      rw [Int.toNat_natCast, Int.toNat_natCast, show ((m : Int) - 0).toNat = m by omega, List.take_take, Nat.min_self]; rfl
    refine .ofC hS _ _ _ Tryz.func321 ?_
    conv => whnf
    repeat' (first|refine Seal.mk ?_|(refine wS ?_;(conv=>whnf);fail_if_success show False)|((first|refine opsA_step ?_|apply wL (hb)|apply wL (hcc));conv=>whnf)|(intro _;first|omega|conv=>whnf)|(apply And.intro<;>intro _<;>first|omega|conv=>whnf)|((first|refine aLQ ?_|refine ⟨_,rfl,?_⟩|refine ⟨_,⟨rfl,rfl⟩,?_⟩|refine ⟨_,⟨rfl,rfl,leafQ⟩,?_⟩);conv=>whnf)|with_reducible assumption|exact lfQ|fail)
    all_goals (first | contradiction | (exfalso; omega) | (refine ⟨(),⟨⟩,?_⟩;exact fzQ))
  · have hcc := concatC c (List.replicate f (bl a)) i m hi (by omega) (by omega)
    have hcl : ((c.drop i).take m ++ List.replicate f (bl a)).length = m + f := by rw [List.length_append, hl, hrl]
    have hmv : mvL ((c.drop i).take m) n a = ((c.drop i).take m ++ List.replicate f (bl a)).drop f := by unfold mvL; rw [if_neg hp, hl, show min (-n).toNat m = f by omega]
    rw [hrl] at hcc
    rw [hmv]
    generalize (c.drop i).take m ++ List.replicate f (bl a) = cat at *
    have eo : over c (i : Int).toNat (List.take (m : Int).toNat (List.take ((cat.length : Int) - f).toNat (List.drop (f : Int).toNat cat))) = over c i (List.drop f cat) := by
      rw [Int.toNat_natCast, Int.toNat_natCast, Int.toNat_natCast, show ((cat.length : Int) - f).toNat = m by omega, List.take_take, Nat.min_self, List.take_of_length_le (by rw [List.length_drop]; omega)]
    refine .ofC hS _ _ _ Tryz.func321 ?_
    conv => whnf
    repeat' (first|refine Seal.mk ?_|(refine wS ?_;(conv=>whnf);fail_if_success show False)|((first|refine opsA_step ?_|apply wL (hb)|apply wL (hcc));conv=>whnf)|(intro _;first|omega|conv=>whnf)|(apply And.intro<;>intro _<;>first|omega|conv=>whnf)|((first|refine aLQ ?_|refine ⟨_,rfl,?_⟩|refine ⟨_,⟨rfl,rfl⟩,?_⟩|refine ⟨_,⟨rfl,rfl,leafQ⟩,?_⟩);conv=>whnf)|with_reducible assumption|exact lfQ|fail)
    all_goals (first | contradiction | (exfalso; omega) | (refine ⟨(),⟨⟩,?_⟩;exact fzQ))
end Go.Mu
