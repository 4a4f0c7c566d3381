/- The law's own functions: slices of slices marked, lines, consoles. -/
import Derived.Test.YtcimmkokkmbhpaaGreatLG
import Derived.Test.YtcimmkokkmbhpaaGreatLD
set_option linter.unusedSimpArgs false
set_option linter.unusedVariables false
set_option linter.constructorNameAsVariable false
namespace Go.Mu
open Go Go.Vm Go.RowKit Go.Proofs
attribute [local irreducible] wpA opsA stillA drawA drawS
set_option maxRecDepth 20000
set_option maxHeartbeats 4000000
theorem leafL12 {P : Prop} (h : P := by
  first
  | exact leaf
  | exact PreC.of_eq (mkAll_set' _ (by with_reducible assumption))
  | fail) : P := h
@[reducible] def mkBytes (n : Int) (x : List Int) : List Int := mks (mkU n) x.length
@[reducible] def mkUU (n : Int) (xs : List (List Int)) : List (List Int) := mkAll List.length mkBytes n xs
theorem markByteSS (xs : List (List Int)) (hx : xs.length ≤ 1048576) (hs : sumC List.length xs ≤ 1048576) (n : Int) (hn : 0 ≤ n) (hn' : n ≤ 137438953472) : CallA S 200 [.sl (.loc 0) 1 none xs.length, .int .i64 n] ⟨[⟨.loc 0, true, bytesN xs⟩], 1⟩ (Ret1 (.int .i64 (n + sumC List.length xs)) ⟨[⟨.loc 0, true, bytesN (mkUU n xs)⟩], 1⟩) := by
  refine .ofC hS _ _ _ Tryz.func200 ?_
  conv => whnf
  repeat' (first|refine Seal.mk ?_|(refine wS ?_;(conv=>whnf);fail_if_success show False)|((first|refine opsA_step ?_|refine drawS_go ?_);conv=>whnf)|(intro _;first|omega|conv=>whnf)|(apply And.intro<;>intro _<;>first|omega|conv=>whnf)|refine ⟨Seal.mk ?_,Seal.mk ?_⟩|((first|refine ⟨leafL12,?_⟩|refine Or.inl ⟨leafL12,?_⟩|apply Or.inr|refine ⟨_,rfl,?_⟩|refine ⟨_,⟨rfl,rfl⟩,?_⟩|refine ⟨intE .u8,⟨rfl,fun _=>rfl⟩,?_⟩|refine ⟨_,⟨rfl,rfl,leafL12⟩,?_⟩);conv=>whnf)|with_reducible assumption|exact leafL12|fail)
  refine .loop hS (γ := Nat) (fun i => ⟨[(0, .sl (.loc 0) 1 none xs.length), (1, .int .i64 (n + sumC List.length (xs.take i))), (5, .int .i64 i)],
    ⟨[⟨.loc 0, true, bytesN (mkUU n (xs.take i) ++ xs.drop i)⟩], 1⟩, 19, 1⟩) (fun i => i ≤ xs.length) (fun i => xs.length - i) 0 (by omega) ?_ ?_
  · have h0 : mkUU n (xs.take 0) ++ xs.drop 0 = xs := by simp [mkAll]
    have h1 := h0.symm
    have h2 : sumC List.length (xs.take 0) = 0 := by simp [sumC]
    ((try dsimp only);((try refine wF ?_);repeat' (first|exact ⟨⟩|refine ⟨leafL12,?_⟩|((conv=>whnf);first|exact ⟨⟩|refine ⟨leafL12,?_⟩))))
  · intro i hi
    have hl : (mkUU n (xs.take i) ++ xs.drop i).length = xs.length := by simp [mkAll_len]; omega
    have hb := sumC_get (cnt := List.length) (xs := xs) (i : Int).toNat [] rfl
    have hle := sumC_le (cnt := List.length) (xs := xs) i
    by_cases hlt : i < xs.length
    · have hcur := mkAll_cur (cnt := List.length) (mk := mkBytes) (n := n) hlt ([] : List Int)
      have hnx := sumC_take (cnt := List.length) hlt ([] : List Int)
      have hset := mkAll_set (cnt := List.length) (mk := mkBytes) (n := n) hlt ([] : List Int)
      conv => whnf
      apply Wp.turn; (focus (apply Turn.open hS (nb := 0) (i0 := (i : Int)); (conv => whnf); refine And.intro ⟨by omega, by omega⟩ ?_; (focus ((conv=>whnf);repeat' (first|exact rfl|refine ⟨leafL12,?_⟩|((conv=>whnf);first|exact rfl|refine ⟨leafL12,?_⟩)))))); (conv => whnf)
      rw [hcur]
      generalize hz : xs.getD (i : Int).toNat [] = z at *
      repeat' (first|refine Seal.mk ?_|(refine wS ?_;(conv=>whnf);fail_if_success show False)|((first|refine opsA_step ?_|refine drawS_go ?_|apply wL (markByteS _ _ _ _ _));conv=>whnf)|(intro _;first|omega|conv=>whnf)|(apply And.intro<;>intro _<;>first|omega|conv=>whnf)|refine ⟨Seal.mk ?_,Seal.mk ?_⟩|((first|refine ⟨leafL12,?_⟩|refine Or.inl ⟨leafL12,?_⟩|apply Or.inr|refine ⟨_,rfl,?_⟩|refine ⟨_,⟨rfl,rfl⟩,?_⟩|refine ⟨intE .u8,⟨rfl,fun _=>rfl⟩,?_⟩|refine ⟨_,⟨rfl,rfl,leafL12⟩,?_⟩);conv=>whnf)|with_reducible assumption|exact leafL12|fail)
      have hlz : (mkBytes (n + sumC List.length (xs.take i)) z).length = z.length := mks_len _ _
      have hlz' : ((mkBytes (n + sumC List.length (xs.take i)) z).length : Int) = z.length := by omega
      have hlz2 := hlz'.symm
      refine ⟨i + 1, ⟨by omega, by omega⟩, ?_⟩
      apply FitsT.turn; (focus (apply Turn.close hS (nb := 0) (x := mkBytes (n + sumC List.length (xs.take i)) z) (xs' := mkUU n (xs.take (i + 1)) ++ xs.drop (i + 1)); (conv => whnf); refine And.intro ⟨rfl, ?_⟩ ?_; (focus (first | exact Or.inr ⟨by omega, by omega, by first | rfl | (with_reducible assumption) | (exact Eq.symm (by with_reducible assumption))⟩ | exact Or.inl ⟨by first | rfl | omega, by first | rfl | (with_reducible assumption)⟩)); (focus ((conv=>whnf);repeat' (first|exact rfl|refine ⟨leafL12,?_⟩|((conv=>whnf);first|exact rfl|refine ⟨leafL12,?_⟩))))))
      ((try dsimp only);((try refine wF ?_);repeat' (first|exact ⟨⟩|refine ⟨leafL12,?_⟩|((conv=>whnf);first|exact ⟨⟩|refine ⟨leafL12,?_⟩))))
    · have hi : i = xs.length := by omega
      subst hi
      have h0 : mkUU n (xs.take xs.length) ++ xs.drop xs.length = mkUU n xs := by simp
      have h2 : xs.take xs.length = xs := List.take_length
      conv => whnf
      repeat' (first|refine Seal.mk ?_|(refine wS ?_;(conv=>whnf);fail_if_success show False)|((first|refine opsA_step ?_|refine drawS_go ?_);conv=>whnf)|(intro _;first|omega|conv=>whnf)|(apply And.intro<;>intro _<;>first|omega|conv=>whnf)|refine ⟨Seal.mk ?_,Seal.mk ?_⟩|((first|refine ⟨leafL12,?_⟩|refine Or.inl ⟨leafL12,?_⟩|apply Or.inr|refine ⟨_,rfl,?_⟩|refine ⟨_,⟨rfl,rfl⟩,?_⟩|refine ⟨intE .u8,⟨rfl,fun _=>rfl⟩,?_⟩|refine ⟨_,⟨rfl,rfl,leafL12⟩,?_⟩);conv=>whnf)|with_reducible assumption|exact leafL12|fail)
      (refine ⟨(),⟨⟩,?_⟩;((try refine wF ?_);repeat' (first|exact ⟨⟩|refine ⟨leafL12,?_⟩|((conv=>whnf);first|exact ⟨⟩|refine ⟨leafL12,?_⟩))))
theorem heldByteSS (xs : List (List Int)) (hx : xs.length ≤ 1048576) (hs : sumC List.length xs ≤ 1048576) (n : Int) (hn : 0 ≤ n) (hn' : n ≤ 137438953472) : CallA S 270 [.sl (.loc 0) 1 none xs.length, .int .i64 n] ⟨[⟨.loc 0, false, bytesN (mkUU n xs)⟩], 1⟩ (Ret1 (.int .i64 (n + sumC List.length xs)) ⟨[], 1⟩) := by
  refine .ofC hS _ _ _ Tryz.func270 ?_
  conv => whnf
  have hl : (mkUU n xs).length = xs.length := mkAll_len _ _
  repeat' (first|refine Seal.mk ?_|(refine wS ?_;(conv=>whnf);fail_if_success show False)|((first|refine opsA_step ?_|refine drawS_go ?_);conv=>whnf)|(intro _;first|omega|conv=>whnf)|(apply And.intro<;>intro _<;>first|omega|conv=>whnf)|refine ⟨Seal.mk ?_,Seal.mk ?_⟩|((first|refine ⟨leafL12,?_⟩|refine Or.inl ⟨leafL12,?_⟩|apply Or.inr|refine ⟨_,rfl,?_⟩|refine ⟨_,⟨rfl,rfl⟩,?_⟩|refine ⟨intE .u8,⟨rfl,fun _=>rfl⟩,?_⟩|refine ⟨_,⟨rfl,rfl,leafL12⟩,?_⟩);conv=>whnf)|with_reducible assumption|exact leafL12|fail)
  refine .loop hS (γ := Nat) (fun i => ⟨[(0, .sl (.loc 0) 1 none xs.length), (1, .int .i64 (n + sumC List.length (xs.take i))), (5, .int .i64 i)],
    ⟨[⟨.loc 0, false, bytesN (mkUU n xs)⟩], 1⟩, 21, 1⟩) (fun i => i ≤ xs.length) (fun i => xs.length - i) 0 (by omega) ?_ ?_
  · have h2 : sumC List.length (xs.take 0) = 0 := by simp [sumC]
    ((try dsimp only);((try refine wF ?_);repeat' (first|exact ⟨⟩|refine ⟨leafL12,?_⟩|((conv=>whnf);first|exact ⟨⟩|refine ⟨leafL12,?_⟩))))
  · intro i hi
    have hb := sumC_get (cnt := List.length) (xs := xs) (i : Int).toNat [] rfl
    have hle := sumC_le (cnt := List.length) (xs := xs) i
    by_cases hlt : i < xs.length
    · have hnx := sumC_take (cnt := List.length) hlt ([] : List Int)
      have hget := mkAll_get (cnt := List.length) (mk := mkBytes) (n := n) hlt ([] : List Int)
      have hgl : ((mkUU n xs).getD (i : Int).toNat []).length = (xs.getD (i : Int).toNat []).length := by rw [hget]; exact mks_len _ _
      have hge : (mkUU n xs).getD (i : Int).toNat [] = mks (mkU (n + sumC List.length (xs.take i))) ((mkUU n xs).getD (i : Int).toNat []).length := by rw [hgl]; exact hget
      conv => whnf
      repeat' (first|refine Seal.mk ?_|(refine wS ?_;(conv=>whnf);fail_if_success show False)|((first|refine opsA_step ?_|refine drawS_go ?_|apply wL (heldByteS _ _ _ _ _));conv=>whnf)|(intro _;first|omega|conv=>whnf)|(apply And.intro<;>intro _<;>first|omega|conv=>whnf)|refine ⟨Seal.mk ?_,Seal.mk ?_⟩|((first|refine ⟨leafL12,?_⟩|refine Or.inl ⟨leafL12,?_⟩|apply Or.inr|refine ⟨_,rfl,?_⟩|refine ⟨_,⟨rfl,rfl⟩,?_⟩|refine ⟨intE .u8,⟨rfl,fun _=>rfl⟩,?_⟩|refine ⟨_,⟨rfl,rfl,leafL12⟩,?_⟩);conv=>whnf)|with_reducible assumption|exact leafL12|fail)
      all_goals (refine ⟨i + 1, ⟨by omega, by omega⟩, ?_⟩; ((try dsimp only);((try refine wF ?_);repeat' (first|exact ⟨⟩|refine ⟨leafL12,?_⟩|((conv=>whnf);first|exact ⟨⟩|refine ⟨leafL12,?_⟩)))))
    · have hi : i = xs.length := by omega
      subst hi
      have h2 : xs.take xs.length = xs := List.take_length
      conv => whnf
      repeat' (first|refine Seal.mk ?_|(refine wS ?_;(conv=>whnf);fail_if_success show False)|((first|refine opsA_step ?_|refine drawS_go ?_);conv=>whnf)|(intro _;first|omega|conv=>whnf)|(apply And.intro<;>intro _<;>first|omega|conv=>whnf)|refine ⟨Seal.mk ?_,Seal.mk ?_⟩|((first|refine ⟨leafL12,?_⟩|refine Or.inl ⟨leafL12,?_⟩|apply Or.inr|refine ⟨_,rfl,?_⟩|refine ⟨_,⟨rfl,rfl⟩,?_⟩|refine ⟨intE .u8,⟨rfl,fun _=>rfl⟩,?_⟩|refine ⟨_,⟨rfl,rfl,leafL12⟩,?_⟩);conv=>whnf)|with_reducible assumption|exact leafL12|fail)
      (refine ⟨(),⟨⟩,?_⟩;((try refine wF ?_);repeat' (first|exact ⟨⟩|refine ⟨leafL12,?_⟩|((conv=>whnf);first|exact ⟨⟩|refine ⟨leafL12,?_⟩))))
@[reducible] noncomputable def mkLin (n : Int) (s : Lin) : Lin := { s with ready := mkUU (n) s.ready, edit := mks (mkU (n + sumC List.length s.ready)) s.edit.length }
theorem markLine (s : Lin) (h : LinB s) (n : Int) (hn : 0 ≤ n) (hn' : n ≤ 17179869184) : CallA S 107 [.agg (linC (.loc 0) (.loc 1) s), .int .i64 n] ⟨linH true (.loc 0) (.loc 1) s [], 2⟩ (Ret1 (.int .i64 (n + sumC List.length s.ready + s.edit.length)) ⟨linH true (.loc 0) (.loc 1) (mkLin n s) [], 2⟩) := by
  refine .ofC hS _ _ _ Tryz.func107 ?_
  conv => whnf
  obtain ⟨h0, h1, h2⟩ := h
  repeat' (first|refine Seal.mk ?_|(refine wS ?_;(conv=>whnf);fail_if_success show False)|((first|refine opsA_step ?_|refine drawS_go ?_|apply wL (markByteSS _ _ _ _ _ _)|apply wL (markByteS _ _ _ _ _));conv=>whnf)|(intro _;first|omega|conv=>whnf)|(apply And.intro<;>intro _<;>first|omega|conv=>whnf)|refine ⟨Seal.mk ?_,Seal.mk ?_⟩|((first|refine ⟨leafL12,?_⟩|refine Or.inl ⟨leafL12,?_⟩|apply Or.inr|refine ⟨_,rfl,?_⟩|refine ⟨_,⟨rfl,rfl⟩,?_⟩|refine ⟨intE .u8,⟨rfl,fun _=>rfl⟩,?_⟩|refine ⟨_,⟨rfl,rfl,leafL12⟩,?_⟩);conv=>whnf)|with_reducible assumption|exact leafL12|fail)
  (refine ⟨(),⟨⟩,?_⟩;((try refine wF ?_);repeat' (first|exact ⟨⟩|refine ⟨leafL12,?_⟩|((conv=>whnf);first|exact ⟨⟩|refine ⟨leafL12,?_⟩))))
theorem heldLine (s : Lin) (h : LinB s) (n : Int) (hn : 0 ≤ n) (hn' : n ≤ 17179869184) : CallA S 201 [.agg (linC (.loc 0) (.loc 1) s), .int .i64 n] ⟨linH false (.loc 0) (.loc 1) (mkLin n s) [], 2⟩ (Ret1 (.int .i64 (n + sumC List.length s.ready + s.edit.length)) ⟨[], 2⟩) := by
  refine .ofC hS _ _ _ Tryz.func201 ?_
  conv => whnf
  obtain ⟨h0, h1, h2⟩ := h
  repeat' (first|refine Seal.mk ?_|(refine wS ?_;(conv=>whnf);fail_if_success show False)|((first|refine opsA_step ?_|refine drawS_go ?_|apply wL (heldByteSS _ _ _ _ _ _)|apply wL (heldByteS _ _ _ _ _));conv=>whnf)|(intro _;first|omega|conv=>whnf)|(apply And.intro<;>intro _<;>first|omega|conv=>whnf)|refine ⟨Seal.mk ?_,Seal.mk ?_⟩|((first|refine ⟨leafL12,?_⟩|refine Or.inl ⟨leafL12,?_⟩|apply Or.inr|refine ⟨_,rfl,?_⟩|refine ⟨_,⟨rfl,rfl⟩,?_⟩|refine ⟨intE .u8,⟨rfl,fun _=>rfl⟩,?_⟩|refine ⟨_,⟨rfl,rfl,leafL12⟩,?_⟩);conv=>whnf)|with_reducible assumption|exact leafL12|fail)
  all_goals (refine ⟨(),⟨⟩,?_⟩;((try refine wF ?_);repeat' (first|exact ⟨⟩|refine ⟨leafL12,?_⟩|((conv=>whnf);first|exact ⟨⟩|refine ⟨leafL12,?_⟩))))
@[reducible] noncomputable def mkCon (n : Int) (s : Con) : Con := { s with vt := mkVt (n) s.vt, lin := mkLin (n + s.vt.par.params.length + 2 * s.vt.scr.grid.cells.length + 2 * s.vt.scr.grid.back.length + s.vt.scr.tabs.length + s.vt.scr.sets.length) s.lin }
theorem markConsole (s : Con) (h : ConB s) (n : Int) (hn : 0 ≤ n) (hn' : n ≤ 8589934592) : CallA S 34 [.agg (conC (.loc 0) (.loc 1) (.loc 2) (.loc 3) (.loc 4) (.loc 5) (.loc 6) s), .int .i64 n] ⟨conH true (.loc 0) (.loc 1) (.loc 2) (.loc 3) (.loc 4) (.loc 5) (.loc 6) s [], 7⟩ (Ret1 (.int .i64 (n + s.vt.par.params.length + 2 * s.vt.scr.grid.cells.length + 2 * s.vt.scr.grid.back.length + s.vt.scr.tabs.length + s.vt.scr.sets.length + sumC List.length s.lin.ready + s.lin.edit.length)) ⟨conH true (.loc 0) (.loc 1) (.loc 2) (.loc 3) (.loc 4) (.loc 5) (.loc 6) (mkCon n s) [], 7⟩) := by
  refine .ofC hS _ _ _ Tryz.func34 ?_
  conv => whnf
  obtain ⟨h0, h1⟩ := h
  have h0x := h0
  obtain ⟨h0_0, h0_1⟩ := h0x
  have h0_0x := h0_0
  obtain ⟨h0_0_0⟩ := h0_0x
  have h0_1x := h0_1
  obtain ⟨h0_1_0, h0_1_1, h0_1_2⟩ := h0_1x
  have h0_1_0x := h0_1_0
  obtain ⟨h0_1_0_0, h0_1_0_1⟩ := h0_1_0x
  have h1x := h1
  obtain ⟨h1_0, h1_1, h1_2⟩ := h1x
  repeat' (first|refine Seal.mk ?_|(refine wS ?_;(conv=>whnf);fail_if_success show False)|((first|refine opsA_step ?_|refine drawS_go ?_|apply wL (markVt _ _ _ _ _)|apply wL (markLine _ _ _ _ _));conv=>whnf)|(intro _;first|omega|conv=>whnf)|(apply And.intro<;>intro _<;>first|omega|conv=>whnf)|refine ⟨Seal.mk ?_,Seal.mk ?_⟩|((first|refine ⟨leafL12,?_⟩|refine Or.inl ⟨leafL12,?_⟩|apply Or.inr|refine ⟨_,rfl,?_⟩|refine ⟨_,⟨rfl,rfl⟩,?_⟩|refine ⟨intE .u8,⟨rfl,fun _=>rfl⟩,?_⟩|refine ⟨_,⟨rfl,rfl,leafL12⟩,?_⟩);conv=>whnf)|with_reducible assumption|exact leafL12|fail)
  (refine ⟨(),⟨⟩,?_⟩;((try refine wF ?_);repeat' (first|exact ⟨⟩|refine ⟨leafL12,?_⟩|((conv=>whnf);first|exact ⟨⟩|refine ⟨leafL12,?_⟩))))
theorem heldConsole (s : Con) (h : ConB s) (n : Int) (hn : 0 ≤ n) (hn' : n ≤ 8589934592) : CallA S 110 [.agg (conC (.loc 0) (.loc 1) (.loc 2) (.loc 3) (.loc 4) (.loc 5) (.loc 6) s), .int .i64 n] ⟨conH false (.loc 0) (.loc 1) (.loc 2) (.loc 3) (.loc 4) (.loc 5) (.loc 6) (mkCon n s) [], 7⟩ (Ret1 (.int .i64 (n + s.vt.par.params.length + 2 * s.vt.scr.grid.cells.length + 2 * s.vt.scr.grid.back.length + s.vt.scr.tabs.length + s.vt.scr.sets.length + sumC List.length s.lin.ready + s.lin.edit.length)) ⟨[], 7⟩) := by
  refine .ofC hS _ _ _ Tryz.func110 ?_
  conv => whnf
  obtain ⟨h0, h1⟩ := h
  have h0x := h0
  obtain ⟨h0_0, h0_1⟩ := h0x
  have h0_0x := h0_0
  obtain ⟨h0_0_0⟩ := h0_0x
  have h0_1x := h0_1
  obtain ⟨h0_1_0, h0_1_1, h0_1_2⟩ := h0_1x
  have h0_1_0x := h0_1_0
  obtain ⟨h0_1_0_0, h0_1_0_1⟩ := h0_1_0x
  have h1x := h1
  obtain ⟨h1_0, h1_1, h1_2⟩ := h1x
  repeat' (first|refine Seal.mk ?_|(refine wS ?_;(conv=>whnf);fail_if_success show False)|((first|refine opsA_step ?_|refine drawS_go ?_|apply wL (heldVt _ _ _ _ _)|apply wL (heldLine _ _ _ _ _));conv=>whnf)|(intro _;first|omega|conv=>whnf)|(apply And.intro<;>intro _<;>first|omega|conv=>whnf)|refine ⟨Seal.mk ?_,Seal.mk ?_⟩|((first|refine ⟨leafL12,?_⟩|refine Or.inl ⟨leafL12,?_⟩|apply Or.inr|refine ⟨_,rfl,?_⟩|refine ⟨_,⟨rfl,rfl⟩,?_⟩|refine ⟨intE .u8,⟨rfl,fun _=>rfl⟩,?_⟩|refine ⟨_,⟨rfl,rfl,leafL12⟩,?_⟩);conv=>whnf)|with_reducible assumption|exact leafL12|fail)
  all_goals (refine ⟨(),⟨⟩,?_⟩;((try refine wF ?_);repeat' (first|exact ⟨⟩|refine ⟨leafL12,?_⟩|((conv=>whnf);first|exact ⟨⟩|refine ⟨leafL12,?_⟩))))
end Go.Mu

namespace Go.Mu
open Go Go.Vm Go.RowKit Go.Proofs
attribute [local irreducible] wpA opsA stillA drawA drawS
set_option maxRecDepth 20000
set_option maxHeartbeats 4000000
theorem eqVtResult (s : VtR) (h : VtRB s) : CallA S 25 [.agg (vtRC (.loc 0) (.loc 1) (.loc 2) (.loc 3) (.loc 4) s), .agg (vtRC (.loc 5) (.loc 6) (.loc 7) (.loc 8) (.loc 9) s)] ⟨vtRH false (.loc 0) (.loc 1) (.loc 2) (.loc 3) (.loc 4) s (vtRH false (.loc 5) (.loc 6) (.loc 7) (.loc 8) (.loc 9) s []), 10⟩ (Ret1 (.tt) ⟨[], 10⟩) := by
  refine .ofC hS _ _ _ Tryz.func25 ?_
  conv => whnf
  obtain ⟨h0⟩ := h
  repeat' (first|refine Seal.mk ?_|(refine wS ?_;(conv=>whnf);fail_if_success show False)|((first|refine opsA_step ?_|refine drawS_go ?_|apply wL (eqVt _ _));conv=>whnf)|(intro _;first|omega|conv=>whnf)|(apply And.intro<;>intro _<;>first|omega|conv=>whnf)|refine ⟨Seal.mk ?_,Seal.mk ?_⟩|((first|refine ⟨leaf,?_⟩|refine Or.inl ⟨leaf,?_⟩|apply Or.inr|refine ⟨_,rfl,?_⟩|refine ⟨_,⟨rfl,rfl⟩,?_⟩|refine ⟨intE .u8,⟨rfl,fun _=>rfl⟩,?_⟩|refine ⟨_,⟨rfl,rfl,leaf⟩,?_⟩);conv=>whnf)|with_reducible assumption|exact leaf|fail)
  all_goals (first | (exact absurd rfl (by assumption)) | (exact absurd Iff.rfl (by assumption)) | (refine ⟨(),⟨⟩,?_⟩;((try refine wF ?_);repeat' (first|exact ⟨⟩|refine ⟨leaf,?_⟩|((conv=>whnf);first|exact ⟨⟩|refine ⟨leaf,?_⟩)))))
@[reducible] noncomputable def mkVtR (n : Int) (s : VtR) : VtR := { s with vt := mkVt (n) s.vt }
theorem markVtResult (s : VtR) (h : VtRB s) (n : Int) (hn : 0 ≤ n) (hn' : n ≤ 8589934592) : CallA S 28 [.agg (vtRC (.loc 0) (.loc 1) (.loc 2) (.loc 3) (.loc 4) s), .int .i64 n] ⟨vtRH true (.loc 0) (.loc 1) (.loc 2) (.loc 3) (.loc 4) s [], 5⟩ (Ret1 (.int .i64 (n + s.vt.par.params.length + 2 * s.vt.scr.grid.cells.length + 2 * s.vt.scr.grid.back.length + s.vt.scr.tabs.length + s.vt.scr.sets.length)) ⟨vtRH true (.loc 0) (.loc 1) (.loc 2) (.loc 3) (.loc 4) (mkVtR n s) [], 5⟩) := by
  refine .ofC hS _ _ _ Tryz.func28 ?_
  conv => whnf
  obtain ⟨h0⟩ := h
  have h0x := h0
  obtain ⟨h0_0, h0_1⟩ := h0x
  have h0_0x := h0_0
  obtain ⟨h0_0_0⟩ := h0_0x
  have h0_1x := h0_1
  obtain ⟨h0_1_0, h0_1_1, h0_1_2⟩ := h0_1x
  have h0_1_0x := h0_1_0
  obtain ⟨h0_1_0_0, h0_1_0_1⟩ := h0_1_0x
  repeat' (first|refine Seal.mk ?_|(refine wS ?_;(conv=>whnf);fail_if_success show False)|((first|refine opsA_step ?_|refine drawS_go ?_|apply wL (markVt _ _ _ _ _));conv=>whnf)|(intro _;first|omega|conv=>whnf)|(apply And.intro<;>intro _<;>first|omega|conv=>whnf)|refine ⟨Seal.mk ?_,Seal.mk ?_⟩|((first|refine ⟨leaf,?_⟩|refine Or.inl ⟨leaf,?_⟩|apply Or.inr|refine ⟨_,rfl,?_⟩|refine ⟨_,⟨rfl,rfl⟩,?_⟩|refine ⟨intE .u8,⟨rfl,fun _=>rfl⟩,?_⟩|refine ⟨_,⟨rfl,rfl,leaf⟩,?_⟩);conv=>whnf)|with_reducible assumption|exact leaf|fail)
  (refine ⟨(),⟨⟩,?_⟩;((try refine wF ?_);repeat' (first|exact ⟨⟩|refine ⟨leaf,?_⟩|((conv=>whnf);first|exact ⟨⟩|refine ⟨leaf,?_⟩))))
theorem heldVtResult (s : VtR) (h : VtRB s) (n : Int) (hn : 0 ≤ n) (hn' : n ≤ 8589934592) : CallA S 29 [.agg (vtRC (.loc 0) (.loc 1) (.loc 2) (.loc 3) (.loc 4) s), .int .i64 n] ⟨vtRH false (.loc 0) (.loc 1) (.loc 2) (.loc 3) (.loc 4) (mkVtR n s) [], 5⟩ (Ret1 (.int .i64 (n + s.vt.par.params.length + 2 * s.vt.scr.grid.cells.length + 2 * s.vt.scr.grid.back.length + s.vt.scr.tabs.length + s.vt.scr.sets.length)) ⟨[], 5⟩) := by
  refine .ofC hS _ _ _ Tryz.func29 ?_
  conv => whnf
  obtain ⟨h0⟩ := h
  have h0x := h0
  obtain ⟨h0_0, h0_1⟩ := h0x
  have h0_0x := h0_0
  obtain ⟨h0_0_0⟩ := h0_0x
  have h0_1x := h0_1
  obtain ⟨h0_1_0, h0_1_1, h0_1_2⟩ := h0_1x
  have h0_1_0x := h0_1_0
  obtain ⟨h0_1_0_0, h0_1_0_1⟩ := h0_1_0x
  repeat' (first|refine Seal.mk ?_|(refine wS ?_;(conv=>whnf);fail_if_success show False)|((first|refine opsA_step ?_|refine drawS_go ?_|apply wL (heldVt _ _ _ _ _));conv=>whnf)|(intro _;first|omega|conv=>whnf)|(apply And.intro<;>intro _<;>first|omega|conv=>whnf)|refine ⟨Seal.mk ?_,Seal.mk ?_⟩|((first|refine ⟨leaf,?_⟩|refine Or.inl ⟨leaf,?_⟩|apply Or.inr|refine ⟨_,rfl,?_⟩|refine ⟨_,⟨rfl,rfl⟩,?_⟩|refine ⟨intE .u8,⟨rfl,fun _=>rfl⟩,?_⟩|refine ⟨_,⟨rfl,rfl,leaf⟩,?_⟩);conv=>whnf)|with_reducible assumption|exact leaf|fail)
  all_goals (refine ⟨(),⟨⟩,?_⟩;((try refine wF ?_);repeat' (first|exact ⟨⟩|refine ⟨leaf,?_⟩|((conv=>whnf);first|exact ⟨⟩|refine ⟨leaf,?_⟩))))
theorem eqConsoleResult (s : ConR) (h : ConRB s) : CallA S 33 [.agg (conRC (.loc 0) (.loc 1) (.loc 2) (.loc 3) (.loc 4) (.loc 5) (.loc 6) (.loc 7) s), .agg (conRC (.loc 8) (.loc 9) (.loc 10) (.loc 11) (.loc 12) (.loc 13) (.loc 14) (.loc 15) s)] ⟨conRH false (.loc 0) (.loc 1) (.loc 2) (.loc 3) (.loc 4) (.loc 5) (.loc 6) (.loc 7) s (conRH false (.loc 8) (.loc 9) (.loc 10) (.loc 11) (.loc 12) (.loc 13) (.loc 14) (.loc 15) s []), 16⟩ (Ret1 (.tt) ⟨[], 16⟩) := by
  refine .ofC hS _ _ _ Tryz.func33 ?_
  conv => whnf
  obtain ⟨h0, h1⟩ := h
  repeat' (first|refine Seal.mk ?_|(refine wS ?_;(conv=>whnf);fail_if_success show False)|((first|refine opsA_step ?_|refine drawS_go ?_|apply wL (eqByteS _ _)|apply wL (eqConsole _ _));conv=>whnf)|(intro _;first|omega|conv=>whnf)|(apply And.intro<;>intro _<;>first|omega|conv=>whnf)|refine ⟨Seal.mk ?_,Seal.mk ?_⟩|((first|refine ⟨leaf,?_⟩|refine Or.inl ⟨leaf,?_⟩|apply Or.inr|refine ⟨_,rfl,?_⟩|refine ⟨_,⟨rfl,rfl⟩,?_⟩|refine ⟨intE .u8,⟨rfl,fun _=>rfl⟩,?_⟩|refine ⟨_,⟨rfl,rfl,leaf⟩,?_⟩);conv=>whnf)|with_reducible assumption|exact leaf|fail)
  all_goals (first | (exact absurd rfl (by assumption)) | (exact absurd Iff.rfl (by assumption)) | (refine ⟨(),⟨⟩,?_⟩;((try refine wF ?_);repeat' (first|exact ⟨⟩|refine ⟨leaf,?_⟩|((conv=>whnf);first|exact ⟨⟩|refine ⟨leaf,?_⟩)))))
@[reducible] noncomputable def mkConR (n : Int) (s : ConR) : ConR := { s with bytes := mks (mkU (n)) s.bytes.length, con := mkCon (n + s.bytes.length) s.con }
theorem markConsoleResult (s : ConR) (h : ConRB s) (n : Int) (hn : 0 ≤ n) (hn' : n ≤ 4294967296) : CallA S 35 [.agg (conRC (.loc 0) (.loc 1) (.loc 2) (.loc 3) (.loc 4) (.loc 5) (.loc 6) (.loc 7) s), .int .i64 n] ⟨conRH true (.loc 0) (.loc 1) (.loc 2) (.loc 3) (.loc 4) (.loc 5) (.loc 6) (.loc 7) s [], 8⟩ (Ret1 (.int .i64 (n + s.bytes.length + s.con.vt.par.params.length + 2 * s.con.vt.scr.grid.cells.length + 2 * s.con.vt.scr.grid.back.length + s.con.vt.scr.tabs.length + s.con.vt.scr.sets.length + sumC List.length s.con.lin.ready + s.con.lin.edit.length)) ⟨conRH true (.loc 0) (.loc 1) (.loc 2) (.loc 3) (.loc 4) (.loc 5) (.loc 6) (.loc 7) (mkConR n s) [], 8⟩) := by
  refine .ofC hS _ _ _ Tryz.func35 ?_
  conv => whnf
  obtain ⟨h0, h1⟩ := h
  have h1x := h1
  obtain ⟨h1_0, h1_1⟩ := h1x
  have h1_0x := h1_0
  obtain ⟨h1_0_0, h1_0_1⟩ := h1_0x
  have h1_0_0x := h1_0_0
  obtain ⟨h1_0_0_0⟩ := h1_0_0x
  have h1_0_1x := h1_0_1
  obtain ⟨h1_0_1_0, h1_0_1_1, h1_0_1_2⟩ := h1_0_1x
  have h1_0_1_0x := h1_0_1_0
  obtain ⟨h1_0_1_0_0, h1_0_1_0_1⟩ := h1_0_1_0x
  have h1_1x := h1_1
  obtain ⟨h1_1_0, h1_1_1, h1_1_2⟩ := h1_1x
  repeat' (first|refine Seal.mk ?_|(refine wS ?_;(conv=>whnf);fail_if_success show False)|((first|refine opsA_step ?_|refine drawS_go ?_|apply wL (markByteS _ _ _ _ _)|apply wL (markConsole _ _ _ _ _));conv=>whnf)|(intro _;first|omega|conv=>whnf)|(apply And.intro<;>intro _<;>first|omega|conv=>whnf)|refine ⟨Seal.mk ?_,Seal.mk ?_⟩|((first|refine ⟨leaf,?_⟩|refine Or.inl ⟨leaf,?_⟩|apply Or.inr|refine ⟨_,rfl,?_⟩|refine ⟨_,⟨rfl,rfl⟩,?_⟩|refine ⟨intE .u8,⟨rfl,fun _=>rfl⟩,?_⟩|refine ⟨_,⟨rfl,rfl,leaf⟩,?_⟩);conv=>whnf)|with_reducible assumption|exact leaf|fail)
  (refine ⟨(),⟨⟩,?_⟩;((try refine wF ?_);repeat' (first|exact ⟨⟩|refine ⟨leaf,?_⟩|((conv=>whnf);first|exact ⟨⟩|refine ⟨leaf,?_⟩))))
theorem heldConsoleResult (s : ConR) (h : ConRB s) (n : Int) (hn : 0 ≤ n) (hn' : n ≤ 4294967296) : CallA S 36 [.agg (conRC (.loc 0) (.loc 1) (.loc 2) (.loc 3) (.loc 4) (.loc 5) (.loc 6) (.loc 7) s), .int .i64 n] ⟨conRH false (.loc 0) (.loc 1) (.loc 2) (.loc 3) (.loc 4) (.loc 5) (.loc 6) (.loc 7) (mkConR n s) [], 8⟩ (Ret1 (.int .i64 (n + s.bytes.length + s.con.vt.par.params.length + 2 * s.con.vt.scr.grid.cells.length + 2 * s.con.vt.scr.grid.back.length + s.con.vt.scr.tabs.length + s.con.vt.scr.sets.length + sumC List.length s.con.lin.ready + s.con.lin.edit.length)) ⟨[], 8⟩) := by
  refine .ofC hS _ _ _ Tryz.func36 ?_
  conv => whnf
  obtain ⟨h0, h1⟩ := h
  have h1x := h1
  obtain ⟨h1_0, h1_1⟩ := h1x
  have h1_0x := h1_0
  obtain ⟨h1_0_0, h1_0_1⟩ := h1_0x
  have h1_0_0x := h1_0_0
  obtain ⟨h1_0_0_0⟩ := h1_0_0x
  have h1_0_1x := h1_0_1
  obtain ⟨h1_0_1_0, h1_0_1_1, h1_0_1_2⟩ := h1_0_1x
  have h1_0_1_0x := h1_0_1_0
  obtain ⟨h1_0_1_0_0, h1_0_1_0_1⟩ := h1_0_1_0x
  have h1_1x := h1_1
  obtain ⟨h1_1_0, h1_1_1, h1_1_2⟩ := h1_1x
  repeat' (first|refine Seal.mk ?_|(refine wS ?_;(conv=>whnf);fail_if_success show False)|((first|refine opsA_step ?_|refine drawS_go ?_|apply wL (heldByteS _ _ _ _ _)|apply wL (heldConsole _ _ _ _ _));conv=>whnf)|(intro _;first|omega|conv=>whnf)|(apply And.intro<;>intro _<;>first|omega|conv=>whnf)|refine ⟨Seal.mk ?_,Seal.mk ?_⟩|((first|refine ⟨leaf,?_⟩|refine Or.inl ⟨leaf,?_⟩|apply Or.inr|refine ⟨_,rfl,?_⟩|refine ⟨_,⟨rfl,rfl⟩,?_⟩|refine ⟨intE .u8,⟨rfl,fun _=>rfl⟩,?_⟩|refine ⟨_,⟨rfl,rfl,leaf⟩,?_⟩);conv=>whnf)|with_reducible assumption|exact leaf|fail)
  all_goals (refine ⟨(),⟨⟩,?_⟩;((try refine wF ?_);repeat' (first|exact ⟨⟩|refine ⟨leaf,?_⟩|((conv=>whnf);first|exact ⟨⟩|refine ⟨leaf,?_⟩))))
end Go.Mu
