/- The law's own functions: marks in flat slices. -/
import Derived.Test.YtfjodggmmokaaaaGreatDAK
import Derived.Test.YtfjodggmmokaaaaGreatDAL
set_option linter.unusedSimpArgs false
set_option linter.unusedVariables false
set_option linter.constructorNameAsVariable false
namespace Go.Mu
open Go Go.Vm Go.RowKit Go.Proofs
attribute [local irreducible] wpA opsA stillA drawA drawS
set_option maxRecDepth 20000
set_option maxHeartbeats 4000000
theorem leafL3 {P : Prop} (h : P := by
  first
  | exact leaf
  | exact PreC.of_eq (mks_set (by omega))
  | exact PreC.of_eq ((set_two (by simp [mks_len]; omega) _ _ _ _).trans (mks_set (f := mkP n) (by omega)))
  | exact PreC.of_eq ((set_four (by simp [mks_len]; omega) _ _ _ _ _).trans (mks_set (f := mkQ n) (by omega)))
  | (simp [mks_len]; omega)
  | fail) : P := h
theorem aLL3 {a b : Prop} (k : b) (h : a := by exact leafL3) : a ∧ b := ⟨h, k⟩
theorem oLL3 {a b c : Prop} (k : b) (h : a := by exact leafL3) : (a ∧ b) ∨ c := .inl ⟨h, k⟩
theorem fzL3 {P : Prop} (h : P := by
  (try refine wF ?_)
  repeat' (first|exact ⟨⟩|(apply And.intro;focus exact leafL3)|((conv=>whnf);first|exact ⟨⟩|(apply And.intro;focus exact leafL3))|fail)) : P := h
theorem markInt64S (xs : List Int) (hx : xs.length ≤ 1048576) (n : Int) (hn : 0 ≤ n) (hn' : n ≤ 549755813888) : CallA S 74 [.sl (.loc 0) 1 none xs.length, .int .i64 n] ⟨[⟨.loc 0, true, .arr (intE .i64) xs⟩], 1⟩ (Ret1 (.int .i64 (n + xs.length)) ⟨[⟨.loc 0, true, .arr (intE .i64) (mks (mkI n) xs.length)⟩], 1⟩) := by
  refine .ofC hS _ _ _ Tryz.func74 ?_
  conv => whnf
  repeat' (first|refine Seal.mk ?_|(refine wS ?_;(conv=>whnf);fail_if_success show False)|((first|refine opsA_step ?_);conv=>whnf)|(intro _;first|omega|conv=>whnf)|(apply And.intro<;>intro _<;>first|omega|conv=>whnf)|((first|refine aLL3 ?_|refine oLL3 ?_|refine ⟨_,rfl,?_⟩|refine ⟨_,⟨rfl,rfl⟩,?_⟩|refine ⟨_,⟨rfl,rfl,leafL3⟩,?_⟩);conv=>whnf)|with_reducible assumption|exact lfL3|fail)
  refine .loop hS (γ := Nat) (fun i => ⟨[(0, .sl (.loc 0) 1 none xs.length), (1, .int .i64 (n + i)), (5, .int .i64 i)],
    ⟨[⟨.loc 0, true, .arr (intE .i64) (mks (mkI n) i ++ xs.drop i)⟩], 1⟩, 19, 1⟩) (fun i => i ≤ xs.length) (fun i => xs.length - i) 0 (by omega) ?_ ?_
  · have h0 : mks (mkI n) 0 ++ xs.drop 0 = xs := by simp [mks]
    have h1 := h0.symm
    exact fzL3
  · intro i hi
    have hl : (mks (mkI n) i ++ xs.drop i).length = xs.length := by simp [mks_len]; omega
    conv => whnf
    repeat' (first|refine Seal.mk ?_|(refine wS ?_;(conv=>whnf);fail_if_success show False)|((first|refine opsA_step ?_);conv=>whnf)|(intro _;first|omega|conv=>whnf)|(apply And.intro<;>intro _<;>first|omega|conv=>whnf)|((first|refine aLL3 ?_|refine oLL3 ?_|refine ⟨_,rfl,?_⟩|refine ⟨_,⟨rfl,rfl⟩,?_⟩|refine ⟨_,⟨rfl,rfl,leafL3⟩,?_⟩);conv=>whnf)|with_reducible assumption|exact lfL3|fail)
    · refine ⟨i + 1, ⟨by omega, by omega⟩, ?_⟩
      ((try dsimp only);exact fzL3)
    · have hi : i = xs.length := by omega
      subst hi
      have h0 : mks (mkI n) xs.length ++ xs.drop xs.length = mks (mkI n) xs.length := by simp
      (refine ⟨(),⟨⟩,?_⟩;exact fzL3)
theorem heldInt64S (n : Int) (k : Nat) (hk : k ≤ 1048576) (hn : 0 ≤ n) (hn' : n ≤ 549755813888) : CallA S 163 [.sl (.loc 0) 1 none k, .int .i64 n] ⟨[⟨.loc 0, false, .arr (intE .i64) (mks (mkI n) k)⟩], 1⟩ (Ret1 (.int .i64 (n + k)) ⟨[], 1⟩) := by
  refine .ofC hS _ _ _ Tryz.func163 ?_
  conv => whnf
  repeat' (first|refine Seal.mk ?_|(refine wS ?_;(conv=>whnf);fail_if_success show False)|((first|refine opsA_step ?_);conv=>whnf)|(intro _;first|omega|conv=>whnf)|(apply And.intro<;>intro _<;>first|omega|conv=>whnf)|((first|refine aLL3 ?_|refine oLL3 ?_|refine ⟨_,rfl,?_⟩|refine ⟨_,⟨rfl,rfl⟩,?_⟩|refine ⟨_,⟨rfl,rfl,leafL3⟩,?_⟩);conv=>whnf)|with_reducible assumption|exact lfL3|fail)
  refine .loop hS (γ := Nat) (fun i => ⟨[(0, .sl (.loc 0) 1 none k), (1, .int .i64 (n + i)), (5, .int .i64 i)],
    ⟨[⟨.loc 0, false, .arr (intE .i64) (mks (mkI n) k)⟩], 1⟩, 21, 1⟩) (fun i => i ≤ k) (fun i => k - i) 0 (by omega) ?_ ?_
  · exact fzL3
  · intro i hi
    have hl : (mks (mkI n) k).length = k := mks_len _ _
    have hm : i < k → (mks (mkI n) k).getD (i : Int).toNat (intE .i64).d = n + i := fun h => mks_get h _
    conv => whnf
    repeat' (first|refine Seal.mk ?_|(refine wS ?_;(conv=>whnf);fail_if_success show False)|((first|refine opsA_step ?_);conv=>whnf)|(intro _;first|omega|conv=>whnf)|(apply And.intro<;>intro _<;>first|omega|conv=>whnf)|((first|refine aLL3 ?_|refine oLL3 ?_|refine ⟨_,rfl,?_⟩|refine ⟨_,⟨rfl,rfl⟩,?_⟩|refine ⟨_,⟨rfl,rfl,leafL3⟩,?_⟩);conv=>whnf)|with_reducible assumption|exact lfL3|fail)
    all_goals (first
      | (exact absurd (hm (by omega)) (by assumption))
      | (refine ⟨i + 1, ⟨by omega, by omega⟩, ?_⟩; exact fzL3)
      | (have hi : i = k := by omega
         subst hi
         (refine ⟨(),⟨⟩,?_⟩;exact fzL3)))
theorem markCellS (xs : List (Int × Int)) (hx : xs.length ≤ 1048576) (n : Int) (hn : 0 ≤ n) (hn' : n ≤ 549755813888) : CallA S 160 [.sl (.loc 0) 2 none xs.length, .int .i64 n] ⟨[⟨.loc 0, true, .arr pairE xs⟩], 1⟩ (Ret1 (.int .i64 (n + 2 * xs.length)) ⟨[⟨.loc 0, true, .arr pairE (mks (mkP n) xs.length)⟩], 1⟩) := by
  refine .ofC hS _ _ _ Tryz.func160 ?_
  conv => whnf
  repeat' (first|refine Seal.mk ?_|(refine wS ?_;(conv=>whnf);fail_if_success show False)|((first|refine opsA_step ?_);conv=>whnf)|(intro _;first|omega|conv=>whnf)|(apply And.intro<;>intro _<;>first|omega|conv=>whnf)|((first|refine aLL3 ?_|refine oLL3 ?_|refine ⟨_,rfl,?_⟩|refine ⟨_,⟨rfl,rfl⟩,?_⟩|refine ⟨_,⟨rfl,rfl,leafL3⟩,?_⟩);conv=>whnf)|with_reducible assumption|exact lfL3|fail)
  refine .loop hS (γ := Nat) (fun i => ⟨[(0, .sl (.loc 0) 2 none xs.length), (1, .int .i64 (n + 2 * i)), (5, .int .i64 i)],
    ⟨[⟨.loc 0, true, .arr pairE (mks (mkP n) i ++ xs.drop i)⟩], 1⟩, 27, 1⟩) (fun i => i ≤ xs.length) (fun i => xs.length - i) 0 (by omega) ?_ ?_
  · have h0 : mks (mkP n) 0 ++ xs.drop 0 = xs := by simp [mks]
    have h1 := h0.symm
    exact fzL3
  · intro i hi
    have hl : (mks (mkP n) i ++ xs.drop i).length = xs.length := by simp [mks_len]; omega
    conv => whnf
    repeat' (first|refine Seal.mk ?_|(refine wS ?_;(conv=>whnf);fail_if_success show False)|((first|refine opsA_step ?_);conv=>whnf)|(intro _;first|omega|conv=>whnf)|(apply And.intro<;>intro _<;>first|omega|conv=>whnf)|((first|refine aLL3 ?_|refine oLL3 ?_|refine ⟨_,rfl,?_⟩|refine ⟨_,⟨rfl,rfl⟩,?_⟩|refine ⟨_,⟨rfl,rfl,leafL3⟩,?_⟩);conv=>whnf)|with_reducible assumption|exact lfL3|fail)
    · refine ⟨i + 1, ⟨by omega, by omega⟩, ?_⟩
      ((try dsimp only);exact fzL3)
    · have hi : i = xs.length := by omega
      subst hi
      have h0 : mks (mkP n) xs.length ++ xs.drop xs.length = mks (mkP n) xs.length := by simp
      (refine ⟨(),⟨⟩,?_⟩;exact fzL3)
theorem heldCellS (n : Int) (k : Nat) (hk : k ≤ 1048576) (hn : 0 ≤ n) (hn' : n ≤ 549755813888) : CallA S 264 [.sl (.loc 0) 2 none k, .int .i64 n] ⟨[⟨.loc 0, false, .arr pairE (mks (mkP n) k)⟩], 1⟩ (Ret1 (.int .i64 (n + 2 * k)) ⟨[], 1⟩) := by
  refine .ofC hS _ _ _ Tryz.func264 ?_
  conv => whnf
  repeat' (first|refine Seal.mk ?_|(refine wS ?_;(conv=>whnf);fail_if_success show False)|((first|refine opsA_step ?_);conv=>whnf)|(intro _;first|omega|conv=>whnf)|(apply And.intro<;>intro _<;>first|omega|conv=>whnf)|((first|refine aLL3 ?_|refine oLL3 ?_|refine ⟨_,rfl,?_⟩|refine ⟨_,⟨rfl,rfl⟩,?_⟩|refine ⟨_,⟨rfl,rfl,leafL3⟩,?_⟩);conv=>whnf)|with_reducible assumption|exact lfL3|fail)
  refine .loop hS (γ := Nat) (fun i => ⟨[(0, .sl (.loc 0) 2 none k), (1, .int .i64 (n + 2 * i)), (5, .int .i64 i)],
    ⟨[⟨.loc 0, false, .arr pairE (mks (mkP n) k)⟩], 1⟩, 31, 1⟩) (fun i => i ≤ k) (fun i => k - i) 0 (by omega) ?_ ?_
  · exact fzL3
  · intro i hi
    have hl : (mks (mkP n) k).length = k := mks_len _ _
    have hm1 : i < k → ((mks (mkP n) k).getD (i : Int).toNat pairE.d).1 = n + 2 * i := fun h => by rw [mks_get h]
    have hm2 : i < k → ((mks (mkP n) k).getD (i : Int).toNat pairE.d).2 = n + 2 * i + 1 := fun h => by rw [mks_get h]
    conv => whnf
    repeat' (first|refine Seal.mk ?_|(refine wS ?_;(conv=>whnf);fail_if_success show False)|((first|refine opsA_step ?_);conv=>whnf)|(intro _;first|omega|conv=>whnf)|(apply And.intro<;>intro _<;>first|omega|conv=>whnf)|((first|refine aLL3 ?_|refine oLL3 ?_|refine ⟨_,rfl,?_⟩|refine ⟨_,⟨rfl,rfl⟩,?_⟩|refine ⟨_,⟨rfl,rfl,leafL3⟩,?_⟩);conv=>whnf)|with_reducible assumption|exact lfL3|fail)
    all_goals (first
      | (exact absurd (hm (by omega)) (by assumption))
      | (refine ⟨i + 1, ⟨by omega, by omega⟩, ?_⟩; exact fzL3)
      | (have hi : i = k := by omega
         subst hi
         (refine ⟨(),⟨⟩,?_⟩;exact fzL3)))
theorem markBoolS (xs : List Bool) (hx : xs.length ≤ 1048576) (n : Int) (hn : 0 ≤ n) (hn' : n ≤ 549755813888) : CallA S 73 [.sl (.loc 0) 1 none xs.length, .int .i64 n] ⟨[⟨.loc 0, true, .arr boolE xs⟩], 1⟩ (Ret1 (.int .i64 (n + xs.length)) ⟨[⟨.loc 0, true, .arr boolE (mks (mkB n) xs.length)⟩], 1⟩) := by
  refine .ofC hS _ _ _ Tryz.func73 ?_
  conv => whnf
  repeat' (first|refine Seal.mk ?_|(refine wS ?_;(conv=>whnf);fail_if_success show False)|((first|refine opsA_step ?_);conv=>whnf)|(intro _;first|omega|conv=>whnf)|(apply And.intro<;>intro _<;>first|omega|conv=>whnf)|((first|refine aLL3 ?_|refine oLL3 ?_|refine ⟨_,rfl,?_⟩|refine ⟨_,⟨rfl,rfl⟩,?_⟩|refine ⟨_,⟨rfl,rfl,leafL3⟩,?_⟩);conv=>whnf)|with_reducible assumption|exact lfL3|fail)
  refine .loop hS (γ := Nat) (fun i => ⟨[(0, .sl (.loc 0) 1 none xs.length), (1, .int .i64 (n + i)), (5, .int .i64 i)],
    ⟨[⟨.loc 0, true, .arr boolE (mks (mkB n) i ++ xs.drop i)⟩], 1⟩, 21, 1⟩) (fun i => i ≤ xs.length) (fun i => xs.length - i) 0 (by omega) ?_ ?_
  · have h0 : mks (mkB n) 0 ++ xs.drop 0 = xs := by simp [mks]
    have h1 := h0.symm
    exact fzL3
  · intro i hi
    have hl : (mks (mkB n) i ++ xs.drop i).length = xs.length := by simp [mks_len]; omega
    conv => whnf
    repeat' (first|refine Seal.mk ?_|(refine wS ?_;(conv=>whnf);fail_if_success show False)|((first|refine opsA_step ?_);conv=>whnf)|(intro _;first|omega|conv=>whnf)|(apply And.intro<;>intro _<;>first|omega|conv=>whnf)|((first|refine aLL3 ?_|refine oLL3 ?_|refine ⟨_,rfl,?_⟩|refine ⟨_,⟨rfl,rfl⟩,?_⟩|refine ⟨_,⟨rfl,rfl,leafL3⟩,?_⟩);conv=>whnf)|with_reducible assumption|exact lfL3|fail)
    · refine ⟨i + 1, ⟨by omega, by omega⟩, ?_⟩
      ((try dsimp only);exact fzL3)
    · have hi : i = xs.length := by omega
      subst hi
      have h0 : mks (mkB n) xs.length ++ xs.drop xs.length = mks (mkB n) xs.length := by simp
      (refine ⟨(),⟨⟩,?_⟩;exact fzL3)
theorem heldBoolS (n : Int) (k : Nat) (hk : k ≤ 1048576) (hn : 0 ≤ n) (hn' : n ≤ 549755813888) : CallA S 162 [.sl (.loc 0) 1 none k, .int .i64 n] ⟨[⟨.loc 0, false, .arr boolE (mks (mkB n) k)⟩], 1⟩ (Ret1 (.int .i64 (n + k)) ⟨[], 1⟩) := by
  refine .ofC hS _ _ _ Tryz.func162 ?_
  conv => whnf
  repeat' (first|refine Seal.mk ?_|(refine wS ?_;(conv=>whnf);fail_if_success show False)|((first|refine opsA_step ?_);conv=>whnf)|(intro _;first|omega|conv=>whnf)|(apply And.intro<;>intro _<;>first|omega|conv=>whnf)|((first|refine aLL3 ?_|refine oLL3 ?_|refine ⟨_,rfl,?_⟩|refine ⟨_,⟨rfl,rfl⟩,?_⟩|refine ⟨_,⟨rfl,rfl,leafL3⟩,?_⟩);conv=>whnf)|with_reducible assumption|exact lfL3|fail)
  refine .loop hS (γ := Nat) (fun i => ⟨[(0, .sl (.loc 0) 1 none k), (1, .int .i64 (n + i)), (5, .int .i64 i)],
    ⟨[⟨.loc 0, false, .arr boolE (mks (mkB n) k)⟩], 1⟩, 23, 1⟩) (fun i => i ≤ k) (fun i => k - i) 0 (by omega) ?_ ?_
  · exact fzL3
  · intro i hi
    have hl : (mks (mkB n) k).length = k := mks_len _ _
    have hm : i < k → ((mks (mkB n) k).getD (i : Int).toNat boolE.d = true ↔ (n + i) % 3 = 0) := fun h => by rw [mks_get h]; exact pb_iff _
    conv => whnf
    repeat' (first|refine Seal.mk ?_|(refine wS ?_;(conv=>whnf);fail_if_success show False)|((first|refine opsA_step ?_);conv=>whnf)|(intro _;first|omega|conv=>whnf)|(apply And.intro<;>intro _<;>first|omega|conv=>whnf)|((first|refine aLL3 ?_|refine oLL3 ?_|refine ⟨_,rfl,?_⟩|refine ⟨_,⟨rfl,rfl⟩,?_⟩|refine ⟨_,⟨rfl,rfl,leafL3⟩,?_⟩);conv=>whnf)|with_reducible assumption|exact lfL3|fail)
    all_goals (first
      | (exact absurd (hm (by omega)) (by assumption))
      | (refine ⟨i + 1, ⟨by omega, by omega⟩, ?_⟩; exact fzL3)
      | (have hi : i = k := by omega
         subst hi
         (refine ⟨(),⟨⟩,?_⟩;exact fzL3)))
end Go.Mu

namespace Go.Mu
open Go Go.Vm Go.RowKit Go.Proofs
attribute [local irreducible] wpA opsA stillA drawA drawS
set_option maxRecDepth 20000
set_option maxHeartbeats 4000000
@[reducible] noncomputable def mkGrd (n : Int) (s : Grd) : Grd := { s with cells := mks (mkP (n)) s.cells.length, back := mks (mkP (n + 2 * s.cells.length)) s.back.length }
theorem markGrid (s : Grd) (h : GrdB s) (n : Int) (hn : 0 ≤ n) (hn' : n ≤ 68719476736) : CallA S 72 [.agg (grdC (.loc 0) (.loc 1) s), .int .i64 n] ⟨grdH true (.loc 0) (.loc 1) s [], 2⟩ (Ret1 (.int .i64 (n + 2 * s.cells.length + 2 * s.back.length)) ⟨grdH true (.loc 0) (.loc 1) (mkGrd n s) [], 2⟩) := by
  refine .ofC hS _ _ _ Tryz.func72 ?_
  conv => whnf
  obtain ⟨h0, h1⟩ := h
  repeat' (first|refine Seal.mk ?_|(refine wS ?_;(conv=>whnf);fail_if_success show False)|((first|refine opsA_step ?_|apply wL (markCellS _ _ _ _ _));conv=>whnf)|(intro _;first|omega|conv=>whnf)|(apply And.intro<;>intro _<;>first|omega|conv=>whnf)|((first|refine aL ?_|refine ⟨_,rfl,?_⟩|refine ⟨_,⟨rfl,rfl⟩,?_⟩|refine ⟨_,⟨rfl,rfl,leaf⟩,?_⟩);conv=>whnf)|with_reducible assumption|exact lf|fail)
  (refine ⟨(),⟨⟩,?_⟩;exact fz)
theorem heldGrid (s : Grd) (h : GrdB s) (n : Int) (hn : 0 ≤ n) (hn' : n ≤ 68719476736) : CallA S 161 [.agg (grdC (.loc 0) (.loc 1) s), .int .i64 n] ⟨grdH false (.loc 0) (.loc 1) (mkGrd n s) [], 2⟩ (Ret1 (.int .i64 (n + 2 * s.cells.length + 2 * s.back.length)) ⟨[], 2⟩) := by
  refine .ofC hS _ _ _ Tryz.func161 ?_
  conv => whnf
  obtain ⟨h0, h1⟩ := h
  repeat' (first|refine Seal.mk ?_|(refine wS ?_;(conv=>whnf);fail_if_success show False)|((first|refine opsA_step ?_|apply wL (heldCellS _ _ _ _ _));conv=>whnf)|(intro _;first|omega|conv=>whnf)|(apply And.intro<;>intro _<;>first|omega|conv=>whnf)|((first|refine aL ?_|refine ⟨_,rfl,?_⟩|refine ⟨_,⟨rfl,rfl⟩,?_⟩|refine ⟨_,⟨rfl,rfl,leaf⟩,?_⟩);conv=>whnf)|with_reducible assumption|exact lf|fail)
  all_goals (refine ⟨(),⟨⟩,?_⟩;exact fz)
@[reducible] noncomputable def mkScr (n : Int) (s : Scr) : Scr := { s with grid := mkGrd (n) s.grid, tabs := mks (mkB (n + 2 * s.grid.cells.length + 2 * s.grid.back.length)) s.tabs.length, sets := mks (mkI (n + 2 * s.grid.cells.length + 2 * s.grid.back.length + s.tabs.length)) s.sets.length }
theorem markScreen (s : Scr) (h : ScrB s) (n : Int) (hn : 0 ≤ n) (hn' : n ≤ 34359738368) : CallA S 17 [.agg (scrC (.loc 0) (.loc 1) (.loc 2) (.loc 3) s), .int .i64 n] ⟨scrH true (.loc 0) (.loc 1) (.loc 2) (.loc 3) s [], 4⟩ (Ret1 (.int .i64 (n + 2 * s.grid.cells.length + 2 * s.grid.back.length + s.tabs.length + s.sets.length)) ⟨scrH true (.loc 0) (.loc 1) (.loc 2) (.loc 3) (mkScr n s) [], 4⟩) := by
  refine .ofC hS _ _ _ Tryz.func17 ?_
  conv => whnf
  obtain ⟨h0, h1, h2⟩ := h
  have h0x := h0
  obtain ⟨h0_0, h0_1⟩ := h0x
  repeat' (first|refine Seal.mk ?_|(refine wS ?_;(conv=>whnf);fail_if_success show False)|((first|refine opsA_step ?_|apply wL (markGrid _ _ _ _ _)|apply wL (markBoolS _ _ _ _ _)|apply wL (markInt64S _ _ _ _ _));conv=>whnf)|(intro _;first|omega|conv=>whnf)|(apply And.intro<;>intro _<;>first|omega|conv=>whnf)|((first|refine aL ?_|refine ⟨_,rfl,?_⟩|refine ⟨_,⟨rfl,rfl⟩,?_⟩|refine ⟨_,⟨rfl,rfl,leaf⟩,?_⟩);conv=>whnf)|with_reducible assumption|exact lf|fail)
  (refine ⟨(),⟨⟩,?_⟩;exact fz)
theorem heldScreen (s : Scr) (h : ScrB s) (n : Int) (hn : 0 ≤ n) (hn' : n ≤ 34359738368) : CallA S 75 [.agg (scrC (.loc 0) (.loc 1) (.loc 2) (.loc 3) s), .int .i64 n] ⟨scrH false (.loc 0) (.loc 1) (.loc 2) (.loc 3) (mkScr n s) [], 4⟩ (Ret1 (.int .i64 (n + 2 * s.grid.cells.length + 2 * s.grid.back.length + s.tabs.length + s.sets.length)) ⟨[], 4⟩) := by
  refine .ofC hS _ _ _ Tryz.func75 ?_
  conv => whnf
  obtain ⟨h0, h1, h2⟩ := h
  have h0x := h0
  obtain ⟨h0_0, h0_1⟩ := h0x
  repeat' (first|refine Seal.mk ?_|(refine wS ?_;(conv=>whnf);fail_if_success show False)|((first|refine opsA_step ?_|apply wL (heldGrid _ _ _ _ _)|apply wL (heldBoolS _ _ _ _ _)|apply wL (heldInt64S _ _ _ _ _));conv=>whnf)|(intro _;first|omega|conv=>whnf)|(apply And.intro<;>intro _<;>first|omega|conv=>whnf)|((first|refine aL ?_|refine ⟨_,rfl,?_⟩|refine ⟨_,⟨rfl,rfl⟩,?_⟩|refine ⟨_,⟨rfl,rfl,leaf⟩,?_⟩);conv=>whnf)|with_reducible assumption|exact lf|fail)
  all_goals (refine ⟨(),⟨⟩,?_⟩;exact fz)
end Go.Mu

namespace Go.Mu
open Go Go.Vm Go.RowKit Go.Proofs
attribute [local irreducible] wpA opsA stillA drawA drawS
set_option maxRecDepth 20000
set_option maxHeartbeats 4000000
theorem toAction (s : Vm.Act) (h : ActB s) : CallA S 12 [.agg (actC (.loc 0) s)] ⟨actH false (.loc 0) s [], 1⟩ (Ret1 (.agg (actC (.loc 1) s)) ⟨actH true (.loc 1) s [], 2⟩) := by
  refine .ofC hS _ _ _ Tryz.func12 ?_
  conv => whnf
  obtain ⟨h0⟩ := h
  repeat' (first|refine Seal.mk ?_|(refine wS ?_;(conv=>whnf);fail_if_success show False)|((first|refine opsA_step ?_|apply wL (toInt64S _ _));conv=>whnf)|(intro _;first|omega|conv=>whnf)|(apply And.intro<;>intro _<;>first|omega|conv=>whnf)|((first|refine aL ?_|refine ⟨_,rfl,?_⟩|refine ⟨_,⟨rfl,rfl⟩,?_⟩|refine ⟨_,⟨rfl,rfl,leaf⟩,?_⟩);conv=>whnf)|with_reducible assumption|exact lf|fail)
  (refine ⟨(),⟨⟩,?_⟩;exact fz)
theorem eqAction (s : Vm.Act) (h : ActB s) : CallA S 16 [.agg (actC (.loc 0) s), .agg (actC (.loc 1) s)] ⟨actH false (.loc 0) s (actH false (.loc 1) s []), 2⟩ (Ret1 (.tt) ⟨[], 2⟩) := by
  refine .ofC hS _ _ _ Tryz.func16 ?_
  conv => whnf
  obtain ⟨h0⟩ := h
  repeat' (first|refine Seal.mk ?_|(refine wS ?_;(conv=>whnf);fail_if_success show False)|((first|refine opsA_step ?_|apply wL (eqInt64S _ _));conv=>whnf)|(intro _;first|omega|conv=>whnf)|(apply And.intro<;>intro _<;>first|omega|conv=>whnf)|((first|refine aL ?_|refine ⟨_,rfl,?_⟩|refine ⟨_,⟨rfl,rfl⟩,?_⟩|refine ⟨_,⟨rfl,rfl,leaf⟩,?_⟩);conv=>whnf)|with_reducible assumption|exact lf|fail)
  all_goals (first | (exact absurd rfl (by assumption)) | (exact absurd Iff.rfl (by assumption)) | (refine ⟨(),⟨⟩,?_⟩;exact fz))
theorem szAction (s : Vm.Act) (left : Int) (hl : -1 ≤ left) (hl' : left ≤ 1048576) : CallA S 9 [.agg (actC (.loc 0) s), .int .i64 left] ⟨[], 1⟩ (Ret (γ := Int) (fun g => (left - s.params.length < 0 → g = -1) ∧ (¬ left - s.params.length < 0 → g = left - s.params.length)) (fun g => .int .i64 g) fun g => ⟨[], 1⟩) := by
  refine .ofC hS _ _ _ Tryz.func9 ?_
  conv => whnf
  repeat' (first|refine Seal.mk ?_|(refine wS ?_;(conv=>whnf);fail_if_success show False)|((first|refine opsA_step ?_|apply wL (szInt64S _ _ _ _));conv=>whnf)|(intro _;first|omega|conv=>whnf)|(apply And.intro<;>intro _<;>first|omega|conv=>whnf)|((first|refine aL ?_|refine ⟨_,rfl,?_⟩|refine ⟨_,⟨rfl,rfl⟩,?_⟩|refine ⟨_,⟨rfl,rfl,leaf⟩,?_⟩);conv=>whnf)|with_reducible assumption|exact lf|fail)
  all_goals (first | (refine ⟨-1, ⟨by omega, by omega⟩, ?_⟩; exact fz) | (refine ⟨left - s.params.length, ⟨by omega, by omega⟩, ?_⟩; exact fz))
@[reducible] noncomputable def mkAct (n : Int) (s : Vm.Act) : Vm.Act := { s with params := mks (mkI (n)) s.params.length }
theorem markAction (s : Vm.Act) (h : ActB s) (n : Int) (hn : 0 ≤ n) (hn' : n ≤ 68719476736) : CallA S 18 [.agg (actC (.loc 0) s), .int .i64 n] ⟨actH true (.loc 0) s [], 1⟩ (Ret1 (.int .i64 (n + s.params.length)) ⟨actH true (.loc 0) (mkAct n s) [], 1⟩) := by
  refine .ofC hS _ _ _ Tryz.func18 ?_
  conv => whnf
  obtain ⟨h0⟩ := h
  repeat' (first|refine Seal.mk ?_|(refine wS ?_;(conv=>whnf);fail_if_success show False)|((first|refine opsA_step ?_|apply wL (markInt64S _ _ _ _ _));conv=>whnf)|(intro _;first|omega|conv=>whnf)|(apply And.intro<;>intro _<;>first|omega|conv=>whnf)|((first|refine aL ?_|refine ⟨_,rfl,?_⟩|refine ⟨_,⟨rfl,rfl⟩,?_⟩|refine ⟨_,⟨rfl,rfl,leaf⟩,?_⟩);conv=>whnf)|with_reducible assumption|exact lf|fail)
  (refine ⟨(),⟨⟩,?_⟩;exact fz)
theorem eqScreenResult (s : ScrR) (h : ScrRB s) : CallA S 14 [.agg (scrRC (.loc 0) (.loc 1) (.loc 2) (.loc 3) s), .agg (scrRC (.loc 4) (.loc 5) (.loc 6) (.loc 7) s)] ⟨scrRH false (.loc 0) (.loc 1) (.loc 2) (.loc 3) s (scrRH false (.loc 4) (.loc 5) (.loc 6) (.loc 7) s []), 8⟩ (Ret1 (.tt) ⟨[], 8⟩) := by
  refine .ofC hS _ _ _ Tryz.func14 ?_
  conv => whnf
  obtain ⟨h0⟩ := h
  repeat' (first|refine Seal.mk ?_|(refine wS ?_;(conv=>whnf);fail_if_success show False)|((first|refine opsA_step ?_|apply wL (eqScreen _ _));conv=>whnf)|(intro _;first|omega|conv=>whnf)|(apply And.intro<;>intro _<;>first|omega|conv=>whnf)|((first|refine aL ?_|refine ⟨_,rfl,?_⟩|refine ⟨_,⟨rfl,rfl⟩,?_⟩|refine ⟨_,⟨rfl,rfl,leaf⟩,?_⟩);conv=>whnf)|with_reducible assumption|exact lf|fail)
  all_goals (first | (exact absurd rfl (by assumption)) | (exact absurd Iff.rfl (by assumption)) | (refine ⟨(),⟨⟩,?_⟩;exact fz))
@[reducible] noncomputable def mkScrR (n : Int) (s : ScrR) : ScrR := { s with scr := mkScr (n) s.scr }
theorem markScreenResult (s : ScrR) (h : ScrRB s) (n : Int) (hn : 0 ≤ n) (hn' : n ≤ 17179869184) : CallA S 19 [.agg (scrRC (.loc 0) (.loc 1) (.loc 2) (.loc 3) s), .int .i64 n] ⟨scrRH true (.loc 0) (.loc 1) (.loc 2) (.loc 3) s [], 4⟩ (Ret1 (.int .i64 (n + 2 * s.scr.grid.cells.length + 2 * s.scr.grid.back.length + s.scr.tabs.length + s.scr.sets.length)) ⟨scrRH true (.loc 0) (.loc 1) (.loc 2) (.loc 3) (mkScrR n s) [], 4⟩) := by
  refine .ofC hS _ _ _ Tryz.func19 ?_
  conv => whnf
  obtain ⟨h0⟩ := h
  have h0x := h0
  obtain ⟨h0_0, h0_1, h0_2⟩ := h0x
  have h0_0x := h0_0
  obtain ⟨h0_0_0, h0_0_1⟩ := h0_0x
  repeat' (first|refine Seal.mk ?_|(refine wS ?_;(conv=>whnf);fail_if_success show False)|((first|refine opsA_step ?_|apply wL (markScreen _ _ _ _ _));conv=>whnf)|(intro _;first|omega|conv=>whnf)|(apply And.intro<;>intro _<;>first|omega|conv=>whnf)|((first|refine aL ?_|refine ⟨_,rfl,?_⟩|refine ⟨_,⟨rfl,rfl⟩,?_⟩|refine ⟨_,⟨rfl,rfl,leaf⟩,?_⟩);conv=>whnf)|with_reducible assumption|exact lf|fail)
  (refine ⟨(),⟨⟩,?_⟩;exact fz)
theorem heldScreenResult (s : ScrR) (h : ScrRB s) (n : Int) (hn : 0 ≤ n) (hn' : n ≤ 17179869184) : CallA S 20 [.agg (scrRC (.loc 0) (.loc 1) (.loc 2) (.loc 3) s), .int .i64 n] ⟨scrRH false (.loc 0) (.loc 1) (.loc 2) (.loc 3) (mkScrR n s) [], 4⟩ (Ret1 (.int .i64 (n + 2 * s.scr.grid.cells.length + 2 * s.scr.grid.back.length + s.scr.tabs.length + s.scr.sets.length)) ⟨[], 4⟩) := by
  refine .ofC hS _ _ _ Tryz.func20 ?_
  conv => whnf
  obtain ⟨h0⟩ := h
  have h0x := h0
  obtain ⟨h0_0, h0_1, h0_2⟩ := h0x
  have h0_0x := h0_0
  obtain ⟨h0_0_0, h0_0_1⟩ := h0_0x
  repeat' (first|refine Seal.mk ?_|(refine wS ?_;(conv=>whnf);fail_if_success show False)|((first|refine opsA_step ?_|apply wL (heldScreen _ _ _ _ _));conv=>whnf)|(intro _;first|omega|conv=>whnf)|(apply And.intro<;>intro _<;>first|omega|conv=>whnf)|((first|refine aL ?_|refine ⟨_,rfl,?_⟩|refine ⟨_,⟨rfl,rfl⟩,?_⟩|refine ⟨_,⟨rfl,rfl,leaf⟩,?_⟩);conv=>whnf)|with_reducible assumption|exact lf|fail)
  all_goals (refine ⟨(),⟨⟩,?_⟩;exact fz)
end Go.Mu
