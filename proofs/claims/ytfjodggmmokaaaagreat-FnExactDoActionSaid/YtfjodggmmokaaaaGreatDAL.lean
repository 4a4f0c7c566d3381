/- The law's own functions: comparisons and sizes of flat slices. -/
import Derived.Test.YtfjodggmmokaaaaGreatDAK
set_option linter.unusedSimpArgs false
set_option linter.unusedVariables false
set_option linter.constructorNameAsVariable false
namespace Go.Mu
open Go Go.Vm Go.RowKit Go.Proofs
attribute [local irreducible] wpA opsA stillA drawA drawS
set_option maxRecDepth 20000
set_option maxHeartbeats 4000000
theorem eqInt64S (xs : List Int) (hx : xs.length ≤ 1048576) : CallA S 71 [.sl (.loc 0) 1 none xs.length, .sl (.loc 1) 1 none xs.length] ⟨[⟨.loc 0, false, .arr (intE .i64) xs⟩, ⟨.loc 1, false, .arr (intE .i64) xs⟩], 2⟩ (Ret1 (.tt) ⟨[], 2⟩) := by
  refine .ofC hS _ _ _ Tryz.func71 ?_
  conv => whnf
  repeat' (first|refine Seal.mk ?_|(refine wS ?_;(conv=>whnf);fail_if_success show False)|((first|refine opsA_step ?_|refine drawS_go ?_|refine wD (id:=6) (.quick 0 (.quick 1 (.quick 2 (.quick 4 (.quick 5 (.quick 6 (.stable 3 (.stable 7 (.quick 8 .done))))))))) [] (by kernel_rfl) rfl ?_);conv=>whnf)|(intro _;first|omega|conv=>whnf)|(apply And.intro<;>intro _<;>first|omega|conv=>whnf)|((first|refine aL ?_|refine oL ?_|refine ⟨_,rfl,?_⟩|refine ⟨_,⟨rfl,rfl⟩,?_⟩|refine ⟨_,⟨rfl,rfl,leaf⟩,?_⟩);conv=>whnf)|with_reducible assumption|exact lf|fail)
  refine .loop hS (γ := Nat) (fun i => ⟨[(0, .sl (.loc 0) 1 none xs.length), (1, .sl (.loc 1) 1 none xs.length), (5, .int .i64 i)],
    ⟨[⟨.loc 0, false, .arr (intE .i64) xs⟩, ⟨.loc 1, false, .arr (intE .i64) xs⟩], 2⟩, 26, 2⟩) (fun i => i ≤ xs.length) (fun i => xs.length - i) 0 (by omega) ?_ ?_
  · ((try dsimp only);exact fz)
  · intro i hi
    conv => whnf
    repeat' (first|refine Seal.mk ?_|(refine wS ?_;(conv=>whnf);fail_if_success show False)|((first|refine opsA_step ?_|refine drawS_go ?_|refine wD (id:=6) (.quick 0 (.quick 1 (.quick 2 (.quick 4 (.quick 5 (.quick 6 (.stable 3 (.stable 7 (.quick 8 .done))))))))) [] (by kernel_rfl) rfl ?_);conv=>whnf)|(intro _;first|omega|conv=>whnf)|(apply And.intro<;>intro _<;>first|omega|conv=>whnf)|((first|refine aL ?_|refine oL ?_|refine ⟨_,rfl,?_⟩|refine ⟨_,⟨rfl,rfl⟩,?_⟩|refine ⟨_,⟨rfl,rfl,leaf⟩,?_⟩);conv=>whnf)|with_reducible assumption|exact lf|fail)
    all_goals (first | (exact absurd rfl (by assumption)) | (exact absurd Iff.rfl (by assumption)) | (refine ⟨(),⟨⟩,?_⟩;exact fz) | (refine ⟨i + 1, ⟨by omega, by omega⟩, ?_⟩; ((try dsimp only);exact fz)))
theorem szInt64S (n : Nat) (left : Int) (hl : -1 ≤ left) (hl' : left ≤ 1048576) : CallA S 55 [.sl (.loc 0) 1 none n, .int .i64 left] ⟨[], 1⟩ (Ret (γ := Int) (fun g => (left - n < 0 → g = -1) ∧ (¬ left - n < 0 → g = left - n)) (fun g => .int .i64 g) fun g => ⟨[], 1⟩) := by
  refine .ofC hS _ _ _ Tryz.func55 ?_
  conv => whnf
  repeat' (first|refine Seal.mk ?_|(refine wS ?_;(conv=>whnf);fail_if_success show False)|((first|refine opsA_step ?_);conv=>whnf)|(intro _;first|omega|conv=>whnf)|(apply And.intro<;>intro _<;>first|omega|conv=>whnf)|((first|refine aL ?_|refine oL ?_|refine ⟨_,rfl,?_⟩|refine ⟨_,⟨rfl,rfl⟩,?_⟩|refine ⟨_,⟨rfl,rfl,leaf⟩,?_⟩);conv=>whnf)|with_reducible assumption|exact lf|fail)
  all_goals (first | (refine ⟨-1, ⟨by omega, by omega⟩, ?_⟩; exact fz) | (refine ⟨left - n, ⟨by omega, by omega⟩, ?_⟩; exact fz))
theorem eqCell (c : Int × Int) : CallA S 263 [.agg [.int .i64 c.1, .int .i64 c.2], .agg [.int .i64 c.1, .int .i64 c.2]] ⟨[], 0⟩ (Ret1 (.tt) ⟨[], 0⟩) := by
  refine .ofC hS _ _ _ Tryz.func263 ?_
  conv => whnf
  repeat' (first|refine Seal.mk ?_|(refine wS ?_;(conv=>whnf);fail_if_success show False)|((first|refine opsA_step ?_);conv=>whnf)|(intro _;first|omega|conv=>whnf)|(apply And.intro<;>intro _<;>first|omega|conv=>whnf)|((first|refine aL ?_|refine ⟨_,rfl,?_⟩|refine ⟨_,⟨rfl,rfl⟩,?_⟩|refine ⟨_,⟨rfl,rfl,leaf⟩,?_⟩);conv=>whnf)|with_reducible assumption|exact lf|fail)
  all_goals (first | (exact absurd rfl (by assumption)) | (exact absurd Iff.rfl (by assumption)) | (refine ⟨(),⟨⟩,?_⟩;exact fz))
theorem eqCellS (xs : List (Int × Int)) (hx : xs.length ≤ 1048576) : CallA S 159 [.sl (.loc 0) 2 none xs.length, .sl (.loc 1) 2 none xs.length] ⟨[⟨.loc 0, false, .arr pairE xs⟩, ⟨.loc 1, false, .arr pairE xs⟩], 2⟩ (Ret1 (.tt) ⟨[], 2⟩) := by
  refine .ofC hS _ _ _ Tryz.func159 ?_
  conv => whnf
  repeat' (first|refine Seal.mk ?_|(refine wS ?_;(conv=>whnf);fail_if_success show False)|((first|refine opsA_step ?_|refine drawS_go ?_|refine wD (id:=6) (.quick 0 (.quick 1 (.quick 2 (.quick 4 (.quick 5 (.quick 6 (.stable 3 (.stable 7 (.all (.step 8 (.quick 9 .done))))))))))) [8] (by kernel_rfl) rfl ?_);conv=>whnf)|(intro _;first|omega|conv=>whnf)|(apply And.intro<;>intro _<;>first|omega|conv=>whnf)|((first|refine aL ?_|refine oL ?_|refine ⟨_,rfl,?_⟩|refine ⟨_,⟨rfl,rfl⟩,?_⟩|refine ⟨_,⟨rfl,rfl,leaf⟩,?_⟩);conv=>whnf)|with_reducible assumption|exact lf|fail)
  refine .loop hS (γ := Nat) (fun i => ⟨[(0, .sl (.loc 0) 2 none xs.length), (1, .sl (.loc 1) 2 none xs.length), (5, .int .i64 i)],
    ⟨[⟨.loc 0, false, .arr pairE xs⟩, ⟨.loc 1, false, .arr pairE xs⟩], 2⟩, 27, 2⟩) (fun i => i ≤ xs.length) (fun i => xs.length - i) 0 (by omega) ?_ ?_
  · ((try dsimp only);exact fz)
  · intro i hi
    conv => whnf
    repeat' (first|refine Seal.mk ?_|(refine wS ?_;(conv=>whnf);fail_if_success show False)|((first|refine opsA_step ?_|refine drawS_go ?_|refine wD (id:=6) (.quick 0 (.quick 1 (.quick 2 (.quick 4 (.quick 5 (.quick 6 (.stable 3 (.stable 7 (.all (.step 8 (.quick 9 .done))))))))))) [8] (by kernel_rfl) rfl ?_|apply wL (eqCell _));conv=>whnf)|(intro _;first|omega|conv=>whnf)|(apply And.intro<;>intro _<;>first|omega|conv=>whnf)|((first|refine aL ?_|refine oL ?_|refine ⟨_,rfl,?_⟩|refine ⟨_,⟨rfl,rfl⟩,?_⟩|refine ⟨_,⟨rfl,rfl,leaf⟩,?_⟩);conv=>whnf)|with_reducible assumption|exact lf|fail)
    all_goals (first | (exact absurd rfl (by assumption)) | (exact absurd Iff.rfl (by assumption)) | (refine ⟨(),⟨⟩,?_⟩;exact fz) | (refine ⟨i + 1, ⟨by omega, by omega⟩, ?_⟩; ((try dsimp only);exact fz)))
theorem szCellS (n : Nat) (left : Int) (hl : -1 ≤ left) (hl' : left ≤ 1048576) : CallA S 129 [.sl (.loc 0) 2 none n, .int .i64 left] ⟨[], 1⟩ (Ret (γ := Int) (fun g => (left - n < 0 → g = -1) ∧ (¬ left - n < 0 → g = left - n)) (fun g => .int .i64 g) fun g => ⟨[], 1⟩) := by
  refine .ofC hS _ _ _ Tryz.func129 ?_
  conv => whnf
  repeat' (first|refine Seal.mk ?_|(refine wS ?_;(conv=>whnf);fail_if_success show False)|((first|refine opsA_step ?_);conv=>whnf)|(intro _;first|omega|conv=>whnf)|(apply And.intro<;>intro _<;>first|omega|conv=>whnf)|((first|refine aL ?_|refine oL ?_|refine ⟨_,rfl,?_⟩|refine ⟨_,⟨rfl,rfl⟩,?_⟩|refine ⟨_,⟨rfl,rfl,leaf⟩,?_⟩);conv=>whnf)|with_reducible assumption|exact lf|fail)
  all_goals (first | (refine ⟨-1, ⟨by omega, by omega⟩, ?_⟩; exact fz) | (refine ⟨left - n, ⟨by omega, by omega⟩, ?_⟩; exact fz))
theorem eqBoolS (xs : List Bool) (hx : xs.length ≤ 1048576) : CallA S 70 [.sl (.loc 0) 1 none xs.length, .sl (.loc 1) 1 none xs.length] ⟨[⟨.loc 0, false, .arr boolE xs⟩, ⟨.loc 1, false, .arr boolE xs⟩], 2⟩ (Ret1 (.tt) ⟨[], 2⟩) := by
  refine .ofC hS _ _ _ Tryz.func70 ?_
  conv => whnf
  repeat' (first|refine Seal.mk ?_|(refine wS ?_;(conv=>whnf);fail_if_success show False)|((first|refine opsA_step ?_|refine drawS_go ?_|refine wD (id:=6) (.quick 0 (.quick 1 (.quick 2 (.quick 4 (.quick 5 (.quick 6 (.stable 3 (.stable 7 (.quick 8 .done))))))))) [] (by kernel_rfl) rfl ?_);conv=>whnf)|(intro _;first|omega|conv=>whnf)|(apply And.intro<;>intro _<;>first|omega|conv=>whnf)|((first|refine aL ?_|refine oL ?_|refine ⟨_,rfl,?_⟩|refine ⟨_,⟨rfl,rfl⟩,?_⟩|refine ⟨_,⟨rfl,rfl,leaf⟩,?_⟩);conv=>whnf)|with_reducible assumption|exact lf|fail)
  refine .loop hS (γ := Nat) (fun i => ⟨[(0, .sl (.loc 0) 1 none xs.length), (1, .sl (.loc 1) 1 none xs.length), (5, .int .i64 i)],
    ⟨[⟨.loc 0, false, .arr boolE xs⟩, ⟨.loc 1, false, .arr boolE xs⟩], 2⟩, 26, 2⟩) (fun i => i ≤ xs.length) (fun i => xs.length - i) 0 (by omega) ?_ ?_
  · ((try dsimp only);exact fz)
  · intro i hi
    conv => whnf
    repeat' (first|refine Seal.mk ?_|(refine wS ?_;(conv=>whnf);fail_if_success show False)|((first|refine opsA_step ?_|refine drawS_go ?_|refine wD (id:=6) (.quick 0 (.quick 1 (.quick 2 (.quick 4 (.quick 5 (.quick 6 (.stable 3 (.stable 7 (.quick 8 .done))))))))) [] (by kernel_rfl) rfl ?_);conv=>whnf)|(intro _;first|omega|conv=>whnf)|(apply And.intro<;>intro _<;>first|omega|conv=>whnf)|((first|refine aL ?_|refine oL ?_|refine ⟨_,rfl,?_⟩|refine ⟨_,⟨rfl,rfl⟩,?_⟩|refine ⟨_,⟨rfl,rfl,leaf⟩,?_⟩);conv=>whnf)|with_reducible assumption|exact lf|fail)
    all_goals (first | (exact absurd rfl (by assumption)) | (exact absurd Iff.rfl (by assumption)) | (refine ⟨(),⟨⟩,?_⟩;exact fz) | (refine ⟨i + 1, ⟨by omega, by omega⟩, ?_⟩; ((try dsimp only);exact fz)))
theorem szBoolS (n : Nat) (left : Int) (hl : -1 ≤ left) (hl' : left ≤ 1048576) : CallA S 54 [.sl (.loc 0) 1 none n, .int .i64 left] ⟨[], 1⟩ (Ret (γ := Int) (fun g => (left - n < 0 → g = -1) ∧ (¬ left - n < 0 → g = left - n)) (fun g => .int .i64 g) fun g => ⟨[], 1⟩) := by
  refine .ofC hS _ _ _ Tryz.func54 ?_
  conv => whnf
  repeat' (first|refine Seal.mk ?_|(refine wS ?_;(conv=>whnf);fail_if_success show False)|((first|refine opsA_step ?_);conv=>whnf)|(intro _;first|omega|conv=>whnf)|(apply And.intro<;>intro _<;>first|omega|conv=>whnf)|((first|refine aL ?_|refine oL ?_|refine ⟨_,rfl,?_⟩|refine ⟨_,⟨rfl,rfl⟩,?_⟩|refine ⟨_,⟨rfl,rfl,leaf⟩,?_⟩);conv=>whnf)|with_reducible assumption|exact lf|fail)
  all_goals (first | (refine ⟨-1, ⟨by omega, by omega⟩, ?_⟩; exact fz) | (refine ⟨left - n, ⟨by omega, by omega⟩, ?_⟩; exact fz))
end Go.Mu

namespace Go.Mu
open Go Go.Vm Go.RowKit Go.Proofs
attribute [local irreducible] wpA opsA stillA drawA drawS
set_option maxRecDepth 20000
set_option maxHeartbeats 4000000
theorem eqGrid (s : Grd) (h : GrdB s) : CallA S 69 [.agg (grdC (.loc 0) (.loc 1) s), .agg (grdC (.loc 2) (.loc 3) s)] ⟨grdH false (.loc 0) (.loc 1) s (grdH false (.loc 2) (.loc 3) s []), 4⟩ (Ret1 (.tt) ⟨[], 4⟩) := by
  refine .ofC hS _ _ _ Tryz.func69 ?_
  conv => whnf
  obtain ⟨h0, h1⟩ := h
  repeat' (first|refine Seal.mk ?_|(refine wS ?_;(conv=>whnf);fail_if_success show False)|((first|refine opsA_step ?_|apply wL (eqCellS _ _));conv=>whnf)|(intro _;first|omega|conv=>whnf)|(apply And.intro<;>intro _<;>first|omega|conv=>whnf)|((first|refine aL ?_|refine ⟨_,rfl,?_⟩|refine ⟨_,⟨rfl,rfl⟩,?_⟩|refine ⟨_,⟨rfl,rfl,leaf⟩,?_⟩);conv=>whnf)|with_reducible assumption|exact lf|fail)
  all_goals (first | (exact absurd rfl (by assumption)) | (exact absurd Iff.rfl (by assumption)) | (refine ⟨(),⟨⟩,?_⟩;exact fz))
theorem szGrid (s : Grd) (left : Int) (hl : -1 ≤ left) (hl' : left ≤ 1048576) : CallA S 53 [.agg (grdC (.loc 0) (.loc 1) s), .int .i64 left] ⟨[], 2⟩ (Ret (γ := Int) (fun g => (left - s.cells.length - s.back.length < 0 → g = -1) ∧ (¬ left - s.cells.length - s.back.length < 0 → g = left - s.cells.length - s.back.length)) (fun g => .int .i64 g) fun g => ⟨[], 2⟩) := by
  refine .ofC hS _ _ _ Tryz.func53 ?_
  conv => whnf
  repeat' (first|refine Seal.mk ?_|(refine wS ?_;(conv=>whnf);fail_if_success show False)|((first|refine opsA_step ?_|apply wL (szCellS _ _ _ _));conv=>whnf)|(intro _;first|omega|conv=>whnf)|(apply And.intro<;>intro _<;>first|omega|conv=>whnf)|((first|refine aL ?_|refine ⟨_,rfl,?_⟩|refine ⟨_,⟨rfl,rfl⟩,?_⟩|refine ⟨_,⟨rfl,rfl,leaf⟩,?_⟩);conv=>whnf)|with_reducible assumption|exact lf|fail)
  all_goals (first | (refine ⟨-1, ⟨by omega, by omega⟩, ?_⟩; exact fz) | (refine ⟨left - s.cells.length - s.back.length, ⟨by omega, by omega⟩, ?_⟩; exact fz))
theorem eqScreen (s : Scr) (h : ScrB s) : CallA S 15 [.agg (scrC (.loc 0) (.loc 1) (.loc 2) (.loc 3) s), .agg (scrC (.loc 4) (.loc 5) (.loc 6) (.loc 7) s)] ⟨scrH false (.loc 0) (.loc 1) (.loc 2) (.loc 3) s (scrH false (.loc 4) (.loc 5) (.loc 6) (.loc 7) s []), 8⟩ (Ret1 (.tt) ⟨[], 8⟩) := by
  refine .ofC hS _ _ _ Tryz.func15 ?_
  conv => whnf
  obtain ⟨h0, h1, h2⟩ := h
  repeat' (first|refine Seal.mk ?_|(refine wS ?_;(conv=>whnf);fail_if_success show False)|((first|refine opsA_step ?_|apply wL (eqGrid _ _)|apply wL (eqBoolS _ _)|apply wL (eqInt64S _ _));conv=>whnf)|(intro _;first|omega|conv=>whnf)|(apply And.intro<;>intro _<;>first|omega|conv=>whnf)|((first|refine aL ?_|refine ⟨_,rfl,?_⟩|refine ⟨_,⟨rfl,rfl⟩,?_⟩|refine ⟨_,⟨rfl,rfl,leaf⟩,?_⟩);conv=>whnf)|with_reducible assumption|exact lf|fail)
  all_goals (first | (exact absurd rfl (by assumption)) | (exact absurd Iff.rfl (by assumption)) | (refine ⟨(),⟨⟩,?_⟩;exact fz))
theorem szScreen (s : Scr) (left : Int) (hl : -1 ≤ left) (hl' : left ≤ 1048576) : CallA S 8 [.agg (scrC (.loc 0) (.loc 1) (.loc 2) (.loc 3) s), .int .i64 left] ⟨[], 4⟩ (Ret (γ := Int) (fun g => (left - s.grid.cells.length - s.grid.back.length - s.tabs.length - s.sets.length < 0 → g = -1) ∧ (¬ left - s.grid.cells.length - s.grid.back.length - s.tabs.length - s.sets.length < 0 → g = left - s.grid.cells.length - s.grid.back.length - s.tabs.length - s.sets.length)) (fun g => .int .i64 g) fun g => ⟨[], 4⟩) := by
  refine .ofC hS _ _ _ Tryz.func8 ?_
  conv => whnf
  repeat' (first|refine Seal.mk ?_|(refine wS ?_;(conv=>whnf);fail_if_success show False)|((first|refine opsA_step ?_|apply wL (szGrid _ _ _ _)|apply wL (szBoolS _ _ _ _)|apply wL (szInt64S _ _ _ _));conv=>whnf)|(intro _;first|omega|conv=>whnf)|(apply And.intro<;>intro _<;>first|omega|conv=>whnf)|((first|refine aL ?_|refine ⟨_,rfl,?_⟩|refine ⟨_,⟨rfl,rfl⟩,?_⟩|refine ⟨_,⟨rfl,rfl,leaf⟩,?_⟩);conv=>whnf)|with_reducible assumption|exact lf|fail)
  all_goals (first | (refine ⟨-1, ⟨by omega, by omega⟩, ?_⟩; exact fz) | (refine ⟨left - s.grid.cells.length - s.grid.back.length - s.tabs.length - s.sets.length, ⟨by omega, by omega⟩, ?_⟩; exact fz))
end Go.Mu
