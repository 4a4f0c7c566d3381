/- The walks of the law: what is wrong with a screen, as the reference tells. -/
import Derived.Test.YtofeeoknfhekkaaGreatPB
set_option linter.unusedSimpArgs false
set_option linter.unusedVariables false
set_option linter.constructorNameAsVariable false
namespace Go.Mu
open Go Go.Vm Go.RowKit Go.Proofs
attribute [local irreducible] wpA opsA stillA drawA drawS
set_option maxRecDepth 20000
set_option maxHeartbeats 4000000

theorem l1In (x a b : Int) : CallA S 105 [.int .i64 x, .int .i64 a, .int .i64 b] ⟨[], 0⟩ fun v H' =>
    ∃ _ : Unit, True ∧ v = .prop (a ≤ x ∧ x ≤ b) ∧ H' = ⟨[], 0⟩ := by
  refine .ofC hS (fun _ => True) (fun _ => .prop (a ≤ x ∧ x ≤ b)) (fun _ => ⟨[], 0⟩) Tryz.func105 ?_
  conv => whnf
  repeat' (first|refine Seal.mk ?_|(refine wS ?_;(conv=>whnf);fail_if_success show False)|((first|refine opsA_step ?_|refine drawS_go ?_);conv=>whnf)|(intro _;first|omega|conv=>whnf)|(apply And.intro<;>intro _<;>first|omega|conv=>whnf)|refine ⟨Seal.mk ?_,Seal.mk ?_⟩|((first|(apply And.intro;focus exact leaf)|(apply Or.inl;apply And.intro;focus exact leaf)|apply Or.inr|refine ⟨_,rfl,?_⟩|refine ⟨_,⟨rfl,rfl⟩,?_⟩|refine ⟨intE .u8,⟨rfl,fun _=>rfl⟩,?_⟩|(refine Exists.intro _ (And.intro (And.intro rfl (And.intro rfl ?_)) ?_);focus exact leaf));conv=>whnf)|with_reducible assumption|((fail_if_success refine Exists.intro ?_ ?_);exact leaf)|fail)
  all_goals (refine ⟨(),⟨⟩,?_⟩;((try refine wF ?_);repeat' (first|exact ⟨⟩|(apply And.intro;focus exact leaf)|((conv=>whnf);first|exact ⟨⟩|(apply And.intro;focus exact leaf))|fail)))
theorem l3Attr (n : Int) : CallA S 301 [.int .i64 n] ⟨[], 0⟩ fun v H' =>
    ∃ _ : Unit, True ∧ v = .prop (0 ≤ n ∧ n ≤ 31) ∧ H' = ⟨[], 0⟩ := by
  refine .ofC hS (fun _ => True) (fun _ => .prop (0 ≤ n ∧ n ≤ 31)) (fun _ => ⟨[], 0⟩) Tryz.func301 ?_
  conv => whnf
  repeat' (first|refine Seal.mk ?_|(refine wS ?_;(conv=>whnf);fail_if_success show False)|((first|refine opsA_step ?_|refine drawS_go ?_|apply wL (l1In _ _ _));conv=>whnf)|(intro _;first|omega|conv=>whnf)|(apply And.intro<;>intro _<;>first|omega|conv=>whnf)|refine ⟨Seal.mk ?_,Seal.mk ?_⟩|((first|(apply And.intro;focus exact leaf)|(apply Or.inl;apply And.intro;focus exact leaf)|apply Or.inr|refine ⟨_,rfl,?_⟩|refine ⟨_,⟨rfl,rfl⟩,?_⟩|refine ⟨intE .u8,⟨rfl,fun _=>rfl⟩,?_⟩|(refine Exists.intro _ (And.intro (And.intro rfl (And.intro rfl ?_)) ?_);focus exact leaf));conv=>whnf)|with_reducible assumption|((fail_if_success refine Exists.intro ?_ ?_);exact leaf)|fail)
  all_goals (refine ⟨(),⟨⟩,?_⟩;((try refine wF ?_);repeat' (first|exact ⟨⟩|(apply And.intro;focus exact leaf)|((conv=>whnf);first|exact ⟨⟩|(apply And.intro;focus exact leaf))|fail)))
theorem l2Table (n : Int) : CallA S 302 [.int .i64 n] ⟨[], 0⟩ fun v H' =>
    ∃ _ : Unit, True ∧ v = .prop (1 ≤ n ∧ n ≤ 3) ∧ H' = ⟨[], 0⟩ := by
  refine .ofC hS (fun _ => True) (fun _ => .prop (1 ≤ n ∧ n ≤ 3)) (fun _ => ⟨[], 0⟩) Tryz.func302 ?_
  conv => whnf
  repeat' (first|refine Seal.mk ?_|(refine wS ?_;(conv=>whnf);fail_if_success show False)|((first|refine opsA_step ?_|refine drawS_go ?_|apply wL (l1In _ _ _));conv=>whnf)|(intro _;first|omega|conv=>whnf)|(apply And.intro<;>intro _<;>first|omega|conv=>whnf)|refine ⟨Seal.mk ?_,Seal.mk ?_⟩|((first|(apply And.intro;focus exact leaf)|(apply Or.inl;apply And.intro;focus exact leaf)|apply Or.inr|refine ⟨_,rfl,?_⟩|refine ⟨_,⟨rfl,rfl⟩,?_⟩|refine ⟨intE .u8,⟨rfl,fun _=>rfl⟩,?_⟩|(refine Exists.intro _ (And.intro (And.intro rfl (And.intro rfl ?_)) ?_);focus exact leaf));conv=>whnf)|with_reducible assumption|((fail_if_success refine Exists.intro ?_ ?_);exact leaf)|fail)
  all_goals (refine ⟨(),⟨⟩,?_⟩;((try refine wF ?_);repeat' (first|exact ⟨⟩|(apply And.intro;focus exact leaf)|((conv=>whnf);first|exact ⟨⟩|(apply And.intro;focus exact leaf))|fail)))
theorem l1Char (c : Int) : CallA S 215 [.int .i64 c] ⟨[], 0⟩ fun v H' =>
    ∃ _ : Unit, True ∧ v = .prop ((0 ≤ c ∧ c ≤ 55295) ∨ (57344 ≤ c ∧ c ≤ 65535)) ∧ H' = ⟨[], 0⟩ := by
  refine .ofC hS (fun _ => True) (fun _ => .prop ((0 ≤ c ∧ c ≤ 55295) ∨ (57344 ≤ c ∧ c ≤ 65535))) (fun _ => ⟨[], 0⟩) Tryz.func215 ?_
  conv => whnf
  repeat' (first|refine Seal.mk ?_|(refine wS ?_;(conv=>whnf);fail_if_success show False)|((first|refine opsA_step ?_|refine drawS_go ?_|apply wL (l1In _ _ _));conv=>whnf)|(intro _;first|omega|conv=>whnf)|(apply And.intro<;>intro _<;>first|omega|conv=>whnf)|refine ⟨Seal.mk ?_,Seal.mk ?_⟩|((first|(apply And.intro;focus exact leaf)|(apply Or.inl;apply And.intro;focus exact leaf)|apply Or.inr|refine ⟨_,rfl,?_⟩|refine ⟨_,⟨rfl,rfl⟩,?_⟩|refine ⟨intE .u8,⟨rfl,fun _=>rfl⟩,?_⟩|(refine Exists.intro _ (And.intro (And.intro rfl (And.intro rfl ?_)) ?_);focus exact leaf));conv=>whnf)|with_reducible assumption|((fail_if_success refine Exists.intro ?_ ?_);exact leaf)|fail)
  all_goals (refine ⟨(),⟨⟩,?_⟩;((try refine wF ?_);repeat' (first|exact ⟨⟩|(apply And.intro;focus exact leaf)|((conv=>whnf);first|exact ⟨⟩|(apply And.intro;focus exact leaf))|fail)))
theorem l3Cell (xs : List (Int × Int)) (i : Nat) (hi : i < xs.length) : CallA S 330 [.ptr (.loc 0) 2 (some i) 0] ⟨[⟨.loc 0, false, .arr pairE xs⟩], 1⟩ fun v H' =>
    ∃ _ : Unit, True ∧ v = .prop (cellP (xs.getD i (0, 0))) ∧ H' = ⟨[], 1⟩ := by
  refine .ofC hS (fun _ => True) (fun _ => .prop (cellP (xs.getD i (0, 0)))) (fun _ => ⟨[], 1⟩) Tryz.func330 ?_
  have e : xs.getD (i : Int).toNat pairE.d = xs.getD i (0, 0) := rfl
  conv => whnf
  repeat' (first|refine Seal.mk ?_|(refine wS ?_;(conv=>whnf);fail_if_success show False)|((first|refine opsA_step ?_|refine drawS_go ?_|apply wL (l1Char _)|apply wL (l1In _ _ _));conv=>whnf)|(intro _;first|omega|conv=>whnf)|(apply And.intro<;>intro _<;>first|omega|conv=>whnf)|refine ⟨Seal.mk ?_,Seal.mk ?_⟩|((first|(apply And.intro;focus exact leaf)|(apply Or.inl;apply And.intro;focus exact leaf)|apply Or.inr|refine ⟨_,rfl,?_⟩|refine ⟨_,⟨rfl,rfl⟩,?_⟩|refine ⟨intE .u8,⟨rfl,fun _=>rfl⟩,?_⟩|(refine Exists.intro _ (And.intro (And.intro rfl (And.intro rfl ?_)) ?_);focus exact leaf));conv=>whnf)|with_reducible assumption|((fail_if_success refine Exists.intro ?_ ?_);exact leaf)|fail)
  all_goals (simp only [e] at *; unfold cellP)
  all_goals (refine ⟨(),⟨⟩,?_⟩;((try refine wF ?_);repeat' (first|exact ⟨⟩|(apply And.intro;focus exact leaf)|((conv=>whnf);first|exact ⟨⟩|(apply And.intro;focus exact leaf))|fail)))
theorem l3Cells (xs : List (Int × Int)) (hx : xs.length ≤ 1048576) : CallA S 299 [.sl (.loc 0) 2 none xs.length] ⟨[⟨.loc 0, false, .arr pairE xs⟩], 1⟩ fun v H' =>
    ∃ _ : Unit, True ∧ v = .prop (allCells xs) ∧ H' = ⟨[], 1⟩ := by
  refine .ofC hS (fun _ => True) (fun _ => .prop (allCells xs)) (fun _ => ⟨[], 1⟩) Tryz.func299 ?_
  conv => whnf
  repeat' (first|refine Seal.mk ?_|(refine wS ?_;(conv=>whnf);fail_if_success show False)|((first|refine opsA_step ?_|refine drawS_go ?_);conv=>whnf)|(intro _;first|omega|conv=>whnf)|(apply And.intro<;>intro _<;>first|omega|conv=>whnf)|refine ⟨Seal.mk ?_,Seal.mk ?_⟩|((first|(apply And.intro;focus exact leaf)|(apply Or.inl;apply And.intro;focus exact leaf)|apply Or.inr|refine ⟨_,rfl,?_⟩|refine ⟨_,⟨rfl,rfl⟩,?_⟩|refine ⟨intE .u8,⟨rfl,fun _=>rfl⟩,?_⟩|(refine Exists.intro _ (And.intro (And.intro rfl (And.intro rfl ?_)) ?_);focus exact leaf));conv=>whnf)|with_reducible assumption|((fail_if_success refine Exists.intro ?_ ?_);exact leaf)|fail)
  refine .loop hS (γ := Nat) (fun i => ⟨[(0, .sl (.loc 0) 2 none xs.length), (3, .int .i64 i)],
      ⟨[⟨.loc 0, false, .arr pairE xs⟩], 1⟩, 15, 1⟩) (fun i => i ≤ xs.length ∧ ∀ k, k < i → cellP (xs.getD k (0, 0))) (fun i => xs.length - i) 0 ⟨by omega, by omega⟩ ?_ ?_
  · ((try dsimp only);((try refine wF ?_);repeat' (first|exact ⟨⟩|(apply And.intro;focus exact leaf)|((conv=>whnf);first|exact ⟨⟩|(apply And.intro;focus exact leaf))|fail)))
  · intro i hi
    obtain ⟨hi, hk⟩ := hi
    conv => whnf
    repeat' (first|refine Seal.mk ?_|(refine wS ?_;(conv=>whnf);fail_if_success show False)|((first|refine opsA_step ?_|refine drawS_go ?_|apply wL (l3Cell xs i (by omega)));conv=>whnf)|(intro _;first|omega|conv=>whnf)|(apply And.intro<;>intro _<;>first|omega|conv=>whnf)|refine ⟨Seal.mk ?_,Seal.mk ?_⟩|((first|(apply And.intro;focus exact leaf)|(apply Or.inl;apply And.intro;focus exact leaf)|apply Or.inr|refine ⟨_,rfl,?_⟩|refine ⟨_,⟨rfl,rfl⟩,?_⟩|refine ⟨intE .u8,⟨rfl,fun _=>rfl⟩,?_⟩|(refine Exists.intro _ (And.intro (And.intro rfl (And.intro rfl ?_)) ?_);focus exact leaf));conv=>whnf)|with_reducible assumption|((fail_if_success refine Exists.intro ?_ ?_);exact leaf)|fail)
    · have hn : ¬ allCells xs := fun h => ‹¬ cellP _› (h i (by omega))
      (refine ⟨(),⟨⟩,?_⟩;((try refine wF ?_);repeat' (first|exact ⟨⟩|(apply And.intro;focus exact leaf)|((conv=>whnf);first|exact ⟨⟩|(apply And.intro;focus exact leaf))|fail)))
    · refine ⟨i + 1, ⟨⟨by omega, fun k hk' => ?_⟩, by omega⟩, ?_⟩
      · rcases Nat.lt_or_eq_of_le (Nat.le_of_lt_succ hk') with q | q
        · exact hk k q
        · subst q; exact Classical.not_not.1 ‹_›
      · ((try dsimp only);((try refine wF ?_);repeat' (first|exact ⟨⟩|(apply And.intro;focus exact leaf)|((conv=>whnf);first|exact ⟨⟩|(apply And.intro;focus exact leaf))|fail)))
    · have hn : allCells xs := fun k hk' => hk k (by omega)
      (refine ⟨(),⟨⟩,?_⟩;((try refine wF ?_);repeat' (first|exact ⟨⟩|(apply And.intro;focus exact leaf)|((conv=>whnf);first|exact ⟨⟩|(apply And.intro;focus exact leaf))|fail)))
end Go.Mu

namespace Go.Mu
open Go Go.Vm Go.RowKit Go.Proofs
attribute [local irreducible] wpA opsA stillA drawA drawS
set_option maxRecDepth 20000
set_option maxHeartbeats 4000000

theorem l3Size (r w : Int) : CallA S 96 [.int .i64 r, .int .i64 w] ⟨[], 0⟩ fun v H' =>
    ∃ _ : Unit, True ∧ v = .prop ((1 ≤ r ∧ r ≤ 6) ∧ 2 ≤ w ∧ w ≤ 12) ∧ H' = ⟨[], 0⟩ := by
  refine .ofC hS (fun _ => True) (fun _ => .prop ((1 ≤ r ∧ r ≤ 6) ∧ 2 ≤ w ∧ w ≤ 12)) (fun _ => ⟨[], 0⟩) Tryz.func96 ?_
  conv => whnf
  repeat' (first|refine Seal.mk ?_|(refine wS ?_;(conv=>whnf);fail_if_success show False)|((first|refine opsA_step ?_|refine drawS_go ?_|apply wL (l1In _ _ _));conv=>whnf)|(intro _;first|omega|conv=>whnf)|(apply And.intro<;>intro _<;>first|omega|conv=>whnf)|refine ⟨Seal.mk ?_,Seal.mk ?_⟩|((first|(apply And.intro;focus exact leaf)|(apply Or.inl;apply And.intro;focus exact leaf)|apply Or.inr|refine ⟨_,rfl,?_⟩|refine ⟨_,⟨rfl,rfl⟩,?_⟩|refine ⟨intE .u8,⟨rfl,fun _=>rfl⟩,?_⟩|(refine Exists.intro _ (And.intro (And.intro rfl (And.intro rfl ?_)) ?_);focus exact leaf));conv=>whnf)|with_reducible assumption|((fail_if_success refine Exists.intro ?_ ?_);exact leaf)|fail)
  all_goals (refine ⟨(),⟨⟩,?_⟩;((try refine wF ?_);repeat' (first|exact ⟨⟩|(apply And.intro;focus exact leaf)|((conv=>whnf);first|exact ⟨⟩|(apply And.intro;focus exact leaf))|fail)))
theorem l3Place (s : Scr) (y x : Int) (hs : (1 ≤ s.grid.rows ∧ s.grid.rows ≤ 6) ∧ 2 ≤ s.grid.width ∧ s.grid.width ≤ 12) : CallA S 300 [.ptr (.loc 0) 20 none 0, .int .i64 y, .int .i64 x] ⟨[⟨.loc 0, false, .raw [.int .i64 s.grid.rows, .int .i64 s.grid.width, .sl (.loc 1) 2 none s.grid.cells.length, .sl (.loc 2) 2 none s.grid.back.length, .int .i64 s.y, .int .i64 s.x, .prop (s.wrap = true), .int .i64 s.attr, .int .i64 s.top, .int .i64 s.bottom, .prop (s.origin = true), .prop (s.autow = true), .prop (s.insert = true), .sl (.loc 3) 1 none s.tabs.length, .int .i64 s.keptY, .int .i64 s.keptX, .int .i64 s.keptA, .sl (.loc 4) 1 none s.sets.length, .int .i64 s.shift, .int .i64 s.bells]⟩], 5⟩ fun v H' =>
    ∃ _ : Unit, True ∧ v = .prop ((0 ≤ y ∧ y ≤ s.grid.rows - 1) ∧ 0 ≤ x ∧ x ≤ s.grid.width - 1) ∧ H' = ⟨[], 5⟩ := by
  refine .ofC hS (fun _ => True) (fun _ => .prop ((0 ≤ y ∧ y ≤ s.grid.rows - 1) ∧ 0 ≤ x ∧ x ≤ s.grid.width - 1)) (fun _ => ⟨[], 5⟩) Tryz.func300 ?_
  conv => whnf
  repeat' (first|refine Seal.mk ?_|(refine wS ?_;(conv=>whnf);fail_if_success show False)|((first|refine opsA_step ?_|refine drawS_go ?_|apply wL (l1In _ _ _));conv=>whnf)|(intro _;first|omega|conv=>whnf)|(apply And.intro<;>intro _<;>first|omega|conv=>whnf)|refine ⟨Seal.mk ?_,Seal.mk ?_⟩|((first|(apply And.intro;focus exact leaf)|(apply Or.inl;apply And.intro;focus exact leaf)|apply Or.inr|refine ⟨_,rfl,?_⟩|refine ⟨_,⟨rfl,rfl⟩,?_⟩|refine ⟨intE .u8,⟨rfl,fun _=>rfl⟩,?_⟩|(refine Exists.intro _ (And.intro (And.intro rfl (And.intro rfl ?_)) ?_);focus exact leaf));conv=>whnf)|with_reducible assumption|((fail_if_success refine Exists.intro ?_ ?_);exact leaf)|fail)
  all_goals (refine ⟨(),⟨⟩,?_⟩;((try refine wF ?_);repeat' (first|exact ⟨⟩|(apply And.intro;focus exact leaf)|((conv=>whnf);first|exact ⟨⟩|(apply And.intro;focus exact leaf))|fail)))
theorem l5Region (top bottom rows : Int) (hs : 1 ≤ rows ∧ rows ≤ 6) : CallA S 303 [.int .i64 top, .int .i64 bottom, .int .i64 rows] ⟨[], 0⟩ fun v H' =>
    ∃ _ : Unit, True ∧ v = .prop ((0 ≤ top ∧ top < bottom ∧ bottom ≤ rows - 1) ∨ (top = 0 ∧ bottom = rows - 1)) ∧ H' = ⟨[], 0⟩ := by
  refine .ofC hS (fun _ => True) (fun _ => .prop ((0 ≤ top ∧ top < bottom ∧ bottom ≤ rows - 1) ∨ (top = 0 ∧ bottom = rows - 1))) (fun _ => ⟨[], 0⟩) Tryz.func303 ?_
  conv => whnf
  repeat' (first|refine Seal.mk ?_|(refine wS ?_;(conv=>whnf);fail_if_success show False)|((first|refine opsA_step ?_|refine drawS_go ?_);conv=>whnf)|(intro _;first|omega|conv=>whnf)|(apply And.intro<;>intro _<;>first|omega|conv=>whnf)|refine ⟨Seal.mk ?_,Seal.mk ?_⟩|((first|(apply And.intro;focus exact leaf)|(apply Or.inl;apply And.intro;focus exact leaf)|apply Or.inr|refine ⟨_,rfl,?_⟩|refine ⟨_,⟨rfl,rfl⟩,?_⟩|refine ⟨intE .u8,⟨rfl,fun _=>rfl⟩,?_⟩|(refine Exists.intro _ (And.intro (And.intro rfl (And.intro rfl ?_)) ?_);focus exact leaf));conv=>whnf)|with_reducible assumption|((fail_if_success refine Exists.intro ?_ ?_);exact leaf)|fail)
  all_goals (refine ⟨(),⟨⟩,?_⟩;((try refine wF ?_);repeat' (first|exact ⟨⟩|(apply And.intro;focus exact leaf)|((conv=>whnf);first|exact ⟨⟩|(apply And.intro;focus exact leaf))|fail)))
theorem l3Fault (s : Scr) (h1 : s.grid.cells.length ≤ 1048576) (h2 : s.grid.back.length ≤ 1048576) : CallA S 258 [.ptr (.loc 0) 20 none 0] ⟨[⟨.loc 0, false, .raw [.int .i64 s.grid.rows, .int .i64 s.grid.width, .sl (.loc 1) 2 none s.grid.cells.length, .sl (.loc 2) 2 none s.grid.back.length, .int .i64 s.y, .int .i64 s.x, .prop (s.wrap = true), .int .i64 s.attr, .int .i64 s.top, .int .i64 s.bottom, .prop (s.origin = true), .prop (s.autow = true), .prop (s.insert = true), .sl (.loc 3) 1 none s.tabs.length, .int .i64 s.keptY, .int .i64 s.keptX, .int .i64 s.keptA, .sl (.loc 4) 1 none s.sets.length, .int .i64 s.shift, .int .i64 s.bells]⟩, ⟨.loc 1, false, .arr pairE s.grid.cells⟩, ⟨.loc 2, false, .arr pairE s.grid.back⟩, ⟨.loc 3, false, .arr boolE s.tabs⟩, ⟨.loc 4, false, .arr (intE .i64) s.sets⟩], 5⟩ fun v H' =>
    ∃ g : Int, (g = gridF s.grid.rows s.grid.width s.grid.cells s.grid.back ∧ True) ∧ v = .int .i64 g ∧ H' = ⟨[], 5⟩ := by
  refine .ofC hS (fun g : Int => g = gridF s.grid.rows s.grid.width s.grid.cells s.grid.back ∧ True) (fun g => .int .i64 g) (fun _ => ⟨[], 5⟩) Tryz.func258 ?_
  have ha := area (r := s.grid.rows) (w := s.grid.width)
  conv => whnf
  repeat' (first|refine Seal.mk ?_|(refine wS ?_;(conv=>whnf);fail_if_success show False)|((first|refine opsA_step ?_|refine drawS_go ?_|refine wD (id:=1) (.quick 0 (.quick 1 (.quick 2 (.quick 4 (.quick 5 (.quick 6 (.stable 3 (.stable 7 (.all (.step 8 (.quick 9 .done))))))))))) [8] (by kernel_rfl) rfl ?_|refine wD (id:=4) (.quick 0 (.quick 1 (.quick 2 (.quick 5 (.quick 6 (.quick 7 (.quick 9 (.quick 10 (.quick 11 (.stable 3 (.quick 4 (.stable 8 (.stable 12 (.quick 13 (.quick 14 (.quick 15 (.quick 16 (.quick 17 (.quick 18 (.quick 19 (.stable 20 (.quick 21 (.quick 22 (.quick 23 (.quick 24 (.quick 25 (.quick 26 (.quick 27 (.quick 28 (.stable 29 (.quick 30 (.quick 31 (.quick 32 .done))))))))))))))))))))))))))))))))) [] (by kernel_rfl) rfl ?_|apply wL (l3Size _ _)|apply wL (l3Cells _ _));conv=>whnf)|(intro _;first|omega|conv=>whnf)|(apply And.intro<;>intro _<;>first|omega|conv=>whnf)|refine ⟨Seal.mk ?_,Seal.mk ?_⟩|((first|(apply And.intro;focus exact leaf)|(apply Or.inl;apply And.intro;focus exact leaf)|apply Or.inr|refine ⟨_,rfl,?_⟩|refine ⟨_,⟨rfl,rfl⟩,?_⟩|refine ⟨intE .u8,⟨rfl,fun _=>rfl⟩,?_⟩|(refine Exists.intro _ (And.intro (And.intro rfl (And.intro rfl ?_)) ?_);focus exact leaf));conv=>whnf)|with_reducible assumption|((fail_if_success refine Exists.intro ?_ ?_);exact leaf)|fail)
  all_goals (apply Exists.intro; apply And.intro; (case right => ((try refine wF ?_);repeat' (first|exact ⟨⟩|(apply And.intro;focus exact leaf)|((conv=>whnf);first|exact ⟨⟩|(apply And.intro;focus exact leaf))|fail))))
  all_goals (obtain ⟨e1, e2, e3, e4⟩ := gridF_spec s.grid.rows s.grid.width s.grid.cells s.grid.back; refine ⟨?_, trivial⟩)
  all_goals first | exact (e1 ‹_›).symm | exact (e2 (by omega) (by omega)).symm | (have e3 := e3 (by omega) (by omega); have e4 := e4 (by omega) (by omega); clear e1 e2; by_cases p1 : allCells s.grid.cells <;> by_cases p2 : allCells s.grid.back <;> simp_all)
end Go.Mu

namespace Go.Mu
open Go Go.Vm Go.RowKit Go.Proofs
attribute [local irreducible] wpA opsA stillA drawA drawS
set_option maxRecDepth 20000
set_option maxHeartbeats 4000000

theorem sets_two {l : List Int} (h : l.length = 2) : allSets l ↔ ((1 ≤ l.getD 0 0 ∧ l.getD 0 0 ≤ 3) ∧ 1 ≤ l.getD 1 0 ∧ l.getD 1 0 ≤ 3) := by
  constructor
  · intro q; exact ⟨q 0 (by omega), q 1 (by omega)⟩
  · rintro ⟨q0, q1⟩ k hk
    have : k = 0 ∨ k = 1 := by omega
    rcases this with rfl | rfl
    · exact q0
    · exact q1
theorem l5Ranges (s : Scr) (h4 : s.sets.length ≤ 1048576) (hs : (1 ≤ s.grid.rows ∧ s.grid.rows ≤ 6) ∧ 2 ≤ s.grid.width ∧ s.grid.width ≤ 12) : CallA S 259 [.ptr (.loc 0) 20 none 0] ⟨[⟨.loc 0, false, .raw [.int .i64 s.grid.rows, .int .i64 s.grid.width, .sl (.loc 1) 2 none s.grid.cells.length, .sl (.loc 2) 2 none s.grid.back.length, .int .i64 s.y, .int .i64 s.x, .prop (s.wrap = true), .int .i64 s.attr, .int .i64 s.top, .int .i64 s.bottom, .prop (s.origin = true), .prop (s.autow = true), .prop (s.insert = true), .sl (.loc 3) 1 none s.tabs.length, .int .i64 s.keptY, .int .i64 s.keptX, .int .i64 s.keptA, .sl (.loc 4) 1 none s.sets.length, .int .i64 s.shift, .int .i64 s.bells]⟩, ⟨.loc 1, false, .arr pairE s.grid.cells⟩, ⟨.loc 2, false, .arr pairE s.grid.back⟩, ⟨.loc 3, false, .arr boolE s.tabs⟩, ⟨.loc 4, false, .arr (intE .i64) s.sets⟩], 5⟩ fun v H' =>
    ∃ g : Prop, ((g ↔ rangeP s) ∧ True) ∧ v = .prop g ∧ H' = ⟨[], 5⟩ := by
  refine .ofC hS (fun g : Prop => (g ↔ rangeP s) ∧ True) (fun g => .prop g) (fun _ => ⟨[], 5⟩) Tryz.func259 ?_
  conv => whnf
  repeat' (first|refine Seal.mk ?_|(refine wS ?_;(conv=>whnf);fail_if_success show False)|((first|refine opsA_step ?_|refine drawS_go ?_|refine wD (id:=1) (.quick 0 (.quick 1 (.quick 2 (.quick 3 (.quick 4 (.quick 5 (.quick 7 (.quick 8 (.quick 9 (.stable 6 (.stable 10 (.all (.step 11 (.quick 12 (.quick 13 (.quick 14 (.quick 15 (.quick 16 (.stable 17 (.all (.step 18 (.quick 19 (.quick 20 (.quick 21 (.quick 22 (.quick 23 (.quick 24 (.stable 25 (.all (.step 26 (.quick 27 (.quick 28 (.quick 29 (.quick 30 (.quick 31 (.quick 32 (.stable 33 (.all (.step 34 (.quick 35 (.quick 36 (.quick 37 (.quick 38 (.quick 39 (.quick 40 (.stable 41 (.all (.step 42 (.quick 43 (.quick 44 .done)))))))))))))))))))))))))))))))))))))))))))))))))) [11, 18, 26, 34, 42] (by kernel_rfl) rfl ?_|apply wL (l3Place s _ _ hs)|apply wL (l3Attr _)|apply wL (l1In _ _ _)|apply wL (l2Table _));conv=>whnf)|(intro _;first|omega|conv=>whnf)|(apply And.intro<;>intro _<;>first|omega|conv=>whnf)|refine ⟨Seal.mk ?_,Seal.mk ?_⟩|((first|(apply And.intro;focus exact leaf)|(apply Or.inl;apply And.intro;focus exact leaf)|apply Or.inr|refine ⟨_,rfl,?_⟩|refine ⟨_,⟨rfl,rfl⟩,?_⟩|refine ⟨intE .u8,⟨rfl,fun _=>rfl⟩,?_⟩|(refine Exists.intro _ (And.intro (And.intro rfl (And.intro rfl ?_)) ?_);focus exact leaf));conv=>whnf)|with_reducible assumption|((fail_if_success refine Exists.intro ?_ ?_);exact leaf)|fail)
  all_goals (apply Exists.intro; apply And.intro; (case right => ((try refine wF ?_);repeat' (first|exact ⟨⟩|(apply And.intro;focus exact leaf)|((conv=>whnf);first|exact ⟨⟩|(apply And.intro;focus exact leaf))|fail))))
  all_goals (refine ⟨?_, trivial⟩; unfold rangeP)
  all_goals (have e0 : s.sets.getD (Int.toNat 0) (intE .i64).d = s.sets.getD 0 0 := rfl; have e1 : s.sets.getD (Int.toNat 1) (intE .i64).d = s.sets.getD 1 0 := rfl; simp only [e0, e1] at *)
  all_goals (by_cases hl : s.sets.length = 2)
  all_goals first | (simp only [sets_two hl, true_iff, false_iff] <;> omega) | (simp only [hl, false_and, and_false, true_iff, false_iff, iff_false] <;> omega)
theorem l5Form (s : Scr) (h3 : s.tabs.length ≤ 1048576) (hs : (1 ≤ s.grid.rows ∧ s.grid.rows ≤ 6) ∧ 2 ≤ s.grid.width ∧ s.grid.width ≤ 12) : CallA S 260 [.ptr (.loc 0) 20 none 0] ⟨[⟨.loc 0, false, .raw [.int .i64 s.grid.rows, .int .i64 s.grid.width, .sl (.loc 1) 2 none s.grid.cells.length, .sl (.loc 2) 2 none s.grid.back.length, .int .i64 s.y, .int .i64 s.x, .prop (s.wrap = true), .int .i64 s.attr, .int .i64 s.top, .int .i64 s.bottom, .prop (s.origin = true), .prop (s.autow = true), .prop (s.insert = true), .sl (.loc 3) 1 none s.tabs.length, .int .i64 s.keptY, .int .i64 s.keptX, .int .i64 s.keptA, .sl (.loc 4) 1 none s.sets.length, .int .i64 s.shift, .int .i64 s.bells]⟩, ⟨.loc 1, false, .arr pairE s.grid.cells⟩, ⟨.loc 2, false, .arr pairE s.grid.back⟩, ⟨.loc 3, false, .arr boolE s.tabs⟩, ⟨.loc 4, false, .arr (intE .i64) s.sets⟩], 5⟩ fun v H' =>
    ∃ g : Prop, ((g ↔ formP s) ∧ True) ∧ v = .prop g ∧ H' = ⟨[], 5⟩ := by
  refine .ofC hS (fun g : Prop => (g ↔ formP s) ∧ True) (fun g => .prop g) (fun _ => ⟨[], 5⟩) Tryz.func260 ?_
  conv => whnf
  repeat' (first|refine Seal.mk ?_|(refine wS ?_;(conv=>whnf);fail_if_success show False)|((first|refine opsA_step ?_|refine drawS_go ?_|refine wD (id:=1) (.quick 0 (.quick 1 (.quick 2 (.quick 4 (.quick 5 (.quick 6 (.quick 8 (.quick 9 (.quick 10 (.quick 11 (.stable 3 (.stable 7 (.stable 12 (.all (.step 13 (.quick 14 (.quick 15 (.quick 16 (.quick 17 (.quick 18 (.quick 21 (.quick 22 (.quick 23 (.quick 24 (.stable 19 (.quick 20 (.stable 25 (.quick 26 (.quick 27 .done))))))))))))))))))))))))))))) [13] (by kernel_rfl) rfl ?_|refine wD (id:=3) (.quick 0 (.quick 1 (.quick 2 (.stable 3 (.quick 4 (.quick 5 (.quick 6 (.quick 7 (.stable 8 (.quick 9 (.quick 10 (.quick 11 (.quick 12 (.quick 13 (.quick 15 (.quick 16 (.quick 17 (.quick 18 (.stable 14 (.stable 19 (.quick 20 (.quick 21 (.quick 22 (.quick 23 .done)))))))))))))))))))))))) [] (by kernel_rfl) rfl ?_|refine wD (id:=5) (.quick 0 (.quick 1 (.quick 2 (.stable 3 (.quick 4 (.quick 5 (.quick 6 (.quick 7 (.quick 8 (.quick 10 (.quick 11 (.quick 12 (.quick 14 (.quick 15 (.quick 16 (.stable 9 (.stable 13 (.stable 17 (.all (.step 18 (.quick 19 (.quick 20 .done)))))))))))))))))))))) [18] (by kernel_rfl) rfl ?_|apply wL (l5Region _ _ _ hs.1)|apply wL (l1In _ _ _));conv=>whnf)|(intro _;first|omega|conv=>whnf)|(apply And.intro<;>intro _<;>first|omega|conv=>whnf)|refine ⟨Seal.mk ?_,Seal.mk ?_⟩|((first|(apply And.intro;focus exact leaf)|(apply Or.inl;apply And.intro;focus exact leaf)|apply Or.inr|refine ⟨_,rfl,?_⟩|refine ⟨_,⟨rfl,rfl⟩,?_⟩|refine ⟨intE .u8,⟨rfl,fun _=>rfl⟩,?_⟩|(refine Exists.intro _ (And.intro (And.intro rfl (And.intro rfl ?_)) ?_);focus exact leaf));conv=>whnf)|with_reducible assumption|((fail_if_success refine Exists.intro ?_ ?_);exact leaf)|fail)
  all_goals (apply Exists.intro; apply And.intro; (case right => ((try refine wF ?_);repeat' (first|exact ⟨⟩|(apply And.intro;focus exact leaf)|((conv=>whnf);first|exact ⟨⟩|(apply And.intro;focus exact leaf))|fail))))
  all_goals (refine ⟨?_, trivial⟩; unfold formP)
  all_goals (cases e1 : s.wrap <;> cases e2 : s.autow <;> cases e3 : s.origin <;> simp only [e1, e2, e3, not_true_eq_false, not_false_eq_true, and_true, and_false, true_and, false_and, iff_false, true_iff, false_iff, true_implies, Bool.false_eq_true, false_implies] at * <;> first | omega | contradiction)
theorem l5Fault (s : Scr) (h1 : s.grid.cells.length ≤ 1048576) (h2 : s.grid.back.length ≤ 1048576) (h3 : s.tabs.length ≤ 1048576) (h4 : s.sets.length ≤ 1048576) : CallA S 213 [.ptr (.loc 0) 20 none 0] ⟨[⟨.loc 0, false, .raw [.int .i64 s.grid.rows, .int .i64 s.grid.width, .sl (.loc 1) 2 none s.grid.cells.length, .sl (.loc 2) 2 none s.grid.back.length, .int .i64 s.y, .int .i64 s.x, .prop (s.wrap = true), .int .i64 s.attr, .int .i64 s.top, .int .i64 s.bottom, .prop (s.origin = true), .prop (s.autow = true), .prop (s.insert = true), .sl (.loc 3) 1 none s.tabs.length, .int .i64 s.keptY, .int .i64 s.keptX, .int .i64 s.keptA, .sl (.loc 4) 1 none s.sets.length, .int .i64 s.shift, .int .i64 s.bells]⟩, ⟨.loc 1, false, .arr pairE s.grid.cells⟩, ⟨.loc 2, false, .arr pairE s.grid.back⟩, ⟨.loc 3, false, .arr boolE s.tabs⟩, ⟨.loc 4, false, .arr (intE .i64) s.sets⟩], 5⟩ fun v H' =>
    ∃ g : Int, (g = scrF s ∧ True) ∧ v = .int .i64 g ∧ H' = ⟨[], 5⟩ := by
  refine .ofC hS (fun g : Int => g = scrF s ∧ True) (fun g => .int .i64 g) (fun _ => ⟨[], 5⟩) Tryz.func213 ?_
  conv => whnf
  by_cases hz : gridF s.grid.rows s.grid.width s.grid.cells s.grid.back = 0
  · have hs := gridF_size hz
    repeat' (first|refine Seal.mk ?_|(refine wS ?_;(conv=>whnf);fail_if_success show False)|((first|refine opsA_step ?_|refine drawS_go ?_|apply wL (l3Fault _ _ _)|apply wL (l5Ranges s h4 hs)|apply wL (l5Form s h3 hs));conv=>whnf)|(intro _;first|omega|conv=>whnf)|(apply And.intro<;>intro _<;>first|omega|conv=>whnf)|refine ⟨Seal.mk ?_,Seal.mk ?_⟩|((first|(apply And.intro;focus exact leaf)|(apply Or.inl;apply And.intro;focus exact leaf)|apply Or.inr|refine ⟨_,rfl,?_⟩|refine ⟨_,⟨rfl,rfl⟩,?_⟩|refine ⟨intE .u8,⟨rfl,fun _=>rfl⟩,?_⟩|(refine Exists.intro _ (And.intro (And.intro rfl (And.intro rfl ?_)) ?_);focus exact leaf));conv=>whnf)|with_reducible assumption|((fail_if_success refine Exists.intro ?_ ?_);exact leaf)|fail)
    · rename_i a1 a0
      have e : 3 = scrF s := by unfold scrF; rw [if_pos hz, if_neg fun q => a0 (a1.1.2 q)]
      (apply Exists.intro; apply And.intro; (case right => ((try refine wF ?_);repeat' (first|exact ⟨⟩|(apply And.intro;focus exact leaf)|((conv=>whnf);first|exact ⟨⟩|(apply And.intro;focus exact leaf))|fail))))
      exact ⟨by first | rfl | assumption | (apply Eq.symm; assumption) | omega, trivial⟩
    · rename_i a3 a2 g a1 a0
      have e : 1 = scrF s := by unfold scrF; rw [if_pos hz, if_pos (a3.1.1 (Classical.not_not.1 a2)), if_neg fun q => a0 (a1.1.2 q)]
      (apply Exists.intro; apply And.intro; (case right => ((try refine wF ?_);repeat' (first|exact ⟨⟩|(apply And.intro;focus exact leaf)|((conv=>whnf);first|exact ⟨⟩|(apply And.intro;focus exact leaf))|fail))))
      exact ⟨by first | rfl | assumption | (apply Eq.symm; assumption) | omega, trivial⟩
    · rename_i a3 a2 g a1 a0
      have e : 0 = scrF s := by unfold scrF; rw [if_pos hz, if_pos (a3.1.1 (Classical.not_not.1 a2)), if_pos (a1.1.1 (Classical.not_not.1 a0))]
      (apply Exists.intro; apply And.intro; (case right => ((try refine wF ?_);repeat' (first|exact ⟨⟩|(apply And.intro;focus exact leaf)|((conv=>whnf);first|exact ⟨⟩|(apply And.intro;focus exact leaf))|fail))))
      exact ⟨by first | rfl | assumption | (apply Eq.symm; assumption) | omega, trivial⟩
  · have e : gridF s.grid.rows s.grid.width s.grid.cells s.grid.back = scrF s := by unfold scrF; rw [if_neg hz]
    repeat' (first|refine Seal.mk ?_|(refine wS ?_;(conv=>whnf);fail_if_success show False)|((first|refine opsA_step ?_|refine drawS_go ?_|apply wL (l3Fault _ _ _));conv=>whnf)|(intro _;first|omega|conv=>whnf)|(apply And.intro<;>intro _<;>first|omega|conv=>whnf)|refine ⟨Seal.mk ?_,Seal.mk ?_⟩|((first|(apply And.intro;focus exact leaf)|(apply Or.inl;apply And.intro;focus exact leaf)|apply Or.inr|refine ⟨_,rfl,?_⟩|refine ⟨_,⟨rfl,rfl⟩,?_⟩|refine ⟨intE .u8,⟨rfl,fun _=>rfl⟩,?_⟩|(refine Exists.intro _ (And.intro (And.intro rfl (And.intro rfl ?_)) ?_);focus exact leaf));conv=>whnf)|with_reducible assumption|((fail_if_success refine Exists.intro ?_ ?_);exact leaf)|fail)
    (apply Exists.intro; apply And.intro; (case right => ((try refine wF ?_);repeat' (first|exact ⟨⟩|(apply And.intro;focus exact leaf)|((conv=>whnf);first|exact ⟨⟩|(apply And.intro;focus exact leaf))|fail))))
    first | exact ⟨by first | rfl | assumption | (apply Eq.symm; assumption), trivial⟩ | (refine ⟨?_, trivial⟩; omega)
end Go.Mu
