/- The walks of the law: what is wrong with a screen, as the program tells. -/
import Derived.Test.YtfjodggmmokaaaaGreatDAN
set_option linter.unusedSimpArgs false
set_option linter.unusedVariables false
set_option linter.constructorNameAsVariable false
namespace Go.Mu
open Go Go.Vm Go.RowKit Go.Proofs
attribute [local irreducible] wpA opsA stillA drawA drawS
set_option maxRecDepth 20000
set_option maxHeartbeats 4000000
theorem isPlace (r w : Int) (y x : Int) (n m : Nat) : CallA S 238 [.agg [.int .i64 r, .int .i64 w, .sl (.loc 0) 2 none n, .sl (.loc 1) 2 none m], .int .i64 y, .int .i64 x] ⟨[], 2⟩ fun v H' =>
    ∃ _ : Unit, True ∧ v = .prop ((0 ≤ y ∧ y ≤ IntKind.i64.wrap (r - 1)) ∧ 0 ≤ x ∧ x ≤ IntKind.i64.wrap (w - 1)) ∧ H' = ⟨[], 2⟩ := by
  refine .ofC hS (fun _ => True) (fun _ => .prop ((0 ≤ y ∧ y ≤ IntKind.i64.wrap (r - 1)) ∧ 0 ≤ x ∧ x ≤ IntKind.i64.wrap (w - 1))) (fun _ => ⟨[], 2⟩) Tryz.func238 ?_
  conv => whnf
  repeat' (first|refine Seal.mk ?_|(refine wS ?_;(conv=>whnf);fail_if_success show False)|((first|refine opsA_step ?_|apply wL (inF _ _ _));conv=>whnf)|(intro _;first|omega|conv=>whnf)|(apply And.intro<;>intro _<;>first|omega|conv=>whnf)|((first|refine aL ?_|apply Or.inr|refine ⟨_,rfl,?_⟩|refine ⟨_,⟨rfl,rfl⟩,?_⟩|refine ⟨_,⟨rfl,rfl,leaf⟩,?_⟩);conv=>whnf)|with_reducible assumption|exact lf|fail)
  all_goals (refine ⟨(),⟨⟩,?_⟩;exact fz)
theorem last (s : Scr) : CallA S 239 [.ptr (.loc 0) 20 none 0] ⟨[⟨.loc 0, false, .raw [.int .i64 s.grid.rows, .int .i64 s.grid.width, .sl (.loc 1) 2 none s.grid.cells.length, .sl (.loc 2) 2 none s.grid.back.length, .int .i64 s.y, .int .i64 s.x, .prop (s.wrap = true), .int .i64 s.attr, .int .i64 s.top, .int .i64 s.bottom, .prop (s.origin = true), .prop (s.autow = true), .prop (s.insert = true), .sl (.loc 3) 1 none s.tabs.length, .int .i64 s.keptY, .int .i64 s.keptX, .int .i64 s.keptA, .sl (.loc 4) 1 none s.sets.length, .int .i64 s.shift, .int .i64 s.bells]⟩], 5⟩ fun v H' =>
    ∃ _ : Unit, True ∧ v = .tup [.int .i64 (IntKind.i64.wrap (s.grid.rows - 1)), .int .i64 (IntKind.i64.wrap (s.grid.width - 1))] ∧ H' = ⟨[], 5⟩ := by
  refine .ofC hS (fun _ => True) (fun _ => .tup [.int .i64 (IntKind.i64.wrap (s.grid.rows - 1)), .int .i64 (IntKind.i64.wrap (s.grid.width - 1))]) (fun _ => ⟨[], 5⟩) Tryz.func239 ?_
  conv => whnf
  repeat' (first|refine Seal.mk ?_|(refine wS ?_;(conv=>whnf);fail_if_success show False)|((first|refine opsA_step ?_|refine drawS_go ?_|refine wD (id:=1) (.quick 0 (.quick 1 (.quick 2 (.quick 3 (.quick 6 (.quick 7 (.quick 8 (.quick 9 (.stable 4 (.quick 5 (.quick 12 (.stable 10 (.quick 11 (.quick 13 .done)))))))))))))) [] (by kernel_rfl) rfl ?_);conv=>whnf)|(intro _;first|omega|conv=>whnf)|(apply And.intro<;>intro _<;>first|omega|conv=>whnf)|((first|refine aL ?_|apply Or.inr|refine ⟨_,rfl,?_⟩|refine ⟨_,⟨rfl,rfl⟩,?_⟩|refine ⟨_,⟨rfl,rfl,leaf⟩,?_⟩);conv=>whnf)|with_reducible assumption|exact lf|fail)
  (refine ⟨(),⟨⟩,?_⟩;exact fz)
theorem inRegion (s : Scr) : CallA S 241 [.ptr (.loc 0) 20 none 0] ⟨[⟨.loc 0, false, .raw [.int .i64 s.grid.rows, .int .i64 s.grid.width, .sl (.loc 1) 2 none s.grid.cells.length, .sl (.loc 2) 2 none s.grid.back.length, .int .i64 s.y, .int .i64 s.x, .prop (s.wrap = true), .int .i64 s.attr, .int .i64 s.top, .int .i64 s.bottom, .prop (s.origin = true), .prop (s.autow = true), .prop (s.insert = true), .sl (.loc 3) 1 none s.tabs.length, .int .i64 s.keptY, .int .i64 s.keptX, .int .i64 s.keptA, .sl (.loc 4) 1 none s.sets.length, .int .i64 s.shift, .int .i64 s.bells]⟩], 5⟩ fun v H' =>
    ∃ _ : Unit, True ∧ v = .prop (s.top ≤ s.y ∧ s.y ≤ s.bottom) ∧ H' = ⟨[], 5⟩ := by
  refine .ofC hS (fun _ => True) (fun _ => .prop (s.top ≤ s.y ∧ s.y ≤ s.bottom)) (fun _ => ⟨[], 5⟩) Tryz.func241 ?_
  conv => whnf
  repeat' (first|refine Seal.mk ?_|(refine wS ?_;(conv=>whnf);fail_if_success show False)|((first|refine opsA_step ?_|refine drawS_go ?_|refine wD (id:=1) (.quick 0 (.quick 1 (.quick 2 (.quick 4 (.quick 5 (.quick 6 (.quick 8 (.quick 9 (.quick 10 (.stable 3 (.stable 7 (.stable 11 (.all (.step 12 (.quick 13 .done))))))))))))))) [12] (by kernel_rfl) rfl ?_|apply wL (inF _ _ _));conv=>whnf)|(intro _;first|omega|conv=>whnf)|(apply And.intro<;>intro _<;>first|omega|conv=>whnf)|((first|refine aL ?_|refine ⟨_,rfl,?_⟩|refine ⟨_,⟨rfl,rfl⟩,?_⟩|refine ⟨_,⟨rfl,rfl,leaf⟩,?_⟩);conv=>whnf)|with_reducible assumption|exact lf|fail)
  (refine ⟨(),⟨⟩,?_⟩;exact fz)
theorem isRegion (s : Scr) (top bottom : Int) : CallA S 240 [.ptr (.loc 0) 20 none 0, .int .i64 top, .int .i64 bottom] ⟨[⟨.loc 0, false, .raw [.int .i64 s.grid.rows, .int .i64 s.grid.width, .sl (.loc 1) 2 none s.grid.cells.length, .sl (.loc 2) 2 none s.grid.back.length, .int .i64 s.y, .int .i64 s.x, .prop (s.wrap = true), .int .i64 s.attr, .int .i64 s.top, .int .i64 s.bottom, .prop (s.origin = true), .prop (s.autow = true), .prop (s.insert = true), .sl (.loc 3) 1 none s.tabs.length, .int .i64 s.keptY, .int .i64 s.keptX, .int .i64 s.keptA, .sl (.loc 4) 1 none s.sets.length, .int .i64 s.shift, .int .i64 s.bells]⟩], 5⟩ fun v H' =>
    ∃ _ : Unit, True ∧ v = .prop ((0 ≤ top ∧ top < bottom ∧ bottom ≤ IntKind.i64.wrap (s.grid.rows - 1)) ∨ (top = 0 ∧ bottom = IntKind.i64.wrap (s.grid.rows - 1))) ∧ H' = ⟨[], 5⟩ := by
  refine .ofC hS (fun _ => True) (fun _ => .prop ((0 ≤ top ∧ top < bottom ∧ bottom ≤ IntKind.i64.wrap (s.grid.rows - 1)) ∨ (top = 0 ∧ bottom = IntKind.i64.wrap (s.grid.rows - 1)))) (fun _ => ⟨[], 5⟩) Tryz.func240 ?_
  conv => whnf
  repeat' (first|refine Seal.mk ?_|(refine wS ?_;(conv=>whnf);fail_if_success show False)|((first|refine opsA_step ?_|apply wL (last _));conv=>whnf)|(intro _;first|omega|conv=>whnf)|(apply And.intro<;>intro _<;>first|omega|conv=>whnf)|((first|refine aL ?_|refine ⟨_,rfl,?_⟩|refine ⟨_,⟨rfl,rfl⟩,?_⟩|refine ⟨_,⟨rfl,rfl,leaf⟩,?_⟩);conv=>whnf)|with_reducible assumption|exact lf|fail)
  all_goals (refine ⟨(),⟨⟩,?_⟩;exact fz)
def rangeP (s : Scr) : Prop := ((0 ≤ s.y ∧ s.y ≤ s.grid.rows - 1) ∧ 0 ≤ s.x ∧ s.x ≤ s.grid.width - 1) ∧ (0 ≤ s.attr ∧ s.attr ≤ 31) ∧ (0 ≤ s.keptY ∧ s.keptY ≤ 5) ∧ (0 ≤ s.keptX ∧ s.keptX ≤ 11) ∧ (0 ≤ s.keptA ∧ s.keptA ≤ 31) ∧
  (s.sets.length = 2 ∧ allSets s.sets) ∧ (0 ≤ s.shift ∧ s.shift ≤ 1) ∧ 0 ≤ s.bells ∧ s.bells ≤ 999
def formP (s : Scr) : Prop := ((0 ≤ s.top ∧ s.top < s.bottom ∧ s.bottom ≤ s.grid.rows - 1) ∨ (s.top = 0 ∧ s.bottom = s.grid.rows - 1)) ∧ (s.tabs.length : Int) = s.grid.width ∧ (s.wrap = true → s.x = s.grid.width - 1 ∧ s.autow = true) ∧ (s.origin = true → s.top ≤ s.y ∧ s.y ≤ s.bottom)
theorem rangeOk (s : Scr) (h4 : s.sets.length ≤ 1048576) : CallA S 144 [.ptr (.loc 0) 20 none 0] ⟨[⟨.loc 0, false, .raw [.int .i64 s.grid.rows, .int .i64 s.grid.width, .sl (.loc 1) 2 none s.grid.cells.length, .sl (.loc 2) 2 none s.grid.back.length, .int .i64 s.y, .int .i64 s.x, .prop (s.wrap = true), .int .i64 s.attr, .int .i64 s.top, .int .i64 s.bottom, .prop (s.origin = true), .prop (s.autow = true), .prop (s.insert = true), .sl (.loc 3) 1 none s.tabs.length, .int .i64 s.keptY, .int .i64 s.keptX, .int .i64 s.keptA, .sl (.loc 4) 1 none s.sets.length, .int .i64 s.shift, .int .i64 s.bells]⟩, ⟨.loc 1, false, .arr pairE s.grid.cells⟩, ⟨.loc 2, false, .arr pairE s.grid.back⟩, ⟨.loc 3, false, .arr boolE s.tabs⟩, ⟨.loc 4, false, .arr (intE .i64) s.sets⟩], 5⟩ fun v H' =>
    ∃ g : Prop, (((1 ≤ s.grid.rows ∧ s.grid.rows ≤ 6) ∧ 2 ≤ s.grid.width ∧ s.grid.width ≤ 12) → (g ↔ rangeP s)) ∧ v = .prop g ∧ H' = ⟨[], 5⟩ := by
  refine .ofC hS (fun g : Prop => ((1 ≤ s.grid.rows ∧ s.grid.rows ≤ 6) ∧ 2 ≤ s.grid.width ∧ s.grid.width ≤ 12) → (g ↔ rangeP s)) (fun g => .prop g) (fun _ => ⟨[], 5⟩) Tryz.func144 ?_
  conv => whnf
  repeat' (first|refine Seal.mk ?_|(refine wS ?_;(conv=>whnf);fail_if_success show False)|((first|refine opsA_step ?_|refine drawS_go ?_|refine wD (id:=3) (.quick 0 (.quick 1 (.quick 2 (.quick 4 (.quick 5 (.quick 6 (.quick 8 (.quick 9 (.quick 10 (.stable 3 (.stable 7 (.stable 11 (.all (.step 12 (.quick 13 (.quick 14 (.quick 15 (.quick 16 (.stable 17 (.all (.step 18 (.quick 19 (.quick 20 (.quick 21 (.quick 22 (.quick 23 (.quick 24 (.quick 25 (.quick 26 (.quick 27 (.quick 28 (.quick 29 (.stable 30 (.all (.step 31 (.quick 32 (.quick 33 (.quick 34 (.quick 35 (.quick 36 (.stable 37 (.all (.step 38 (.quick 39 (.quick 40 .done))))))))))))))))))))))))))))))))))))))))))))) [12, 18, 31, 38] (by kernel_rfl) rfl ?_|apply wL (inF _ _ _)|apply wL (isAttr _)|apply wL (isPlace _ _ _ _ _ _)|apply wL (containsSet _ _));conv=>whnf)|(intro _;first|omega|conv=>whnf)|(apply And.intro<;>intro _<;>first|omega|conv=>whnf)|((first|refine aL ?_|refine ⟨_,rfl,?_⟩|refine ⟨_,⟨rfl,rfl⟩,?_⟩|refine ⟨_,⟨rfl,rfl,leaf⟩,?_⟩);conv=>whnf)|with_reducible assumption|exact lf|fail)
  all_goals (apply Exists.intro; apply And.intro; (case right => exact fz))
  all_goals (intro hs; have w1 : IntKind.i64.wrap (s.grid.rows - 1) = s.grid.rows - 1 := wr_in (by omega) (by omega); have w2 : IntKind.i64.wrap (s.grid.width - 1) = s.grid.width - 1 := wr_in (by omega) (by omega); unfold rangeP)
  all_goals (by_cases q : allSets s.sets <;> simp only [q, not_true_eq_false, not_false_eq_true, and_true, and_false, true_and, false_and, iff_false, true_iff, false_iff] at * <;> first | omega | contradiction)
end Go.Mu

namespace Go.Mu
open Go Go.Vm Go.RowKit Go.Proofs
attribute [local irreducible] wpA opsA stillA drawA drawS
set_option maxRecDepth 20000
set_option maxHeartbeats 4000000
theorem formOk (s : Scr) (h3 : s.tabs.length ≤ 1048576) : CallA S 145 [.ptr (.loc 0) 20 none 0] ⟨[⟨.loc 0, false, .raw [.int .i64 s.grid.rows, .int .i64 s.grid.width, .sl (.loc 1) 2 none s.grid.cells.length, .sl (.loc 2) 2 none s.grid.back.length, .int .i64 s.y, .int .i64 s.x, .prop (s.wrap = true), .int .i64 s.attr, .int .i64 s.top, .int .i64 s.bottom, .prop (s.origin = true), .prop (s.autow = true), .prop (s.insert = true), .sl (.loc 3) 1 none s.tabs.length, .int .i64 s.keptY, .int .i64 s.keptX, .int .i64 s.keptA, .sl (.loc 4) 1 none s.sets.length, .int .i64 s.shift, .int .i64 s.bells]⟩, ⟨.loc 1, false, .arr pairE s.grid.cells⟩, ⟨.loc 2, false, .arr pairE s.grid.back⟩, ⟨.loc 3, false, .arr boolE s.tabs⟩, ⟨.loc 4, false, .arr (intE .i64) s.sets⟩], 5⟩ fun v H' =>
    ∃ g : Prop, (((1 ≤ s.grid.rows ∧ s.grid.rows ≤ 6) ∧ 2 ≤ s.grid.width ∧ s.grid.width ≤ 12) → (g ↔ formP s)) ∧ v = .prop g ∧ H' = ⟨[], 5⟩ := by
  refine .ofC hS (fun g : Prop => ((1 ≤ s.grid.rows ∧ s.grid.rows ≤ 6) ∧ 2 ≤ s.grid.width ∧ s.grid.width ≤ 12) → (g ↔ formP s)) (fun g => .prop g) (fun _ => ⟨[], 5⟩) Tryz.func145 ?_
  conv => whnf
  repeat' (first|refine Seal.mk ?_|(refine wS ?_;(conv=>whnf);fail_if_success show False)|((first|refine opsA_step ?_|refine drawS_go ?_|refine wD (id:=3) (.quick 0 (.quick 1 (.quick 2 (.quick 3 (.quick 5 (.quick 6 (.quick 7 (.stable 4 (.stable 8 (.all (.step 9 (.quick 10 (.quick 11 (.quick 12 (.quick 13 (.quick 16 (.quick 17 (.quick 18 (.quick 19 (.stable 14 (.quick 15 (.stable 20 (.quick 21 (.quick 22 (.quick 23 (.quick 24 (.quick 25 (.quick 26 (.quick 27 (.quick 28 (.quick 29 (.stable 30 (.quick 31 (.quick 32 (.quick 33 (.all (.step 34 (.quick 35 (.quick 36 (.quick 37 .done)))))))))))))))))))))))))))))))))))))))) [9, 34] (by kernel_rfl) rfl ?_|apply wL (last _)|apply wL (isRegion _ _ _)|apply wL (inRegion _));conv=>whnf)|(intro _;first|omega|conv=>whnf)|(apply And.intro<;>intro _<;>first|omega|conv=>whnf)|((first|refine aL ?_|refine ⟨_,rfl,?_⟩|refine ⟨_,⟨rfl,rfl⟩,?_⟩|refine ⟨_,⟨rfl,rfl,leaf⟩,?_⟩);conv=>whnf)|with_reducible assumption|exact lf|fail)
  all_goals (apply Exists.intro; apply And.intro; (case right => exact fz))
  all_goals (intro hs; have w1 : IntKind.i64.wrap (s.grid.rows - 1) = s.grid.rows - 1 := wr_in (by omega) (by omega); have w2 : IntKind.i64.wrap (s.grid.width - 1) = s.grid.width - 1 := wr_in (by omega) (by omega); unfold formP)
  all_goals (cases e1 : s.wrap <;> cases e2 : s.autow <;> cases e3 : s.origin <;> simp only [e1, e2, e3, not_true_eq_false, not_false_eq_true, and_true, and_false, true_and, false_and, iff_false, true_iff, false_iff, true_implies, Bool.false_eq_true, false_implies] at * <;> first | omega | contradiction)
def firstNZ : List Int → Int
  | [] => 0
  | c :: r => if c = 0 then firstNZ r else c
theorem firstNZ_at {cs : List Int} {i : Nat} (hi : i < cs.length) (h : ∀ k, k < i → cs.getD k 0 = 0) (hc : ¬ cs.getD i 0 = 0) : firstNZ cs = cs.getD i 0 := by
  induction cs generalizing i with
  | nil => simp at hi
  | cons c r ih =>
    unfold firstNZ
    cases i with
    | zero => rw [if_neg (by simpa using hc)]; simp
    | succ i =>
      rw [if_pos (by simpa using h 0 (by omega)), ih (i := i) (by simpa using hi) (fun k hk => by simpa using h (k + 1) (by omega)) (by simpa using hc)]
      simp
theorem firstNZ_none {cs : List Int} (h : ∀ k, k < cs.length → cs.getD k 0 = 0) : firstNZ cs = 0 := by
  induction cs with
  | nil => rfl
  | cons c r ih =>
    unfold firstNZ
    rw [if_pos (by simpa using h 0 (by simp))]
    exact ih fun k hk => by simpa using h (k + 1) (by simpa using hk)
theorem first (cs : List Int) (hx : cs.length ≤ 1048576) : CallA S 64 [.sl (.loc 0) 1 none cs.length] ⟨[⟨.loc 0, false, .arr (intE .i64) cs⟩], 1⟩ fun v H' =>
    ∃ _ : Unit, True ∧ v = .int .i64 (firstNZ cs) ∧ H' = ⟨[], 1⟩ := by
  refine .ofC hS (fun _ => True) (fun _ => .int .i64 (firstNZ cs)) (fun _ => ⟨[], 1⟩) Tryz.func64 ?_
  conv => whnf
  repeat' (first|refine Seal.mk ?_|(refine wS ?_;(conv=>whnf);fail_if_success show False)|((first|refine opsA_step ?_);conv=>whnf)|(intro _;first|omega|conv=>whnf)|(apply And.intro<;>intro _<;>first|omega|conv=>whnf)|((first|refine aL ?_|refine oL ?_|refine ⟨_,rfl,?_⟩|refine ⟨_,⟨rfl,rfl⟩,?_⟩|refine ⟨_,⟨rfl,rfl,leaf⟩,?_⟩);conv=>whnf)|with_reducible assumption|exact lf|fail)
  refine .loop hS (γ := Nat) (fun i => ⟨[(5, .sl (.loc 0) 1 none cs.length), (6, .int .i64 cs.length), (7, .int .i64 i)], ⟨[⟨.loc 0, false, .arr (intE .i64) cs⟩], 1⟩, 15, 1⟩)
      (fun i => i ≤ cs.length ∧ ∀ k, k < i → cs.getD k 0 = 0) (fun i => cs.length - i) 0 ⟨by omega, by omega⟩ ?_ ?_
  · ((try dsimp only);exact fz)
  · intro i hi
    obtain ⟨hi, hk⟩ := hi
    conv => whnf
    repeat' (first|refine Seal.mk ?_|(refine wS ?_;(conv=>whnf);fail_if_success show False)|((first|refine opsA_step ?_);conv=>whnf)|(intro _;first|omega|conv=>whnf)|(apply And.intro<;>intro _<;>first|omega|conv=>whnf)|((first|refine aL ?_|refine oL ?_|refine ⟨_,rfl,?_⟩|refine ⟨_,⟨rfl,rfl⟩,?_⟩|refine ⟨_,⟨rfl,rfl,leaf⟩,?_⟩);conv=>whnf)|with_reducible assumption|exact lf|fail)
    · have he : cs.getD (i : Int).toNat (intE .i64).d = firstNZ cs := (firstNZ_at (by omega) hk ‹_›).symm
      (refine ⟨(),⟨⟩,?_⟩;exact fz)
    · refine ⟨i + 1, ⟨⟨by omega, fun k hk' => ?_⟩, by omega⟩, ?_⟩
      · rcases Nat.lt_or_eq_of_le (Nat.le_of_lt_succ hk') with q | q
        · exact hk k q
        · subst q; exact Classical.not_not.1 ‹_›
      · ((try dsimp only);exact fz)
    · have he : 0 = firstNZ cs := (firstNZ_none fun k hk' => hk k (by omega)).symm
      (refine ⟨(),⟨⟩,?_⟩;exact fz)
open Classical in
noncomputable def scrF (s : Scr) : Int :=
  if gridF s.grid.rows s.grid.width s.grid.cells s.grid.back = 0 then (if rangeP s then (if formP s then 0 else 1) else 3) else gridF s.grid.rows s.grid.width s.grid.cells s.grid.back
theorem gridF_size {r w : Int} {cs bs : List (Int × Int)} (h : gridF r w cs bs = 0) : (1 ≤ r ∧ r ≤ 6) ∧ 2 ≤ w ∧ w ≤ 12 := by
  by_cases q : (1 ≤ r ∧ r ≤ 6) ∧ 2 ≤ w ∧ w ≤ 12
  · exact q
  · have := (gridF_spec r w cs bs).1 q; omega
theorem scr_bad {s : Scr} {a b : Int} {p : Prop} (ha : a = gridF s.grid.rows s.grid.width s.grid.cells s.grid.back ∧ True) (hp : ((1 ≤ s.grid.rows ∧ s.grid.rows ≤ 6) ∧ 2 ≤ s.grid.width ∧ s.grid.width ≤ 12) → (p ↔ rangeP s)) (hb : (p → b = 0) ∧ (¬ p → b = 3)) (h : ¬ firstNZ [a, b] = 0) : firstNZ [a, b] = scrF s := by
  unfold scrF
  rw [← ha.1]
  simp only [firstNZ] at h ⊢
  by_cases q : a = 0
  · rw [if_pos q] at h ⊢
    rw [if_pos q]
    have hs := gridF_size (ha.1.symm.trans q)
    by_cases q2 : b = 0
    · rw [if_pos q2] at h; exact absurd rfl h
    · rw [if_neg q2]
      have hnp : ¬ p := fun hp' => q2 (hb.1 hp')
      rw [if_neg fun hr => hnp ((hp hs).2 hr), hb.2 hnp]
  · rw [if_neg q, if_neg q]
theorem scr_ok {s : Scr} {a b c : Int} {p q : Prop} (ha : a = gridF s.grid.rows s.grid.width s.grid.cells s.grid.back ∧ True) (hp : ((1 ≤ s.grid.rows ∧ s.grid.rows ≤ 6) ∧ 2 ≤ s.grid.width ∧ s.grid.width ≤ 12) → (p ↔ rangeP s)) (hb : (p → b = 0) ∧ (¬ p → b = 3)) (h : ¬¬ firstNZ [a, b] = 0)
    (hq : ((1 ≤ s.grid.rows ∧ s.grid.rows ≤ 6) ∧ 2 ≤ s.grid.width ∧ s.grid.width ≤ 12) → (q ↔ formP s)) (hc : (q → c = 0) ∧ (¬ q → c = 1)) : c = scrF s := by
  have h := Classical.not_not.1 h
  unfold scrF
  rw [← ha.1]
  simp only [firstNZ] at h
  by_cases q1 : a = 0
  · rw [if_pos q1] at h ⊢
    have hs := gridF_size (ha.1.symm.trans q1)
    by_cases q2 : b = 0
    · have hpp : p := Classical.not_not.1 fun hnp => by have := hb.2 hnp; omega
      rw [if_pos ((hp hs).1 hpp)]
      by_cases q3 : q
      · rw [if_pos ((hq hs).1 q3), hc.1 q3]
      · rw [if_neg fun hf => q3 ((hq hs).2 hf), hc.2 q3]
    · rw [if_neg q2] at h; exact absurd h q2
  · rw [if_neg q1] at h; exact absurd h q1
theorem screenFault (s : Scr) (h1 : s.grid.cells.length ≤ 1048576) (h2 : s.grid.back.length ≤ 1048576) (h3 : s.tabs.length ≤ 1048576) (h4 : s.sets.length ≤ 1048576) : CallA S 65 [.agg [.int .i64 s.grid.rows, .int .i64 s.grid.width, .sl (.loc 0) 2 none s.grid.cells.length, .sl (.loc 1) 2 none s.grid.back.length, .int .i64 s.y, .int .i64 s.x, .prop (s.wrap = true), .int .i64 s.attr, .int .i64 s.top, .int .i64 s.bottom, .prop (s.origin = true), .prop (s.autow = true), .prop (s.insert = true), .sl (.loc 2) 1 none s.tabs.length, .int .i64 s.keptY, .int .i64 s.keptX, .int .i64 s.keptA, .sl (.loc 3) 1 none s.sets.length, .int .i64 s.shift, .int .i64 s.bells]] ⟨[⟨.loc 0, false, .arr pairE s.grid.cells⟩, ⟨.loc 1, false, .arr pairE s.grid.back⟩, ⟨.loc 2, false, .arr boolE s.tabs⟩, ⟨.loc 3, false, .arr (intE .i64) s.sets⟩], 4⟩ fun v H' =>
    ∃ g : Int, (g = scrF s ∧ True) ∧ v = .int .i64 g ∧ H' = ⟨[], 4⟩ := by
  refine .ofC hS (fun g : Int => g = scrF s ∧ True) (fun g => .int .i64 g) (fun _ => ⟨[], 4⟩) Tryz.func65 ?_
  conv => whnf
  repeat' (first|refine Seal.mk ?_|(refine wS ?_;(conv=>whnf);fail_if_success show False)|((first|refine opsA_step ?_|apply wL (gridFault _ _ _ _ _ _)|apply wL (rangeOk _ _)|apply wL (unlessF _ _)|apply wL (first [_, _] (Nat.le_of_ble_eq_true rfl))|apply wL (formOk _ _));conv=>whnf)|(intro _;first|omega|conv=>whnf)|(apply And.intro<;>intro _<;>first|omega|conv=>whnf)|((first|refine aL ?_|refine ⟨_,rfl,?_⟩|refine ⟨_,⟨rfl,rfl⟩,?_⟩|refine ⟨_,⟨rfl,rfl,leaf⟩,?_⟩);conv=>whnf)|with_reducible assumption|exact lf|fail)
  · have e := scr_bad ‹_› ‹_› ‹_› ‹_›
    (apply Exists.intro; apply And.intro; (case right => exact fz))
    exact ⟨by first | rfl | assumption | (apply Eq.symm; assumption) | omega, trivial⟩
  · rename_i g3 a6 g4 a5 g2 a4 _ _ a2 g1 a1 g a0
    have e := scr_ok a6 a5 a4 a2 a1 a0
    (apply Exists.intro; apply And.intro; (case right => exact fz))
    exact ⟨by first | rfl | assumption | (apply Eq.symm; assumption) | omega, trivial⟩
end Go.Mu

namespace Go.Mu
open Go Go.Vm Go.RowKit Go.Proofs
attribute [local irreducible] wpA opsA stillA drawA drawS
set_option maxRecDepth 20000
set_option maxHeartbeats 4000000
def allParams (l : List Int) : Prop := ∀ k, k < l.length → 0 ≤ l.getD k 0 ∧ l.getD k 0 ≤ 999
open Classical in
noncomputable def parmsF (l : List Int) : Int := if 1 ≤ l.length ∧ l.length ≤ 6 then (if allParams l then 0 else 3) else 2
theorem wrongParam (n : Int) : CallA S 243 [.int .i64 n] ⟨[], 0⟩ (Ret1 (.prop (¬ (0 ≤ n ∧ n ≤ 999))) ⟨[], 0⟩) := by
  refine .ofC hS _ _ _ Tryz.func243 ?_
  conv => whnf
  repeat' (first|refine Seal.mk ?_|(refine wS ?_;(conv=>whnf);fail_if_success show False)|((first|refine opsA_step ?_|apply wL (inF _ _ _));conv=>whnf)|(intro _;first|omega|conv=>whnf)|(apply And.intro<;>intro _<;>first|omega|conv=>whnf)|((first|refine aL ?_|refine ⟨_,rfl,?_⟩|refine ⟨_,⟨rfl,rfl⟩,?_⟩|refine ⟨_,⟨rfl,rfl,leaf⟩,?_⟩);conv=>whnf)|with_reducible assumption|exact lf|fail)
  all_goals (refine ⟨(),⟨⟩,?_⟩;exact fz)
theorem indexParam (xs : List Int) (hx : xs.length ≤ 1048576) : CallA S 318 [.sl (.loc 0) 1 none xs.length, .fn 243 []] ⟨[⟨.loc 0, false, .arr (intE .i64) xs⟩], 1⟩
    (Ret (γ := Int) (fun g => (g < 0 ↔ allParams xs)) (fun g => .int .i64 g) fun _ => ⟨[], 1⟩) := by
  refine .ofC hS _ _ _ Tryz.func318 ?_
  conv => whnf
  repeat' (first|refine Seal.mk ?_|(refine wS ?_;(conv=>whnf);fail_if_success show False)|((first|refine opsA_step ?_);conv=>whnf)|(intro _;first|omega|conv=>whnf)|(apply And.intro<;>intro _<;>first|omega|conv=>whnf)|((first|refine aL ?_|refine oL ?_|refine ⟨_,rfl,?_⟩|refine ⟨_,⟨rfl,rfl⟩,?_⟩|refine ⟨_,⟨rfl,rfl,leaf⟩,?_⟩);conv=>whnf)|with_reducible assumption|exact lf|fail)
  refine .loop hS (γ := Nat) (fun i => ⟨[(0, .sl (.loc 0) 1 none xs.length), (1, .fn 243 []), (7, .int .i64 xs.length), (8, .int .i64 i)],
      ⟨[⟨.loc 0, false, .arr (intE .i64) xs⟩], 1⟩, 19, 1⟩) (fun i => i ≤ xs.length ∧ ∀ k, k < i → 0 ≤ xs.getD k 0 ∧ xs.getD k 0 ≤ 999) (fun i => xs.length - i) 0 ⟨by omega, by omega⟩ ?_ ?_
  · ((try dsimp only);exact fz)
  · intro i hi
    obtain ⟨hi, hk⟩ := hi
    conv => whnf
    repeat' (first|refine Seal.mk ?_|(refine wS ?_;(conv=>whnf);fail_if_success show False)|((first|refine opsA_step ?_|apply wL (wrongParam _));conv=>whnf)|(intro _;first|omega|conv=>whnf)|(apply And.intro<;>intro _<;>first|omega|conv=>whnf)|((first|refine aL ?_|refine oL ?_|refine ⟨_,rfl,?_⟩|refine ⟨_,⟨rfl,rfl⟩,?_⟩|refine ⟨_,⟨rfl,rfl,leaf⟩,?_⟩);conv=>whnf)|with_reducible assumption|exact lf|fail)
    · refine ⟨(i : Int), ⟨fun h => by omega, fun h => absurd (h i (by omega)) ‹_›⟩, ?_⟩
      ((try dsimp only);exact fz)
    · refine ⟨i + 1, ⟨⟨by omega, fun k hk' => ?_⟩, by omega⟩, ?_⟩
      · rcases Nat.lt_or_eq_of_le (Nat.le_of_lt_succ hk') with q | q
        · exact hk k q
        · subst q; exact Classical.not_not.1 ‹_›
      · ((try dsimp only);exact fz)
    · refine ⟨-1, ⟨fun _ k hk' => hk k (by omega), fun _ => by omega⟩, ?_⟩
      ((try dsimp only);exact fz)
theorem containsParam (xs : List Int) (hx : xs.length ≤ 1048576) : CallA S 236 [.sl (.loc 0) 1 none xs.length, .fn 243 []] ⟨[⟨.loc 0, false, .arr (intE .i64) xs⟩], 1⟩ (Ret1 (.prop (¬ allParams xs)) ⟨[], 1⟩) := by
  refine .ofC hS _ _ _ Tryz.func236 ?_
  conv => whnf
  repeat' (first|refine Seal.mk ?_|(refine wS ?_;(conv=>whnf);fail_if_success show False)|((first|refine opsA_step ?_|apply wL (indexParam _ _));conv=>whnf)|(intro _;first|omega|conv=>whnf)|(apply And.intro<;>intro _<;>first|omega|conv=>whnf)|((first|refine aL ?_|refine ⟨_,rfl,?_⟩|refine ⟨_,⟨rfl,rfl⟩,?_⟩|refine ⟨_,⟨rfl,rfl,leaf⟩,?_⟩);conv=>whnf)|with_reducible assumption|exact lf|fail)
  rename_i g h
  (refine ⟨(), trivial, ?_⟩; (try refine FitsT.now hS ?_); (conv => whnf); apply And.intro; (case right => (repeat' (first|exact ⟨⟩|(apply And.intro;focus exact leaf)|((conv=>whnf);first|exact ⟨⟩|(apply And.intro;focus exact leaf))|fail))))
  rw [← h]; omega
theorem paramsCode (xs : List Int) (hx : xs.length ≤ 1048576) : CallA S 149 [.sl (.loc 0) 1 none xs.length] ⟨[⟨.loc 0, false, .arr (intE .i64) xs⟩], 1⟩ (Ret1 (.int .i64 (parmsF xs)) ⟨[], 1⟩) := by
  refine .ofC hS _ _ _ Tryz.func149 ?_
  conv => whnf
  repeat' (first|refine Seal.mk ?_|(refine wS ?_;(conv=>whnf);fail_if_success show False)|((first|refine opsA_step ?_|apply wL (inF _ _ _)|apply wL (containsParam _ _)|apply wL (unlessF _ _));conv=>whnf)|(intro _;first|omega|conv=>whnf)|(apply And.intro<;>intro _<;>first|omega|conv=>whnf)|((first|refine aL ?_|refine ⟨_,rfl,?_⟩|refine ⟨_,⟨rfl,rfl⟩,?_⟩|refine ⟨_,⟨rfl,rfl,leaf⟩,?_⟩);conv=>whnf)|with_reducible assumption|exact lf|fail)
  all_goals (refine ⟨(), trivial, ?_⟩; (try refine FitsT.now hS ?_); (conv => whnf); apply And.intro; (case right => (repeat' (first|exact ⟨⟩|(apply And.intro;focus exact leaf)|((conv=>whnf);first|exact ⟨⟩|(apply And.intro;focus exact leaf))|fail))))
  all_goals (unfold parmsF; by_cases q : allParams xs <;> by_cases r : 1 ≤ xs.length ∧ xs.length ≤ 6 <;> simp_all <;> omega)
theorem screenFault' (s : Scr) (h : ScrB s) : CallA S 65 [.agg (scrC (.loc 0) (.loc 1) (.loc 2) (.loc 3) s)] ⟨scrH false (.loc 0) (.loc 1) (.loc 2) (.loc 3) s [], 4⟩ (Ret1 (.int .i64 (scrF s)) ⟨[], 4⟩) := by
  refine CallA.mono (screenFault s h.grid.cells h.grid.back h.tabs h.sets) fun v H' k => ?_
  obtain ⟨g, ⟨rfl, _⟩, h1, h2⟩ := k
  exact ⟨(), trivial, h1, h2⟩
end Go.Mu
