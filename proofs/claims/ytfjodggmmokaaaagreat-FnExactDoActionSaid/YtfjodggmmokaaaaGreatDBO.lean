/- Actions: which may be done, as the program tells. -/
import Derived.Test.YtfjodggmmokaaaaGreatDAK
import Derived.Test.YtfjodggmmokaaaaGreatDAM
import Derived.Test.YtfjodggmmokaaaaGreatDAO
import Derived.Test.YtfjodggmmokaaaaGreatDBN
import Derived.Test.YtfjodggmmokaaaaGreatDAT
set_option linter.unusedSimpArgs false
set_option linter.unusedVariables false
set_option linter.constructorNameAsVariable false
namespace Go.Mu
open Go Go.Vm Go.RowKit Go.Proofs
attribute [local irreducible] wpA opsA stillA drawA drawS
set_option maxRecDepth 20000
set_option maxHeartbeats 40000000
@[reducible] def shP (c : Int) : Prop := (((0 ≤ c ∧ c ≤ 65535) ∧ ¬ (55296 ≤ c ∧ c ≤ 57343)) ∧ 32 ≤ c ∧ ¬ c = 127)
@[reducible] def charP (a : Vm.Act) : Prop := (¬ a.kind = 1 ∨ shP a.char) ∧ (¬ a.kind = 2 ∨ (0 ≤ a.char ∧ a.char ≤ 31) ∧ ¬ a.char = 24 ∧ ¬ a.char = 26 ∧ ¬ a.char = 27) ∧ (¬ a.kind = 3 ∨ (48 ≤ a.char ∧ a.char ≤ 126) ∧ ¬ a.char = 91) ∧ (¬ a.kind = 5 ∨ shP a.char ∧ 1 ≤ a.set ∧ a.set ≤ 2) ∧ (¬ a.kind = 4 ∨ 64 ≤ a.char ∧ a.char ≤ 126)
noncomputable def actT (a : Vm.Act) : Int := if a.kind = 4 ∧ a.set = 0 then (if charP a then parmsF a.params else 3) else 1
noncomputable def actU (a : Vm.Act) : Int := if (0 ≤ a.kind ∧ a.kind ≤ 5) ∧ (a.kind = 4 ∨ a.params.length = 0) ∧ (a.kind = 5 ∨ a.set = 0) ∧ (¬ a.kind = 0 ∨ a.char = 0) then (if charP a then (if a.kind = 4 then parmsF a.params else 0) else 3) else 1
noncomputable def actF (a : Vm.Act) : Int := if a.priv = true then actT a else actU a
@[reducible] def chK (k c : Int) : Prop := (¬ k = 0 ∨ c = 0) ∧ (¬ (k = 1 ∨ k = 5) ∨ shP c) ∧ (¬ k = 2 ∨ (0 ≤ c ∧ c ≤ 31) ∧ ¬ c = 24 ∧ ¬ c = 26 ∧ ¬ c = 27) ∧ (¬ k = 3 ∨ (48 ≤ c ∧ c ≤ 126) ∧ ¬ c = 91) ∧ (k = 0 ∨ k = 1 ∨ k = 5 ∨ k = 2 ∨ k = 3 ∨ 64 ≤ c ∧ c ≤ 126)
noncomputable def unlA (p : Prop) (c : Int) : Int := open Classical in if p then 0 else c
theorem unlA_y {p : Prop} (h : p) (c : Int) : unlA p c = 0 := if_pos h
theorem unlA_n {p : Prop} (h : ¬ p) (c : Int) : unlA p c = c := if_neg h
theorem unlessA (p : Prop) (c : Int) : CallA S 83 [.prop p, .int .i64 c] ⟨[], 0⟩ (Ret1 (.int .i64 (unlA p c)) ⟨[], 0⟩) :=
  (unlessF p c).mono fun v H' ⟨g, h, h1, h2⟩ => ⟨(), trivial, by unfold unlA; by_cases q : p; (rw [h1, h.1 q, if_pos q]); (rw [h1, h.2 q, if_neg q]), h2⟩
theorem isSetA (n : Int) : CallA S 148 [.int .i64 n] ⟨[], 0⟩ (Ret1 (.prop (1 ≤ n ∧ n ≤ 2)) ⟨[], 0⟩) := by
  refine .ofC hS _ _ _ Tryz.func148 ?_
  conv => whnf
  repeat' (first|refine Seal.mk ?_|(refine wS ?_;(conv=>whnf);fail_if_success show False)|((first|refine opsA_step ?_|apply wL (inF _ _ _));conv=>whnf)|(intro _;first|omega|conv=>whnf)|(apply And.intro<;>intro _<;>first|omega|conv=>whnf)|((first|refine aLQ ?_|refine ⟨_,rfl,?_⟩|refine ⟨_,⟨rfl,rfl⟩,?_⟩|refine ⟨_,⟨rfl,rfl,leafQ⟩,?_⟩);conv=>whnf)|with_reducible assumption|exact lfQ|fail)
  (refine ⟨(),⟨⟩,?_⟩;exact fzQ)
theorem charOkA (k c : Int) : CallA S 147 [.int .i64 k, .int .i64 c] ⟨[], 0⟩ (Ret1 (.prop (chK k c)) ⟨[], 0⟩) := by
  refine .ofC hS _ _ _ Tryz.func147 ?_
  conv => whnf
  repeat' (first|refine Seal.mk ?_|(refine wS ?_;(conv=>whnf);fail_if_success show False)|((first|refine opsA_step ?_|apply wL (shows _)|apply wL (inF _ _ _));conv=>whnf)|(intro _;first|omega|conv=>whnf)|(apply And.intro<;>intro _<;>first|omega|conv=>whnf)|((first|refine aLQ ?_|refine ⟨_,rfl,?_⟩|refine ⟨_,⟨rfl,rfl⟩,?_⟩|refine ⟨_,⟨rfl,rfl,leafQ⟩,?_⟩);conv=>whnf)|with_reducible assumption|exact lfQ|fail)
  all_goals (first | contradiction | (exfalso; omega) | (refine ⟨(),⟨⟩,?_⟩;exact fzQ))
theorem actionFault1 (a : Vm.Act) (h : a.params.length ≤ 1048576) (hp : a.priv = true) : CallA S 66 [.agg (actC (.loc 0) a)] ⟨[⟨.loc 0, false, .arr (intE .i64) a.params⟩], 1⟩ (Ret1 (.int .i64 (actT a)) ⟨[], 1⟩) := by
  have u1 : unlA True 3 = 0 := unlA_y trivial 3
  have u2 : unlA False 3 = 3 := unlA_n id 3
  have u3 : ((1 ≤ a.set ∧ a.set ≤ 2) ∧ unlA (1 ≤ a.set ∧ a.set ≤ 2) 3 = 0) ∨ (¬ (1 ≤ a.set ∧ a.set ≤ 2) ∧ unlA (1 ≤ a.set ∧ a.set ≤ 2) 3 = 3) := by
    by_cases q : 1 ≤ a.set ∧ a.set ≤ 2
    · exact .inl ⟨q, unlA_y q 3⟩
    · exact .inr ⟨q, unlA_n q 3⟩
  refine .ofC hS _ _ _ Tryz.func66 ?_
  conv => whnf
  repeat' (first|refine Seal.mk ?_|(refine wS ?_;(conv=>whnf);fail_if_success show False)|((first|refine opsA_step ?_|apply wL (inF _ _ _)|apply wL (charOkA _ _)|apply wL (isSetA _)|apply wL (paramsCode _ h)|apply wL (unlessA _ _));conv=>whnf)|(intro _;first|omega|conv=>whnf)|(apply And.intro<;>intro _<;>first|omega|conv=>whnf)|((first|refine aLQ ?_|apply Or.inr|refine ⟨_,rfl,?_⟩|refine ⟨_,⟨rfl,rfl⟩,?_⟩|refine ⟨_,⟨rfl,rfl,leafQ⟩,?_⟩);conv=>whnf)|with_reducible assumption|exact lfQ|fail)
  all_goals (first | contradiction | (exfalso; omega) | (rw [show actT a = 1 from by unfold actT; (repeat' split) <;> first | rfl | (exfalso; omega)]; (refine ⟨(),⟨⟩,?_⟩;exact fzQ); done) | (rw [show actT a = 3 from by unfold actT; (repeat' split) <;> first | rfl | (exfalso; omega)]; (refine ⟨(),⟨⟩,?_⟩;exact fzQ); done) | (rw [show actT a = 0 from by unfold actT; (repeat' split) <;> first | rfl | (exfalso; omega)]; (refine ⟨(),⟨⟩,?_⟩;exact fzQ); done) | (rw [show actT a = parmsF a.params from by unfold actT; (repeat' split) <;> first | rfl | (exfalso; omega)]; (refine ⟨(),⟨⟩,?_⟩;exact fzQ); done))
theorem actionFault0 (a : Vm.Act) (h : a.params.length ≤ 1048576) (hp : ¬ a.priv = true) : CallA S 66 [.agg (actC (.loc 0) a)] ⟨[⟨.loc 0, false, .arr (intE .i64) a.params⟩], 1⟩ (Ret1 (.int .i64 (actU a)) ⟨[], 1⟩) := by
  have u1 : unlA True 3 = 0 := unlA_y trivial 3
  have u2 : unlA False 3 = 3 := unlA_n id 3
  have u3 : ((1 ≤ a.set ∧ a.set ≤ 2) ∧ unlA (1 ≤ a.set ∧ a.set ≤ 2) 3 = 0) ∨ (¬ (1 ≤ a.set ∧ a.set ≤ 2) ∧ unlA (1 ≤ a.set ∧ a.set ≤ 2) 3 = 3) := by
    by_cases q : 1 ≤ a.set ∧ a.set ≤ 2
    · exact .inl ⟨q, unlA_y q 3⟩
    · exact .inr ⟨q, unlA_n q 3⟩
  refine .ofC hS _ _ _ Tryz.func66 ?_
  conv => whnf
  repeat' (first|refine Seal.mk ?_|(refine wS ?_;(conv=>whnf);fail_if_success show False)|((first|refine opsA_step ?_|apply wL (inF _ _ _)|apply wL (charOkA _ _)|apply wL (isSetA _)|apply wL (paramsCode _ h)|apply wL (unlessA _ _));conv=>whnf)|(intro _;first|omega|conv=>whnf)|(apply And.intro<;>intro _<;>first|omega|conv=>whnf)|((first|refine aLQ ?_|apply Or.inr|refine ⟨_,rfl,?_⟩|refine ⟨_,⟨rfl,rfl⟩,?_⟩|refine ⟨_,⟨rfl,rfl,leafQ⟩,?_⟩);conv=>whnf)|with_reducible assumption|exact lfQ|fail)
  all_goals (first | contradiction | (exfalso; omega) | (rw [show actU a = 1 from by unfold actU; (repeat' split) <;> first | rfl | (exfalso; omega)]; (refine ⟨(),⟨⟩,?_⟩;exact fzQ); done) | (rw [show actU a = 3 from by unfold actU; (repeat' split) <;> first | rfl | (exfalso; omega)]; (refine ⟨(),⟨⟩,?_⟩;exact fzQ); done) | (rw [show actU a = 0 from by unfold actU; (repeat' split) <;> first | rfl | (exfalso; omega)]; (refine ⟨(),⟨⟩,?_⟩;exact fzQ); done) | (rw [show actU a = parmsF a.params from by unfold actU; (repeat' split) <;> first | rfl | (exfalso; omega)]; (refine ⟨(),⟨⟩,?_⟩;exact fzQ); done))
theorem actionFault (a : Vm.Act) (h : a.params.length ≤ 1048576) : CallA S 66 [.agg (actC (.loc 0) a)] ⟨[⟨.loc 0, false, .arr (intE .i64) a.params⟩], 1⟩ (Ret1 (.int .i64 (actF a)) ⟨[], 1⟩) := by
  unfold actF
  by_cases hp : a.priv = true
  · rw [if_pos hp]; exact actionFault1 a h hp
  · rw [if_neg hp]; exact actionFault0 a h hp
end Go.Mu

namespace Go.Mu
open Go Go.Vm Go.RowKit Go.Proofs
attribute [local irreducible] wpA opsA stillA drawA drawS
set_option maxRecDepth 20000
set_option maxHeartbeats 4000000
theorem l3Size (r w : Int) : CallA S 206 [.int .i64 r, .int .i64 w] ⟨[], 0⟩ fun v H' =>
    ∃ _ : Unit, True ∧ v = .prop ((1 ≤ r ∧ r ≤ 6) ∧ 2 ≤ w ∧ w ≤ 12) ∧ H' = ⟨[], 0⟩ := by
  refine .ofC hS (fun _ => True) (fun _ => .prop ((1 ≤ r ∧ r ≤ 6) ∧ 2 ≤ w ∧ w ≤ 12)) (fun _ => ⟨[], 0⟩) Tryz.func206 ?_
  conv => whnf
  repeat' (first|refine Seal.mk ?_|(refine wS ?_;(conv=>whnf);fail_if_success show False)|((first|refine opsA_step ?_|apply wL (l1In _ _ _));conv=>whnf)|(intro _;first|omega|conv=>whnf)|(apply And.intro<;>intro _<;>first|omega|conv=>whnf)|((first|refine aL ?_|refine ⟨_,rfl,?_⟩|refine ⟨_,⟨rfl,rfl⟩,?_⟩|refine ⟨_,⟨rfl,rfl,leaf⟩,?_⟩);conv=>whnf)|with_reducible assumption|exact lf|fail)
  all_goals (refine ⟨(),⟨⟩,?_⟩;exact fz)
theorem l3Place (s : Scr) (y x : Int) (hs : (1 ≤ s.grid.rows ∧ s.grid.rows ≤ 6) ∧ 2 ≤ s.grid.width ∧ s.grid.width ≤ 12) : CallA S 208 [.ptr (.loc 0) 20 none 0, .int .i64 y, .int .i64 x] ⟨[⟨.loc 0, false, .raw [.int .i64 s.grid.rows, .int .i64 s.grid.width, .sl (.loc 1) 2 none s.grid.cells.length, .sl (.loc 2) 2 none s.grid.back.length, .int .i64 s.y, .int .i64 s.x, .prop (s.wrap = true), .int .i64 s.attr, .int .i64 s.top, .int .i64 s.bottom, .prop (s.origin = true), .prop (s.autow = true), .prop (s.insert = true), .sl (.loc 3) 1 none s.tabs.length, .int .i64 s.keptY, .int .i64 s.keptX, .int .i64 s.keptA, .sl (.loc 4) 1 none s.sets.length, .int .i64 s.shift, .int .i64 s.bells]⟩], 5⟩ fun v H' =>
    ∃ _ : Unit, True ∧ v = .prop ((0 ≤ y ∧ y ≤ s.grid.rows - 1) ∧ 0 ≤ x ∧ x ≤ s.grid.width - 1) ∧ H' = ⟨[], 5⟩ := by
  refine .ofC hS (fun _ => True) (fun _ => .prop ((0 ≤ y ∧ y ≤ s.grid.rows - 1) ∧ 0 ≤ x ∧ x ≤ s.grid.width - 1)) (fun _ => ⟨[], 5⟩) Tryz.func208 ?_
  conv => whnf
  repeat' (first|refine Seal.mk ?_|(refine wS ?_;(conv=>whnf);fail_if_success show False)|((first|refine opsA_step ?_|apply wL (l1In _ _ _));conv=>whnf)|(intro _;first|omega|conv=>whnf)|(apply And.intro<;>intro _<;>first|omega|conv=>whnf)|((first|refine aL ?_|refine oL ?_|refine ⟨_,rfl,?_⟩|refine ⟨_,⟨rfl,rfl⟩,?_⟩|refine ⟨_,⟨rfl,rfl,leaf⟩,?_⟩);conv=>whnf)|with_reducible assumption|exact lf|fail)
  all_goals (refine ⟨(),⟨⟩,?_⟩;exact fz)
theorem l5Region (top bottom rows : Int) (hs : 1 ≤ rows ∧ rows ≤ 6) : CallA S 212 [.int .i64 top, .int .i64 bottom, .int .i64 rows] ⟨[], 0⟩ fun v H' =>
    ∃ _ : Unit, True ∧ v = .prop ((0 ≤ top ∧ top < bottom ∧ bottom ≤ rows - 1) ∨ (top = 0 ∧ bottom = rows - 1)) ∧ H' = ⟨[], 0⟩ := by
  refine .ofC hS (fun _ => True) (fun _ => .prop ((0 ≤ top ∧ top < bottom ∧ bottom ≤ rows - 1) ∨ (top = 0 ∧ bottom = rows - 1))) (fun _ => ⟨[], 0⟩) Tryz.func212 ?_
  conv => whnf
  repeat' (first|refine Seal.mk ?_|(refine wS ?_;(conv=>whnf);fail_if_success show False)|((first|refine opsA_step ?_);conv=>whnf)|(intro _;first|omega|conv=>whnf)|(apply And.intro<;>intro _<;>first|omega|conv=>whnf)|((first|refine aL ?_|refine oL ?_|refine ⟨_,rfl,?_⟩|refine ⟨_,⟨rfl,rfl⟩,?_⟩|refine ⟨_,⟨rfl,rfl,leaf⟩,?_⟩);conv=>whnf)|with_reducible assumption|exact lf|fail)
  all_goals (refine ⟨(),⟨⟩,?_⟩;exact fz)
theorem l3Fault (s : Scr) (h1 : s.grid.cells.length ≤ 1048576) (h2 : s.grid.back.length ≤ 1048576) : CallA S 130 [.ptr (.loc 0) 20 none 0] ⟨[⟨.loc 0, false, .raw [.int .i64 s.grid.rows, .int .i64 s.grid.width, .sl (.loc 1) 2 none s.grid.cells.length, .sl (.loc 2) 2 none s.grid.back.length, .int .i64 s.y, .int .i64 s.x, .prop (s.wrap = true), .int .i64 s.attr, .int .i64 s.top, .int .i64 s.bottom, .prop (s.origin = true), .prop (s.autow = true), .prop (s.insert = true), .sl (.loc 3) 1 none s.tabs.length, .int .i64 s.keptY, .int .i64 s.keptX, .int .i64 s.keptA, .sl (.loc 4) 1 none s.sets.length, .int .i64 s.shift, .int .i64 s.bells]⟩, ⟨.loc 1, false, .arr pairE s.grid.cells⟩, ⟨.loc 2, false, .arr pairE s.grid.back⟩, ⟨.loc 3, false, .arr boolE s.tabs⟩, ⟨.loc 4, false, .arr (intE .i64) s.sets⟩], 5⟩ fun v H' =>
    ∃ g : Int, (g = gridF s.grid.rows s.grid.width s.grid.cells s.grid.back ∧ True) ∧ v = .int .i64 g ∧ H' = ⟨[], 5⟩ := by
  refine .ofC hS (fun g : Int => g = gridF s.grid.rows s.grid.width s.grid.cells s.grid.back ∧ True) (fun g => .int .i64 g) (fun _ => ⟨[], 5⟩) Tryz.func130 ?_
  have ha := area (r := s.grid.rows) (w := s.grid.width)
  conv => whnf
  repeat' (first|refine Seal.mk ?_|(refine wS ?_;(conv=>whnf);fail_if_success show False)|((first|refine opsA_step ?_|refine drawS_go ?_|refine wD (id:=1) (.quick 0 (.quick 1 (.quick 2 (.quick 4 (.quick 5 (.quick 6 (.stable 3 (.stable 7 (.all (.step 8 (.quick 9 .done))))))))))) [8] (by kernel_rfl) rfl ?_|refine wD (id:=4) (.quick 0 (.quick 1 (.quick 2 (.quick 5 (.quick 6 (.quick 7 (.quick 9 (.quick 10 (.quick 11 (.stable 3 (.quick 4 (.stable 8 (.stable 12 (.quick 13 (.quick 14 (.quick 15 (.quick 16 (.quick 17 (.quick 18 (.quick 19 (.stable 20 (.quick 21 (.quick 22 (.quick 23 (.quick 24 (.quick 25 (.quick 26 (.quick 27 (.quick 28 (.stable 29 (.quick 30 (.quick 31 (.quick 32 .done))))))))))))))))))))))))))))))))) [] (by kernel_rfl) rfl ?_|apply wL (l3Size _ _)|apply wL (l3Cells _ _));conv=>whnf)|(intro _;first|omega|conv=>whnf)|(apply And.intro<;>intro _<;>first|omega|conv=>whnf)|((first|refine aL ?_|refine oL ?_|refine ⟨_,rfl,?_⟩|refine ⟨_,⟨rfl,rfl⟩,?_⟩|refine ⟨_,⟨rfl,rfl,leaf⟩,?_⟩);conv=>whnf)|with_reducible assumption|exact lf|fail)
  all_goals (apply Exists.intro; apply And.intro; (case right => exact fz))
  all_goals (obtain ⟨e1, e2, e3, e4⟩ := gridF_spec s.grid.rows s.grid.width s.grid.cells s.grid.back; refine ⟨?_, trivial⟩)
  all_goals first | exact (e1 ‹_›).symm | exact (e2 (by omega) (by omega)).symm | (have e3 := e3 (by omega) (by omega); have e4 := e4 (by omega) (by omega); clear e1 e2; by_cases p1 : allCells s.grid.cells <;> by_cases p2 : allCells s.grid.back <;> simp_all)
end Go.Mu

namespace Go.Mu
open Go Go.Vm Go.RowKit Go.Proofs
attribute [local irreducible] wpA opsA stillA drawA drawS
set_option maxRecDepth 20000
set_option maxHeartbeats 4000000
theorem sets_two {l : List Int} (h : l.length = 2) : allSets l ↔ ((1 ≤ l.getD 0 0 ∧ l.getD 0 0 ≤ 3) ∧ 1 ≤ l.getD 1 0 ∧ l.getD 1 0 ≤ 3) := by
  constructor
  · intro q; exact ⟨q 0 (by omega), q 1 (by omega)⟩
  · rintro ⟨q0, q1⟩ k hk
    have : k = 0 ∨ k = 1 := by omega
    rcases this with rfl | rfl
    · exact q0
    · exact q1
theorem l5Ranges (s : Scr) (h4 : s.sets.length ≤ 1048576) (hs : (1 ≤ s.grid.rows ∧ s.grid.rows ≤ 6) ∧ 2 ≤ s.grid.width ∧ s.grid.width ≤ 12) : CallA S 131 [.ptr (.loc 0) 20 none 0] ⟨[⟨.loc 0, false, .raw [.int .i64 s.grid.rows, .int .i64 s.grid.width, .sl (.loc 1) 2 none s.grid.cells.length, .sl (.loc 2) 2 none s.grid.back.length, .int .i64 s.y, .int .i64 s.x, .prop (s.wrap = true), .int .i64 s.attr, .int .i64 s.top, .int .i64 s.bottom, .prop (s.origin = true), .prop (s.autow = true), .prop (s.insert = true), .sl (.loc 3) 1 none s.tabs.length, .int .i64 s.keptY, .int .i64 s.keptX, .int .i64 s.keptA, .sl (.loc 4) 1 none s.sets.length, .int .i64 s.shift, .int .i64 s.bells]⟩, ⟨.loc 1, false, .arr pairE s.grid.cells⟩, ⟨.loc 2, false, .arr pairE s.grid.back⟩, ⟨.loc 3, false, .arr boolE s.tabs⟩, ⟨.loc 4, false, .arr (intE .i64) s.sets⟩], 5⟩ fun v H' =>
    ∃ g : Prop, ((g ↔ rangeP s) ∧ True) ∧ v = .prop g ∧ H' = ⟨[], 5⟩ := by
  refine .ofC hS (fun g : Prop => (g ↔ rangeP s) ∧ True) (fun g => .prop g) (fun _ => ⟨[], 5⟩) Tryz.func131 ?_
  conv => whnf
  repeat' (first|refine Seal.mk ?_|(refine wS ?_;(conv=>whnf);fail_if_success show False)|((first|refine opsA_step ?_|refine drawS_go ?_|refine wD (id:=1) (.quick 0 (.quick 1 (.quick 2 (.quick 3 (.quick 4 (.quick 5 (.quick 7 (.quick 8 (.quick 9 (.stable 6 (.stable 10 (.all (.step 11 (.quick 12 (.quick 13 (.quick 14 (.quick 15 (.quick 16 (.stable 17 (.all (.step 18 (.quick 19 (.quick 20 (.quick 21 (.quick 22 (.quick 23 (.quick 24 (.stable 25 (.all (.step 26 (.quick 27 (.quick 28 (.quick 29 (.quick 30 (.quick 31 (.quick 32 (.stable 33 (.all (.step 34 (.quick 35 (.quick 36 (.quick 37 (.quick 38 (.quick 39 (.quick 40 (.stable 41 (.all (.step 42 (.quick 43 (.quick 44 .done)))))))))))))))))))))))))))))))))))))))))))))))))) [11, 18, 26, 34, 42] (by kernel_rfl) rfl ?_|apply wL (l3Place s _ _ hs)|apply wL (l3Attr _)|apply wL (l1In _ _ _)|apply wL (l2Table _));conv=>whnf)|(intro _;first|omega|conv=>whnf)|(apply And.intro<;>intro _<;>first|omega|conv=>whnf)|((first|refine aL ?_|refine ⟨_,rfl,?_⟩|refine ⟨_,⟨rfl,rfl⟩,?_⟩|refine ⟨_,⟨rfl,rfl,leaf⟩,?_⟩);conv=>whnf)|with_reducible assumption|exact lf|fail)
  all_goals (apply Exists.intro; apply And.intro; (case right => exact fz))
  all_goals (refine ⟨?_, trivial⟩; unfold rangeP)
  all_goals (have e0 : s.sets.getD (Int.toNat 0) (intE .i64).d = s.sets.getD 0 0 := rfl; have e1 : s.sets.getD (Int.toNat 1) (intE .i64).d = s.sets.getD 1 0 := rfl; simp only [e0, e1] at *)
  all_goals (by_cases hl : s.sets.length = 2)
  all_goals first | (simp only [sets_two hl, true_iff, false_iff] <;> omega) | (simp only [hl, false_and, and_false, true_iff, false_iff, iff_false] <;> omega)
theorem l5Form (s : Scr) (h3 : s.tabs.length ≤ 1048576) (hs : (1 ≤ s.grid.rows ∧ s.grid.rows ≤ 6) ∧ 2 ≤ s.grid.width ∧ s.grid.width ≤ 12) : CallA S 132 [.ptr (.loc 0) 20 none 0] ⟨[⟨.loc 0, false, .raw [.int .i64 s.grid.rows, .int .i64 s.grid.width, .sl (.loc 1) 2 none s.grid.cells.length, .sl (.loc 2) 2 none s.grid.back.length, .int .i64 s.y, .int .i64 s.x, .prop (s.wrap = true), .int .i64 s.attr, .int .i64 s.top, .int .i64 s.bottom, .prop (s.origin = true), .prop (s.autow = true), .prop (s.insert = true), .sl (.loc 3) 1 none s.tabs.length, .int .i64 s.keptY, .int .i64 s.keptX, .int .i64 s.keptA, .sl (.loc 4) 1 none s.sets.length, .int .i64 s.shift, .int .i64 s.bells]⟩, ⟨.loc 1, false, .arr pairE s.grid.cells⟩, ⟨.loc 2, false, .arr pairE s.grid.back⟩, ⟨.loc 3, false, .arr boolE s.tabs⟩, ⟨.loc 4, false, .arr (intE .i64) s.sets⟩], 5⟩ fun v H' =>
    ∃ g : Prop, ((g ↔ formP s) ∧ True) ∧ v = .prop g ∧ H' = ⟨[], 5⟩ := by
  refine .ofC hS (fun g : Prop => (g ↔ formP s) ∧ True) (fun g => .prop g) (fun _ => ⟨[], 5⟩) Tryz.func132 ?_
  conv => whnf
  repeat' (first|refine Seal.mk ?_|(refine wS ?_;(conv=>whnf);fail_if_success show False)|((first|refine opsA_step ?_|refine drawS_go ?_|refine wD (id:=1) (.quick 0 (.quick 1 (.quick 2 (.quick 4 (.quick 5 (.quick 6 (.quick 8 (.quick 9 (.quick 10 (.quick 11 (.stable 3 (.stable 7 (.stable 12 (.all (.step 13 (.quick 14 (.quick 15 (.quick 16 (.quick 17 (.quick 18 (.quick 21 (.quick 22 (.quick 23 (.quick 24 (.stable 19 (.quick 20 (.stable 25 (.quick 26 (.quick 27 .done))))))))))))))))))))))))))))) [13] (by kernel_rfl) rfl ?_|refine wD (id:=3) (.quick 0 (.quick 1 (.quick 2 (.stable 3 (.quick 4 (.quick 5 (.quick 6 (.quick 7 (.stable 8 (.quick 9 (.quick 10 (.quick 11 (.quick 12 (.quick 13 (.quick 15 (.quick 16 (.quick 17 (.quick 18 (.stable 14 (.stable 19 (.quick 20 (.quick 21 (.quick 22 (.quick 23 .done)))))))))))))))))))))))) [] (by kernel_rfl) rfl ?_|refine wD (id:=5) (.quick 0 (.quick 1 (.quick 2 (.stable 3 (.quick 4 (.quick 5 (.quick 6 (.quick 7 (.quick 8 (.quick 10 (.quick 11 (.quick 12 (.quick 14 (.quick 15 (.quick 16 (.stable 9 (.stable 13 (.stable 17 (.all (.step 18 (.quick 19 (.quick 20 .done)))))))))))))))))))))) [18] (by kernel_rfl) rfl ?_|apply wL (l5Region _ _ _ hs.1)|apply wL (l1In _ _ _));conv=>whnf)|(intro _;first|omega|conv=>whnf)|(apply And.intro<;>intro _<;>first|omega|conv=>whnf)|((first|refine aL ?_|refine oL ?_|refine ⟨_,rfl,?_⟩|refine ⟨_,⟨rfl,rfl⟩,?_⟩|refine ⟨_,⟨rfl,rfl,leaf⟩,?_⟩);conv=>whnf)|with_reducible assumption|exact lf|fail)
  all_goals (apply Exists.intro; apply And.intro; (case right => exact fz))
  all_goals (refine ⟨?_, trivial⟩; unfold formP)
  all_goals (cases e1 : s.wrap <;> cases e2 : s.autow <;> cases e3 : s.origin <;> simp only [e1, e2, e3, not_true_eq_false, not_false_eq_true, and_true, and_false, true_and, false_and, iff_false, true_iff, false_iff, true_implies, Bool.false_eq_true, false_implies] at * <;> first | omega | contradiction)
theorem l5Fault (s : Scr) (h1 : s.grid.cells.length ≤ 1048576) (h2 : s.grid.back.length ≤ 1048576) (h3 : s.tabs.length ≤ 1048576) (h4 : s.sets.length ≤ 1048576) : CallA S 56 [.ptr (.loc 0) 20 none 0] ⟨[⟨.loc 0, false, .raw [.int .i64 s.grid.rows, .int .i64 s.grid.width, .sl (.loc 1) 2 none s.grid.cells.length, .sl (.loc 2) 2 none s.grid.back.length, .int .i64 s.y, .int .i64 s.x, .prop (s.wrap = true), .int .i64 s.attr, .int .i64 s.top, .int .i64 s.bottom, .prop (s.origin = true), .prop (s.autow = true), .prop (s.insert = true), .sl (.loc 3) 1 none s.tabs.length, .int .i64 s.keptY, .int .i64 s.keptX, .int .i64 s.keptA, .sl (.loc 4) 1 none s.sets.length, .int .i64 s.shift, .int .i64 s.bells]⟩, ⟨.loc 1, false, .arr pairE s.grid.cells⟩, ⟨.loc 2, false, .arr pairE s.grid.back⟩, ⟨.loc 3, false, .arr boolE s.tabs⟩, ⟨.loc 4, false, .arr (intE .i64) s.sets⟩], 5⟩ fun v H' =>
    ∃ g : Int, (g = scrF s ∧ True) ∧ v = .int .i64 g ∧ H' = ⟨[], 5⟩ := by
  refine .ofC hS (fun g : Int => g = scrF s ∧ True) (fun g => .int .i64 g) (fun _ => ⟨[], 5⟩) Tryz.func56 ?_
  conv => whnf
  by_cases hz : gridF s.grid.rows s.grid.width s.grid.cells s.grid.back = 0
  · have hs := gridF_size hz
    repeat' (first|refine Seal.mk ?_|(refine wS ?_;(conv=>whnf);fail_if_success show False)|((first|refine opsA_step ?_|apply wL (l3Fault _ _ _)|apply wL (l5Ranges s h4 hs)|apply wL (l5Form s h3 hs));conv=>whnf)|(intro _;first|omega|conv=>whnf)|(apply And.intro<;>intro _<;>first|omega|conv=>whnf)|((first|refine aL ?_|refine ⟨_,rfl,?_⟩|refine ⟨_,⟨rfl,rfl⟩,?_⟩|refine ⟨_,⟨rfl,rfl,leaf⟩,?_⟩);conv=>whnf)|with_reducible assumption|exact lf|fail)
    · rename_i a1 a0
      have e : 3 = scrF s := by unfold scrF; rw [if_pos hz, if_neg fun q => a0 (a1.1.2 q)]
      (apply Exists.intro; apply And.intro; (case right => exact fz))
      exact ⟨by first | rfl | assumption | (apply Eq.symm; assumption) | omega, trivial⟩
    · rename_i a3 a2 g a1 a0
      have e : 1 = scrF s := by unfold scrF; rw [if_pos hz, if_pos (a3.1.1 (Classical.not_not.1 a2)), if_neg fun q => a0 (a1.1.2 q)]
      (apply Exists.intro; apply And.intro; (case right => exact fz))
      exact ⟨by first | rfl | assumption | (apply Eq.symm; assumption) | omega, trivial⟩
    · rename_i a3 a2 g a1 a0
      have e : 0 = scrF s := by unfold scrF; rw [if_pos hz, if_pos (a3.1.1 (Classical.not_not.1 a2)), if_pos (a1.1.1 (Classical.not_not.1 a0))]
      (apply Exists.intro; apply And.intro; (case right => exact fz))
      exact ⟨by first | rfl | assumption | (apply Eq.symm; assumption) | omega, trivial⟩
  · have e : gridF s.grid.rows s.grid.width s.grid.cells s.grid.back = scrF s := by unfold scrF; rw [if_neg hz]
    repeat' (first|refine Seal.mk ?_|(refine wS ?_;(conv=>whnf);fail_if_success show False)|((first|refine opsA_step ?_|apply wL (l3Fault _ _ _));conv=>whnf)|(intro _;first|omega|conv=>whnf)|(apply And.intro<;>intro _<;>first|omega|conv=>whnf)|((first|refine aL ?_|refine ⟨_,rfl,?_⟩|refine ⟨_,⟨rfl,rfl⟩,?_⟩|refine ⟨_,⟨rfl,rfl,leaf⟩,?_⟩);conv=>whnf)|with_reducible assumption|exact lf|fail)
    (apply Exists.intro; apply And.intro; (case right => exact fz))
    first | exact ⟨by first | rfl | assumption | (apply Eq.symm; assumption), trivial⟩ | (refine ⟨?_, trivial⟩; omega)
end Go.Mu

namespace Go.Mu
open Go Go.Vm Go.RowKit Go.Proofs
attribute [local irreducible] wpA opsA stillA drawA drawS
set_option maxRecDepth 20000
set_option maxHeartbeats 4000000
end Go.Mu
