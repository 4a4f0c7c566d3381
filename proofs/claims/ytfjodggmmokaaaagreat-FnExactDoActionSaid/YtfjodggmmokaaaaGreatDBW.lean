/- Screens, as the program does an action. -/
import Derived.Test.YtfjodggmmokaaaaGreatDAK
import Derived.Test.YtfjodggmmokaaaaGreatDBU
import Derived.Test.YtfjodggmmokaaaaGreatDBV
import Derived.Test.YtfjodggmmokaaaaGreatDAP
set_option linter.unusedSimpArgs false
set_option linter.unusedVariables false
set_option linter.constructorNameAsVariable false
namespace Go.Mu
open Go Go.Vm Go.RowKit Go.Proofs
attribute [local irreducible] wpA opsA stillA drawA drawS
set_option maxRecDepth 20000
set_option maxHeartbeats 40000000
theorem sDo1 (s : Scr) (r w : Nat) (h : OkS s r w) (a : Vm.Act) (ha : ActOk a) (hc : a.kind = 1) : CallA S 68 [.ptr (.loc 0) 20 none 0, .agg (actC (.loc 5) a)] ⟨[⟨.loc 0, true, .raw (scrC (.loc 1) (.loc 2) (.loc 3) (.loc 4) s)⟩, ⟨.loc 1, true, .arr pairE s.grid.cells⟩, ⟨.loc 2, true, .arr pairE s.grid.back⟩, ⟨.loc 3, true, .arr boolE s.tabs⟩, ⟨.loc 4, true, .arr (intE .i64) s.sets⟩, ⟨.loc 5, false, .arr (intE .i64) a.params⟩], 6⟩ (Ret1 (.tup []) ⟨[⟨.loc 0, true, .raw (scrC (.loc 6) (.loc 7) (.loc 8) (.loc 9) (printM s a.char : Scr))⟩, ⟨.loc 6, true, .arr pairE (printM s a.char : Scr).grid.cells⟩, ⟨.loc 7, true, .arr pairE (printM s a.char : Scr).grid.back⟩, ⟨.loc 8, true, .arr boolE (printM s a.char : Scr).tabs⟩, ⟨.loc 9, true, .arr (intE .i64) (printM s a.char : Scr).sets⟩], 10⟩) := by
  have hcl := sPrint s r w h a.char (ha.print hc)
  obtain ⟨r1, r2⟩ := printM_rest s a.char
  have r1' := r1.symm
  have r2' := r2.symm
  have l1 : (printM s a.char).tabs.length = s.tabs.length := by rw [r1]
  have l2 : (printM s a.char).sets.length = s.sets.length := by rw [r2]
  generalize printM s a.char = s1 at *
  refine .ofC hS _ _ _ Tryz.func68 ?_
  conv => whnf
  repeat' (first|refine Seal.mk ?_|(refine wS ?_;(conv=>whnf);fail_if_success show False)|((first|refine opsA_step ?_|apply wL (hcl));conv=>whnf)|(intro _;first|omega|conv=>whnf)|(apply And.intro<;>intro _<;>first|omega|conv=>whnf)|((first|refine aLQ ?_|refine ⟨_,rfl,?_⟩|refine ⟨_,⟨rfl,rfl⟩,?_⟩|refine ⟨_,⟨rfl,rfl,leafQ⟩,?_⟩);conv=>whnf)|with_reducible assumption|exact lfQ|fail)
  all_goals (first | contradiction | (exfalso; omega) | (refine ⟨(),⟨⟩,?_⟩;exact fzQ))
theorem sDo2 (s : Scr) (r w : Nat) (h : OkS s r w) (a : Vm.Act) (ha : ActOk a) (hc : a.kind = 2) : CallA S 68 [.ptr (.loc 0) 20 none 0, .agg (actC (.loc 5) a)] ⟨[⟨.loc 0, true, .raw (scrC (.loc 1) (.loc 2) (.loc 3) (.loc 4) s)⟩, ⟨.loc 1, true, .arr pairE s.grid.cells⟩, ⟨.loc 2, true, .arr pairE s.grid.back⟩, ⟨.loc 3, true, .arr boolE s.tabs⟩, ⟨.loc 4, true, .arr (intE .i64) s.sets⟩, ⟨.loc 5, false, .arr (intE .i64) a.params⟩], 6⟩ (Ret1 (.tup []) ⟨[⟨.loc 0, true, .raw (scrC (.loc 6) (.loc 7) (.loc 8) (.loc 9) (ctlM s a.char : Scr))⟩, ⟨.loc 6, true, .arr pairE (ctlM s a.char : Scr).grid.cells⟩, ⟨.loc 7, true, .arr pairE (ctlM s a.char : Scr).grid.back⟩, ⟨.loc 8, true, .arr boolE (ctlM s a.char : Scr).tabs⟩, ⟨.loc 9, true, .arr (intE .i64) (ctlM s a.char : Scr).sets⟩], 10⟩) := by
  have hcl := sControl s r w h a.char
  obtain ⟨r1, r2⟩ := ctlM_rest s a.char
  have r1' := r1.symm
  have r2' := r2.symm
  have l1 : (ctlM s a.char).tabs.length = s.tabs.length := by rw [r1]
  have l2 : (ctlM s a.char).sets.length = s.sets.length := by rw [r2]
  generalize ctlM s a.char = s1 at *
  refine .ofC hS _ _ _ Tryz.func68 ?_
  conv => whnf
  repeat' (first|refine Seal.mk ?_|(refine wS ?_;(conv=>whnf);fail_if_success show False)|((first|refine opsA_step ?_|apply wL (hcl));conv=>whnf)|(intro _;first|omega|conv=>whnf)|(apply And.intro<;>intro _<;>first|omega|conv=>whnf)|((first|refine aLQ ?_|refine ⟨_,rfl,?_⟩|refine ⟨_,⟨rfl,rfl⟩,?_⟩|refine ⟨_,⟨rfl,rfl,leafQ⟩,?_⟩);conv=>whnf)|with_reducible assumption|exact lfQ|fail)
  all_goals (first | contradiction | (exfalso; omega) | (refine ⟨(),⟨⟩,?_⟩;exact fzQ))
theorem sDo3 (s : Scr) (r w : Nat) (h : OkS s r w) (a : Vm.Act) (ha : ActOk a) (hc : a.kind = 3) : CallA S 68 [.ptr (.loc 0) 20 none 0, .agg (actC (.loc 5) a)] ⟨[⟨.loc 0, true, .raw (scrC (.loc 1) (.loc 2) (.loc 3) (.loc 4) s)⟩, ⟨.loc 1, true, .arr pairE s.grid.cells⟩, ⟨.loc 2, true, .arr pairE s.grid.back⟩, ⟨.loc 3, true, .arr boolE s.tabs⟩, ⟨.loc 4, true, .arr (intE .i64) s.sets⟩, ⟨.loc 5, false, .arr (intE .i64) a.params⟩], 6⟩ (Ret1 (.tup []) ⟨[⟨.loc 0, true, .raw (scrC (.loc 6) (.loc 7) (.loc 8) (.loc 9) (escM s a.char : Scr))⟩, ⟨.loc 6, true, .arr pairE (escM s a.char : Scr).grid.cells⟩, ⟨.loc 7, true, .arr pairE (escM s a.char : Scr).grid.back⟩, ⟨.loc 8, true, .arr boolE (escM s a.char : Scr).tabs⟩, ⟨.loc 9, true, .arr (intE .i64) (escM s a.char : Scr).sets⟩], 10⟩) := by
  have hcl := sEscaped s r w h a.char
  generalize escM s a.char = s1 at *
  refine .ofC hS _ _ _ Tryz.func68 ?_
  conv => whnf
  repeat' (first|refine Seal.mk ?_|(refine wS ?_;(conv=>whnf);fail_if_success show False)|((first|refine opsA_step ?_|apply wL (hcl));conv=>whnf)|(intro _;first|omega|conv=>whnf)|(apply And.intro<;>intro _<;>first|omega|conv=>whnf)|((first|refine aLQ ?_|refine ⟨_,rfl,?_⟩|refine ⟨_,⟨rfl,rfl⟩,?_⟩|refine ⟨_,⟨rfl,rfl,leafQ⟩,?_⟩);conv=>whnf)|with_reducible assumption|exact lfQ|fail)
  all_goals (first | contradiction | (exfalso; omega) | (refine ⟨(),⟨⟩,?_⟩;exact fzQ))
theorem sDo5 (s : Scr) (r w : Nat) (h : OkS s r w) (a : Vm.Act) (ha : ActOk a) (hc : a.kind = 5) : CallA S 68 [.ptr (.loc 0) 20 none 0, .agg (actC (.loc 5) a)] ⟨[⟨.loc 0, true, .raw (scrC (.loc 1) (.loc 2) (.loc 3) (.loc 4) s)⟩, ⟨.loc 1, true, .arr pairE s.grid.cells⟩, ⟨.loc 2, true, .arr pairE s.grid.back⟩, ⟨.loc 3, true, .arr boolE s.tabs⟩, ⟨.loc 4, true, .arr (intE .i64) s.sets⟩, ⟨.loc 5, false, .arr (intE .i64) a.params⟩], 6⟩ (Ret1 (.tup []) ⟨[⟨.loc 0, true, .raw (scrC (.loc 6) (.loc 7) (.loc 8) (.loc 9) (setM s a.set a.char : Scr))⟩, ⟨.loc 6, true, .arr pairE (setM s a.set a.char : Scr).grid.cells⟩, ⟨.loc 7, true, .arr pairE (setM s a.set a.char : Scr).grid.back⟩, ⟨.loc 8, true, .arr boolE (setM s a.set a.char : Scr).tabs⟩, ⟨.loc 9, true, .arr (intE .i64) (setM s a.set a.char : Scr).sets⟩], 10⟩) := by
  have hcl := sChoose s a.set a.char h.sets (ha.set hc)
  obtain ⟨r1, r2⟩ := setM_rest s a.set a.char
  have r1' := r1.symm
  have l1 : (setM s a.set a.char).tabs.length = s.tabs.length := by rw [r1]
  have l2 : (setM s a.set a.char).sets.length = s.sets.length := (setM_ok h _ _).sets.trans h.sets.symm
  have n2 : (setM s a.set a.char).grid.cells = s.grid.cells := by rw [r2]
  have n3 : (setM s a.set a.char).grid.back = s.grid.back := by rw [r2]
  have n2' := n2.symm
  have n3' := n3.symm
  have n4 : (setM s a.set a.char).grid.back.length = s.grid.back.length := by rw [n3]
  have n5 : (setM s a.set a.char).grid.cells.length = s.grid.cells.length := by rw [n2]
  generalize setM s a.set a.char = s1 at *
  refine .ofC hS _ _ _ Tryz.func68 ?_
  conv => whnf
  repeat' (first|refine Seal.mk ?_|(refine wS ?_;(conv=>whnf);fail_if_success show False)|((first|refine opsA_step ?_|apply wL (hcl));conv=>whnf)|(intro _;first|omega|conv=>whnf)|(apply And.intro<;>intro _<;>first|omega|conv=>whnf)|((first|refine aLQ ?_|refine ⟨_,rfl,?_⟩|refine ⟨_,⟨rfl,rfl⟩,?_⟩|refine ⟨_,⟨rfl,rfl,leafQ⟩,?_⟩);conv=>whnf)|with_reducible assumption|exact lfQ|fail)
  all_goals (first | contradiction | (exfalso; omega) | (refine ⟨(),⟨⟩,?_⟩;exact fzQ))
theorem sDo4h (s : Scr) (r w : Nat) (h : OkS s r w) (a : Vm.Act) (ha : ActOk a) (hc : a.kind = 4) (hp : a.priv = true) (hh : a.char = 104 ∨ a.char = 108) : CallA S 68 [.ptr (.loc 0) 20 none 0, .agg (actC (.loc 5) a)] ⟨[⟨.loc 0, true, .raw (scrC (.loc 1) (.loc 2) (.loc 3) (.loc 4) s)⟩, ⟨.loc 1, true, .arr pairE s.grid.cells⟩, ⟨.loc 2, true, .arr pairE s.grid.back⟩, ⟨.loc 3, true, .arr boolE s.tabs⟩, ⟨.loc 4, true, .arr (intE .i64) s.sets⟩, ⟨.loc 5, false, .arr (intE .i64) a.params⟩], 6⟩ (Ret1 (.tup []) ⟨[⟨.loc 0, true, .raw (scrC (.loc 6) (.loc 7) (.loc 8) (.loc 9) (modesL true (decide (a.char = 104)) s a.params a.params.length : Scr))⟩, ⟨.loc 6, true, .arr pairE (modesL true (decide (a.char = 104)) s a.params a.params.length : Scr).grid.cells⟩, ⟨.loc 7, true, .arr pairE (modesL true (decide (a.char = 104)) s a.params a.params.length : Scr).grid.back⟩, ⟨.loc 8, true, .arr boolE (modesL true (decide (a.char = 104)) s a.params a.params.length : Scr).tabs⟩, ⟨.loc 9, true, .arr (intE .i64) (modesL true (decide (a.char = 104)) s a.params a.params.length : Scr).sets⟩], 10⟩) := by
  have hl := (ha.params hc).1
  have hcl := sPriv1 s r w h a.char a.params hl.2 hh (decide (a.char = 104)) (by simp)
  clear hh
  obtain ⟨m1, m2, m3⟩ := modesL_rest true (decide (a.char = 104)) s a.params a.params.length
  have m1' := m1.symm
  have m3' := m3.symm
  have n1 : (modesL true (decide (a.char = 104)) s a.params a.params.length).tabs.length = s.tabs.length := by rw [m1]
  have n2 : (modesL true (decide (a.char = 104)) s a.params a.params.length).grid.cells = s.grid.cells := by rw [m2]
  have n3 : (modesL true (decide (a.char = 104)) s a.params a.params.length).grid.back = s.grid.back := by rw [m2]
  have n2' := n2.symm
  have n3' := n3.symm
  have n4 : (modesL true (decide (a.char = 104)) s a.params a.params.length).grid.back.length = s.grid.back.length := by rw [n3]
  have n5 : (modesL true (decide (a.char = 104)) s a.params a.params.length).grid.cells.length = s.grid.cells.length := by rw [n2]
  have n6 : (modesL true (decide (a.char = 104)) s a.params a.params.length).sets.length = s.sets.length := by rw [m3]
  generalize modesL true (decide (a.char = 104)) s a.params a.params.length = s1 at *
  refine .ofC hS _ _ _ Tryz.func68 ?_
  conv => whnf
  repeat' (first|refine Seal.mk ?_|(refine wS ?_;(conv=>whnf);fail_if_success show False)|((first|refine opsA_step ?_|apply wL (hcl));conv=>whnf)|(intro _;first|omega|conv=>whnf)|(apply And.intro<;>intro _<;>first|omega|conv=>whnf)|((first|refine aLQ ?_|refine ⟨_,rfl,?_⟩|refine ⟨_,⟨rfl,rfl⟩,?_⟩|refine ⟨_,⟨rfl,rfl,leafQ⟩,?_⟩);conv=>whnf)|with_reducible assumption|exact lfQ|fail)
  all_goals (first | contradiction | (exfalso; omega) | (refine ⟨(),⟨⟩,?_⟩;exact fzQ))
theorem sDo4n (s : Scr) (r w : Nat) (h : OkS s r w) (a : Vm.Act) (ha : ActOk a) (hc : a.kind = 4) (hp : a.priv = true) (hh : ¬ (a.char = 104 ∨ a.char = 108)) : CallA S 68 [.ptr (.loc 0) 20 none 0, .agg (actC (.loc 5) a)] ⟨[⟨.loc 0, true, .raw (scrC (.loc 1) (.loc 2) (.loc 3) (.loc 4) s)⟩, ⟨.loc 1, true, .arr pairE s.grid.cells⟩, ⟨.loc 2, true, .arr pairE s.grid.back⟩, ⟨.loc 3, true, .arr boolE s.tabs⟩, ⟨.loc 4, true, .arr (intE .i64) s.sets⟩, ⟨.loc 5, false, .arr (intE .i64) a.params⟩], 6⟩ (Ret1 (.tup []) ⟨[⟨.loc 0, true, .raw (scrC (.loc 6) (.loc 7) (.loc 8) (.loc 9) (s : Scr))⟩, ⟨.loc 6, true, .arr pairE (s : Scr).grid.cells⟩, ⟨.loc 7, true, .arr pairE (s : Scr).grid.back⟩, ⟨.loc 8, true, .arr boolE (s : Scr).tabs⟩, ⟨.loc 9, true, .arr (intE .i64) (s : Scr).sets⟩], 10⟩) := by
  have hcl := sPriv0 s a.char a.params hh
  clear hh
  refine .ofC hS _ _ _ Tryz.func68 ?_
  conv => whnf
  repeat' (first|refine Seal.mk ?_|(refine wS ?_;(conv=>whnf);fail_if_success show False)|((first|refine opsA_step ?_|apply wL (hcl));conv=>whnf)|(intro _;first|omega|conv=>whnf)|(apply And.intro<;>intro _<;>first|omega|conv=>whnf)|((first|refine aLQ ?_|refine ⟨_,rfl,?_⟩|refine ⟨_,⟨rfl,rfl⟩,?_⟩|refine ⟨_,⟨rfl,rfl,leafQ⟩,?_⟩);conv=>whnf)|with_reducible assumption|exact lfQ|fail)
  all_goals (first | contradiction | (exfalso; omega) | (refine ⟨(),⟨⟩,?_⟩;exact fzQ))
theorem sDo4p (s : Scr) (r w : Nat) (h : OkS s r w) (a : Vm.Act) (ha : ActOk a) (hc : a.kind = 4) (hp : ¬ a.priv = true) : CallA S 68 [.ptr (.loc 0) 20 none 0, .agg (actC (.loc 5) a)] ⟨[⟨.loc 0, true, .raw (scrC (.loc 1) (.loc 2) (.loc 3) (.loc 4) s)⟩, ⟨.loc 1, true, .arr pairE s.grid.cells⟩, ⟨.loc 2, true, .arr pairE s.grid.back⟩, ⟨.loc 3, true, .arr boolE s.tabs⟩, ⟨.loc 4, true, .arr (intE .i64) s.sets⟩, ⟨.loc 5, false, .arr (intE .i64) a.params⟩], 6⟩ (Ret1 (.tup []) ⟨[⟨.loc 0, true, .raw (scrC (.loc 6) (.loc 7) (.loc 8) (.loc 9) (paramsM s w (⟨4, a.char, 0, false, a.params⟩ : Vm.Act) : Scr))⟩, ⟨.loc 6, true, .arr pairE (paramsM s w (⟨4, a.char, 0, false, a.params⟩ : Vm.Act) : Scr).grid.cells⟩, ⟨.loc 7, true, .arr pairE (paramsM s w (⟨4, a.char, 0, false, a.params⟩ : Vm.Act) : Scr).grid.back⟩, ⟨.loc 8, true, .arr boolE (paramsM s w (⟨4, a.char, 0, false, a.params⟩ : Vm.Act) : Scr).tabs⟩, ⟨.loc 9, true, .arr (intE .i64) (paramsM s w (⟨4, a.char, 0, false, a.params⟩ : Vm.Act) : Scr).sets⟩], 10⟩) := by
  have hcl := sParams s r w h a.char a.params (ha.params hc).1 (ha.params hc).2
  have r2 := paramsM_sets s w (⟨4, a.char, 0, false, a.params⟩ : Vm.Act)
  have r2' := r2.symm
  have l2 : (paramsM s w (⟨4, a.char, 0, false, a.params⟩ : Vm.Act)).sets.length = s.sets.length := by rw [r2]
  generalize paramsM s w (⟨4, a.char, 0, false, a.params⟩ : Vm.Act) = s1 at *
  refine .ofC hS _ _ _ Tryz.func68 ?_
  conv => whnf
  repeat' (first|refine Seal.mk ?_|(refine wS ?_;(conv=>whnf);fail_if_success show False)|((first|refine opsA_step ?_|apply wL (hcl));conv=>whnf)|(intro _;first|omega|conv=>whnf)|(apply And.intro<;>intro _<;>first|omega|conv=>whnf)|((first|refine aLQ ?_|refine ⟨_,rfl,?_⟩|refine ⟨_,⟨rfl,rfl⟩,?_⟩|refine ⟨_,⟨rfl,rfl,leafQ⟩,?_⟩);conv=>whnf)|with_reducible assumption|exact lfQ|fail)
  all_goals (first | contradiction | (exfalso; omega) | (refine ⟨(),⟨⟩,?_⟩;exact fzQ))
theorem sDox (s : Scr) (r w : Nat) (h : OkS s r w) (a : Vm.Act) (ha : ActOk a) (hc : ¬ a.kind = 1 ∧ ¬ a.kind = 2 ∧ ¬ a.kind = 3 ∧ ¬ a.kind = 5 ∧ ¬ a.kind = 4) : CallA S 68 [.ptr (.loc 0) 20 none 0, .agg (actC (.loc 5) a)] ⟨[⟨.loc 0, true, .raw (scrC (.loc 1) (.loc 2) (.loc 3) (.loc 4) s)⟩, ⟨.loc 1, true, .arr pairE s.grid.cells⟩, ⟨.loc 2, true, .arr pairE s.grid.back⟩, ⟨.loc 3, true, .arr boolE s.tabs⟩, ⟨.loc 4, true, .arr (intE .i64) s.sets⟩, ⟨.loc 5, false, .arr (intE .i64) a.params⟩], 6⟩ (Ret1 (.tup []) ⟨[⟨.loc 0, true, .raw (scrC (.loc 6) (.loc 7) (.loc 8) (.loc 9) (s : Scr))⟩, ⟨.loc 6, true, .arr pairE (s : Scr).grid.cells⟩, ⟨.loc 7, true, .arr pairE (s : Scr).grid.back⟩, ⟨.loc 8, true, .arr boolE (s : Scr).tabs⟩, ⟨.loc 9, true, .arr (intE .i64) (s : Scr).sets⟩], 10⟩) := by
  refine .ofC hS _ _ _ Tryz.func68 ?_
  conv => whnf
  repeat' (first|refine Seal.mk ?_|(refine wS ?_;(conv=>whnf);fail_if_success show False)|((first|refine opsA_step ?_);conv=>whnf)|(intro _;first|omega|conv=>whnf)|(apply And.intro<;>intro _<;>first|omega|conv=>whnf)|((first|refine aLQ ?_|refine ⟨_,rfl,?_⟩|refine ⟨_,⟨rfl,rfl⟩,?_⟩|refine ⟨_,⟨rfl,rfl,leafQ⟩,?_⟩);conv=>whnf)|with_reducible assumption|exact lfQ|fail)
  all_goals (first | contradiction | (exfalso; omega) | (refine ⟨(),⟨⟩,?_⟩;exact fzQ))
theorem sDo (s : Scr) (r w : Nat) (h : OkS s r w) (a : Vm.Act) (ha : ActOk a)  : CallA S 68 [.ptr (.loc 0) 20 none 0, .agg (actC (.loc 5) a)] ⟨[⟨.loc 0, true, .raw (scrC (.loc 1) (.loc 2) (.loc 3) (.loc 4) s)⟩, ⟨.loc 1, true, .arr pairE s.grid.cells⟩, ⟨.loc 2, true, .arr pairE s.grid.back⟩, ⟨.loc 3, true, .arr boolE s.tabs⟩, ⟨.loc 4, true, .arr (intE .i64) s.sets⟩, ⟨.loc 5, false, .arr (intE .i64) a.params⟩], 6⟩ (Ret1 (.tup []) ⟨[⟨.loc 0, true, .raw (scrC (.loc 6) (.loc 7) (.loc 8) (.loc 9) (doM s w a : Scr))⟩, ⟨.loc 6, true, .arr pairE (doM s w a : Scr).grid.cells⟩, ⟨.loc 7, true, .arr pairE (doM s w a : Scr).grid.back⟩, ⟨.loc 8, true, .arr boolE (doM s w a : Scr).tabs⟩, ⟨.loc 9, true, .arr (intE .i64) (doM s w a : Scr).sets⟩], 10⟩) := by
  have cs : ∀ {X : Scr}, doM s w a = X → CallA S 68 [.ptr (.loc 0) 20 none 0, .agg (actC (.loc 5) a)] ⟨[⟨.loc 0, true, .raw (scrC (.loc 1) (.loc 2) (.loc 3) (.loc 4) s)⟩, ⟨.loc 1, true, .arr pairE s.grid.cells⟩, ⟨.loc 2, true, .arr pairE s.grid.back⟩, ⟨.loc 3, true, .arr boolE s.tabs⟩, ⟨.loc 4, true, .arr (intE .i64) s.sets⟩, ⟨.loc 5, false, .arr (intE .i64) a.params⟩], 6⟩ (Ret1 (.tup []) ⟨[⟨.loc 0, true, .raw (scrC (.loc 6) (.loc 7) (.loc 8) (.loc 9) (X : Scr))⟩, ⟨.loc 6, true, .arr pairE (X : Scr).grid.cells⟩, ⟨.loc 7, true, .arr pairE (X : Scr).grid.back⟩, ⟨.loc 8, true, .arr boolE (X : Scr).tabs⟩, ⟨.loc 9, true, .arr (intE .i64) (X : Scr).sets⟩], 10⟩) → CallA S 68 [.ptr (.loc 0) 20 none 0, .agg (actC (.loc 5) a)] ⟨[⟨.loc 0, true, .raw (scrC (.loc 1) (.loc 2) (.loc 3) (.loc 4) s)⟩, ⟨.loc 1, true, .arr pairE s.grid.cells⟩, ⟨.loc 2, true, .arr pairE s.grid.back⟩, ⟨.loc 3, true, .arr boolE s.tabs⟩, ⟨.loc 4, true, .arr (intE .i64) s.sets⟩, ⟨.loc 5, false, .arr (intE .i64) a.params⟩], 6⟩ (Ret1 (.tup []) ⟨[⟨.loc 0, true, .raw (scrC (.loc 6) (.loc 7) (.loc 8) (.loc 9) (doM s w a : Scr))⟩, ⟨.loc 6, true, .arr pairE (doM s w a : Scr).grid.cells⟩, ⟨.loc 7, true, .arr pairE (doM s w a : Scr).grid.back⟩, ⟨.loc 8, true, .arr boolE (doM s w a : Scr).tabs⟩, ⟨.loc 9, true, .arr (intE .i64) (doM s w a : Scr).sets⟩], 10⟩) := fun e h => e ▸ h
  by_cases c1 : a.kind = 1
  · exact cs (if_pos c1) (sDo1 s r w h a ha c1)
  by_cases c2 : a.kind = 2
  · exact cs ((if_neg c1).trans (if_pos c2)) (sDo2 s r w h a ha c2)
  by_cases c3 : a.kind = 3
  · exact cs ((if_neg c1).trans ((if_neg c2).trans (if_pos c3))) (sDo3 s r w h a ha c3)
  by_cases c5 : a.kind = 5
  · exact cs ((if_neg c1).trans ((if_neg c2).trans ((if_neg c3).trans (if_pos c5)))) (sDo5 s r w h a ha c5)
  by_cases c4 : a.kind = 4
  · have e : doM s w a = paramsM s w a := (if_neg c1).trans ((if_neg c2).trans ((if_neg c3).trans ((if_neg c5).trans (if_pos c4))))
    by_cases hp : a.priv = true
    · by_cases hh : a.char = 104 ∨ a.char = 108
      · refine cs (e.trans ?_) (sDo4h s r w h a ha c4 hp hh)
        unfold paramsM; rw [if_pos hh, hp]
      · refine cs (e.trans ?_) (sDo4n s r w h a ha c4 hp hh)
        unfold paramsM; rw [if_neg hh, if_pos hp]
    · refine cs (e.trans ?_) (sDo4p s r w h a ha c4 hp)
      have hp' : a.priv = false := by simpa using hp
      unfold paramsM
      rw [hp']
      rfl
  exact cs ((if_neg c1).trans ((if_neg c2).trans ((if_neg c3).trans ((if_neg c5).trans (if_neg c4))))) (sDox s r w h a ha ⟨c1, c2, c3, c5, c4⟩)
end Go.Mu

namespace Go.Mu
open Go Go.Vm Go.RowKit Go.Proofs
attribute [local irreducible] wpA opsA stillA drawA drawS
set_option maxRecDepth 20000
set_option maxHeartbeats 4000000
theorem leafC2 {P : Prop} (h : P := by
  first
  | exact leaf
  | exact PreC.of_eq (by simp)
  | fail) : P := h
theorem aLC2 {a b : Prop} (k : b) (h : a := by exact leafC2) : a ∧ b := ⟨h, k⟩
theorem fzC2 {P : Prop} (h : P := by
  (try refine wF ?_)
  repeat' (first|exact ⟨⟩|(apply And.intro;focus exact leafC2)|((conv=>whnf);first|exact ⟨⟩|(apply And.intro;focus exact leafC2))|fail)) : P := h
theorem cloneGrd (s : Grd) (h : GrdB s) : CallA S 150 [.agg (grdC (.loc 0) (.loc 1) s)] ⟨grdH false (.loc 0) (.loc 1) s [], 2⟩ (Ret1 (.agg (grdC (.loc 2) (.loc 3) s)) ⟨grdH true (.loc 2) (.loc 3) s [], 4⟩) := by
  refine .ofC hS _ _ _ Tryz.func150 ?_
  conv => whnf
  obtain ⟨h0, h1⟩ := h
  repeat' (first|refine Seal.mk ?_|(refine wS ?_;(conv=>whnf);fail_if_success show False)|((first|refine opsA_step ?_|refine drawS_go ?_|refine wD (id:=1) (.quick 0 (.quick 3 (.all (.fork (.step 1 (.all (.fork (.step 2 (.all (.step 4 (.quick 6 (.all (.step 5 (.all (.step 7 (.quick 8 (.all (.step 9 .done))))))))))) (.step 4 (.all (.step 2 (.quick 6 (.all (.step 5 (.all (.step 7 (.quick 8 (.all (.step 9 .done)))))))))))))) (.step 4 (.all (.step 1 (.all (.step 2 (.quick 6 (.all (.step 5 (.all (.step 7 (.quick 8 (.all (.step 9 .done))))))))))))))))) [1, 2, 4, 5, 7, 9] (by kernel_rfl) rfl ?_|apply wL (cloneC _ _));conv=>whnf)|(intro _;first|omega|conv=>whnf)|(apply And.intro<;>intro _<;>first|omega|conv=>whnf)|refine sM ?_ ?_|((first|refine aLC2 ?_|refine ⟨_,rfl,?_⟩|refine ⟨_,⟨rfl,rfl⟩,?_⟩|refine ⟨_,⟨rfl,rfl,leafC2⟩,?_⟩);conv=>whnf)|with_reducible assumption|exact lfC2|fail)
  all_goals (refine ⟨(),⟨⟩,?_⟩;exact fzC2)
theorem cloneScr (s : Scr) (h : ScrB s) : CallA S 67 [.agg (scrC (.loc 0) (.loc 1) (.loc 2) (.loc 3) s)] ⟨scrH false (.loc 0) (.loc 1) (.loc 2) (.loc 3) s [], 4⟩ (Ret1 (.agg (scrC (.loc 4) (.loc 5) (.loc 6) (.loc 7) s)) ⟨scrH true (.loc 4) (.loc 5) (.loc 6) (.loc 7) s [], 8⟩) := by
  refine .ofC hS _ _ _ Tryz.func67 ?_
  conv => whnf
  obtain ⟨h0, h1, h2⟩ := h
  repeat' (first|refine Seal.mk ?_|(refine wS ?_;(conv=>whnf);fail_if_success show False)|((first|refine opsA_step ?_|refine drawS_go ?_|refine wD (id:=1) (.quick 0 (.quick 3 (.quick 6 (.all (.fork (.fork (.step 1 (.all (.fork (.fork (.step 2 (.all (.fork (.step 4 (.all (.fork (.step 5 (.all (.step 7 (.quick 9 (.all (.step 8 (.all (.step 10 (.quick 11 (.all (.step 12 (.quick 13 (.all (.step 14 .done)))))))))))))) (.step 7 (.quick 9 (.all (.step 5 (.all (.step 8 (.all (.step 10 (.quick 11 (.all (.step 12 (.quick 13 (.all (.step 14 .done))))))))))))))))) (.step 7 (.all (.step 4 (.quick 9 (.all (.step 5 (.all (.step 8 (.all (.step 10 (.quick 11 (.all (.step 12 (.quick 13 (.all (.step 14 .done))))))))))))))))))) (.step 4 (.all (.fork (.step 2 (.all (.fork (.step 5 (.all (.step 7 (.quick 9 (.all (.step 8 (.all (.step 10 (.quick 11 (.all (.step 12 (.quick 13 (.all (.step 14 .done)))))))))))))) (.step 7 (.quick 9 (.all (.step 5 (.all (.step 8 (.all (.step 10 (.quick 11 (.all (.step 12 (.quick 13 (.all (.step 14 .done))))))))))))))))) (.step 7 (.all (.step 2 (.quick 9 (.all (.step 5 (.all (.step 8 (.all (.step 10 (.quick 11 (.all (.step 12 (.quick 13 (.all (.step 14 .done)))))))))))))))))))) (.step 7 (.all (.fork (.step 2 (.all (.step 4 (.quick 9 (.all (.step 5 (.all (.step 8 (.all (.step 10 (.quick 11 (.all (.step 12 (.quick 13 (.all (.step 14 .done)))))))))))))))) (.step 4 (.all (.step 2 (.quick 9 (.all (.step 5 (.all (.step 8 (.all (.step 10 (.quick 11 (.all (.step 12 (.quick 13 (.all (.step 14 .done)))))))))))))))))))))) (.step 4 (.all (.fork (.step 1 (.all (.fork (.step 2 (.all (.fork (.step 5 (.all (.step 7 (.quick 9 (.all (.step 8 (.all (.step 10 (.quick 11 (.all (.step 12 (.quick 13 (.all (.step 14 .done)))))))))))))) (.step 7 (.quick 9 (.all (.step 5 (.all (.step 8 (.all (.step 10 (.quick 11 (.all (.step 12 (.quick 13 (.all (.step 14 .done))))))))))))))))) (.step 7 (.all (.step 2 (.quick 9 (.all (.step 5 (.all (.step 8 (.all (.step 10 (.quick 11 (.all (.step 12 (.quick 13 (.all (.step 14 .done))))))))))))))))))) (.step 7 (.all (.step 1 (.all (.step 2 (.quick 9 (.all (.step 5 (.all (.step 8 (.all (.step 10 (.quick 11 (.all (.step 12 (.quick 13 (.all (.step 14 .done)))))))))))))))))))))) (.step 7 (.all (.fork (.step 1 (.all (.fork (.step 2 (.all (.step 4 (.quick 9 (.all (.step 5 (.all (.step 8 (.all (.step 10 (.quick 11 (.all (.step 12 (.quick 13 (.all (.step 14 .done)))))))))))))))) (.step 4 (.all (.step 2 (.quick 9 (.all (.step 5 (.all (.step 8 (.all (.step 10 (.quick 11 (.all (.step 12 (.quick 13 (.all (.step 14 .done))))))))))))))))))) (.step 4 (.all (.step 1 (.all (.step 2 (.quick 9 (.all (.step 5 (.all (.step 8 (.all (.step 10 (.quick 11 (.all (.step 12 (.quick 13 (.all (.step 14 .done)))))))))))))))))))))))))) [1, 2, 4, 5, 7, 8, 10, 12, 14] (by kernel_rfl) rfl ?_|apply wL (cloneGrd _ _)|apply wL (cloneB _ _)|apply wL (cloneI _ _));conv=>whnf)|(intro _;first|omega|conv=>whnf)|(apply And.intro<;>intro _<;>first|omega|conv=>whnf)|refine sM ?_ ?_|((first|refine aLC2 ?_|refine ⟨_,rfl,?_⟩|refine ⟨_,⟨rfl,rfl⟩,?_⟩|refine ⟨_,⟨rfl,rfl,leafC2⟩,?_⟩);conv=>whnf)|with_reducible assumption|exact lfC2|fail)
  all_goals (refine ⟨(),⟨⟩,?_⟩;exact fzC2)
end Go.Mu
