/- Screens, as the reference does controls and what stands behind an escape. -/
import Derived.Test.YtfjodggmmokaaaaGreatDAK
import Derived.Test.YtfjodggmmokaaaaGreatDAX
import Derived.Test.YtfjodggmmokaaaaGreatDBD
set_option linter.unusedSimpArgs false
set_option linter.unusedVariables false
set_option linter.constructorNameAsVariable false
namespace Go.Mu
open Go Go.Vm Go.RowKit Go.Proofs
attribute [local irreducible] wpA opsA stillA drawA drawS
set_option maxRecDepth 20000
set_option maxHeartbeats 40000000
def ctlM (s : Scr) (c : Int) : Scr := if c = 7 then { s with bells := min 999 (s.bells + 1) } else if c = 8 then goM s s.y (s.x - 1) else if c = 9 then goM s s.y (tabM s) else if c = 10 ∨ c = 11 ∨ c = 12 then downM s else if c = 13 then goM s s.y 0 else if c = 14 then { s with shift := 1 } else if c = 15 then { s with shift := 0 } else s
theorem l5Control0 (s : Scr) (r w : Nat) (h : OkS s r w) (c : Int) (hc : c = 7) : CallA S 138 [.ptr (.loc 0) 20 none 0, .int .i64 c] ⟨[⟨.loc 0, true, .raw (scrC (.loc 1) (.loc 2) (.loc 3) (.loc 4) s)⟩, ⟨.loc 1, true, .arr pairE s.grid.cells⟩, ⟨.loc 2, true, .arr pairE s.grid.back⟩, ⟨.loc 3, false, .arr boolE s.tabs⟩], 5⟩ (Ret1 (.tup []) ⟨[⟨.loc 0, true, .raw (scrC (.loc 1) (.loc 5) (.loc 3) (.loc 4) ({ s with bells := min 999 (s.bells + 1) } : Scr))⟩, ⟨.loc 1, true, .arr pairE ({ s with bells := min 999 (s.bells + 1) } : Scr).grid.cells⟩, ⟨.loc 5, true, .arr pairE ({ s with bells := min 999 (s.bells + 1) } : Scr).grid.back⟩], 6⟩) := by
  have hz := h.sz
  have hh := h
  obtain ⟨h1, h2, h3, h4, h5, h6, h7, h8, h9, h10, h11, h12, h13, h14, h15, _⟩ := hh
  refine .ofC hS _ _ _ Tryz.func138 ?_
  conv => whnf
  repeat' (first|refine Seal.mk ?_|(refine wS ?_;(conv=>whnf);fail_if_success show False)|((first|refine opsA_step ?_|apply wL (minS _ _)|apply wL (l5Go s r w hz _ _)|apply wL (l5Tab s r w h));conv=>whnf)|(intro _;first|omega|conv=>whnf)|(apply And.intro<;>intro _<;>first|omega|conv=>whnf)|((first|refine aLQ ?_|refine oLQ ?_|refine ⟨_,rfl,?_⟩|refine ⟨_,⟨rfl,rfl⟩,?_⟩|refine ⟨_,⟨rfl,rfl,leafQ⟩,?_⟩);conv=>whnf)|with_reducible assumption|exact lfQ|fail)
  all_goals (first | contradiction | (exfalso; omega) | (refine ⟨(),⟨⟩,?_⟩;exact fzQ))
theorem l5Control1 (s : Scr) (r w : Nat) (h : OkS s r w) (c : Int) (hc : c = 8) : CallA S 138 [.ptr (.loc 0) 20 none 0, .int .i64 c] ⟨[⟨.loc 0, true, .raw (scrC (.loc 1) (.loc 2) (.loc 3) (.loc 4) s)⟩, ⟨.loc 1, true, .arr pairE s.grid.cells⟩, ⟨.loc 2, true, .arr pairE s.grid.back⟩, ⟨.loc 3, false, .arr boolE s.tabs⟩], 5⟩ (Ret1 (.tup []) ⟨[⟨.loc 0, true, .raw (scrC (.loc 1) (.loc 5) (.loc 3) (.loc 4) (goM s s.y (s.x - 1) : Scr))⟩, ⟨.loc 1, true, .arr pairE (goM s s.y (s.x - 1) : Scr).grid.cells⟩, ⟨.loc 5, true, .arr pairE (goM s s.y (s.x - 1) : Scr).grid.back⟩], 6⟩) := by
  have hz := h.sz
  have hh := h
  obtain ⟨h1, h2, h3, h4, h5, h6, h7, h8, h9, h10, h11, h12, h13, h14, h15, _⟩ := hh
  refine .ofC hS _ _ _ Tryz.func138 ?_
  conv => whnf
  repeat' (first|refine Seal.mk ?_|(refine wS ?_;(conv=>whnf);fail_if_success show False)|((first|refine opsA_step ?_|refine drawS_go ?_|refine wD (id:=4) (.quick 0 (.quick 1 (.quick 2 (.quick 3 (.quick 5 (.quick 6 (.quick 7 (.read 4 (.read 8 (.quick 9 (.all (.step 10 .done)))))))))))) [10] (by kernel_rfl) rfl ?_|apply wL (minS _ _)|apply wL (l5Go s r w hz _ _)|apply wL (l5Tab s r w h));conv=>whnf)|(intro _;first|omega|conv=>whnf)|(apply And.intro<;>intro _<;>first|omega|conv=>whnf)|((first|refine aLQ ?_|refine oLQ ?_|refine ⟨_,rfl,?_⟩|refine ⟨_,⟨rfl,rfl⟩,?_⟩|refine ⟨_,⟨rfl,rfl,leafQ⟩,?_⟩);conv=>whnf)|with_reducible assumption|exact lfQ|fail)
  all_goals (first | contradiction | (exfalso; omega) | (refine ⟨(),⟨⟩,?_⟩;exact fzQ))
theorem l5Control2 (s : Scr) (r w : Nat) (h : OkS s r w) (c : Int) (hc : c = 9) : CallA S 138 [.ptr (.loc 0) 20 none 0, .int .i64 c] ⟨[⟨.loc 0, true, .raw (scrC (.loc 1) (.loc 2) (.loc 3) (.loc 4) s)⟩, ⟨.loc 1, true, .arr pairE s.grid.cells⟩, ⟨.loc 2, true, .arr pairE s.grid.back⟩, ⟨.loc 3, false, .arr boolE s.tabs⟩], 5⟩ (Ret1 (.tup []) ⟨[⟨.loc 0, true, .raw (scrC (.loc 1) (.loc 5) (.loc 3) (.loc 4) (goM s s.y (tabM s) : Scr))⟩, ⟨.loc 1, true, .arr pairE (goM s s.y (tabM s) : Scr).grid.cells⟩, ⟨.loc 5, true, .arr pairE (goM s s.y (tabM s) : Scr).grid.back⟩], 6⟩) := by
  have hz := h.sz
  have hh := h
  obtain ⟨h1, h2, h3, h4, h5, h6, h7, h8, h9, h10, h11, h12, h13, h14, h15, _⟩ := hh
  refine .ofC hS _ _ _ Tryz.func138 ?_
  conv => whnf
  repeat' (first|refine Seal.mk ?_|(refine wS ?_;(conv=>whnf);fail_if_success show False)|((first|refine opsA_step ?_|refine drawS_go ?_|refine wD (id:=6) (.quick 0 (.quick 1 (.quick 2 (.quick 3 (.quick 5 (.all (.fork (.step 4 (.all (.step 6 (.all (.step 7 .done))))) (.step 6 (.all (.step 4 (.all (.step 7 .done)))))))))))) [4, 6, 7] (by kernel_rfl) rfl ?_|apply wL (minS _ _)|apply wL (l5Go s r w hz _ _)|apply wL (l5Tab s r w h));conv=>whnf)|(intro _;first|omega|conv=>whnf)|(apply And.intro<;>intro _<;>first|omega|conv=>whnf)|refine sM ?_ ?_|((first|refine aLQ ?_|refine ⟨_,rfl,?_⟩|refine ⟨_,⟨rfl,rfl⟩,?_⟩|refine ⟨_,⟨rfl,rfl,leafQ⟩,?_⟩);conv=>whnf)|with_reducible assumption|exact lfQ|fail)
  all_goals (first | contradiction | (exfalso; omega) | (refine ⟨(),⟨⟩,?_⟩;exact fzQ))
theorem l5Control3 (s : Scr) (r w : Nat) (h : OkS s r w) (c : Int) (hc : c = 10 ∨ c = 11 ∨ c = 12) : CallA S 138 [.ptr (.loc 0) 20 none 0, .int .i64 c] ⟨[⟨.loc 0, true, .raw (scrC (.loc 1) (.loc 2) (.loc 3) (.loc 4) s)⟩, ⟨.loc 1, true, .arr pairE s.grid.cells⟩, ⟨.loc 2, true, .arr pairE s.grid.back⟩, ⟨.loc 3, false, .arr boolE s.tabs⟩], 5⟩ (Ret1 (.tup []) ⟨[⟨.loc 0, true, .raw (scrC (.loc 1) (.loc 5) (.loc 3) (.loc 4) (downM s : Scr))⟩, ⟨.loc 1, true, .arr pairE (downM s : Scr).grid.cells⟩, ⟨.loc 5, true, .arr pairE (downM s : Scr).grid.back⟩], 6⟩) := by
  have hz := h.sz
  have hh := h
  obtain ⟨h1, h2, h3, h4, h5, h6, h7, h8, h9, h10, h11, h12, h13, h14, h15, _⟩ := hh
  have hdn := l5Down s r w h
  refine .ofC hS _ _ _ Tryz.func138 ?_
  conv => whnf
  repeat' (first|refine Seal.mk ?_|(refine wS ?_;(conv=>whnf);fail_if_success show False)|((first|refine opsA_step ?_|apply wL (minS _ _)|apply wL (l5Go s r w hz _ _)|apply wL (l5Tab s r w h)|apply wL (hdn));conv=>whnf)|(intro _;first|omega|conv=>whnf)|(apply And.intro<;>intro _<;>first|omega|conv=>whnf)|((first|refine aLQ ?_|refine ⟨_,rfl,?_⟩|refine ⟨_,⟨rfl,rfl⟩,?_⟩|refine ⟨_,⟨rfl,rfl,leafQ⟩,?_⟩);conv=>whnf)|with_reducible assumption|exact lfQ|fail)
  all_goals (first | contradiction | (exfalso; omega) | (refine ⟨(),⟨⟩,?_⟩;exact fzQ))
theorem l5Control4 (s : Scr) (r w : Nat) (h : OkS s r w) (c : Int) (hc : c = 13) : CallA S 138 [.ptr (.loc 0) 20 none 0, .int .i64 c] ⟨[⟨.loc 0, true, .raw (scrC (.loc 1) (.loc 2) (.loc 3) (.loc 4) s)⟩, ⟨.loc 1, true, .arr pairE s.grid.cells⟩, ⟨.loc 2, true, .arr pairE s.grid.back⟩, ⟨.loc 3, false, .arr boolE s.tabs⟩], 5⟩ (Ret1 (.tup []) ⟨[⟨.loc 0, true, .raw (scrC (.loc 1) (.loc 5) (.loc 3) (.loc 4) (goM s s.y 0 : Scr))⟩, ⟨.loc 1, true, .arr pairE (goM s s.y 0 : Scr).grid.cells⟩, ⟨.loc 5, true, .arr pairE (goM s s.y 0 : Scr).grid.back⟩], 6⟩) := by
  have hz := h.sz
  have hh := h
  obtain ⟨h1, h2, h3, h4, h5, h6, h7, h8, h9, h10, h11, h12, h13, h14, h15, _⟩ := hh
  refine .ofC hS _ _ _ Tryz.func138 ?_
  conv => whnf
  repeat' (first|refine Seal.mk ?_|(refine wS ?_;(conv=>whnf);fail_if_success show False)|((first|refine opsA_step ?_|apply wL (minS _ _)|apply wL (l5Go s r w hz _ _)|apply wL (l5Tab s r w h));conv=>whnf)|(intro _;first|omega|conv=>whnf)|(apply And.intro<;>intro _<;>first|omega|conv=>whnf)|((first|refine aLQ ?_|refine ⟨_,rfl,?_⟩|refine ⟨_,⟨rfl,rfl⟩,?_⟩|refine ⟨_,⟨rfl,rfl,leafQ⟩,?_⟩);conv=>whnf)|with_reducible assumption|exact lfQ|fail)
  all_goals (first | contradiction | (exfalso; omega) | (refine ⟨(),⟨⟩,?_⟩;exact fzQ))
theorem l5Control5 (s : Scr) (r w : Nat) (h : OkS s r w) (c : Int) (hc : c = 14) : CallA S 138 [.ptr (.loc 0) 20 none 0, .int .i64 c] ⟨[⟨.loc 0, true, .raw (scrC (.loc 1) (.loc 2) (.loc 3) (.loc 4) s)⟩, ⟨.loc 1, true, .arr pairE s.grid.cells⟩, ⟨.loc 2, true, .arr pairE s.grid.back⟩, ⟨.loc 3, false, .arr boolE s.tabs⟩], 5⟩ (Ret1 (.tup []) ⟨[⟨.loc 0, true, .raw (scrC (.loc 1) (.loc 5) (.loc 3) (.loc 4) ({ s with shift := 1 } : Scr))⟩, ⟨.loc 1, true, .arr pairE ({ s with shift := 1 } : Scr).grid.cells⟩, ⟨.loc 5, true, .arr pairE ({ s with shift := 1 } : Scr).grid.back⟩], 6⟩) := by
  have hz := h.sz
  have hh := h
  obtain ⟨h1, h2, h3, h4, h5, h6, h7, h8, h9, h10, h11, h12, h13, h14, h15, _⟩ := hh
  refine .ofC hS _ _ _ Tryz.func138 ?_
  conv => whnf
  repeat' (first|refine Seal.mk ?_|(refine wS ?_;(conv=>whnf);fail_if_success show False)|((first|refine opsA_step ?_|apply wL (minS _ _)|apply wL (l5Go s r w hz _ _)|apply wL (l5Tab s r w h));conv=>whnf)|(intro _;first|omega|conv=>whnf)|(apply And.intro<;>intro _<;>first|omega|conv=>whnf)|((first|refine aLQ ?_|refine ⟨_,rfl,?_⟩|refine ⟨_,⟨rfl,rfl⟩,?_⟩|refine ⟨_,⟨rfl,rfl,leafQ⟩,?_⟩);conv=>whnf)|with_reducible assumption|exact lfQ|fail)
  all_goals (first | contradiction | (exfalso; omega) | (refine ⟨(),⟨⟩,?_⟩;exact fzQ))
theorem l5Control6 (s : Scr) (r w : Nat) (h : OkS s r w) (c : Int) (hc : c = 15) : CallA S 138 [.ptr (.loc 0) 20 none 0, .int .i64 c] ⟨[⟨.loc 0, true, .raw (scrC (.loc 1) (.loc 2) (.loc 3) (.loc 4) s)⟩, ⟨.loc 1, true, .arr pairE s.grid.cells⟩, ⟨.loc 2, true, .arr pairE s.grid.back⟩, ⟨.loc 3, false, .arr boolE s.tabs⟩], 5⟩ (Ret1 (.tup []) ⟨[⟨.loc 0, true, .raw (scrC (.loc 1) (.loc 5) (.loc 3) (.loc 4) ({ s with shift := 0 } : Scr))⟩, ⟨.loc 1, true, .arr pairE ({ s with shift := 0 } : Scr).grid.cells⟩, ⟨.loc 5, true, .arr pairE ({ s with shift := 0 } : Scr).grid.back⟩], 6⟩) := by
  have hz := h.sz
  have hh := h
  obtain ⟨h1, h2, h3, h4, h5, h6, h7, h8, h9, h10, h11, h12, h13, h14, h15, _⟩ := hh
  refine .ofC hS _ _ _ Tryz.func138 ?_
  conv => whnf
  repeat' (first|refine Seal.mk ?_|(refine wS ?_;(conv=>whnf);fail_if_success show False)|((first|refine opsA_step ?_|apply wL (minS _ _)|apply wL (l5Go s r w hz _ _)|apply wL (l5Tab s r w h));conv=>whnf)|(intro _;first|omega|conv=>whnf)|(apply And.intro<;>intro _<;>first|omega|conv=>whnf)|((first|refine aLQ ?_|refine ⟨_,rfl,?_⟩|refine ⟨_,⟨rfl,rfl⟩,?_⟩|refine ⟨_,⟨rfl,rfl,leafQ⟩,?_⟩);conv=>whnf)|with_reducible assumption|exact lfQ|fail)
  all_goals (first | contradiction | (exfalso; omega) | (refine ⟨(),⟨⟩,?_⟩;exact fzQ))
theorem l5Control7 (s : Scr) (r w : Nat) (h : OkS s r w) (c : Int) (hc : ¬ (c = 7) ∧ ¬ (c = 8) ∧ ¬ (c = 9) ∧ ¬ (c = 10 ∨ c = 11 ∨ c = 12) ∧ ¬ (c = 13) ∧ ¬ (c = 14) ∧ ¬ (c = 15)) : CallA S 138 [.ptr (.loc 0) 20 none 0, .int .i64 c] ⟨[⟨.loc 0, true, .raw (scrC (.loc 1) (.loc 2) (.loc 3) (.loc 4) s)⟩, ⟨.loc 1, true, .arr pairE s.grid.cells⟩, ⟨.loc 2, true, .arr pairE s.grid.back⟩, ⟨.loc 3, false, .arr boolE s.tabs⟩], 5⟩ (Ret1 (.tup []) ⟨[⟨.loc 0, true, .raw (scrC (.loc 1) (.loc 5) (.loc 3) (.loc 4) (s : Scr))⟩, ⟨.loc 1, true, .arr pairE (s : Scr).grid.cells⟩, ⟨.loc 5, true, .arr pairE (s : Scr).grid.back⟩], 6⟩) := by
  have hz := h.sz
  have hh := h
  obtain ⟨h1, h2, h3, h4, h5, h6, h7, h8, h9, h10, h11, h12, h13, h14, h15, _⟩ := hh
  refine .ofC hS _ _ _ Tryz.func138 ?_
  conv => whnf
  repeat' (first|refine Seal.mk ?_|(refine wS ?_;(conv=>whnf);fail_if_success show False)|((first|refine opsA_step ?_|apply wL (minS _ _)|apply wL (l5Go s r w hz _ _)|apply wL (l5Tab s r w h));conv=>whnf)|(intro _;first|omega|conv=>whnf)|(apply And.intro<;>intro _<;>first|omega|conv=>whnf)|((first|refine aLQ ?_|refine ⟨_,rfl,?_⟩|refine ⟨_,⟨rfl,rfl⟩,?_⟩|refine ⟨_,⟨rfl,rfl,leafQ⟩,?_⟩);conv=>whnf)|with_reducible assumption|exact lfQ|fail)
  all_goals (first | contradiction | (exfalso; omega) | (refine ⟨(),⟨⟩,?_⟩;exact fzQ))
theorem l5Control (s : Scr) (r w : Nat) (h : OkS s r w) (c : Int)  : CallA S 138 [.ptr (.loc 0) 20 none 0, .int .i64 c] ⟨[⟨.loc 0, true, .raw (scrC (.loc 1) (.loc 2) (.loc 3) (.loc 4) s)⟩, ⟨.loc 1, true, .arr pairE s.grid.cells⟩, ⟨.loc 2, true, .arr pairE s.grid.back⟩, ⟨.loc 3, false, .arr boolE s.tabs⟩], 5⟩ (Ret1 (.tup []) ⟨[⟨.loc 0, true, .raw (scrC (.loc 1) (.loc 5) (.loc 3) (.loc 4) (ctlM s c : Scr))⟩, ⟨.loc 1, true, .arr pairE (ctlM s c : Scr).grid.cells⟩, ⟨.loc 5, true, .arr pairE (ctlM s c : Scr).grid.back⟩], 6⟩) := by
  by_cases c0 : c = 7
  · have e : ctlM s c = { s with bells := min 999 (s.bells + 1) } := by unfold ctlM; rw [if_pos c0]
    rw [e]; exact l5Control0 s r w h c c0
  by_cases c1 : c = 8
  · have e : ctlM s c = goM s s.y (s.x - 1) := by unfold ctlM; rw [if_neg c0, if_pos c1]
    rw [e]; exact l5Control1 s r w h c c1
  by_cases c2 : c = 9
  · have e : ctlM s c = goM s s.y (tabM s) := by unfold ctlM; rw [if_neg c0, if_neg c1, if_pos c2]
    rw [e]; exact l5Control2 s r w h c c2
  by_cases c3 : c = 10 ∨ c = 11 ∨ c = 12
  · have e : ctlM s c = downM s := by unfold ctlM; rw [if_neg c0, if_neg c1, if_neg c2, if_pos c3]
    rw [e]; exact l5Control3 s r w h c c3
  by_cases c4 : c = 13
  · have e : ctlM s c = goM s s.y 0 := by unfold ctlM; rw [if_neg c0, if_neg c1, if_neg c2, if_neg c3, if_pos c4]
    rw [e]; exact l5Control4 s r w h c c4
  by_cases c5 : c = 14
  · have e : ctlM s c = { s with shift := 1 } := by unfold ctlM; rw [if_neg c0, if_neg c1, if_neg c2, if_neg c3, if_neg c4, if_pos c5]
    rw [e]; exact l5Control5 s r w h c c5
  by_cases c6 : c = 15
  · have e : ctlM s c = { s with shift := 0 } := by unfold ctlM; rw [if_neg c0, if_neg c1, if_neg c2, if_neg c3, if_neg c4, if_neg c5, if_pos c6]
    rw [e]; exact l5Control6 s r w h c c6
  have e : ctlM s c = s := by unfold ctlM; rw [if_neg c0, if_neg c1, if_neg c2, if_neg c3, if_neg c4, if_neg c5, if_neg c6]
  rw [e]; exact l5Control7 s r w h c ⟨c0, c1, c2, c3, c4, c5, c6⟩
end Go.Mu
