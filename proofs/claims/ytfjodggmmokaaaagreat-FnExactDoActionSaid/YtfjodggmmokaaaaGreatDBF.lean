/- Screens, as the reference does what stands behind an escape. -/
import Derived.Test.YtfjodggmmokaaaaGreatDAK
import Derived.Test.YtfjodggmmokaaaaGreatDBE
set_option linter.unusedSimpArgs false
set_option linter.unusedVariables false
set_option linter.constructorNameAsVariable false
namespace Go.Mu
open Go Go.Vm Go.RowKit Go.Proofs
attribute [local irreducible] wpA opsA stillA drawA drawS
set_option maxRecDepth 20000
set_option maxHeartbeats 40000000
noncomputable def escM (s : Scr) (c : Int) : Scr := if c = 99 then newS s.grid.rows.toNat s.grid.width.toNat else if c = 68 then downM s else if c = 69 then downM { s with x := 0 } else if c = 72 then { s with tabs := s.tabs.set s.x.toNat true } else if c = 77 then upM s else if c = 55 then { s with keptY := s.y, keptX := s.x, keptA := s.attr } else if c = 56 then goM { s with attr := s.keptA } s.keptY s.keptX else s
theorem l5Escape0 (s : Scr) (r w : Nat) (h : OkS s r w) (c : Int) (hc : c = 99) : CallA S 139 [.ptr (.loc 0) 20 none 0, .int .i64 c] ⟨[⟨.loc 0, true, .raw (scrC (.loc 1) (.loc 2) (.loc 3) (.loc 4) s)⟩, ⟨.loc 1, true, .arr pairE s.grid.cells⟩, ⟨.loc 2, true, .arr pairE s.grid.back⟩, ⟨.loc 3, true, .arr boolE s.tabs⟩, ⟨.loc 4, true, .arr (intE .i64) s.sets⟩], 5⟩ (Ret1 (.tup []) ⟨[⟨.loc 0, true, .raw (scrC (.loc 5) (.loc 6) (.loc 7) (.loc 8) (newS s.grid.rows.toNat s.grid.width.toNat : Scr))⟩, ⟨.loc 5, true, .arr pairE (newS s.grid.rows.toNat s.grid.width.toNat : Scr).grid.cells⟩, ⟨.loc 6, true, .arr pairE (newS s.grid.rows.toNat s.grid.width.toNat : Scr).grid.back⟩, ⟨.loc 7, true, .arr boolE (newS s.grid.rows.toNat s.grid.width.toNat : Scr).tabs⟩, ⟨.loc 8, true, .arr (intE .i64) (newS s.grid.rows.toNat s.grid.width.toNat : Scr).sets⟩], 9⟩) := by
  have hz := h.sz
  have hh := h
  obtain ⟨h1, h2, h3, h4, h5, h6, h7, h8, h9, h10, h11, h12, h13, h14, h15, _⟩ := hh
  obtain ⟨R, hR⟩ := Int.eq_ofNat_of_zero_le (show 0 ≤ s.grid.rows by omega)
  obtain ⟨W, hW⟩ := Int.eq_ofNat_of_zero_le (show 0 ≤ s.grid.width by omega)
  have hnw := l5New R W (by omega) (by omega)
  rw [← hR, ← hW] at hnw
  have q1 : s.grid.rows.toNat = R := by omega
  have q2 : s.grid.width.toNat = W := by omega
  rw [q1, q2]
  refine .ofC hS _ _ _ Tryz.func139 ?_
  conv => whnf
  repeat' (first|refine Seal.mk ?_|(refine wS ?_;(conv=>whnf);fail_if_success show False)|((first|refine opsA_step ?_|refine drawS_go ?_|refine wD (id:=2) (.quick 0 (.quick 1 (.quick 2 (.quick 3 (.quick 4 (.quick 6 (.quick 7 (.quick 8 (.quick 9 (.read 5 (.read 10 (.all (.step 11 (.quick 12 (.all (.step 13 .done)))))))))))))))) [11, 13] (by kernel_rfl) rfl ?_|apply wL (hnw));conv=>whnf)|(intro _;first|omega|conv=>whnf)|(apply And.intro<;>intro _<;>first|omega|conv=>whnf)|((first|refine aLQ ?_|refine ⟨_,rfl,?_⟩|refine ⟨_,⟨rfl,rfl⟩,?_⟩|refine ⟨_,⟨rfl,rfl,leafQ⟩,?_⟩);conv=>whnf)|with_reducible assumption|exact lfQ|fail)
  all_goals (first | contradiction | (exfalso; omega) | (refine ⟨(),⟨⟩,?_⟩;exact fzQ))
theorem l5Escape1 (s : Scr) (r w : Nat) (h : OkS s r w) (c : Int) (hc : c = 68) : CallA S 139 [.ptr (.loc 0) 20 none 0, .int .i64 c] ⟨[⟨.loc 0, true, .raw (scrC (.loc 1) (.loc 2) (.loc 3) (.loc 4) s)⟩, ⟨.loc 1, true, .arr pairE s.grid.cells⟩, ⟨.loc 2, true, .arr pairE s.grid.back⟩, ⟨.loc 3, true, .arr boolE s.tabs⟩, ⟨.loc 4, true, .arr (intE .i64) s.sets⟩], 5⟩ (Ret1 (.tup []) ⟨[⟨.loc 0, true, .raw (scrC (.loc 5) (.loc 6) (.loc 7) (.loc 8) (downM s : Scr))⟩, ⟨.loc 5, true, .arr pairE (downM s : Scr).grid.cells⟩, ⟨.loc 6, true, .arr pairE (downM s : Scr).grid.back⟩, ⟨.loc 7, true, .arr boolE (downM s : Scr).tabs⟩, ⟨.loc 8, true, .arr (intE .i64) (downM s : Scr).sets⟩], 9⟩) := by
  have hz := h.sz
  have hh := h
  obtain ⟨h1, h2, h3, h4, h5, h6, h7, h8, h9, h10, h11, h12, h13, h14, h15, _⟩ := hh
  have hdn := l5Down s r w h
  have d1 : (downM s).tabs = s.tabs := by unfold downM; split; rfl; split <;> rfl
  have d2 : (downM s).sets = s.sets := by unfold downM; split; rfl; split <;> rfl
  have d1' := d1.symm
  have d2' := d2.symm
  have d3 : (downM s).tabs.length = s.tabs.length := by rw [d1]
  have d4 : (downM s).sets.length = s.sets.length := by rw [d2]
  refine .ofC hS _ _ _ Tryz.func139 ?_
  conv => whnf
  repeat' (first|refine Seal.mk ?_|(refine wS ?_;(conv=>whnf);fail_if_success show False)|((first|refine opsA_step ?_|apply wL (hdn));conv=>whnf)|(intro _;first|omega|conv=>whnf)|(apply And.intro<;>intro _<;>first|omega|conv=>whnf)|((first|refine aLQ ?_|refine ⟨_,rfl,?_⟩|refine ⟨_,⟨rfl,rfl⟩,?_⟩|refine ⟨_,⟨rfl,rfl,leafQ⟩,?_⟩);conv=>whnf)|with_reducible assumption|exact lfQ|fail)
  all_goals (first | contradiction | (exfalso; omega) | (refine ⟨(),⟨⟩,?_⟩;exact fzQ))
theorem l5Escape2 (s : Scr) (r w : Nat) (h : OkS s r w) (c : Int) (hc : c = 69) : CallA S 139 [.ptr (.loc 0) 20 none 0, .int .i64 c] ⟨[⟨.loc 0, true, .raw (scrC (.loc 1) (.loc 2) (.loc 3) (.loc 4) s)⟩, ⟨.loc 1, true, .arr pairE s.grid.cells⟩, ⟨.loc 2, true, .arr pairE s.grid.back⟩, ⟨.loc 3, true, .arr boolE s.tabs⟩, ⟨.loc 4, true, .arr (intE .i64) s.sets⟩], 5⟩ (Ret1 (.tup []) ⟨[⟨.loc 0, true, .raw (scrC (.loc 5) (.loc 6) (.loc 7) (.loc 8) (downM { s with x := 0 } : Scr))⟩, ⟨.loc 5, true, .arr pairE (downM { s with x := 0 } : Scr).grid.cells⟩, ⟨.loc 6, true, .arr pairE (downM { s with x := 0 } : Scr).grid.back⟩, ⟨.loc 7, true, .arr boolE (downM { s with x := 0 } : Scr).tabs⟩, ⟨.loc 8, true, .arr (intE .i64) (downM { s with x := 0 } : Scr).sets⟩], 9⟩) := by
  have hz := h.sz
  have hh := h
  obtain ⟨h1, h2, h3, h4, h5, h6, h7, h8, h9, h10, h11, h12, h13, h14, h15, _⟩ := hh
  have hdn := l5Down { s with x := 0 } r w ⟨h.hr, h.hw, h.rows, h.width, h.cells, h.back, h.y, by simp only; omega, h.reg, h.attr, h.kept, h.tabs, h.sets, h.shift, h.bells, h.orig, h.mult⟩
  have d1 : (downM { s with x := 0 }).tabs = s.tabs := by unfold downM; split; rfl; split <;> rfl
  have d2 : (downM { s with x := 0 }).sets = s.sets := by unfold downM; split; rfl; split <;> rfl
  have d1' := d1.symm
  have d2' := d2.symm
  have d3 : (downM { s with x := 0 }).tabs.length = s.tabs.length := by rw [d1]
  have d4 : (downM { s with x := 0 }).sets.length = s.sets.length := by rw [d2]
  refine .ofC hS _ _ _ Tryz.func139 ?_
  conv => whnf
  repeat' (first|refine Seal.mk ?_|(refine wS ?_;(conv=>whnf);fail_if_success show False)|((first|refine opsA_step ?_|apply wL (hdn));conv=>whnf)|(intro _;first|omega|conv=>whnf)|(apply And.intro<;>intro _<;>first|omega|conv=>whnf)|((first|refine aLQ ?_|refine ⟨_,rfl,?_⟩|refine ⟨_,⟨rfl,rfl⟩,?_⟩|refine ⟨_,⟨rfl,rfl,leafQ⟩,?_⟩);conv=>whnf)|with_reducible assumption|exact lfQ|fail)
  all_goals (first | contradiction | (exfalso; omega) | (refine ⟨(),⟨⟩,?_⟩;exact fzQ))
theorem l5Escape3 (s : Scr) (r w : Nat) (h : OkS s r w) (c : Int) (hc : c = 72) : CallA S 139 [.ptr (.loc 0) 20 none 0, .int .i64 c] ⟨[⟨.loc 0, true, .raw (scrC (.loc 1) (.loc 2) (.loc 3) (.loc 4) s)⟩, ⟨.loc 1, true, .arr pairE s.grid.cells⟩, ⟨.loc 2, true, .arr pairE s.grid.back⟩, ⟨.loc 3, true, .arr boolE s.tabs⟩, ⟨.loc 4, true, .arr (intE .i64) s.sets⟩], 5⟩ (Ret1 (.tup []) ⟨[⟨.loc 0, true, .raw (scrC (.loc 5) (.loc 6) (.loc 7) (.loc 8) ({ s with tabs := s.tabs.set s.x.toNat true } : Scr))⟩, ⟨.loc 5, true, .arr pairE ({ s with tabs := s.tabs.set s.x.toNat true } : Scr).grid.cells⟩, ⟨.loc 6, true, .arr pairE ({ s with tabs := s.tabs.set s.x.toNat true } : Scr).grid.back⟩, ⟨.loc 7, true, .arr boolE ({ s with tabs := s.tabs.set s.x.toNat true } : Scr).tabs⟩, ⟨.loc 8, true, .arr (intE .i64) ({ s with tabs := s.tabs.set s.x.toNat true } : Scr).sets⟩], 9⟩) := by
  have hz := h.sz
  have hh := h
  obtain ⟨h1, h2, h3, h4, h5, h6, h7, h8, h9, h10, h11, h12, h13, h14, h15, _⟩ := hh
  have hl : (s.tabs.set s.x.toNat true).length = s.tabs.length := List.length_set ..
  refine .ofC hS _ _ _ Tryz.func139 ?_
  conv => whnf
  repeat' (first|refine Seal.mk ?_|(refine wS ?_;(conv=>whnf);fail_if_success show False)|((first|refine opsA_step ?_|refine drawS_go ?_|refine wD (id:=9) (.quick 0 (.quick 1 (.quick 2 (.quick 4 (.quick 5 (.quick 6 (.read 3 (.read 7 (.quick 8 (.all (.step 9 .done))))))))))) [9] (by kernel_rfl) rfl ?_|apply wL (l5Keep s r w h)|apply wL (l5Back s r w h));conv=>whnf)|(intro _;first|omega|conv=>whnf)|(apply And.intro<;>intro _<;>first|omega|conv=>whnf)|((first|refine aLQ ?_|refine ⟨_,rfl,?_⟩|refine ⟨_,⟨rfl,rfl⟩,?_⟩|refine ⟨_,⟨rfl,rfl,leafQ⟩,?_⟩);conv=>whnf)|with_reducible assumption|exact lfQ|fail)
  all_goals (first | contradiction | (exfalso; omega) | (refine ⟨(),⟨⟩,?_⟩;exact fzQ))
theorem l5Escape4 (s : Scr) (r w : Nat) (h : OkS s r w) (c : Int) (hc : c = 77) : CallA S 139 [.ptr (.loc 0) 20 none 0, .int .i64 c] ⟨[⟨.loc 0, true, .raw (scrC (.loc 1) (.loc 2) (.loc 3) (.loc 4) s)⟩, ⟨.loc 1, true, .arr pairE s.grid.cells⟩, ⟨.loc 2, true, .arr pairE s.grid.back⟩, ⟨.loc 3, true, .arr boolE s.tabs⟩, ⟨.loc 4, true, .arr (intE .i64) s.sets⟩], 5⟩ (Ret1 (.tup []) ⟨[⟨.loc 0, true, .raw (scrC (.loc 5) (.loc 6) (.loc 7) (.loc 8) (upM s : Scr))⟩, ⟨.loc 5, true, .arr pairE (upM s : Scr).grid.cells⟩, ⟨.loc 6, true, .arr pairE (upM s : Scr).grid.back⟩, ⟨.loc 7, true, .arr boolE (upM s : Scr).tabs⟩, ⟨.loc 8, true, .arr (intE .i64) (upM s : Scr).sets⟩], 9⟩) := by
  have hz := h.sz
  have hh := h
  obtain ⟨h1, h2, h3, h4, h5, h6, h7, h8, h9, h10, h11, h12, h13, h14, h15, _⟩ := hh
  have hup := l5Up s r w h
  have d1 : (upM s).tabs = s.tabs := by unfold upM; split; rfl; split <;> rfl
  have d2 : (upM s).sets = s.sets := by unfold upM; split; rfl; split <;> rfl
  have d1' := d1.symm
  have d2' := d2.symm
  have d3 : (upM s).tabs.length = s.tabs.length := by rw [d1]
  have d4 : (upM s).sets.length = s.sets.length := by rw [d2]
  refine .ofC hS _ _ _ Tryz.func139 ?_
  conv => whnf
  repeat' (first|refine Seal.mk ?_|(refine wS ?_;(conv=>whnf);fail_if_success show False)|((first|refine opsA_step ?_|apply wL (hup));conv=>whnf)|(intro _;first|omega|conv=>whnf)|(apply And.intro<;>intro _<;>first|omega|conv=>whnf)|((first|refine aLQ ?_|refine ⟨_,rfl,?_⟩|refine ⟨_,⟨rfl,rfl⟩,?_⟩|refine ⟨_,⟨rfl,rfl,leafQ⟩,?_⟩);conv=>whnf)|with_reducible assumption|exact lfQ|fail)
  all_goals (first | contradiction | (exfalso; omega) | (refine ⟨(),⟨⟩,?_⟩;exact fzQ))
theorem l5Escape5 (s : Scr) (r w : Nat) (h : OkS s r w) (c : Int) (hc : c = 55) : CallA S 139 [.ptr (.loc 0) 20 none 0, .int .i64 c] ⟨[⟨.loc 0, true, .raw (scrC (.loc 1) (.loc 2) (.loc 3) (.loc 4) s)⟩, ⟨.loc 1, true, .arr pairE s.grid.cells⟩, ⟨.loc 2, true, .arr pairE s.grid.back⟩, ⟨.loc 3, true, .arr boolE s.tabs⟩, ⟨.loc 4, true, .arr (intE .i64) s.sets⟩], 5⟩ (Ret1 (.tup []) ⟨[⟨.loc 0, true, .raw (scrC (.loc 5) (.loc 6) (.loc 7) (.loc 8) ({ s with keptY := s.y, keptX := s.x, keptA := s.attr } : Scr))⟩, ⟨.loc 5, true, .arr pairE ({ s with keptY := s.y, keptX := s.x, keptA := s.attr } : Scr).grid.cells⟩, ⟨.loc 6, true, .arr pairE ({ s with keptY := s.y, keptX := s.x, keptA := s.attr } : Scr).grid.back⟩, ⟨.loc 7, true, .arr boolE ({ s with keptY := s.y, keptX := s.x, keptA := s.attr } : Scr).tabs⟩, ⟨.loc 8, true, .arr (intE .i64) ({ s with keptY := s.y, keptX := s.x, keptA := s.attr } : Scr).sets⟩], 9⟩) := by
  have hz := h.sz
  have hh := h
  obtain ⟨h1, h2, h3, h4, h5, h6, h7, h8, h9, h10, h11, h12, h13, h14, h15, _⟩ := hh
  refine .ofC hS _ _ _ Tryz.func139 ?_
  conv => whnf
  repeat' (first|refine Seal.mk ?_|(refine wS ?_;(conv=>whnf);fail_if_success show False)|((first|refine opsA_step ?_|apply wL (l5Keep s r w h)|apply wL (l5Back s r w h));conv=>whnf)|(intro _;first|omega|conv=>whnf)|(apply And.intro<;>intro _<;>first|omega|conv=>whnf)|((first|refine aLQ ?_|refine ⟨_,rfl,?_⟩|refine ⟨_,⟨rfl,rfl⟩,?_⟩|refine ⟨_,⟨rfl,rfl,leafQ⟩,?_⟩);conv=>whnf)|with_reducible assumption|exact lfQ|fail)
  all_goals (first | contradiction | (exfalso; omega) | (refine ⟨(),⟨⟩,?_⟩;exact fzQ))
theorem l5Escape6 (s : Scr) (r w : Nat) (h : OkS s r w) (c : Int) (hc : c = 56) : CallA S 139 [.ptr (.loc 0) 20 none 0, .int .i64 c] ⟨[⟨.loc 0, true, .raw (scrC (.loc 1) (.loc 2) (.loc 3) (.loc 4) s)⟩, ⟨.loc 1, true, .arr pairE s.grid.cells⟩, ⟨.loc 2, true, .arr pairE s.grid.back⟩, ⟨.loc 3, true, .arr boolE s.tabs⟩, ⟨.loc 4, true, .arr (intE .i64) s.sets⟩], 5⟩ (Ret1 (.tup []) ⟨[⟨.loc 0, true, .raw (scrC (.loc 5) (.loc 6) (.loc 7) (.loc 8) (goM { s with attr := s.keptA } s.keptY s.keptX : Scr))⟩, ⟨.loc 5, true, .arr pairE (goM { s with attr := s.keptA } s.keptY s.keptX : Scr).grid.cells⟩, ⟨.loc 6, true, .arr pairE (goM { s with attr := s.keptA } s.keptY s.keptX : Scr).grid.back⟩, ⟨.loc 7, true, .arr boolE (goM { s with attr := s.keptA } s.keptY s.keptX : Scr).tabs⟩, ⟨.loc 8, true, .arr (intE .i64) (goM { s with attr := s.keptA } s.keptY s.keptX : Scr).sets⟩], 9⟩) := by
  have hz := h.sz
  have hh := h
  obtain ⟨h1, h2, h3, h4, h5, h6, h7, h8, h9, h10, h11, h12, h13, h14, h15, _⟩ := hh
  refine .ofC hS _ _ _ Tryz.func139 ?_
  conv => whnf
  repeat' (first|refine Seal.mk ?_|(refine wS ?_;(conv=>whnf);fail_if_success show False)|((first|refine opsA_step ?_|apply wL (l5Keep s r w h)|apply wL (l5Back s r w h));conv=>whnf)|(intro _;first|omega|conv=>whnf)|(apply And.intro<;>intro _<;>first|omega|conv=>whnf)|((first|refine aLQ ?_|refine ⟨_,rfl,?_⟩|refine ⟨_,⟨rfl,rfl⟩,?_⟩|refine ⟨_,⟨rfl,rfl,leafQ⟩,?_⟩);conv=>whnf)|with_reducible assumption|exact lfQ|fail)
  all_goals (first | contradiction | (exfalso; omega) | (refine ⟨(),⟨⟩,?_⟩;exact fzQ))
theorem l5Escape7 (s : Scr) (r w : Nat) (h : OkS s r w) (c : Int) (hc : ¬ (c = 99) ∧ ¬ (c = 68) ∧ ¬ (c = 69) ∧ ¬ (c = 72) ∧ ¬ (c = 77) ∧ ¬ (c = 55) ∧ ¬ (c = 56)) : CallA S 139 [.ptr (.loc 0) 20 none 0, .int .i64 c] ⟨[⟨.loc 0, true, .raw (scrC (.loc 1) (.loc 2) (.loc 3) (.loc 4) s)⟩, ⟨.loc 1, true, .arr pairE s.grid.cells⟩, ⟨.loc 2, true, .arr pairE s.grid.back⟩, ⟨.loc 3, true, .arr boolE s.tabs⟩, ⟨.loc 4, true, .arr (intE .i64) s.sets⟩], 5⟩ (Ret1 (.tup []) ⟨[⟨.loc 0, true, .raw (scrC (.loc 5) (.loc 6) (.loc 7) (.loc 8) (s : Scr))⟩, ⟨.loc 5, true, .arr pairE (s : Scr).grid.cells⟩, ⟨.loc 6, true, .arr pairE (s : Scr).grid.back⟩, ⟨.loc 7, true, .arr boolE (s : Scr).tabs⟩, ⟨.loc 8, true, .arr (intE .i64) (s : Scr).sets⟩], 9⟩) := by
  have hz := h.sz
  have hh := h
  obtain ⟨h1, h2, h3, h4, h5, h6, h7, h8, h9, h10, h11, h12, h13, h14, h15, _⟩ := hh
  refine .ofC hS _ _ _ Tryz.func139 ?_
  conv => whnf
  repeat' (first|refine Seal.mk ?_|(refine wS ?_;(conv=>whnf);fail_if_success show False)|((first|refine opsA_step ?_|apply wL (l5Keep s r w h)|apply wL (l5Back s r w h));conv=>whnf)|(intro _;first|omega|conv=>whnf)|(apply And.intro<;>intro _<;>first|omega|conv=>whnf)|((first|refine aLQ ?_|refine ⟨_,rfl,?_⟩|refine ⟨_,⟨rfl,rfl⟩,?_⟩|refine ⟨_,⟨rfl,rfl,leafQ⟩,?_⟩);conv=>whnf)|with_reducible assumption|exact lfQ|fail)
  all_goals (first | contradiction | (exfalso; omega) | (refine ⟨(),⟨⟩,?_⟩;exact fzQ))
end Go.Mu
