/- Screens, as the reference moves them. -/
import Derived.Test.YtfjodggmmokaaaaGreatDAK
import Derived.Test.YtfjodggmmokaaaaGreatDAU
set_option linter.unusedSimpArgs false
set_option linter.unusedVariables false
set_option linter.constructorNameAsVariable false
namespace Go.Mu
open Go Go.Vm Go.RowKit Go.Proofs
attribute [local irreducible] wpA opsA stillA drawA drawS
set_option maxRecDepth 20000
set_option maxHeartbeats 40000000
structure OkS (s : Scr) (r w : Nat) : Prop where
  hr : 1 ≤ r ∧ r ≤ 6
  hw : 2 ≤ w ∧ w ≤ 12
  rows : s.grid.rows = r
  width : s.grid.width = w
  cells : s.grid.cells.length = r * w
  back : s.grid.back.length ≤ 60
  y : 0 ≤ s.y ∧ s.y ≤ (r : Int) - 1
  x : 0 ≤ s.x ∧ s.x ≤ (w : Int) - 1
  reg : 0 ≤ s.top ∧ s.top ≤ s.bottom ∧ s.bottom ≤ (r : Int) - 1
  attr : 0 ≤ s.attr ∧ s.attr ≤ 31
  kept : (0 ≤ s.keptY ∧ s.keptY ≤ 5) ∧ (0 ≤ s.keptX ∧ s.keptX ≤ 11) ∧ 0 ≤ s.keptA ∧ s.keptA ≤ 31
  tabs : s.tabs.length = w
  sets : s.sets.length = 2
  shift : 0 ≤ s.shift ∧ s.shift ≤ 1
  bells : 0 ≤ s.bells ∧ s.bells ≤ 999
  orig : s.origin = true → s.top ≤ s.y ∧ s.y ≤ s.bottom
  mult : ∃ m, m ≤ 5 ∧ s.grid.back.length = m * w
def WrpOk (s : Scr) (w : Nat) : Prop := s.wrap = true → s.x = (w : Int) - 1 ∧ s.autow = true
structure SzS (s : Scr) (r w : Nat) : Prop where
  hr : 1 ≤ r ∧ r ≤ 6
  hw : 2 ≤ w ∧ w ≤ 12
  rows : s.grid.rows = r
  width : s.grid.width = w
theorem OkS.sz {s : Scr} {r w : Nat} (h : OkS s r w) : SzS s r w := ⟨h.hr, h.hw, h.rows, h.width⟩
def lowM (s : Scr) : Int := if s.origin = true then s.top else 0
def highM (s : Scr) : Int := if s.origin = true then s.bottom else s.grid.rows - 1
@[reducible] def goM (s : Scr) (y x : Int) : Scr := { s with y := max (lowM s) (min (highM s) y), x := max 0 (min (s.grid.width - 1) x), wrap := false }
theorem maxS (a b : Int) : CallA S 225 [.int .i64 a, .int .i64 b] ⟨[], 0⟩ (Ret1 (.int .i64 (max a b)) ⟨[], 0⟩) := by
  refine .ofC hS _ _ _ Tryz.func225 ?_
  conv => whnf
  repeat' (first|refine Seal.mk ?_|(refine wS ?_;(conv=>whnf);fail_if_success show False)|((first|refine opsA_step ?_);conv=>whnf)|(intro _;first|omega|conv=>whnf)|(apply And.intro<;>intro _<;>first|omega|conv=>whnf)|((first|refine aLQ ?_|refine ⟨_,rfl,?_⟩|refine ⟨_,⟨rfl,rfl⟩,?_⟩|refine ⟨_,⟨rfl,rfl,leafQ⟩,?_⟩);conv=>whnf)|with_reducible assumption|exact lfQ|fail)
  all_goals (refine ⟨(),⟨⟩,?_⟩;exact fzQ)
theorem l5Go (s : Scr) (r w : Nat) (h : SzS s r w) (y x : Int) : CallA S 218 [.ptr (.loc 0) 20 none 0, .int .i64 y, .int .i64 x] ⟨[⟨.loc 0, true, .raw (scrC (.loc 1) (.loc 2) (.loc 3) (.loc 4) s)⟩], 5⟩ (Ret1 (.tup []) ⟨[⟨.loc 0, true, .raw (scrC (.loc 1) (.loc 2) (.loc 3) (.loc 4) (goM s y x))⟩], 5⟩) := by
  obtain ⟨h1, h2, h3, h4⟩ := h
  by_cases ho : s.origin = true
  · have e1 : lowM s = s.top := if_pos ho
    have e2 : highM s = s.bottom := if_pos ho
    refine .ofC hS _ _ _ Tryz.func218 ?_
    conv => whnf
    repeat' (first|refine Seal.mk ?_|(refine wS ?_;(conv=>whnf);fail_if_success show False)|((first|refine opsA_step ?_|apply wL (minS _ _)|apply wL (maxS _ _));conv=>whnf)|(intro _;first|omega|conv=>whnf)|(apply And.intro<;>intro _<;>first|omega|conv=>whnf)|((first|refine aLQ ?_|refine oLQ ?_|refine ⟨_,rfl,?_⟩|refine ⟨_,⟨rfl,rfl⟩,?_⟩|refine ⟨_,⟨rfl,rfl,leafQ⟩,?_⟩);conv=>whnf)|with_reducible assumption|exact lfQ|fail)
    all_goals (first | contradiction | (refine ⟨(),⟨⟩,?_⟩;exact fzQ))
  · have e1 : lowM s = 0 := if_neg ho
    have e2 : highM s = s.grid.rows - 1 := if_neg ho
    refine .ofC hS _ _ _ Tryz.func218 ?_
    conv => whnf
    repeat' (first|refine Seal.mk ?_|(refine wS ?_;(conv=>whnf);fail_if_success show False)|((first|refine opsA_step ?_|apply wL (minS _ _)|apply wL (maxS _ _));conv=>whnf)|(intro _;first|omega|conv=>whnf)|(apply And.intro<;>intro _<;>first|omega|conv=>whnf)|((first|refine aLQ ?_|refine oLQ ?_|refine ⟨_,rfl,?_⟩|refine ⟨_,⟨rfl,rfl⟩,?_⟩|refine ⟨_,⟨rfl,rfl,leafQ⟩,?_⟩);conv=>whnf)|with_reducible assumption|exact lfQ|fail)
    all_goals (first | contradiction | (refine ⟨(),⟨⟩,?_⟩;exact fzQ))
theorem l5Home (s : Scr) (r w : Nat) (h : SzS s r w) : CallA S 352 [.ptr (.loc 0) 20 none 0] ⟨[⟨.loc 0, true, .raw (scrC (.loc 1) (.loc 2) (.loc 3) (.loc 4) s)⟩], 5⟩ (Ret1 (.tup []) ⟨[⟨.loc 0, true, .raw (scrC (.loc 1) (.loc 2) (.loc 3) (.loc 4) (goM s 0 0))⟩], 5⟩) := by
  refine .ofC hS _ _ _ Tryz.func352 ?_
  conv => whnf
  repeat' (first|refine Seal.mk ?_|(refine wS ?_;(conv=>whnf);fail_if_success show False)|((first|refine opsA_step ?_|apply wL (l5Go s r w h 0 0));conv=>whnf)|(intro _;first|omega|conv=>whnf)|(apply And.intro<;>intro _<;>first|omega|conv=>whnf)|((first|refine aLQ ?_|refine ⟨_,rfl,?_⟩|refine ⟨_,⟨rfl,rfl⟩,?_⟩|refine ⟨_,⟨rfl,rfl,leafQ⟩,?_⟩);conv=>whnf)|with_reducible assumption|exact lfQ|fail)
  all_goals (refine ⟨(),⟨⟩,?_⟩;exact fzQ)
@[reducible] def gridM (s : Scr) (t b : Nat) (n : Int) : Grd := { s.grid with cells := scC s.grid.cells s.grid.width.toNat t b n s.attr, back := scB s.grid.back s.grid.cells s.grid.width.toNat t b n }
theorem l5Down0 (s : Scr) (r w : Nat) (h : OkS s r w) (hy : s.y = s.bottom) : CallA S 214 [.ptr (.loc 0) 20 none 0] ⟨[⟨.loc 0, true, .raw (scrC (.loc 1) (.loc 2) (.loc 3) (.loc 4) s)⟩, ⟨.loc 1, true, .arr pairE s.grid.cells⟩, ⟨.loc 2, true, .arr pairE s.grid.back⟩], 5⟩ (Ret1 (.tup []) ⟨[⟨.loc 0, true, .raw (scrC (.loc 1) (.loc 5) (.loc 3) (.loc 4) ({ s with wrap := false, grid := gridM s s.top.toNat s.bottom.toNat (1) } : Scr))⟩, ⟨.loc 1, true, .arr pairE ({ s with wrap := false, grid := gridM s s.top.toNat s.bottom.toNat (1) } : Scr).grid.cells⟩, ⟨.loc 5, true, .arr pairE ({ s with wrap := false, grid := gridM s s.top.toNat s.bottom.toNat (1) } : Scr).grid.back⟩], 6⟩) := by
  obtain ⟨h1, h2, h3, h4, h5, h6, h7, _, h8, h9, _⟩ := h
  obtain ⟨t, ht⟩ := Int.eq_ofNat_of_zero_le (show 0 ≤ s.top by omega)
  obtain ⟨b, hb⟩ := Int.eq_ofNat_of_zero_le (show 0 ≤ s.bottom by omega)
  have e1 : s.top.toNat = t := by omega
  have e2 : s.bottom.toNat = b := by omega
  have e3 : s.grid.width.toNat = w := by omega
  have hle := mul_lt_le (w := w) (show b + 1 ≤ r by omega)
  have hrw : r * w ≤ 6 * 12 := Nat.mul_le_mul h1.2 h2.2
  have hm := l3Many s.grid.cells s.grid.back s.grid.rows w t b s.attr (by omega) (by omega) (by omega) (by omega) (by omega) (by omega) (1) (by omega)
  have hl := scC_len (c := s.grid.cells) (w := w) (t := t) (b := b) (n := 1) (a := s.attr) (by omega) (by omega)
  unfold gridM
  rw [e1, e2, e3]
  refine .ofC hS _ _ _ Tryz.func214 ?_
  conv => whnf
  repeat' (first|refine Seal.mk ?_|(refine wS ?_;(conv=>whnf);fail_if_success show False)|((first|refine opsA_step ?_|refine drawS_go ?_|refine wD (id:=1) (.quick 0 (.quick 1 (.quick 2 (.quick 4 (.quick 5 (.quick 6 (.read 3 (.read 7 (.quick 8 .done))))))))) [] (by kernel_rfl) rfl ?_|refine wD (id:=2) (.quick 0 (.quick 1 (.quick 2 (.quick 3 (.quick 4 (.quick 5 (.quick 7 (.quick 8 (.quick 9 (.quick 11 (.quick 12 (.quick 13 (.read 6 (.read 10 (.read 14 (.all (.step 15 .done))))))))))))))))) [15] (by kernel_rfl) rfl ?_|apply wL (hm));conv=>whnf)|(intro _;first|omega|conv=>whnf)|(apply And.intro<;>intro _<;>first|omega|conv=>whnf)|((first|refine aLQ ?_|refine ⟨_,rfl,?_⟩|refine ⟨_,⟨rfl,rfl⟩,?_⟩|refine ⟨_,⟨rfl,rfl,leafQ⟩,?_⟩);conv=>whnf)|with_reducible assumption|exact lfQ|fail)
  all_goals (first | contradiction | (exfalso; omega) | (refine ⟨(),⟨⟩,?_⟩;exact fzQ))
theorem l5Down1 (s : Scr) (r w : Nat) (h : OkS s r w) (hy : ¬ s.y = s.bottom) (hy2 : s.y < s.grid.rows - 1) : CallA S 214 [.ptr (.loc 0) 20 none 0] ⟨[⟨.loc 0, true, .raw (scrC (.loc 1) (.loc 2) (.loc 3) (.loc 4) s)⟩, ⟨.loc 1, true, .arr pairE s.grid.cells⟩, ⟨.loc 2, true, .arr pairE s.grid.back⟩], 5⟩ (Ret1 (.tup []) ⟨[⟨.loc 0, true, .raw (scrC (.loc 1) (.loc 5) (.loc 3) (.loc 4) ({ s with wrap := false, y := s.y + 1 } : Scr))⟩, ⟨.loc 1, true, .arr pairE ({ s with wrap := false, y := s.y + 1 } : Scr).grid.cells⟩, ⟨.loc 5, true, .arr pairE ({ s with wrap := false, y := s.y + 1 } : Scr).grid.back⟩], 6⟩) := by
  obtain ⟨h1, h2, h3, h4, h5, h6, h7, _, h8, h9, _⟩ := h
  refine .ofC hS _ _ _ Tryz.func214 ?_
  conv => whnf
  repeat' (first|refine Seal.mk ?_|(refine wS ?_;(conv=>whnf);fail_if_success show False)|((first|refine opsA_step ?_|refine drawS_go ?_|refine wD (id:=1) (.quick 0 (.quick 1 (.quick 2 (.quick 4 (.quick 5 (.quick 6 (.read 3 (.read 7 (.quick 8 .done))))))))) [] (by kernel_rfl) rfl ?_|refine wD (id:=3) (.quick 0 (.quick 1 (.quick 2 (.quick 4 (.quick 5 (.quick 6 (.quick 7 (.read 3 (.read 8 (.quick 9 (.quick 10 .done))))))))))) [] (by kernel_rfl) rfl ?_);conv=>whnf)|(intro _;first|omega|conv=>whnf)|(apply And.intro<;>intro _<;>first|omega|conv=>whnf)|((first|refine aLQ ?_|refine oLQ ?_|refine ⟨_,rfl,?_⟩|refine ⟨_,⟨rfl,rfl⟩,?_⟩|refine ⟨_,⟨rfl,rfl,leafQ⟩,?_⟩);conv=>whnf)|with_reducible assumption|exact lfQ|fail)
  all_goals (first | contradiction | (exfalso; omega) | (refine ⟨(),⟨⟩,?_⟩;exact fzQ))
theorem l5Down2 (s : Scr) (r w : Nat) (h : OkS s r w) (hy : ¬ s.y = s.bottom) (hy2 : ¬ s.y < s.grid.rows - 1) : CallA S 214 [.ptr (.loc 0) 20 none 0] ⟨[⟨.loc 0, true, .raw (scrC (.loc 1) (.loc 2) (.loc 3) (.loc 4) s)⟩, ⟨.loc 1, true, .arr pairE s.grid.cells⟩, ⟨.loc 2, true, .arr pairE s.grid.back⟩], 5⟩ (Ret1 (.tup []) ⟨[⟨.loc 0, true, .raw (scrC (.loc 1) (.loc 5) (.loc 3) (.loc 4) ({ s with wrap := false } : Scr))⟩, ⟨.loc 1, true, .arr pairE ({ s with wrap := false } : Scr).grid.cells⟩, ⟨.loc 5, true, .arr pairE ({ s with wrap := false } : Scr).grid.back⟩], 6⟩) := by
  obtain ⟨h1, h2, h3, h4, h5, h6, h7, _, h8, h9, _⟩ := h
  refine .ofC hS _ _ _ Tryz.func214 ?_
  conv => whnf
  repeat' (first|refine Seal.mk ?_|(refine wS ?_;(conv=>whnf);fail_if_success show False)|((first|refine opsA_step ?_|refine drawS_go ?_|refine wD (id:=1) (.quick 0 (.quick 1 (.quick 2 (.quick 4 (.quick 5 (.quick 6 (.read 3 (.read 7 (.quick 8 .done))))))))) [] (by kernel_rfl) rfl ?_|refine wD (id:=3) (.quick 0 (.quick 1 (.quick 2 (.quick 4 (.quick 5 (.quick 6 (.quick 7 (.read 3 (.read 8 (.quick 9 (.quick 10 .done))))))))))) [] (by kernel_rfl) rfl ?_);conv=>whnf)|(intro _;first|omega|conv=>whnf)|(apply And.intro<;>intro _<;>first|omega|conv=>whnf)|((first|refine aLQ ?_|refine oLQ ?_|refine ⟨_,rfl,?_⟩|refine ⟨_,⟨rfl,rfl⟩,?_⟩|refine ⟨_,⟨rfl,rfl,leafQ⟩,?_⟩);conv=>whnf)|with_reducible assumption|exact lfQ|fail)
  all_goals (first | contradiction | (exfalso; omega) | (refine ⟨(),⟨⟩,?_⟩;exact fzQ))
theorem l5Up0 (s : Scr) (r w : Nat) (h : OkS s r w) (hy : s.y = s.top) : CallA S 221 [.ptr (.loc 0) 20 none 0] ⟨[⟨.loc 0, true, .raw (scrC (.loc 1) (.loc 2) (.loc 3) (.loc 4) s)⟩, ⟨.loc 1, true, .arr pairE s.grid.cells⟩, ⟨.loc 2, true, .arr pairE s.grid.back⟩], 5⟩ (Ret1 (.tup []) ⟨[⟨.loc 0, true, .raw (scrC (.loc 1) (.loc 5) (.loc 3) (.loc 4) ({ s with wrap := false, grid := gridM s s.top.toNat s.bottom.toNat (-1) } : Scr))⟩, ⟨.loc 1, true, .arr pairE ({ s with wrap := false, grid := gridM s s.top.toNat s.bottom.toNat (-1) } : Scr).grid.cells⟩, ⟨.loc 5, true, .arr pairE ({ s with wrap := false, grid := gridM s s.top.toNat s.bottom.toNat (-1) } : Scr).grid.back⟩], 6⟩) := by
  obtain ⟨h1, h2, h3, h4, h5, h6, h7, _, h8, h9, _⟩ := h
  obtain ⟨t, ht⟩ := Int.eq_ofNat_of_zero_le (show 0 ≤ s.top by omega)
  obtain ⟨b, hb⟩ := Int.eq_ofNat_of_zero_le (show 0 ≤ s.bottom by omega)
  have e1 : s.top.toNat = t := by omega
  have e2 : s.bottom.toNat = b := by omega
  have e3 : s.grid.width.toNat = w := by omega
  have hle := mul_lt_le (w := w) (show b + 1 ≤ r by omega)
  have hrw : r * w ≤ 6 * 12 := Nat.mul_le_mul h1.2 h2.2
  have hm := l3Many s.grid.cells s.grid.back s.grid.rows w t b s.attr (by omega) (by omega) (by omega) (by omega) (by omega) (by omega) (-1) (by omega)
  have hl := scC_len (c := s.grid.cells) (w := w) (t := t) (b := b) (n := -1) (a := s.attr) (by omega) (by omega)
  unfold gridM
  rw [e1, e2, e3]
  refine .ofC hS _ _ _ Tryz.func221 ?_
  conv => whnf
  repeat' (first|refine Seal.mk ?_|(refine wS ?_;(conv=>whnf);fail_if_success show False)|((first|refine opsA_step ?_|refine drawS_go ?_|refine wD (id:=1) (.quick 0 (.quick 1 (.quick 2 (.quick 4 (.quick 5 (.quick 6 (.read 3 (.read 7 (.quick 8 .done))))))))) [] (by kernel_rfl) rfl ?_|refine wD (id:=2) (.quick 0 (.quick 1 (.quick 2 (.quick 3 (.quick 4 (.quick 5 (.quick 7 (.quick 8 (.quick 9 (.quick 11 (.quick 12 (.quick 13 (.read 6 (.read 10 (.read 14 (.all (.step 15 .done))))))))))))))))) [15] (by kernel_rfl) rfl ?_|apply wL (hm));conv=>whnf)|(intro _;first|omega|conv=>whnf)|(apply And.intro<;>intro _<;>first|omega|conv=>whnf)|((first|refine aLQ ?_|refine ⟨_,rfl,?_⟩|refine ⟨_,⟨rfl,rfl⟩,?_⟩|refine ⟨_,⟨rfl,rfl,leafQ⟩,?_⟩);conv=>whnf)|with_reducible assumption|exact lfQ|fail)
  all_goals (first | contradiction | (exfalso; omega) | (refine ⟨(),⟨⟩,?_⟩;exact fzQ))
theorem l5Up1 (s : Scr) (r w : Nat) (h : OkS s r w) (hy : ¬ s.y = s.top) (hy2 : 0 < s.y) : CallA S 221 [.ptr (.loc 0) 20 none 0] ⟨[⟨.loc 0, true, .raw (scrC (.loc 1) (.loc 2) (.loc 3) (.loc 4) s)⟩, ⟨.loc 1, true, .arr pairE s.grid.cells⟩, ⟨.loc 2, true, .arr pairE s.grid.back⟩], 5⟩ (Ret1 (.tup []) ⟨[⟨.loc 0, true, .raw (scrC (.loc 1) (.loc 5) (.loc 3) (.loc 4) ({ s with wrap := false, y := s.y - 1 } : Scr))⟩, ⟨.loc 1, true, .arr pairE ({ s with wrap := false, y := s.y - 1 } : Scr).grid.cells⟩, ⟨.loc 5, true, .arr pairE ({ s with wrap := false, y := s.y - 1 } : Scr).grid.back⟩], 6⟩) := by
  obtain ⟨h1, h2, h3, h4, h5, h6, h7, _, h8, h9, _⟩ := h
  refine .ofC hS _ _ _ Tryz.func221 ?_
  conv => whnf
  repeat' (first|refine Seal.mk ?_|(refine wS ?_;(conv=>whnf);fail_if_success show False)|((first|refine opsA_step ?_|refine drawS_go ?_|refine wD (id:=1) (.quick 0 (.quick 1 (.quick 2 (.quick 4 (.quick 5 (.quick 6 (.read 3 (.read 7 (.quick 8 .done))))))))) [] (by kernel_rfl) rfl ?_);conv=>whnf)|(intro _;first|omega|conv=>whnf)|(apply And.intro<;>intro _<;>first|omega|conv=>whnf)|((first|refine aLQ ?_|refine oLQ ?_|refine ⟨_,rfl,?_⟩|refine ⟨_,⟨rfl,rfl⟩,?_⟩|refine ⟨_,⟨rfl,rfl,leafQ⟩,?_⟩);conv=>whnf)|with_reducible assumption|exact lfQ|fail)
  all_goals (first | contradiction | (exfalso; omega) | (refine ⟨(),⟨⟩,?_⟩;exact fzQ))
theorem l5Up2 (s : Scr) (r w : Nat) (h : OkS s r w) (hy : ¬ s.y = s.top) (hy2 : ¬ 0 < s.y) : CallA S 221 [.ptr (.loc 0) 20 none 0] ⟨[⟨.loc 0, true, .raw (scrC (.loc 1) (.loc 2) (.loc 3) (.loc 4) s)⟩, ⟨.loc 1, true, .arr pairE s.grid.cells⟩, ⟨.loc 2, true, .arr pairE s.grid.back⟩], 5⟩ (Ret1 (.tup []) ⟨[⟨.loc 0, true, .raw (scrC (.loc 1) (.loc 5) (.loc 3) (.loc 4) ({ s with wrap := false } : Scr))⟩, ⟨.loc 1, true, .arr pairE ({ s with wrap := false } : Scr).grid.cells⟩, ⟨.loc 5, true, .arr pairE ({ s with wrap := false } : Scr).grid.back⟩], 6⟩) := by
  obtain ⟨h1, h2, h3, h4, h5, h6, h7, _, h8, h9, _⟩ := h
  refine .ofC hS _ _ _ Tryz.func221 ?_
  conv => whnf
  repeat' (first|refine Seal.mk ?_|(refine wS ?_;(conv=>whnf);fail_if_success show False)|((first|refine opsA_step ?_|refine drawS_go ?_|refine wD (id:=1) (.quick 0 (.quick 1 (.quick 2 (.quick 4 (.quick 5 (.quick 6 (.read 3 (.read 7 (.quick 8 .done))))))))) [] (by kernel_rfl) rfl ?_);conv=>whnf)|(intro _;first|omega|conv=>whnf)|(apply And.intro<;>intro _<;>first|omega|conv=>whnf)|((first|refine aLQ ?_|refine ⟨_,rfl,?_⟩|refine ⟨_,⟨rfl,rfl⟩,?_⟩|refine ⟨_,⟨rfl,rfl,leafQ⟩,?_⟩);conv=>whnf)|with_reducible assumption|exact lfQ|fail)
  all_goals (first | contradiction | (exfalso; omega) | (refine ⟨(),⟨⟩,?_⟩;exact fzQ))
end Go.Mu

namespace Go.Mu
open Go Go.Vm Go.RowKit Go.Proofs
attribute [local irreducible] wpA opsA stillA drawA drawS
set_option maxRecDepth 20000
set_option maxHeartbeats 40000000
theorem scB_mult {bk c : Cs} {w t b : Nat} {n : Int} (hw : 1 ≤ w) (hb : b ≤ 5) (hc : (b + 1) * w ≤ c.length) (h : ∃ m, m ≤ 5 ∧ bk.length = m * w) : ∃ m, m ≤ 5 ∧ (scB bk c w t b n).length = m * w := by
  obtain ⟨m, hm, hl⟩ := h
  unfold scB
  split
  · unfold bkM
    split
    · have hk : min n.toNat (b + 1 - t) * w ≤ c.length := Nat.le_trans (Nat.mul_le_mul_right _ (by omega)) hc
      rw [bkJ_eq m hl hm hk]
      refine ⟨m + min n.toNat (b + 1 - t) - (m + min n.toNat (b + 1 - t) - 5), by omega, ?_⟩
      rw [List.length_drop, List.length_append, List.length_take, hl, Nat.min_eq_left hk, ← Nat.add_mul, ← Nat.sub_mul]
    · exact ⟨m, hm, hl⟩
  · exact ⟨m, hm, hl⟩
theorem gridM_ok {s : Scr} {r w : Nat} (h : OkS s r w) (t b : Nat) (htb : t ≤ b) (hb : b < r) (n : Int) : (gridM s t b n).cells.length = r * w ∧ ∃ m, m ≤ 5 ∧ (gridM s t b n).back.length = m * w := by
  have e3 : s.grid.width.toNat = w := by have := h.width; omega
  have hle := mul_lt_le (w := w) (show b + 1 ≤ r by omega)
  unfold gridM
  rw [e3]
  refine ⟨?_, ?_⟩
  · exact (scC_len htb (by rw [h.cells]; exact hle)).trans h.cells
  · exact scB_mult (by have := h.hw; omega) (by have := h.hr; omega) (by rw [h.cells]; exact hle) h.mult
theorem mult_le {w n : Nat} (hw : w ≤ 12) (h : ∃ m, m ≤ 5 ∧ n = m * w) : n ≤ 60 := by
  obtain ⟨m, hm, rfl⟩ := h
  exact Nat.mul_le_mul hm hw
theorem OkS.grid {s : Scr} {r w : Nat} (h : OkS s r w) (t b : Nat) (htb : t ≤ b) (hb : b < r) (n : Int) (q : Bool) : OkS { s with wrap := q, grid := gridM s t b n } r w :=
  have g := gridM_ok h t b htb hb n
  ⟨h.hr, h.hw, h.rows, h.width, g.1, mult_le h.hw.2 g.2, h.y, h.x, h.reg, h.attr, h.kept, h.tabs, h.sets, h.shift, h.bells, h.orig, g.2⟩
def downM (s : Scr) : Scr := if s.y = s.bottom then { s with wrap := false, grid := gridM s s.top.toNat s.bottom.toNat 1 } else if s.y < s.grid.rows - 1 then { s with wrap := false, y := s.y + 1 } else { s with wrap := false }
def upM (s : Scr) : Scr := if s.y = s.top then { s with wrap := false, grid := gridM s s.top.toNat s.bottom.toNat (-1) } else if 0 < s.y then { s with wrap := false, y := s.y - 1 } else { s with wrap := false }
theorem downM_ok {s : Scr} {r w : Nat} (h : OkS s r w) : OkS (downM s) r w := by
  have hr := h.reg; have hrows := h.rows; have hy := h.y; have ho := h.orig
  unfold downM
  split
  · exact h.grid _ _ (by omega) (by omega) _ false
  · split
    · exact ⟨h.hr, h.hw, h.rows, h.width, h.cells, h.back, by simp only; omega, h.x, h.reg, h.attr, h.kept, h.tabs, h.sets, h.shift, h.bells, (fun q => by have := ho q; simp only; omega), h.mult⟩
    · exact ⟨h.hr, h.hw, h.rows, h.width, h.cells, h.back, h.y, h.x, h.reg, h.attr, h.kept, h.tabs, h.sets, h.shift, h.bells, h.orig, h.mult⟩
theorem upM_ok {s : Scr} {r w : Nat} (h : OkS s r w) : OkS (upM s) r w := by
  have hr := h.reg; have hrows := h.rows; have hy := h.y; have ho := h.orig
  unfold upM
  split
  · exact h.grid _ _ (by omega) (by omega) _ false
  · split
    · exact ⟨h.hr, h.hw, h.rows, h.width, h.cells, h.back, by simp only; omega, h.x, h.reg, h.attr, h.kept, h.tabs, h.sets, h.shift, h.bells, (fun q => by have := ho q; simp only; omega), h.mult⟩
    · exact ⟨h.hr, h.hw, h.rows, h.width, h.cells, h.back, h.y, h.x, h.reg, h.attr, h.kept, h.tabs, h.sets, h.shift, h.bells, h.orig, h.mult⟩
theorem goM_ok {s : Scr} {r w : Nat} (h : OkS s r w) (y x : Int) : OkS (goM s y x) r w := by
  have hr := h.reg; have hrows := h.rows; have hwd := h.width; have hh := h.hr; have hww := h.hw
  have hb : s.origin = true → s.top ≤ max (lowM s) (min (highM s) y) ∧ max (lowM s) (min (highM s) y) ≤ s.bottom := fun q => by
    unfold lowM highM; rw [if_pos q, if_pos q]; omega
  have hy : 0 ≤ max (lowM s) (min (highM s) y) ∧ max (lowM s) (min (highM s) y) ≤ (r : Int) - 1 := by
    unfold lowM highM; split <;> omega
  exact ⟨h.hr, h.hw, h.rows, h.width, h.cells, h.back, hy, by simp only; omega, h.reg, h.attr, h.kept, h.tabs, h.sets, h.shift, h.bells, hb, h.mult⟩
theorem l5Down (s : Scr) (r w : Nat) (h : OkS s r w) : CallA S 214 [.ptr (.loc 0) 20 none 0] ⟨[⟨.loc 0, true, .raw (scrC (.loc 1) (.loc 2) (.loc 3) (.loc 4) s)⟩, ⟨.loc 1, true, .arr pairE s.grid.cells⟩, ⟨.loc 2, true, .arr pairE s.grid.back⟩], 5⟩ (Ret1 (.tup []) ⟨[⟨.loc 0, true, .raw (scrC (.loc 1) (.loc 5) (.loc 3) (.loc 4) (downM s : Scr))⟩, ⟨.loc 1, true, .arr pairE (downM s : Scr).grid.cells⟩, ⟨.loc 5, true, .arr pairE (downM s : Scr).grid.back⟩], 6⟩) := by
  by_cases c1 : s.y = s.bottom
  · have e : downM s = { s with wrap := false, grid := gridM s s.top.toNat s.bottom.toNat 1 } := by unfold downM; rw [if_pos c1]
    rw [e]; exact l5Down0 s r w h c1
  by_cases c2 : s.y < s.grid.rows - 1
  · have e : downM s = { s with wrap := false, y := s.y + 1 } := by unfold downM; rw [if_neg c1, if_pos c2]
    rw [e]; exact l5Down1 s r w h c1 c2
  have e : downM s = { s with wrap := false } := by unfold downM; rw [if_neg c1, if_neg c2]
  rw [e]; exact l5Down2 s r w h c1 c2
theorem l5Up (s : Scr) (r w : Nat) (h : OkS s r w) : CallA S 221 [.ptr (.loc 0) 20 none 0] ⟨[⟨.loc 0, true, .raw (scrC (.loc 1) (.loc 2) (.loc 3) (.loc 4) s)⟩, ⟨.loc 1, true, .arr pairE s.grid.cells⟩, ⟨.loc 2, true, .arr pairE s.grid.back⟩], 5⟩ (Ret1 (.tup []) ⟨[⟨.loc 0, true, .raw (scrC (.loc 1) (.loc 5) (.loc 3) (.loc 4) (upM s : Scr))⟩, ⟨.loc 1, true, .arr pairE (upM s : Scr).grid.cells⟩, ⟨.loc 5, true, .arr pairE (upM s : Scr).grid.back⟩], 6⟩) := by
  by_cases c1 : s.y = s.top
  · have e : upM s = { s with wrap := false, grid := gridM s s.top.toNat s.bottom.toNat (-1) } := by unfold upM; rw [if_pos c1]
    rw [e]; exact l5Up0 s r w h c1
  by_cases c2 : 0 < s.y
  · have e : upM s = { s with wrap := false, y := s.y - 1 } := by unfold upM; rw [if_neg c1, if_pos c2]
    rw [e]; exact l5Up1 s r w h c1 c2
  have e : upM s = { s with wrap := false } := by unfold upM; rw [if_neg c1, if_neg c2]
  rw [e]; exact l5Up2 s r w h c1 c2
end Go.Mu
