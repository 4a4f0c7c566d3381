/- Screens, as the reference moves them: where to. -/
import Derived.Test.YtfjodggmmokaaaaGreatDAK
import Derived.Test.YtfjodggmmokaaaaGreatDAX
set_option linter.unusedSimpArgs false
set_option linter.unusedVariables false
set_option linter.constructorNameAsVariable false
namespace Go.Mu
open Go Go.Vm Go.RowKit Go.Proofs
attribute [local irreducible] wpA opsA stillA drawA drawS
set_option maxRecDepth 20000
set_option maxHeartbeats 40000000
theorem l5Keep (s : Scr) (r w : Nat) (h : OkS s r w)  : CallA S 222 [.ptr (.loc 0) 20 none 0] ⟨[⟨.loc 0, true, .raw (scrC (.loc 1) (.loc 2) (.loc 3) (.loc 4) s)⟩], 5⟩ (Ret1 (.tup []) ⟨[⟨.loc 0, true, .raw (scrC (.loc 1) (.loc 2) (.loc 3) (.loc 4) ({ s with keptY := s.y, keptX := s.x, keptA := s.attr } : Scr))⟩], 5⟩) := by
  refine .ofC hS _ _ _ Tryz.func222 ?_
  conv => whnf
  repeat' (first|refine Seal.mk ?_|(refine wS ?_;(conv=>whnf);fail_if_success show False)|((first|refine opsA_step ?_);conv=>whnf)|(intro _;first|omega|conv=>whnf)|(apply And.intro<;>intro _<;>first|omega|conv=>whnf)|((first|refine aLQ ?_|refine ⟨_,rfl,?_⟩|refine ⟨_,⟨rfl,rfl⟩,?_⟩|refine ⟨_,⟨rfl,rfl,leafQ⟩,?_⟩);conv=>whnf)|with_reducible assumption|exact lfQ|fail)
  all_goals (first | contradiction | (exfalso; omega) | (refine ⟨(),⟨⟩,?_⟩;exact fzQ))
theorem l5Back (s : Scr) (r w : Nat) (h : OkS s r w)  : CallA S 223 [.ptr (.loc 0) 20 none 0] ⟨[⟨.loc 0, true, .raw (scrC (.loc 1) (.loc 2) (.loc 3) (.loc 4) s)⟩], 5⟩ (Ret1 (.tup []) ⟨[⟨.loc 0, true, .raw (scrC (.loc 1) (.loc 2) (.loc 3) (.loc 4) (goM { s with attr := s.keptA } s.keptY s.keptX : Scr))⟩], 5⟩) := by
  have hz : SzS { s with attr := s.keptA } r w := ⟨h.hr, h.hw, h.rows, h.width⟩
  refine .ofC hS _ _ _ Tryz.func223 ?_
  conv => whnf
  repeat' (first|refine Seal.mk ?_|(refine wS ?_;(conv=>whnf);fail_if_success show False)|((first|refine opsA_step ?_|refine drawS_go ?_|refine wD (id:=1) (.quick 0 (.quick 1 (.quick 2 (.quick 3 (.quick 5 (.quick 6 (.quick 7 (.read 4 (.read 8 (.all (.step 9 .done))))))))))) [9] (by kernel_rfl) rfl ?_|apply wL (l5Go { s with attr := s.keptA } r w hz s.keptY s.keptX));conv=>whnf)|(intro _;first|omega|conv=>whnf)|(apply And.intro<;>intro _<;>first|omega|conv=>whnf)|((first|refine aLQ ?_|refine ⟨_,rfl,?_⟩|refine ⟨_,⟨rfl,rfl⟩,?_⟩|refine ⟨_,⟨rfl,rfl,leafQ⟩,?_⟩);conv=>whnf)|with_reducible assumption|exact lfQ|fail)
  all_goals (first | contradiction | (exfalso; omega) | (refine ⟨(),⟨⟩,?_⟩;exact fzQ))
theorem l5Base (s : Scr) : CallA S 311 [.ptr (.loc 0) 20 none 0] ⟨[⟨.loc 0, false, .raw (scrC (.loc 1) (.loc 2) (.loc 3) (.loc 4) s)⟩], 5⟩ (Ret1 (.int .i64 (lowM s)) ⟨[], 5⟩) := by
  by_cases ho : s.origin = true
  · have e : s.top = lowM s := (if_pos ho).symm
    refine .ofC hS _ _ _ Tryz.func311 ?_
    conv => whnf
    repeat' (first|refine Seal.mk ?_|(refine wS ?_;(conv=>whnf);fail_if_success show False)|((first|refine opsA_step ?_);conv=>whnf)|(intro _;first|omega|conv=>whnf)|(apply And.intro<;>intro _<;>first|omega|conv=>whnf)|((first|refine aLQ ?_|refine ⟨_,rfl,?_⟩|refine ⟨_,⟨rfl,rfl⟩,?_⟩|refine ⟨_,⟨rfl,rfl,leafQ⟩,?_⟩);conv=>whnf)|with_reducible assumption|exact lfQ|fail)
    all_goals (first | contradiction | (refine ⟨(),⟨⟩,?_⟩;exact fzQ))
  · have e : 0 = lowM s := (if_neg ho).symm
    refine .ofC hS _ _ _ Tryz.func311 ?_
    conv => whnf
    repeat' (first|refine Seal.mk ?_|(refine wS ?_;(conv=>whnf);fail_if_success show False)|((first|refine opsA_step ?_);conv=>whnf)|(intro _;first|omega|conv=>whnf)|(apply And.intro<;>intro _<;>first|omega|conv=>whnf)|((first|refine aLQ ?_|refine ⟨_,rfl,?_⟩|refine ⟨_,⟨rfl,rfl⟩,?_⟩|refine ⟨_,⟨rfl,rfl,leafQ⟩,?_⟩);conv=>whnf)|with_reducible assumption|exact lfQ|fail)
    all_goals (first | contradiction | (refine ⟨(),⟨⟩,?_⟩;exact fzQ))
def rowsM (s : Scr) (n : Int) : Int := if n < 0 then (if s.top ≤ s.y then max s.top (s.y + n) else max 0 (s.y + n)) else if s.y ≤ s.bottom then min s.bottom (s.y + n) else min (s.grid.rows - 1) (s.y + n)
theorem l5Rows0 (s : Scr) (r w : Nat) (h : OkS s r w) (n : Int) (hn : -100000 ≤ n ∧ n ≤ 100000) (c1 : n < 0) (c2 : s.top ≤ s.y) : CallA S 310 [.ptr (.loc 0) 20 none 0, .int .i64 n] ⟨[⟨.loc 0, false, .raw (scrC (.loc 1) (.loc 2) (.loc 3) (.loc 4) s)⟩], 5⟩ (Ret1 (.int .i64 (rowsM s n)) ⟨[], 5⟩) := by
  have hz := h.sz
  obtain ⟨h1, h2, h3, h4, h5, h6, h7, h8, h9, h10, h11, _⟩ := h
  have e : rowsM s n = max s.top (s.y + n) := by unfold rowsM; rw [if_pos c1, if_pos c2]
  refine .ofC hS _ _ _ Tryz.func310 ?_
  conv => whnf
  repeat' (first|refine Seal.mk ?_|(refine wS ?_;(conv=>whnf);fail_if_success show False)|((first|refine opsA_step ?_|refine drawS_go ?_|refine wD (id:=2) (.quick 0 (.quick 1 (.quick 2 (.quick 4 (.quick 5 (.quick 6 (.read 3 (.read 7 (.quick 8 .done))))))))) [] (by kernel_rfl) rfl ?_|refine wD (id:=3) (.quick 0 (.quick 1 (.quick 2 (.quick 4 (.quick 5 (.quick 6 (.quick 8 (.read 3 (.read 7 (.quick 9 (.all (.step 10 (.quick 11 .done))))))))))))) [10] (by kernel_rfl) rfl ?_|apply wL (minS _ _)|apply wL (maxS _ _));conv=>whnf)|(intro _;first|omega|conv=>whnf)|(apply And.intro<;>intro _<;>first|omega|conv=>whnf)|((first|refine aLQ ?_|refine oLQ ?_|refine ⟨_,rfl,?_⟩|refine ⟨_,⟨rfl,rfl⟩,?_⟩|refine ⟨_,⟨rfl,rfl,leafQ⟩,?_⟩);conv=>whnf)|with_reducible assumption|exact lfQ|fail)
  all_goals (first | contradiction | (exfalso; omega) | (refine ⟨(),⟨⟩,?_⟩;exact fzQ))
theorem l5Rows1 (s : Scr) (r w : Nat) (h : OkS s r w) (n : Int) (hn : -100000 ≤ n ∧ n ≤ 100000) (c1 : n < 0) (c2 : ¬ s.top ≤ s.y) : CallA S 310 [.ptr (.loc 0) 20 none 0, .int .i64 n] ⟨[⟨.loc 0, false, .raw (scrC (.loc 1) (.loc 2) (.loc 3) (.loc 4) s)⟩], 5⟩ (Ret1 (.int .i64 (rowsM s n)) ⟨[], 5⟩) := by
  have hz := h.sz
  obtain ⟨h1, h2, h3, h4, h5, h6, h7, h8, h9, h10, h11, _⟩ := h
  have e : rowsM s n = max 0 (s.y + n) := by unfold rowsM; rw [if_pos c1, if_neg c2]
  refine .ofC hS _ _ _ Tryz.func310 ?_
  conv => whnf
  repeat' (first|refine Seal.mk ?_|(refine wS ?_;(conv=>whnf);fail_if_success show False)|((first|refine opsA_step ?_|refine drawS_go ?_|refine wD (id:=2) (.quick 0 (.quick 1 (.quick 2 (.quick 4 (.quick 5 (.quick 6 (.read 3 (.read 7 (.quick 8 .done))))))))) [] (by kernel_rfl) rfl ?_|apply wL (minS _ _)|apply wL (maxS _ _));conv=>whnf)|(intro _;first|omega|conv=>whnf)|(apply And.intro<;>intro _<;>first|omega|conv=>whnf)|((first|refine aLQ ?_|refine oLQ ?_|refine ⟨_,rfl,?_⟩|refine ⟨_,⟨rfl,rfl⟩,?_⟩|refine ⟨_,⟨rfl,rfl,leafQ⟩,?_⟩);conv=>whnf)|with_reducible assumption|exact lfQ|fail)
  all_goals (first | contradiction | (exfalso; omega) | (refine ⟨(),⟨⟩,?_⟩;exact fzQ))
theorem l5Rows2 (s : Scr) (r w : Nat) (h : OkS s r w) (n : Int) (hn : -100000 ≤ n ∧ n ≤ 100000) (c1 : ¬ n < 0) (c2 : s.y ≤ s.bottom) : CallA S 310 [.ptr (.loc 0) 20 none 0, .int .i64 n] ⟨[⟨.loc 0, false, .raw (scrC (.loc 1) (.loc 2) (.loc 3) (.loc 4) s)⟩], 5⟩ (Ret1 (.int .i64 (rowsM s n)) ⟨[], 5⟩) := by
  have hz := h.sz
  obtain ⟨h1, h2, h3, h4, h5, h6, h7, h8, h9, h10, h11, _⟩ := h
  have e : rowsM s n = min s.bottom (s.y + n) := by unfold rowsM; rw [if_neg c1, if_pos c2]
  refine .ofC hS _ _ _ Tryz.func310 ?_
  conv => whnf
  repeat' (first|refine Seal.mk ?_|(refine wS ?_;(conv=>whnf);fail_if_success show False)|((first|refine opsA_step ?_|refine drawS_go ?_|refine wD (id:=5) (.quick 0 (.quick 1 (.quick 2 (.quick 4 (.quick 5 (.quick 6 (.read 3 (.read 7 (.quick 8 .done))))))))) [] (by kernel_rfl) rfl ?_|refine wD (id:=6) (.quick 0 (.quick 1 (.quick 2 (.quick 4 (.quick 5 (.quick 6 (.quick 8 (.read 3 (.read 7 (.quick 9 (.all (.step 10 (.quick 11 .done))))))))))))) [10] (by kernel_rfl) rfl ?_|apply wL (minS _ _)|apply wL (maxS _ _));conv=>whnf)|(intro _;first|omega|conv=>whnf)|(apply And.intro<;>intro _<;>first|omega|conv=>whnf)|((first|refine aLQ ?_|refine oLQ ?_|refine ⟨_,rfl,?_⟩|refine ⟨_,⟨rfl,rfl⟩,?_⟩|refine ⟨_,⟨rfl,rfl,leafQ⟩,?_⟩);conv=>whnf)|with_reducible assumption|exact lfQ|fail)
  all_goals (first | contradiction | (exfalso; omega) | (refine ⟨(),⟨⟩,?_⟩;exact fzQ))
theorem l5Rows3 (s : Scr) (r w : Nat) (h : OkS s r w) (n : Int) (hn : -100000 ≤ n ∧ n ≤ 100000) (c1 : ¬ n < 0) (c2 : ¬ s.y ≤ s.bottom) : CallA S 310 [.ptr (.loc 0) 20 none 0, .int .i64 n] ⟨[⟨.loc 0, false, .raw (scrC (.loc 1) (.loc 2) (.loc 3) (.loc 4) s)⟩], 5⟩ (Ret1 (.int .i64 (rowsM s n)) ⟨[], 5⟩) := by
  have hz := h.sz
  obtain ⟨h1, h2, h3, h4, h5, h6, h7, h8, h9, h10, h11, _⟩ := h
  have e : rowsM s n = min (s.grid.rows - 1) (s.y + n) := by unfold rowsM; rw [if_neg c1, if_neg c2]
  refine .ofC hS _ _ _ Tryz.func310 ?_
  conv => whnf
  repeat' (first|refine Seal.mk ?_|(refine wS ?_;(conv=>whnf);fail_if_success show False)|((first|refine opsA_step ?_|refine drawS_go ?_|refine wD (id:=5) (.quick 0 (.quick 1 (.quick 2 (.quick 4 (.quick 5 (.quick 6 (.read 3 (.read 7 (.quick 8 .done))))))))) [] (by kernel_rfl) rfl ?_|refine wD (id:=7) (.quick 0 (.quick 1 (.quick 2 (.quick 3 (.quick 6 (.quick 7 (.quick 8 (.quick 10 (.read 4 (.quick 5 (.read 9 (.quick 11 (.all (.step 12 (.quick 13 .done))))))))))))))) [12] (by kernel_rfl) rfl ?_|apply wL (minS _ _)|apply wL (maxS _ _));conv=>whnf)|(intro _;first|omega|conv=>whnf)|(apply And.intro<;>intro _<;>first|omega|conv=>whnf)|((first|refine aLQ ?_|refine oLQ ?_|refine ⟨_,rfl,?_⟩|refine ⟨_,⟨rfl,rfl⟩,?_⟩|refine ⟨_,⟨rfl,rfl,leafQ⟩,?_⟩);conv=>whnf)|with_reducible assumption|exact lfQ|fail)
  all_goals (first | contradiction | (exfalso; omega) | (refine ⟨(),⟨⟩,?_⟩;exact fzQ))
theorem l5Rows (s : Scr) (r w : Nat) (h : OkS s r w) (n : Int) (hn : -100000 ≤ n ∧ n ≤ 100000) : CallA S 310 [.ptr (.loc 0) 20 none 0, .int .i64 n] ⟨[⟨.loc 0, false, .raw (scrC (.loc 1) (.loc 2) (.loc 3) (.loc 4) s)⟩], 5⟩ (Ret1 (.int .i64 (rowsM s n)) ⟨[], 5⟩) := by
  by_cases c1 : n < 0
  · by_cases c2 : s.top ≤ s.y
    · exact l5Rows0 s r w h n hn c1 c2
    · exact l5Rows1 s r w h n hn c1 c2
  · by_cases c2 : s.y ≤ s.bottom
    · exact l5Rows2 s r w h n hn c1 c2
    · exact l5Rows3 s r w h n hn c1 c2
def movesM (s : Scr) (c n m : Int) : Scr := if c = 65 then goM s (rowsM s (-n)) s.x else if c = 66 then goM s (rowsM s n) s.x else if c = 67 then goM s s.y (s.x + n) else if c = 68 then goM s s.y (s.x - n) else if c = 69 then goM s (rowsM s n) 0 else if c = 70 then goM s (rowsM s (-n)) 0 else if c = 71 ∨ c = 96 then goM s s.y (n - 1) else if c = 100 then goM s (lowM s + n - 1) s.x else if c = 72 ∨ c = 102 then goM s (lowM s + n - 1) (m - 1) else s
theorem l5Moves0 (s : Scr) (r w : Nat) (h : OkS s r w) (c n m : Int) (hn : 1 ≤ n ∧ n ≤ 99999) (hm : 1 ≤ m ∧ m ≤ 99999) (hc : c = 65) : CallA S 226 [.ptr (.loc 0) 20 none 0, .int .i64 c, .int .i64 n, .int .i64 m] ⟨[⟨.loc 0, true, .raw (scrC (.loc 1) (.loc 2) (.loc 3) (.loc 4) s)⟩], 5⟩ (Ret1 (.tup []) ⟨[⟨.loc 0, true, .raw (scrC (.loc 1) (.loc 2) (.loc 3) (.loc 4) (goM s (rowsM s (-n)) s.x : Scr))⟩], 5⟩) := by
  have hz := h.sz
  have hh := h
  obtain ⟨h1, h2, h3, h4, h5, h6, h7, h8, h9, h10, h11, _⟩ := hh
  have hlo : 0 ≤ lowM s ∧ lowM s ≤ 5 := by unfold lowM; split <;> omega
  refine .ofC hS _ _ _ Tryz.func226 ?_
  conv => whnf
  repeat' (first|refine Seal.mk ?_|(refine wS ?_;(conv=>whnf);fail_if_success show False)|((first|refine opsA_step ?_|refine drawS_go ?_|refine wD (id:=2) (.quick 0 (.quick 1 (.quick 2 (.quick 3 (.quick 5 (.quick 6 (.quick 7 (.all (.fork (.step 4 (.all (.step 8 (.all (.step 9 .done))))) (.step 8 (.all (.step 4 (.all (.step 9 .done)))))))))))))) [4, 8, 9] (by kernel_rfl) rfl ?_|apply wL (l5Go s r w hz _ _)|apply wL (l5Rows s r w h (-n) (by omega))|apply wL (l5Base s));conv=>whnf)|(intro _;first|omega|conv=>whnf)|(apply And.intro<;>intro _<;>first|omega|conv=>whnf)|refine sM ?_ ?_|((first|refine aLQ ?_|refine ⟨_,rfl,?_⟩|refine ⟨_,⟨rfl,rfl⟩,?_⟩|refine ⟨_,⟨rfl,rfl,leafQ⟩,?_⟩);conv=>whnf)|with_reducible assumption|exact lfQ|fail)
  all_goals (first | contradiction | (exfalso; omega) | (refine ⟨(),⟨⟩,?_⟩;exact fzQ))
theorem l5Moves1 (s : Scr) (r w : Nat) (h : OkS s r w) (c n m : Int) (hn : 1 ≤ n ∧ n ≤ 99999) (hm : 1 ≤ m ∧ m ≤ 99999) (hc : c = 66) : CallA S 226 [.ptr (.loc 0) 20 none 0, .int .i64 c, .int .i64 n, .int .i64 m] ⟨[⟨.loc 0, true, .raw (scrC (.loc 1) (.loc 2) (.loc 3) (.loc 4) s)⟩], 5⟩ (Ret1 (.tup []) ⟨[⟨.loc 0, true, .raw (scrC (.loc 1) (.loc 2) (.loc 3) (.loc 4) (goM s (rowsM s n) s.x : Scr))⟩], 5⟩) := by
  have hz := h.sz
  have hh := h
  obtain ⟨h1, h2, h3, h4, h5, h6, h7, h8, h9, h10, h11, _⟩ := hh
  have hlo : 0 ≤ lowM s ∧ lowM s ≤ 5 := by unfold lowM; split <;> omega
  refine .ofC hS _ _ _ Tryz.func226 ?_
  conv => whnf
  repeat' (first|refine Seal.mk ?_|(refine wS ?_;(conv=>whnf);fail_if_success show False)|((first|refine opsA_step ?_|refine drawS_go ?_|refine wD (id:=4) (.quick 0 (.quick 1 (.quick 2 (.quick 4 (.quick 5 (.quick 6 (.all (.fork (.step 3 (.all (.step 7 (.all (.step 8 .done))))) (.step 7 (.all (.step 3 (.all (.step 8 .done))))))))))))) [3, 7, 8] (by kernel_rfl) rfl ?_|apply wL (l5Go s r w hz _ _)|apply wL (l5Rows s r w h n (by omega))|apply wL (l5Base s));conv=>whnf)|(intro _;first|omega|conv=>whnf)|(apply And.intro<;>intro _<;>first|omega|conv=>whnf)|refine sM ?_ ?_|((first|refine aLQ ?_|refine ⟨_,rfl,?_⟩|refine ⟨_,⟨rfl,rfl⟩,?_⟩|refine ⟨_,⟨rfl,rfl,leafQ⟩,?_⟩);conv=>whnf)|with_reducible assumption|exact lfQ|fail)
  all_goals (first | contradiction | (exfalso; omega) | (refine ⟨(),⟨⟩,?_⟩;exact fzQ))
theorem l5Moves2 (s : Scr) (r w : Nat) (h : OkS s r w) (c n m : Int) (hn : 1 ≤ n ∧ n ≤ 99999) (hm : 1 ≤ m ∧ m ≤ 99999) (hc : c = 67) : CallA S 226 [.ptr (.loc 0) 20 none 0, .int .i64 c, .int .i64 n, .int .i64 m] ⟨[⟨.loc 0, true, .raw (scrC (.loc 1) (.loc 2) (.loc 3) (.loc 4) s)⟩], 5⟩ (Ret1 (.tup []) ⟨[⟨.loc 0, true, .raw (scrC (.loc 1) (.loc 2) (.loc 3) (.loc 4) (goM s s.y (s.x + n) : Scr))⟩], 5⟩) := by
  have hz := h.sz
  have hh := h
  obtain ⟨h1, h2, h3, h4, h5, h6, h7, h8, h9, h10, h11, _⟩ := hh
  have hlo : 0 ≤ lowM s ∧ lowM s ≤ 5 := by unfold lowM; split <;> omega
  refine .ofC hS _ _ _ Tryz.func226 ?_
  conv => whnf
  repeat' (first|refine Seal.mk ?_|(refine wS ?_;(conv=>whnf);fail_if_success show False)|((first|refine opsA_step ?_|refine drawS_go ?_|refine wD (id:=6) (.quick 0 (.quick 1 (.quick 2 (.quick 3 (.quick 5 (.quick 6 (.quick 7 (.quick 9 (.read 4 (.read 8 (.quick 10 (.all (.step 11 .done))))))))))))) [11] (by kernel_rfl) rfl ?_|apply wL (l5Go s r w hz _ _)|apply wL (l5Rows s r w h n (by omega))|apply wL (l5Base s));conv=>whnf)|(intro _;first|omega|conv=>whnf)|(apply And.intro<;>intro _<;>first|omega|conv=>whnf)|((first|refine aLQ ?_|refine oLQ ?_|refine ⟨_,rfl,?_⟩|refine ⟨_,⟨rfl,rfl⟩,?_⟩|refine ⟨_,⟨rfl,rfl,leafQ⟩,?_⟩);conv=>whnf)|with_reducible assumption|exact lfQ|fail)
  all_goals (first | contradiction | (exfalso; omega) | (refine ⟨(),⟨⟩,?_⟩;exact fzQ))
theorem l5Moves3 (s : Scr) (r w : Nat) (h : OkS s r w) (c n m : Int) (hn : 1 ≤ n ∧ n ≤ 99999) (hm : 1 ≤ m ∧ m ≤ 99999) (hc : c = 68) : CallA S 226 [.ptr (.loc 0) 20 none 0, .int .i64 c, .int .i64 n, .int .i64 m] ⟨[⟨.loc 0, true, .raw (scrC (.loc 1) (.loc 2) (.loc 3) (.loc 4) s)⟩], 5⟩ (Ret1 (.tup []) ⟨[⟨.loc 0, true, .raw (scrC (.loc 1) (.loc 2) (.loc 3) (.loc 4) (goM s s.y (s.x - n) : Scr))⟩], 5⟩) := by
  have hz := h.sz
  have hh := h
  obtain ⟨h1, h2, h3, h4, h5, h6, h7, h8, h9, h10, h11, _⟩ := hh
  have hlo : 0 ≤ lowM s ∧ lowM s ≤ 5 := by unfold lowM; split <;> omega
  refine .ofC hS _ _ _ Tryz.func226 ?_
  conv => whnf
  repeat' (first|refine Seal.mk ?_|(refine wS ?_;(conv=>whnf);fail_if_success show False)|((first|refine opsA_step ?_|refine drawS_go ?_|refine wD (id:=8) (.quick 0 (.quick 1 (.quick 2 (.quick 3 (.quick 5 (.quick 6 (.quick 7 (.quick 9 (.read 4 (.read 8 (.quick 10 (.all (.step 11 .done))))))))))))) [11] (by kernel_rfl) rfl ?_|apply wL (l5Go s r w hz _ _)|apply wL (l5Rows s r w h n (by omega))|apply wL (l5Base s));conv=>whnf)|(intro _;first|omega|conv=>whnf)|(apply And.intro<;>intro _<;>first|omega|conv=>whnf)|((first|refine aLQ ?_|refine oLQ ?_|refine ⟨_,rfl,?_⟩|refine ⟨_,⟨rfl,rfl⟩,?_⟩|refine ⟨_,⟨rfl,rfl,leafQ⟩,?_⟩);conv=>whnf)|with_reducible assumption|exact lfQ|fail)
  all_goals (first | contradiction | (exfalso; omega) | (refine ⟨(),⟨⟩,?_⟩;exact fzQ))
theorem l5Moves4 (s : Scr) (r w : Nat) (h : OkS s r w) (c n m : Int) (hn : 1 ≤ n ∧ n ≤ 99999) (hm : 1 ≤ m ∧ m ≤ 99999) (hc : c = 69) : CallA S 226 [.ptr (.loc 0) 20 none 0, .int .i64 c, .int .i64 n, .int .i64 m] ⟨[⟨.loc 0, true, .raw (scrC (.loc 1) (.loc 2) (.loc 3) (.loc 4) s)⟩], 5⟩ (Ret1 (.tup []) ⟨[⟨.loc 0, true, .raw (scrC (.loc 1) (.loc 2) (.loc 3) (.loc 4) (goM s (rowsM s n) 0 : Scr))⟩], 5⟩) := by
  have hz := h.sz
  have hh := h
  obtain ⟨h1, h2, h3, h4, h5, h6, h7, h8, h9, h10, h11, _⟩ := hh
  have hlo : 0 ≤ lowM s ∧ lowM s ≤ 5 := by unfold lowM; split <;> omega
  refine .ofC hS _ _ _ Tryz.func226 ?_
  conv => whnf
  repeat' (first|refine Seal.mk ?_|(refine wS ?_;(conv=>whnf);fail_if_success show False)|((first|refine opsA_step ?_|apply wL (l5Go s r w hz _ _)|apply wL (l5Rows s r w h n (by omega))|apply wL (l5Base s));conv=>whnf)|(intro _;first|omega|conv=>whnf)|(apply And.intro<;>intro _<;>first|omega|conv=>whnf)|((first|refine aLQ ?_|refine ⟨_,rfl,?_⟩|refine ⟨_,⟨rfl,rfl⟩,?_⟩|refine ⟨_,⟨rfl,rfl,leafQ⟩,?_⟩);conv=>whnf)|with_reducible assumption|exact lfQ|fail)
  all_goals (first | contradiction | (exfalso; omega) | (refine ⟨(),⟨⟩,?_⟩;exact fzQ))
theorem l5Moves5 (s : Scr) (r w : Nat) (h : OkS s r w) (c n m : Int) (hn : 1 ≤ n ∧ n ≤ 99999) (hm : 1 ≤ m ∧ m ≤ 99999) (hc : c = 70) : CallA S 226 [.ptr (.loc 0) 20 none 0, .int .i64 c, .int .i64 n, .int .i64 m] ⟨[⟨.loc 0, true, .raw (scrC (.loc 1) (.loc 2) (.loc 3) (.loc 4) s)⟩], 5⟩ (Ret1 (.tup []) ⟨[⟨.loc 0, true, .raw (scrC (.loc 1) (.loc 2) (.loc 3) (.loc 4) (goM s (rowsM s (-n)) 0 : Scr))⟩], 5⟩) := by
  have hz := h.sz
  have hh := h
  obtain ⟨h1, h2, h3, h4, h5, h6, h7, h8, h9, h10, h11, _⟩ := hh
  have hlo : 0 ≤ lowM s ∧ lowM s ≤ 5 := by unfold lowM; split <;> omega
  refine .ofC hS _ _ _ Tryz.func226 ?_
  conv => whnf
  repeat' (first|refine Seal.mk ?_|(refine wS ?_;(conv=>whnf);fail_if_success show False)|((first|refine opsA_step ?_|apply wL (l5Go s r w hz _ _)|apply wL (l5Rows s r w h (-n) (by omega))|apply wL (l5Base s));conv=>whnf)|(intro _;first|omega|conv=>whnf)|(apply And.intro<;>intro _<;>first|omega|conv=>whnf)|((first|refine aLQ ?_|refine ⟨_,rfl,?_⟩|refine ⟨_,⟨rfl,rfl⟩,?_⟩|refine ⟨_,⟨rfl,rfl,leafQ⟩,?_⟩);conv=>whnf)|with_reducible assumption|exact lfQ|fail)
  all_goals (first | contradiction | (exfalso; omega) | (refine ⟨(),⟨⟩,?_⟩;exact fzQ))
theorem l5Moves6 (s : Scr) (r w : Nat) (h : OkS s r w) (c n m : Int) (hn : 1 ≤ n ∧ n ≤ 99999) (hm : 1 ≤ m ∧ m ≤ 99999) (hc : c = 71 ∨ c = 96) : CallA S 226 [.ptr (.loc 0) 20 none 0, .int .i64 c, .int .i64 n, .int .i64 m] ⟨[⟨.loc 0, true, .raw (scrC (.loc 1) (.loc 2) (.loc 3) (.loc 4) s)⟩], 5⟩ (Ret1 (.tup []) ⟨[⟨.loc 0, true, .raw (scrC (.loc 1) (.loc 2) (.loc 3) (.loc 4) (goM s s.y (n - 1) : Scr))⟩], 5⟩) := by
  have hz := h.sz
  have hh := h
  obtain ⟨h1, h2, h3, h4, h5, h6, h7, h8, h9, h10, h11, _⟩ := hh
  have hlo : 0 ≤ lowM s ∧ lowM s ≤ 5 := by unfold lowM; split <;> omega
  refine .ofC hS _ _ _ Tryz.func226 ?_
  conv => whnf
  repeat' (first|refine Seal.mk ?_|(refine wS ?_;(conv=>whnf);fail_if_success show False)|((first|refine opsA_step ?_|apply wL (l5Go s r w hz _ _)|apply wL (l5Rows s r w h n (by omega))|apply wL (l5Base s));conv=>whnf)|(intro _;first|omega|conv=>whnf)|(apply And.intro<;>intro _<;>first|omega|conv=>whnf)|((first|refine aLQ ?_|refine oLQ ?_|refine ⟨_,rfl,?_⟩|refine ⟨_,⟨rfl,rfl⟩,?_⟩|refine ⟨_,⟨rfl,rfl,leafQ⟩,?_⟩);conv=>whnf)|with_reducible assumption|exact lfQ|fail)
  all_goals (first | contradiction | (exfalso; omega) | (refine ⟨(),⟨⟩,?_⟩;exact fzQ))
theorem l5Moves7 (s : Scr) (r w : Nat) (h : OkS s r w) (c n m : Int) (hn : 1 ≤ n ∧ n ≤ 99999) (hm : 1 ≤ m ∧ m ≤ 99999) (hc : c = 100) : CallA S 226 [.ptr (.loc 0) 20 none 0, .int .i64 c, .int .i64 n, .int .i64 m] ⟨[⟨.loc 0, true, .raw (scrC (.loc 1) (.loc 2) (.loc 3) (.loc 4) s)⟩], 5⟩ (Ret1 (.tup []) ⟨[⟨.loc 0, true, .raw (scrC (.loc 1) (.loc 2) (.loc 3) (.loc 4) (goM s (lowM s + n - 1) s.x : Scr))⟩], 5⟩) := by
  have hz := h.sz
  have hh := h
  obtain ⟨h1, h2, h3, h4, h5, h6, h7, h8, h9, h10, h11, _⟩ := hh
  have hlo : 0 ≤ lowM s ∧ lowM s ≤ 5 := by unfold lowM; split <;> omega
  refine .ofC hS _ _ _ Tryz.func226 ?_
  conv => whnf
  repeat' (first|refine Seal.mk ?_|(refine wS ?_;(conv=>whnf);fail_if_success show False)|((first|refine opsA_step ?_|refine drawS_go ?_|refine wD (id:=17) (.quick 0 (.quick 1 (.quick 3 (.quick 6 (.quick 7 (.quick 8 (.all (.fork (.step 2 (.quick 4 (.quick 5 (.all (.step 9 (.all (.step 10 .done))))))) (.step 9 (.all (.step 2 (.quick 4 (.quick 5 (.all (.step 10 .done))))))))))))))) [2, 9, 10] (by kernel_rfl) rfl ?_|apply wL (l5Go s r w hz _ _)|apply wL (l5Rows s r w h n (by omega))|apply wL (l5Base s));conv=>whnf)|(intro _;first|omega|conv=>whnf)|(apply And.intro<;>intro _<;>first|omega|conv=>whnf)|refine sM ?_ ?_|((first|refine aLQ ?_|refine oLQ ?_|refine ⟨_,rfl,?_⟩|refine ⟨_,⟨rfl,rfl⟩,?_⟩|refine ⟨_,⟨rfl,rfl,leafQ⟩,?_⟩);conv=>whnf)|with_reducible assumption|exact lfQ|fail)
  all_goals (first | contradiction | (exfalso; omega) | (refine ⟨(),⟨⟩,?_⟩;exact fzQ))
theorem l5Moves8 (s : Scr) (r w : Nat) (h : OkS s r w) (c n m : Int) (hn : 1 ≤ n ∧ n ≤ 99999) (hm : 1 ≤ m ∧ m ≤ 99999) (hc : c = 72 ∨ c = 102) : CallA S 226 [.ptr (.loc 0) 20 none 0, .int .i64 c, .int .i64 n, .int .i64 m] ⟨[⟨.loc 0, true, .raw (scrC (.loc 1) (.loc 2) (.loc 3) (.loc 4) s)⟩], 5⟩ (Ret1 (.tup []) ⟨[⟨.loc 0, true, .raw (scrC (.loc 1) (.loc 2) (.loc 3) (.loc 4) (goM s (lowM s + n - 1) (m - 1) : Scr))⟩], 5⟩) := by
  have hz := h.sz
  have hh := h
  obtain ⟨h1, h2, h3, h4, h5, h6, h7, h8, h9, h10, h11, _⟩ := hh
  have hlo : 0 ≤ lowM s ∧ lowM s ≤ 5 := by unfold lowM; split <;> omega
  refine .ofC hS _ _ _ Tryz.func226 ?_
  conv => whnf
  repeat' (first|refine Seal.mk ?_|(refine wS ?_;(conv=>whnf);fail_if_success show False)|((first|refine opsA_step ?_|apply wL (l5Go s r w hz _ _)|apply wL (l5Rows s r w h n (by omega))|apply wL (l5Base s));conv=>whnf)|(intro _;first|omega|conv=>whnf)|(apply And.intro<;>intro _<;>first|omega|conv=>whnf)|((first|refine aLQ ?_|refine oLQ ?_|refine ⟨_,rfl,?_⟩|refine ⟨_,⟨rfl,rfl⟩,?_⟩|refine ⟨_,⟨rfl,rfl,leafQ⟩,?_⟩);conv=>whnf)|with_reducible assumption|exact lfQ|fail)
  all_goals (first | contradiction | (exfalso; omega) | (refine ⟨(),⟨⟩,?_⟩;exact fzQ))
theorem l5Moves9 (s : Scr) (r w : Nat) (h : OkS s r w) (c n m : Int) (hn : 1 ≤ n ∧ n ≤ 99999) (hm : 1 ≤ m ∧ m ≤ 99999) (hc : ¬ (c = 65) ∧ ¬ (c = 66) ∧ ¬ (c = 67) ∧ ¬ (c = 68) ∧ ¬ (c = 69) ∧ ¬ (c = 70) ∧ ¬ (c = 71 ∨ c = 96) ∧ ¬ (c = 100) ∧ ¬ (c = 72 ∨ c = 102)) : CallA S 226 [.ptr (.loc 0) 20 none 0, .int .i64 c, .int .i64 n, .int .i64 m] ⟨[⟨.loc 0, true, .raw (scrC (.loc 1) (.loc 2) (.loc 3) (.loc 4) s)⟩], 5⟩ (Ret1 (.tup []) ⟨[⟨.loc 0, true, .raw (scrC (.loc 1) (.loc 2) (.loc 3) (.loc 4) (s : Scr))⟩], 5⟩) := by
  have hz := h.sz
  have hh := h
  obtain ⟨h1, h2, h3, h4, h5, h6, h7, h8, h9, h10, h11, _⟩ := hh
  have hlo : 0 ≤ lowM s ∧ lowM s ≤ 5 := by unfold lowM; split <;> omega
  refine .ofC hS _ _ _ Tryz.func226 ?_
  conv => whnf
  repeat' (first|refine Seal.mk ?_|(refine wS ?_;(conv=>whnf);fail_if_success show False)|((first|refine opsA_step ?_|apply wL (l5Go s r w hz _ _)|apply wL (l5Rows s r w h n (by omega))|apply wL (l5Base s));conv=>whnf)|(intro _;first|omega|conv=>whnf)|(apply And.intro<;>intro _<;>first|omega|conv=>whnf)|((first|refine aLQ ?_|refine ⟨_,rfl,?_⟩|refine ⟨_,⟨rfl,rfl⟩,?_⟩|refine ⟨_,⟨rfl,rfl,leafQ⟩,?_⟩);conv=>whnf)|with_reducible assumption|exact lfQ|fail)
  all_goals (first | contradiction | (exfalso; omega) | (refine ⟨(),⟨⟩,?_⟩;exact fzQ))
theorem l5Moves (s : Scr) (r w : Nat) (h : OkS s r w) (c n m : Int) (hn : 1 ≤ n ∧ n ≤ 99999) (hm : 1 ≤ m ∧ m ≤ 99999)  : CallA S 226 [.ptr (.loc 0) 20 none 0, .int .i64 c, .int .i64 n, .int .i64 m] ⟨[⟨.loc 0, true, .raw (scrC (.loc 1) (.loc 2) (.loc 3) (.loc 4) s)⟩], 5⟩ (Ret1 (.tup []) ⟨[⟨.loc 0, true, .raw (scrC (.loc 1) (.loc 2) (.loc 3) (.loc 4) (movesM s c n m))⟩], 5⟩) := by
  by_cases c0 : c = 65
  · have e : movesM s c n m = goM s (rowsM s (-n)) s.x := by unfold movesM; rw [if_pos c0]
    rw [e]; exact l5Moves0 s r w h c n m hn hm c0
  by_cases c1 : c = 66
  · have e : movesM s c n m = goM s (rowsM s n) s.x := by unfold movesM; rw [if_neg c0, if_pos c1]
    rw [e]; exact l5Moves1 s r w h c n m hn hm c1
  by_cases c2 : c = 67
  · have e : movesM s c n m = goM s s.y (s.x + n) := by unfold movesM; rw [if_neg c0, if_neg c1, if_pos c2]
    rw [e]; exact l5Moves2 s r w h c n m hn hm c2
  by_cases c3 : c = 68
  · have e : movesM s c n m = goM s s.y (s.x - n) := by unfold movesM; rw [if_neg c0, if_neg c1, if_neg c2, if_pos c3]
    rw [e]; exact l5Moves3 s r w h c n m hn hm c3
  by_cases c4 : c = 69
  · have e : movesM s c n m = goM s (rowsM s n) 0 := by unfold movesM; rw [if_neg c0, if_neg c1, if_neg c2, if_neg c3, if_pos c4]
    rw [e]; exact l5Moves4 s r w h c n m hn hm c4
  by_cases c5 : c = 70
  · have e : movesM s c n m = goM s (rowsM s (-n)) 0 := by unfold movesM; rw [if_neg c0, if_neg c1, if_neg c2, if_neg c3, if_neg c4, if_pos c5]
    rw [e]; exact l5Moves5 s r w h c n m hn hm c5
  by_cases c6 : c = 71 ∨ c = 96
  · have e : movesM s c n m = goM s s.y (n - 1) := by unfold movesM; rw [if_neg c0, if_neg c1, if_neg c2, if_neg c3, if_neg c4, if_neg c5, if_pos c6]
    rw [e]; exact l5Moves6 s r w h c n m hn hm c6
  by_cases c7 : c = 100
  · have e : movesM s c n m = goM s (lowM s + n - 1) s.x := by unfold movesM; rw [if_neg c0, if_neg c1, if_neg c2, if_neg c3, if_neg c4, if_neg c5, if_neg c6, if_pos c7]
    rw [e]; exact l5Moves7 s r w h c n m hn hm c7
  by_cases c8 : c = 72 ∨ c = 102
  · have e : movesM s c n m = goM s (lowM s + n - 1) (m - 1) := by unfold movesM; rw [if_neg c0, if_neg c1, if_neg c2, if_neg c3, if_neg c4, if_neg c5, if_neg c6, if_neg c7, if_pos c8]
    rw [e]; exact l5Moves8 s r w h c n m hn hm c8
  have e : movesM s c n m = s := by unfold movesM; rw [if_neg c0, if_neg c1, if_neg c2, if_neg c3, if_neg c4, if_neg c5, if_neg c6, if_neg c7, if_neg c8]
  rw [e]; exact l5Moves9 s r w h c n m hn hm ⟨c0, c1, c2, c3, c4, c5, c6, c7, c8⟩
end Go.Mu
