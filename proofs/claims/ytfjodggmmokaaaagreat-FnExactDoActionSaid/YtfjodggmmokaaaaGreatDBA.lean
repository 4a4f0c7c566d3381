/- Screens, as the program moves them. -/
import Derived.Test.YtfjodggmmokaaaaGreatDAK
import Derived.Test.YtfjodggmmokaaaaGreatDAW
import Derived.Test.YtfjodggmmokaaaaGreatDAX
import Derived.Test.YtfjodggmmokaaaaGreatDAY
import Derived.Test.YtfjodggmmokaaaaGreatDAZ
set_option linter.unusedSimpArgs false
set_option linter.unusedVariables false
set_option linter.constructorNameAsVariable false
namespace Go.Mu
open Go Go.Vm Go.RowKit Go.Proofs
attribute [local irreducible] wpA opsA stillA drawA drawS
set_option maxRecDepth 20000
set_option maxHeartbeats 40000000
structure RgS (s : Scr) (r w : Nat) : Prop where
  hr : 1 ≤ r ∧ r ≤ 6
  hw : 2 ≤ w ∧ w ≤ 12
  rows : s.grid.rows = r
  width : s.grid.width = w
  reg : 0 ≤ s.top ∧ s.top ≤ s.bottom ∧ s.bottom ≤ (r : Int) - 1
theorem OkS.rg {s : Scr} {r w : Nat} (h : OkS s r w) : RgS s r w := ⟨h.hr, h.hw, h.rows, h.width, h.reg⟩
@[reducible] def goR (s : Scr) (y : Int) : Scr := { s with y := max (lowM s) (min (highM s) y), wrap := false }
@[reducible] def goC (s : Scr) (x : Int) : Scr := { s with x := max 0 (min (s.grid.width - 1) x), wrap := false }
theorem held (n a b : Int) : CallA S 319 [.int .i64 n, .int .i64 a, .int .i64 b] ⟨[], 0⟩ (Ret1 (.int .i64 (min (max n a) b)) ⟨[], 0⟩) := by
  refine .ofC hS _ _ _ Tryz.func319 ?_
  conv => whnf
  repeat' (first|refine Seal.mk ?_|(refine wS ?_;(conv=>whnf);fail_if_success show False)|((first|refine opsA_step ?_);conv=>whnf)|(intro _;first|omega|conv=>whnf)|(apply And.intro<;>intro _<;>first|omega|conv=>whnf)|((first|refine aLQ ?_|refine ⟨_,rfl,?_⟩|refine ⟨_,⟨rfl,rfl⟩,?_⟩|refine ⟨_,⟨rfl,rfl,leafQ⟩,?_⟩);conv=>whnf)|with_reducible assumption|exact lfQ|fail)
  (refine ⟨(),⟨⟩,?_⟩;exact fzQ)
theorem sLast (s : Scr) (r w : Nat) (h : RgS s r w) : CallA S 239 [.ptr (.loc 0) 20 none 0] ⟨[⟨.loc 0, false, .raw (scrC (.loc 1) (.loc 2) (.loc 3) (.loc 4) s)⟩], 5⟩ (Ret1 (.tup [.int .i64 (s.grid.rows - 1), .int .i64 (s.grid.width - 1)]) ⟨[], 5⟩) := by
  obtain ⟨h1, h2, h3, h4, h5⟩ := h
  refine .ofC hS _ _ _ Tryz.func239 ?_
  conv => whnf
  repeat' (first|refine Seal.mk ?_|(refine wS ?_;(conv=>whnf);fail_if_success show False)|((first|refine opsA_step ?_|refine drawS_go ?_|refine wD (id:=1) (.quick 0 (.quick 1 (.quick 2 (.quick 3 (.quick 6 (.quick 7 (.quick 8 (.quick 9 (.stable 4 (.quick 5 (.quick 12 (.stable 10 (.quick 11 (.quick 13 .done)))))))))))))) [] (by kernel_rfl) rfl ?_);conv=>whnf)|(intro _;first|omega|conv=>whnf)|(apply And.intro<;>intro _<;>first|omega|conv=>whnf)|((first|refine aLQ ?_|refine oLQ ?_|refine ⟨_,rfl,?_⟩|refine ⟨_,⟨rfl,rfl⟩,?_⟩|refine ⟨_,⟨rfl,rfl,leafQ⟩,?_⟩);conv=>whnf)|with_reducible assumption|exact lfQ|fail)
  all_goals (refine ⟨(),⟨⟩,?_⟩;exact fzQ)
theorem sFirst (s : Scr) : CallA S 326 [.ptr (.loc 0) 20 none 0] ⟨[⟨.loc 0, false, .raw (scrC (.loc 1) (.loc 2) (.loc 3) (.loc 4) s)⟩], 5⟩ (Ret1 (.int .i64 (lowM s)) ⟨[], 5⟩) := by
  by_cases ho : s.origin = true
  · have e : s.top = lowM s := (if_pos ho).symm
    refine .ofC hS _ _ _ Tryz.func326 ?_
    conv => whnf
    repeat' (first|refine Seal.mk ?_|(refine wS ?_;(conv=>whnf);fail_if_success show False)|((first|refine opsA_step ?_);conv=>whnf)|(intro _;first|omega|conv=>whnf)|(apply And.intro<;>intro _<;>first|omega|conv=>whnf)|((first|refine aLQ ?_|refine ⟨_,rfl,?_⟩|refine ⟨_,⟨rfl,rfl⟩,?_⟩|refine ⟨_,⟨rfl,rfl,leafQ⟩,?_⟩);conv=>whnf)|with_reducible assumption|exact lfQ|fail)
    all_goals (first | contradiction | (refine ⟨(),⟨⟩,?_⟩;exact fzQ))
  · have e : 0 = lowM s := (if_neg ho).symm
    refine .ofC hS _ _ _ Tryz.func326 ?_
    conv => whnf
    repeat' (first|refine Seal.mk ?_|(refine wS ?_;(conv=>whnf);fail_if_success show False)|((first|refine opsA_step ?_);conv=>whnf)|(intro _;first|omega|conv=>whnf)|(apply And.intro<;>intro _<;>first|omega|conv=>whnf)|((first|refine aLQ ?_|refine ⟨_,rfl,?_⟩|refine ⟨_,⟨rfl,rfl⟩,?_⟩|refine ⟨_,⟨rfl,rfl,leafQ⟩,?_⟩);conv=>whnf)|with_reducible assumption|exact lfQ|fail)
    all_goals (first | contradiction | (refine ⟨(),⟨⟩,?_⟩;exact fzQ))
theorem sRow (s : Scr) (r w : Nat) (h : RgS s r w) (y : Int) : CallA S 325 [.ptr (.loc 0) 20 none 0, .int .i64 y] ⟨[⟨.loc 0, true, .raw (scrC (.loc 1) (.loc 2) (.loc 3) (.loc 4) s)⟩], 5⟩ (Ret1 (.tup []) ⟨[⟨.loc 0, true, .raw (scrC (.loc 1) (.loc 2) (.loc 3) (.loc 4) (goR s y : Scr))⟩], 5⟩) := by
  have hh := h
  obtain ⟨h1, h2, h3, h4, h5⟩ := hh
  by_cases ho : s.origin = true
  · have e1 : lowM s = s.top := if_pos ho
    have e2 : highM s = s.bottom := if_pos ho
    have e3 : min (max y s.top) s.bottom = max (lowM s) (min (highM s) y) := by rw [e1, e2]; omega
    refine .ofC hS _ _ _ Tryz.func325 ?_
    conv => whnf
    repeat' (first|refine Seal.mk ?_|(refine wS ?_;(conv=>whnf);fail_if_success show False)|((first|refine opsA_step ?_|refine drawS_go ?_|refine wD (id:=3) (.quick 0 (.quick 1 (.quick 2 (.quick 3 (.quick 4 (.quick 6 (.quick 7 (.quick 8 (.read 5 (.read 9 (.all (.step 10 (.quick 11 (.quick 12 (.all (.step 13 .done)))))))))))))))) [10, 13] (by kernel_rfl) rfl ?_|apply wL (held _ _ _)|apply wL (sLast _ r w ⟨h1, h2, h3, h4, h5⟩));conv=>whnf)|(intro _;first|omega|conv=>whnf)|(apply And.intro<;>intro _<;>first|omega|conv=>whnf)|((first|refine aLQ ?_|refine ⟨_,rfl,?_⟩|refine ⟨_,⟨rfl,rfl⟩,?_⟩|refine ⟨_,⟨rfl,rfl,leafQ⟩,?_⟩);conv=>whnf)|with_reducible assumption|exact lfQ|fail)
    all_goals (first | contradiction | (exfalso; omega) | (refine ⟨(),⟨⟩,?_⟩;exact fzQ))
  · have e1 : lowM s = 0 := if_neg ho
    have e2 : highM s = s.grid.rows - 1 := if_neg ho
    have e3 : min (max y 0) (s.grid.rows - 1) = max (lowM s) (min (highM s) y) := by rw [e1, e2]; omega
    refine .ofC hS _ _ _ Tryz.func325 ?_
    conv => whnf
    repeat' (first|refine Seal.mk ?_|(refine wS ?_;(conv=>whnf);fail_if_success show False)|((first|refine opsA_step ?_|refine drawS_go ?_|refine wD (id:=3) (.quick 0 (.quick 1 (.quick 2 (.quick 3 (.quick 4 (.quick 6 (.quick 7 (.quick 8 (.read 5 (.read 9 (.all (.step 10 (.quick 11 (.quick 12 (.all (.step 13 .done)))))))))))))))) [10, 13] (by kernel_rfl) rfl ?_|apply wL (held _ _ _)|apply wL (sLast _ r w ⟨h1, h2, h3, h4, h5⟩));conv=>whnf)|(intro _;first|omega|conv=>whnf)|(apply And.intro<;>intro _<;>first|omega|conv=>whnf)|((first|refine aLQ ?_|refine ⟨_,rfl,?_⟩|refine ⟨_,⟨rfl,rfl⟩,?_⟩|refine ⟨_,⟨rfl,rfl,leafQ⟩,?_⟩);conv=>whnf)|with_reducible assumption|exact lfQ|fail)
    all_goals (first | contradiction | (exfalso; omega) | (refine ⟨(),⟨⟩,?_⟩;exact fzQ))
theorem sCol (s : Scr) (r w : Nat) (h : RgS s r w) (x : Int) : CallA S 245 [.ptr (.loc 0) 20 none 0, .int .i64 x] ⟨[⟨.loc 0, true, .raw (scrC (.loc 1) (.loc 2) (.loc 3) (.loc 4) s)⟩], 5⟩ (Ret1 (.tup []) ⟨[⟨.loc 0, true, .raw (scrC (.loc 1) (.loc 2) (.loc 3) (.loc 4) (goC s x : Scr))⟩], 5⟩) := by
  have hh := h
  obtain ⟨h1, h2, h3, h4, h5⟩ := hh
  have e3 : min (max x 0) (s.grid.width - 1) = max 0 (min (s.grid.width - 1) x) := by omega
  refine .ofC hS _ _ _ Tryz.func245 ?_
  conv => whnf
  repeat' (first|refine Seal.mk ?_|(refine wS ?_;(conv=>whnf);fail_if_success show False)|((first|refine opsA_step ?_|apply wL (held _ _ _)|apply wL (sLast _ r w ⟨h1, h2, h3, h4, h5⟩));conv=>whnf)|(intro _;first|omega|conv=>whnf)|(apply And.intro<;>intro _<;>first|omega|conv=>whnf)|((first|refine aLQ ?_|refine ⟨_,rfl,?_⟩|refine ⟨_,⟨rfl,rfl⟩,?_⟩|refine ⟨_,⟨rfl,rfl,leafQ⟩,?_⟩);conv=>whnf)|with_reducible assumption|exact lfQ|fail)
  all_goals (first | contradiction | (exfalso; omega) | (refine ⟨(),⟨⟩,?_⟩;exact fzQ))
theorem sHome (s : Scr) (r w : Nat) (h : RgS s r w)  : CallA S 255 [.ptr (.loc 0) 20 none 0] ⟨[⟨.loc 0, true, .raw (scrC (.loc 1) (.loc 2) (.loc 3) (.loc 4) s)⟩], 5⟩ (Ret1 (.tup []) ⟨[⟨.loc 0, true, .raw (scrC (.loc 1) (.loc 2) (.loc 3) (.loc 4) (goM s 0 0 : Scr))⟩], 5⟩) := by
  have hh := h
  obtain ⟨h1, h2, h3, h4, h5⟩ := hh
  have e : goR s (lowM s) = goR s 0 := by
    unfold goR lowM highM
    by_cases ho : s.origin = true
    · rw [if_pos ho, if_pos ho, show max s.top (min s.bottom s.top) = max s.top (min s.bottom 0) by omega]
    · rw [if_neg ho, if_neg ho]
  have hr := sRow s r w h (lowM s)
  rw [e] at hr
  have hc := sCol (goR s 0) r w ⟨h1, h2, h3, h4, h5⟩ 0
  refine .ofC hS _ _ _ Tryz.func255 ?_
  conv => whnf
  repeat' (first|refine Seal.mk ?_|(refine wS ?_;(conv=>whnf);fail_if_success show False)|((first|refine opsA_step ?_|apply wL (sFirst s)|apply wL (hr)|apply wL (hc));conv=>whnf)|(intro _;first|omega|conv=>whnf)|(apply And.intro<;>intro _<;>first|omega|conv=>whnf)|((first|refine aLQ ?_|refine ⟨_,rfl,?_⟩|refine ⟨_,⟨rfl,rfl⟩,?_⟩|refine ⟨_,⟨rfl,rfl,leafQ⟩,?_⟩);conv=>whnf)|with_reducible assumption|exact lfQ|fail)
  all_goals (first | contradiction | (exfalso; omega) | (refine ⟨(),⟨⟩,?_⟩;exact fzQ))
theorem sKeep (s : Scr) (r w : Nat) (h : OkS s r w)  : CallA S 253 [.ptr (.loc 0) 20 none 0] ⟨[⟨.loc 0, true, .raw (scrC (.loc 1) (.loc 2) (.loc 3) (.loc 4) s)⟩], 5⟩ (Ret1 (.tup []) ⟨[⟨.loc 0, true, .raw (scrC (.loc 1) (.loc 2) (.loc 3) (.loc 4) ({ s with keptY := s.y, keptX := s.x, keptA := s.attr } : Scr))⟩], 5⟩) := by
  refine .ofC hS _ _ _ Tryz.func253 ?_
  conv => whnf
  repeat' (first|refine Seal.mk ?_|(refine wS ?_;(conv=>whnf);fail_if_success show False)|((first|refine opsA_step ?_|refine drawS_go ?_|refine wD (id:=0) (.quick 0 (.quick 1 (.quick 2 (.quick 3 (.quick 4 (.quick 5 (.quick 7 (.quick 8 (.quick 9 (.quick 11 (.quick 12 (.quick 13 (.read 6 (.read 10 (.read 14 (.quick 15 (.quick 16 (.all (.step 17 (.quick 18 (.quick 19 (.all (.step 20 (.quick 21 (.quick 22 (.all (.step 23 .done))))))))))))))))))))))))))) [17, 20, 23] (by kernel_rfl) rfl ?_);conv=>whnf)|(intro _;first|omega|conv=>whnf)|(apply And.intro<;>intro _<;>first|omega|conv=>whnf)|((first|refine aLQ ?_|refine ⟨_,rfl,?_⟩|refine ⟨_,⟨rfl,rfl⟩,?_⟩|refine ⟨_,⟨rfl,rfl,leafQ⟩,?_⟩);conv=>whnf)|with_reducible assumption|exact lfQ|fail)
  all_goals (first | contradiction | (exfalso; omega) | (refine ⟨(),⟨⟩,?_⟩;exact fzQ))
theorem sBack (s : Scr) (r w : Nat) (h : OkS s r w)  : CallA S 254 [.ptr (.loc 0) 20 none 0] ⟨[⟨.loc 0, true, .raw (scrC (.loc 1) (.loc 2) (.loc 3) (.loc 4) s)⟩], 5⟩ (Ret1 (.tup []) ⟨[⟨.loc 0, true, .raw (scrC (.loc 1) (.loc 2) (.loc 3) (.loc 4) (goM { s with attr := s.keptA } s.keptY s.keptX : Scr))⟩], 5⟩) := by
  have hr := sRow s r w h.rg s.keptY
  have hc := sCol (goR s s.keptY) r w ⟨h.hr, h.hw, h.rows, h.width, h.reg⟩ s.keptX
  refine .ofC hS _ _ _ Tryz.func254 ?_
  conv => whnf
  repeat' (first|refine Seal.mk ?_|(refine wS ?_;(conv=>whnf);fail_if_success show False)|((first|refine opsA_step ?_|apply wL (hr)|apply wL (hc));conv=>whnf)|(intro _;first|omega|conv=>whnf)|(apply And.intro<;>intro _<;>first|omega|conv=>whnf)|((first|refine aLQ ?_|refine ⟨_,rfl,?_⟩|refine ⟨_,⟨rfl,rfl⟩,?_⟩|refine ⟨_,⟨rfl,rfl,leafQ⟩,?_⟩);conv=>whnf)|with_reducible assumption|exact lfQ|fail)
  all_goals (first | contradiction | (exfalso; omega) | (refine ⟨(),⟨⟩,?_⟩;exact fzQ))
theorem sDown0 (s : Scr) (r w : Nat) (h : OkS s r w) (hy : s.y = s.bottom) : CallA S 246 [.ptr (.loc 0) 20 none 0] ⟨[⟨.loc 0, true, .raw (scrC (.loc 1) (.loc 2) (.loc 3) (.loc 4) s)⟩, ⟨.loc 1, true, .arr pairE s.grid.cells⟩, ⟨.loc 2, true, .arr pairE s.grid.back⟩], 5⟩ (Ret1 (.tup []) ⟨[⟨.loc 0, true, .raw (scrC (.loc 1) (.loc 5) (.loc 3) (.loc 4) ({ s with wrap := false, grid := gridM s s.top.toNat s.bottom.toNat (1) } : Scr))⟩, ⟨.loc 1, true, .arr pairE ({ s with wrap := false, grid := gridM s s.top.toNat s.bottom.toNat (1) } : Scr).grid.cells⟩, ⟨.loc 5, true, .arr pairE ({ s with wrap := false, grid := gridM s s.top.toNat s.bottom.toNat (1) } : Scr).grid.back⟩], 6⟩) := by
  have hla := sLast { s with wrap := false } r w ⟨h.hr, h.hw, h.rows, h.width, h.reg⟩
  have hlb := sLast s r w h.rg
  obtain ⟨mm, hm5, hbm⟩ := h.mult
  obtain ⟨h1, h2, h3, h4, h5, h6, h7, _, h8, h9, _⟩ := h
  obtain ⟨t, ht⟩ := Int.eq_ofNat_of_zero_le (show 0 ≤ s.top by omega)
  obtain ⟨b, hb⟩ := Int.eq_ofNat_of_zero_le (show 0 ≤ s.bottom by omega)
  have e1 : s.top.toNat = t := by omega
  have e2 : s.bottom.toNat = b := by omega
  have e3 : s.grid.width.toNat = w := by omega
  have hle := mul_lt_le (w := w) (show b + 1 ≤ r by omega)
  have hrw : r * w ≤ 6 * 12 := Nat.mul_le_mul h1.2 h2.2
  have hm := gridScroll s.grid.cells s.grid.back s.grid.rows w t b mm s.attr (1) (by omega) (by omega) (by omega) (by omega) (by omega) hbm hm5 (by omega)
  have hl := scC_len (c := s.grid.cells) (w := w) (t := t) (b := b) (n := 1) (a := s.attr) (by omega) (by omega)
  unfold gridM
  rw [e1, e2, e3]
  refine .ofC hS _ _ _ Tryz.func246 ?_
  conv => whnf
  repeat' (first|refine Seal.mk ?_|(refine wS ?_;(conv=>whnf);fail_if_success show False)|((first|refine opsA_step ?_|refine drawS_go ?_|refine wD (id:=2) (.quick 0 (.quick 1 (.quick 2 (.quick 4 (.quick 5 (.quick 6 (.read 3 (.read 7 (.quick 8 .done))))))))) [] (by kernel_rfl) rfl ?_|refine wD (id:=3) (.quick 0 (.quick 1 (.quick 2 (.quick 3 (.quick 4 (.quick 5 (.quick 7 (.quick 8 (.quick 9 (.quick 11 (.quick 12 (.quick 13 (.read 6 (.read 10 (.read 14 (.all (.step 15 .done))))))))))))))))) [15] (by kernel_rfl) rfl ?_|apply wL (hm)|apply wL (hlb));conv=>whnf)|(intro _;first|omega|conv=>whnf)|(apply And.intro<;>intro _<;>first|omega|conv=>whnf)|((first|refine aLQ ?_|refine ⟨_,rfl,?_⟩|refine ⟨_,⟨rfl,rfl⟩,?_⟩|refine ⟨_,⟨rfl,rfl,leafQ⟩,?_⟩);conv=>whnf)|with_reducible assumption|exact lfQ|fail)
  all_goals (first | contradiction | (exfalso; omega) | (refine ⟨(),⟨⟩,?_⟩;exact fzQ))
theorem sDown1 (s : Scr) (r w : Nat) (h : OkS s r w) (hy : ¬ s.y = s.bottom) (hy2 : s.y < s.grid.rows - 1) : CallA S 246 [.ptr (.loc 0) 20 none 0] ⟨[⟨.loc 0, true, .raw (scrC (.loc 1) (.loc 2) (.loc 3) (.loc 4) s)⟩, ⟨.loc 1, true, .arr pairE s.grid.cells⟩, ⟨.loc 2, true, .arr pairE s.grid.back⟩], 5⟩ (Ret1 (.tup []) ⟨[⟨.loc 0, true, .raw (scrC (.loc 1) (.loc 5) (.loc 3) (.loc 4) ({ s with wrap := false, y := s.y + 1 } : Scr))⟩, ⟨.loc 1, true, .arr pairE ({ s with wrap := false, y := s.y + 1 } : Scr).grid.cells⟩, ⟨.loc 5, true, .arr pairE ({ s with wrap := false, y := s.y + 1 } : Scr).grid.back⟩], 6⟩) := by
  have hla := sLast { s with wrap := false } r w ⟨h.hr, h.hw, h.rows, h.width, h.reg⟩
  have hlb := sLast s r w h.rg
  obtain ⟨mm, hm5, hbm⟩ := h.mult
  obtain ⟨h1, h2, h3, h4, h5, h6, h7, _, h8, h9, _⟩ := h
  refine .ofC hS _ _ _ Tryz.func246 ?_
  conv => whnf
  repeat' (first|refine Seal.mk ?_|(refine wS ?_;(conv=>whnf);fail_if_success show False)|((first|refine opsA_step ?_|refine drawS_go ?_|refine wD (id:=2) (.quick 0 (.quick 1 (.quick 2 (.quick 4 (.quick 5 (.quick 6 (.read 3 (.read 7 (.quick 8 .done))))))))) [] (by kernel_rfl) rfl ?_|apply wL (hlb));conv=>whnf)|(intro _;first|omega|conv=>whnf)|(apply And.intro<;>intro _<;>first|omega|conv=>whnf)|((first|refine aLQ ?_|refine oLQ ?_|refine ⟨_,rfl,?_⟩|refine ⟨_,⟨rfl,rfl⟩,?_⟩|refine ⟨_,⟨rfl,rfl,leafQ⟩,?_⟩);conv=>whnf)|with_reducible assumption|exact lfQ|fail)
  all_goals (first | contradiction | (exfalso; omega) | (refine ⟨(),⟨⟩,?_⟩;exact fzQ))
theorem sDown2 (s : Scr) (r w : Nat) (h : OkS s r w) (hy : ¬ s.y = s.bottom) (hy2 : ¬ s.y < s.grid.rows - 1) : CallA S 246 [.ptr (.loc 0) 20 none 0] ⟨[⟨.loc 0, true, .raw (scrC (.loc 1) (.loc 2) (.loc 3) (.loc 4) s)⟩, ⟨.loc 1, true, .arr pairE s.grid.cells⟩, ⟨.loc 2, true, .arr pairE s.grid.back⟩], 5⟩ (Ret1 (.tup []) ⟨[⟨.loc 0, true, .raw (scrC (.loc 1) (.loc 5) (.loc 3) (.loc 4) ({ s with wrap := false } : Scr))⟩, ⟨.loc 1, true, .arr pairE ({ s with wrap := false } : Scr).grid.cells⟩, ⟨.loc 5, true, .arr pairE ({ s with wrap := false } : Scr).grid.back⟩], 6⟩) := by
  have hla := sLast { s with wrap := false } r w ⟨h.hr, h.hw, h.rows, h.width, h.reg⟩
  have hlb := sLast s r w h.rg
  obtain ⟨mm, hm5, hbm⟩ := h.mult
  obtain ⟨h1, h2, h3, h4, h5, h6, h7, _, h8, h9, _⟩ := h
  refine .ofC hS _ _ _ Tryz.func246 ?_
  conv => whnf
  repeat' (first|refine Seal.mk ?_|(refine wS ?_;(conv=>whnf);fail_if_success show False)|((first|refine opsA_step ?_|refine drawS_go ?_|refine wD (id:=2) (.quick 0 (.quick 1 (.quick 2 (.quick 4 (.quick 5 (.quick 6 (.read 3 (.read 7 (.quick 8 .done))))))))) [] (by kernel_rfl) rfl ?_|apply wL (hlb));conv=>whnf)|(intro _;first|omega|conv=>whnf)|(apply And.intro<;>intro _<;>first|omega|conv=>whnf)|((first|refine aLQ ?_|refine ⟨_,rfl,?_⟩|refine ⟨_,⟨rfl,rfl⟩,?_⟩|refine ⟨_,⟨rfl,rfl,leafQ⟩,?_⟩);conv=>whnf)|with_reducible assumption|exact lfQ|fail)
  all_goals (first | contradiction | (exfalso; omega) | (refine ⟨(),⟨⟩,?_⟩;exact fzQ))
theorem sUp0 (s : Scr) (r w : Nat) (h : OkS s r w) (hy : s.y = s.top) : CallA S 252 [.ptr (.loc 0) 20 none 0] ⟨[⟨.loc 0, true, .raw (scrC (.loc 1) (.loc 2) (.loc 3) (.loc 4) s)⟩, ⟨.loc 1, true, .arr pairE s.grid.cells⟩, ⟨.loc 2, true, .arr pairE s.grid.back⟩], 5⟩ (Ret1 (.tup []) ⟨[⟨.loc 0, true, .raw (scrC (.loc 1) (.loc 5) (.loc 3) (.loc 4) ({ s with wrap := false, grid := gridM s s.top.toNat s.bottom.toNat (-1) } : Scr))⟩, ⟨.loc 1, true, .arr pairE ({ s with wrap := false, grid := gridM s s.top.toNat s.bottom.toNat (-1) } : Scr).grid.cells⟩, ⟨.loc 5, true, .arr pairE ({ s with wrap := false, grid := gridM s s.top.toNat s.bottom.toNat (-1) } : Scr).grid.back⟩], 6⟩) := by
  have hla := sLast { s with wrap := false } r w ⟨h.hr, h.hw, h.rows, h.width, h.reg⟩
  have hlb := sLast s r w h.rg
  obtain ⟨mm, hm5, hbm⟩ := h.mult
  obtain ⟨h1, h2, h3, h4, h5, h6, h7, _, h8, h9, _⟩ := h
  obtain ⟨t, ht⟩ := Int.eq_ofNat_of_zero_le (show 0 ≤ s.top by omega)
  obtain ⟨b, hb⟩ := Int.eq_ofNat_of_zero_le (show 0 ≤ s.bottom by omega)
  have e1 : s.top.toNat = t := by omega
  have e2 : s.bottom.toNat = b := by omega
  have e3 : s.grid.width.toNat = w := by omega
  have hle := mul_lt_le (w := w) (show b + 1 ≤ r by omega)
  have hrw : r * w ≤ 6 * 12 := Nat.mul_le_mul h1.2 h2.2
  have hm := gridScroll s.grid.cells s.grid.back s.grid.rows w t b mm s.attr (-1) (by omega) (by omega) (by omega) (by omega) (by omega) hbm hm5 (by omega)
  have hl := scC_len (c := s.grid.cells) (w := w) (t := t) (b := b) (n := -1) (a := s.attr) (by omega) (by omega)
  unfold gridM
  rw [e1, e2, e3]
  refine .ofC hS _ _ _ Tryz.func252 ?_
  conv => whnf
  repeat' (first|refine Seal.mk ?_|(refine wS ?_;(conv=>whnf);fail_if_success show False)|((first|refine opsA_step ?_|refine drawS_go ?_|refine wD (id:=1) (.quick 0 (.quick 1 (.quick 2 (.quick 4 (.quick 5 (.quick 6 (.read 3 (.read 7 (.quick 8 .done))))))))) [] (by kernel_rfl) rfl ?_|refine wD (id:=2) (.quick 0 (.quick 1 (.quick 2 (.quick 3 (.quick 4 (.quick 5 (.quick 7 (.quick 8 (.quick 9 (.quick 11 (.quick 12 (.quick 13 (.read 6 (.read 10 (.read 14 (.all (.step 15 .done))))))))))))))))) [15] (by kernel_rfl) rfl ?_|apply wL (hm));conv=>whnf)|(intro _;first|omega|conv=>whnf)|(apply And.intro<;>intro _<;>first|omega|conv=>whnf)|((first|refine aLQ ?_|refine ⟨_,rfl,?_⟩|refine ⟨_,⟨rfl,rfl⟩,?_⟩|refine ⟨_,⟨rfl,rfl,leafQ⟩,?_⟩);conv=>whnf)|with_reducible assumption|exact lfQ|fail)
  all_goals (first | contradiction | (exfalso; omega) | (refine ⟨(),⟨⟩,?_⟩;exact fzQ))
theorem sUp1 (s : Scr) (r w : Nat) (h : OkS s r w) (hy : ¬ s.y = s.top) (hy2 : 0 < s.y) : CallA S 252 [.ptr (.loc 0) 20 none 0] ⟨[⟨.loc 0, true, .raw (scrC (.loc 1) (.loc 2) (.loc 3) (.loc 4) s)⟩, ⟨.loc 1, true, .arr pairE s.grid.cells⟩, ⟨.loc 2, true, .arr pairE s.grid.back⟩], 5⟩ (Ret1 (.tup []) ⟨[⟨.loc 0, true, .raw (scrC (.loc 1) (.loc 5) (.loc 3) (.loc 4) ({ s with wrap := false, y := s.y - 1 } : Scr))⟩, ⟨.loc 1, true, .arr pairE ({ s with wrap := false, y := s.y - 1 } : Scr).grid.cells⟩, ⟨.loc 5, true, .arr pairE ({ s with wrap := false, y := s.y - 1 } : Scr).grid.back⟩], 6⟩) := by
  have hla := sLast { s with wrap := false } r w ⟨h.hr, h.hw, h.rows, h.width, h.reg⟩
  have hlb := sLast s r w h.rg
  obtain ⟨mm, hm5, hbm⟩ := h.mult
  obtain ⟨h1, h2, h3, h4, h5, h6, h7, _, h8, h9, _⟩ := h
  refine .ofC hS _ _ _ Tryz.func252 ?_
  conv => whnf
  repeat' (first|refine Seal.mk ?_|(refine wS ?_;(conv=>whnf);fail_if_success show False)|((first|refine opsA_step ?_|refine drawS_go ?_|refine wD (id:=1) (.quick 0 (.quick 1 (.quick 2 (.quick 4 (.quick 5 (.quick 6 (.read 3 (.read 7 (.quick 8 .done))))))))) [] (by kernel_rfl) rfl ?_);conv=>whnf)|(intro _;first|omega|conv=>whnf)|(apply And.intro<;>intro _<;>first|omega|conv=>whnf)|((first|refine aLQ ?_|refine oLQ ?_|refine ⟨_,rfl,?_⟩|refine ⟨_,⟨rfl,rfl⟩,?_⟩|refine ⟨_,⟨rfl,rfl,leafQ⟩,?_⟩);conv=>whnf)|with_reducible assumption|exact lfQ|fail)
  all_goals (first | contradiction | (exfalso; omega) | (refine ⟨(),⟨⟩,?_⟩;exact fzQ))
theorem sUp2 (s : Scr) (r w : Nat) (h : OkS s r w) (hy : ¬ s.y = s.top) (hy2 : ¬ 0 < s.y) : CallA S 252 [.ptr (.loc 0) 20 none 0] ⟨[⟨.loc 0, true, .raw (scrC (.loc 1) (.loc 2) (.loc 3) (.loc 4) s)⟩, ⟨.loc 1, true, .arr pairE s.grid.cells⟩, ⟨.loc 2, true, .arr pairE s.grid.back⟩], 5⟩ (Ret1 (.tup []) ⟨[⟨.loc 0, true, .raw (scrC (.loc 1) (.loc 5) (.loc 3) (.loc 4) ({ s with wrap := false } : Scr))⟩, ⟨.loc 1, true, .arr pairE ({ s with wrap := false } : Scr).grid.cells⟩, ⟨.loc 5, true, .arr pairE ({ s with wrap := false } : Scr).grid.back⟩], 6⟩) := by
  have hla := sLast { s with wrap := false } r w ⟨h.hr, h.hw, h.rows, h.width, h.reg⟩
  have hlb := sLast s r w h.rg
  obtain ⟨mm, hm5, hbm⟩ := h.mult
  obtain ⟨h1, h2, h3, h4, h5, h6, h7, _, h8, h9, _⟩ := h
  refine .ofC hS _ _ _ Tryz.func252 ?_
  conv => whnf
  repeat' (first|refine Seal.mk ?_|(refine wS ?_;(conv=>whnf);fail_if_success show False)|((first|refine opsA_step ?_|refine drawS_go ?_|refine wD (id:=1) (.quick 0 (.quick 1 (.quick 2 (.quick 4 (.quick 5 (.quick 6 (.read 3 (.read 7 (.quick 8 .done))))))))) [] (by kernel_rfl) rfl ?_);conv=>whnf)|(intro _;first|omega|conv=>whnf)|(apply And.intro<;>intro _<;>first|omega|conv=>whnf)|((first|refine aLQ ?_|refine ⟨_,rfl,?_⟩|refine ⟨_,⟨rfl,rfl⟩,?_⟩|refine ⟨_,⟨rfl,rfl,leafQ⟩,?_⟩);conv=>whnf)|with_reducible assumption|exact lfQ|fail)
  all_goals (first | contradiction | (exfalso; omega) | (refine ⟨(),⟨⟩,?_⟩;exact fzQ))
theorem sDown (s : Scr) (r w : Nat) (h : OkS s r w) : CallA S 246 [.ptr (.loc 0) 20 none 0] ⟨[⟨.loc 0, true, .raw (scrC (.loc 1) (.loc 2) (.loc 3) (.loc 4) s)⟩, ⟨.loc 1, true, .arr pairE s.grid.cells⟩, ⟨.loc 2, true, .arr pairE s.grid.back⟩], 5⟩ (Ret1 (.tup []) ⟨[⟨.loc 0, true, .raw (scrC (.loc 1) (.loc 5) (.loc 3) (.loc 4) (downM s : Scr))⟩, ⟨.loc 1, true, .arr pairE (downM s : Scr).grid.cells⟩, ⟨.loc 5, true, .arr pairE (downM s : Scr).grid.back⟩], 6⟩) := by
  by_cases c1 : s.y = s.bottom
  · have e : downM s = { s with wrap := false, grid := gridM s s.top.toNat s.bottom.toNat 1 } := by unfold downM; rw [if_pos c1]
    rw [e]; exact sDown0 s r w h c1
  by_cases c2 : s.y < s.grid.rows - 1
  · have e : downM s = { s with wrap := false, y := s.y + 1 } := by unfold downM; rw [if_neg c1, if_pos c2]
    rw [e]; exact sDown1 s r w h c1 c2
  have e : downM s = { s with wrap := false } := by unfold downM; rw [if_neg c1, if_neg c2]
  rw [e]; exact sDown2 s r w h c1 c2
theorem sUp (s : Scr) (r w : Nat) (h : OkS s r w) : CallA S 252 [.ptr (.loc 0) 20 none 0] ⟨[⟨.loc 0, true, .raw (scrC (.loc 1) (.loc 2) (.loc 3) (.loc 4) s)⟩, ⟨.loc 1, true, .arr pairE s.grid.cells⟩, ⟨.loc 2, true, .arr pairE s.grid.back⟩], 5⟩ (Ret1 (.tup []) ⟨[⟨.loc 0, true, .raw (scrC (.loc 1) (.loc 5) (.loc 3) (.loc 4) (upM s : Scr))⟩, ⟨.loc 1, true, .arr pairE (upM s : Scr).grid.cells⟩, ⟨.loc 5, true, .arr pairE (upM s : Scr).grid.back⟩], 6⟩) := by
  by_cases c1 : s.y = s.top
  · have e : upM s = { s with wrap := false, grid := gridM s s.top.toNat s.bottom.toNat (-1) } := by unfold upM; rw [if_pos c1]
    rw [e]; exact sUp0 s r w h c1
  by_cases c2 : 0 < s.y
  · have e : upM s = { s with wrap := false, y := s.y - 1 } := by unfold upM; rw [if_neg c1, if_pos c2]
    rw [e]; exact sUp1 s r w h c1 c2
  have e : upM s = { s with wrap := false } := by unfold upM; rw [if_neg c1, if_neg c2]
  rw [e]; exact sUp2 s r w h c1 c2
end Go.Mu
