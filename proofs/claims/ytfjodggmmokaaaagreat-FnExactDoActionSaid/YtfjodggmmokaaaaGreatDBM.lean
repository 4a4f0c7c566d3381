/- Screens, as the reference takes lines out at the very top; edits in one. -/
import Derived.Test.YtfjodggmmokaaaaGreatDAK
import Derived.Test.YtfjodggmmokaaaaGreatDBI
import Derived.Test.YtfjodggmmokaaaaGreatDBL
import Derived.Test.YtfjodggmmokaaaaGreatDBJ
set_option linter.unusedSimpArgs false
set_option linter.unusedVariables false
set_option linter.constructorNameAsVariable false
namespace Go.Mu
open Go Go.Vm Go.RowKit Go.Proofs
attribute [local irreducible] wpA opsA stillA drawA drawS
set_option maxRecDepth 20000
set_option maxHeartbeats 40000000
theorem l5LinesP (s : Scr) (r w : Nat) (h : OkS s r w) (n : Int) (hn : -99999 ≤ n ∧ n ≤ 99999) (hc : s.top ≤ s.y ∧ s.y ≤ s.bottom) (h0 : 0 < n) (hy0 : s.y = 0) : CallA S 314 [.ptr (.loc 0) 20 none 0, .int .i64 n] ⟨[⟨.loc 0, true, .raw (scrC (.loc 1) (.loc 2) (.loc 3) (.loc 4) s)⟩, ⟨.loc 1, true, .arr pairE s.grid.cells⟩, ⟨.loc 2, true, .arr pairE s.grid.back⟩], 5⟩ (Ret1 (.tup []) ⟨[⟨.loc 0, true, .raw (scrC (.loc 1) (.loc 2) (.loc 3) (.loc 4) (linesM s n : Scr))⟩, ⟨.loc 1, true, .arr pairE (linesM s n : Scr).grid.cells⟩, ⟨.loc 2, true, .arr pairE s.grid.back⟩], 5⟩) := by
  have e : linesM s n = { s with grid := { s.grid with cells := scC s.grid.cells s.grid.width.toNat s.y.toNat s.bottom.toNat n s.attr } } := by unfold linesM; rw [if_pos hc]
  rw [e]
  have hz := h.sz
  have hh := h
  obtain ⟨h1, h2, h3, h4, h5, h6, h7, h8, h9, h10, h11, h12, h13, h14, h15, _⟩ := hh
  obtain ⟨y, hy⟩ := Int.eq_ofNat_of_zero_le (show 0 ≤ s.y by omega)
  obtain ⟨b, hb⟩ := Int.eq_ofNat_of_zero_le (show 0 ≤ s.bottom by omega)
  have e1 : s.y.toNat = y := by omega
  have e2 : s.bottom.toNat = b := by omega
  have e3 : s.grid.width.toNat = w := by omega
  have hle := mul_lt_le (w := w) (show b + 1 ≤ r by omega)
  have hrw : r * w ≤ 6 * 12 := Nat.mul_le_mul h1.2 h2.2
  have hm := l3ManyP s.grid.cells s.grid.back s.grid.rows w y b s.attr (by omega) (by omega) (by omega) (by omega) (by omega) (by omega) n h0 (by omega) (by omega) _ rfl
  have hl := scC_len (c := s.grid.cells) (w := w) (t := y) (b := b) (n := n) (a := s.attr) (by omega) (by omega)
  rw [e1, e2, e3]
  have hsc : scC s.grid.cells w y b n s.attr = upK s.grid.cells w y b (min n.toNat (b + 1 - y)) s.attr := if_pos h0
  rw [← hsc] at hm
  refine .ofC hS _ _ _ Tryz.func314 ?_
  conv => whnf
  repeat' (first|refine Seal.mk ?_|(refine wS ?_;(conv=>whnf);fail_if_success show False)|((first|refine opsA_step ?_|refine drawS_go ?_|refine wD (id:=0) (.quick 0 (.quick 1 (.quick 2 (.quick 4 (.quick 5 (.quick 6 (.quick 8 (.quick 9 (.quick 10 (.read 3 (.read 7 (.read 11 (.all (.step 12 (.quick 13 .done))))))))))))))) [12] (by kernel_rfl) rfl ?_|refine wD (id:=2) (.quick 0 (.quick 1 (.quick 2 (.quick 3 (.quick 4 (.quick 5 (.quick 7 (.quick 8 (.quick 9 (.quick 11 (.quick 12 (.quick 13 (.quick 14 (.read 6 (.read 10 (.read 15 (.all (.step 16 .done)))))))))))))))))) [16] (by kernel_rfl) rfl ?_|apply wL (l1In _ _ _)|apply wL (hm));conv=>whnf)|(intro _;first|omega|conv=>whnf)|(apply And.intro<;>intro _<;>first|omega|conv=>whnf)|((first|refine aLQ ?_|refine ⟨_,rfl,?_⟩|refine ⟨_,⟨rfl,rfl⟩,?_⟩|refine ⟨_,⟨rfl,rfl,leafQ⟩,?_⟩);conv=>whnf)|with_reducible assumption|exact lfQ|fail)
  all_goals (try contradiction)
  all_goals (try (exfalso; omega))
  all_goals
    rename_i g hg
    rcases g with z1 | ⟨z1, y1⟩
    · obtain ⟨⟨x1, hx1⟩, hq⟩ := hg
      conv => whnf
      repeat' (first|refine Seal.mk ?_|(refine wS ?_;(conv=>whnf);fail_if_success show False)|((first|refine opsA_step ?_|refine drawS_go ?_|refine wD (id:=0) (.quick 0 (.quick 1 (.quick 2 (.quick 4 (.quick 5 (.quick 6 (.quick 8 (.quick 9 (.quick 10 (.read 3 (.read 7 (.read 11 (.all (.step 12 (.quick 13 .done))))))))))))))) [12] (by kernel_rfl) rfl ?_|refine wD (id:=2) (.quick 0 (.quick 1 (.quick 2 (.quick 3 (.quick 4 (.quick 5 (.quick 7 (.quick 8 (.quick 9 (.quick 11 (.quick 12 (.quick 13 (.quick 14 (.read 6 (.read 10 (.read 15 (.all (.step 16 .done)))))))))))))))))) [16] (by kernel_rfl) rfl ?_);conv=>whnf)|(intro _;first|omega|conv=>whnf)|(apply And.intro<;>intro _<;>first|omega|conv=>whnf)|((first|refine aLQ ?_|refine ⟨_,rfl,?_⟩|refine ⟨_,⟨rfl,rfl⟩,?_⟩|refine ⟨_,⟨rfl,rfl,leafQ⟩,?_⟩);conv=>whnf)|with_reducible assumption|exact lfQ|fail)
      all_goals (refine ⟨(),⟨⟩,?_⟩;exact fzQ)
    · obtain ⟨⟨x1, hx1⟩, hq, hq'⟩ := hg
      conv => whnf
      repeat' (first|refine Seal.mk ?_|(refine wS ?_;(conv=>whnf);fail_if_success show False)|((first|refine opsA_step ?_|refine drawS_go ?_|refine wD (id:=0) (.quick 0 (.quick 1 (.quick 2 (.quick 4 (.quick 5 (.quick 6 (.quick 8 (.quick 9 (.quick 10 (.read 3 (.read 7 (.read 11 (.all (.step 12 (.quick 13 .done))))))))))))))) [12] (by kernel_rfl) rfl ?_|refine wD (id:=2) (.quick 0 (.quick 1 (.quick 2 (.quick 3 (.quick 4 (.quick 5 (.quick 7 (.quick 8 (.quick 9 (.quick 11 (.quick 12 (.quick 13 (.quick 14 (.read 6 (.read 10 (.read 15 (.all (.step 16 .done)))))))))))))))))) [16] (by kernel_rfl) rfl ?_);conv=>whnf)|(intro _;first|omega|conv=>whnf)|(apply And.intro<;>intro _<;>first|omega|conv=>whnf)|((first|refine aLQ ?_|refine ⟨_,rfl,?_⟩|refine ⟨_,⟨rfl,rfl⟩,?_⟩|refine ⟨_,⟨rfl,rfl,leafQ⟩,?_⟩);conv=>whnf)|with_reducible assumption|exact lfQ|fail)
      all_goals (refine ⟨(),⟨⟩,?_⟩;exact fzQ)
theorem l5EditsM2 (s : Scr) (r w : Nat) (h : OkS s r w) (c first n : Int) (hn : 1 ≤ n ∧ n ≤ 99999) (hc : c = 77) (hr0 : s.top ≤ s.y ∧ s.y ≤ s.bottom) (hy0 : s.y = 0) : CallA S 228 [.ptr (.loc 0) 20 none 0, .int .i64 c, .int .i64 first, .int .i64 n] ⟨[⟨.loc 0, true, .raw (scrC (.loc 1) (.loc 2) (.loc 3) (.loc 4) s)⟩, ⟨.loc 1, true, .arr pairE s.grid.cells⟩, ⟨.loc 2, true, .arr pairE s.grid.back⟩], 5⟩ (Ret1 (.tup []) ⟨[⟨.loc 0, true, .raw (scrC (.loc 1) (.loc 5) (.loc 3) (.loc 4) (linesM s n : Scr))⟩, ⟨.loc 1, true, .arr pairE (linesM s n : Scr).grid.cells⟩, ⟨.loc 5, true, .arr pairE (linesM s n : Scr).grid.back⟩], 6⟩) := by
  have hln := l5LinesP s r w h n (by omega) hr0 (by omega) hy0
  have hbk : (linesM s n).grid.back = s.grid.back := by unfold linesM; split <;> rfl
  have hbk' := hbk.symm
  have hbl : (linesM s n).grid.back.length = s.grid.back.length := by rw [hbk]
  refine .ofC hS _ _ _ Tryz.func228 ?_
  conv => whnf
  repeat' (first|refine Seal.mk ?_|(refine wS ?_;(conv=>whnf);fail_if_success show False)|((first|refine opsA_step ?_|apply wL (hln));conv=>whnf)|(intro _;first|omega|conv=>whnf)|(apply And.intro<;>intro _<;>first|omega|conv=>whnf)|((first|refine aLQ ?_|refine ⟨_,rfl,?_⟩|refine ⟨_,⟨rfl,rfl⟩,?_⟩|refine ⟨_,⟨rfl,rfl,leafQ⟩,?_⟩);conv=>whnf)|with_reducible assumption|exact lfQ|fail)
  all_goals (first | contradiction | (exfalso; omega) | (refine ⟨(),⟨⟩,?_⟩;exact fzQ))
theorem l5EditsM (s : Scr) (r w : Nat) (h : OkS s r w) (c first n : Int) (hn : 1 ≤ n ∧ n ≤ 99999) (hc : c = 77) : CallA S 228 [.ptr (.loc 0) 20 none 0, .int .i64 c, .int .i64 first, .int .i64 n] ⟨[⟨.loc 0, true, .raw (scrC (.loc 1) (.loc 2) (.loc 3) (.loc 4) s)⟩, ⟨.loc 1, true, .arr pairE s.grid.cells⟩, ⟨.loc 2, true, .arr pairE s.grid.back⟩], 5⟩ (Ret1 (.tup []) ⟨[⟨.loc 0, true, .raw (scrC (.loc 1) (.loc 5) (.loc 3) (.loc 4) (linesM s n : Scr))⟩, ⟨.loc 1, true, .arr pairE (linesM s n : Scr).grid.cells⟩, ⟨.loc 5, true, .arr pairE (linesM s n : Scr).grid.back⟩], 6⟩) := by
  by_cases hr0 : s.top ≤ s.y ∧ s.y ≤ s.bottom
  · by_cases hy0 : s.y = 0
    · exact l5EditsM2 s r w h c first n hn hc hr0 hy0
    · exact l5EditsM1 s r w h c first n hn hc hr0 hy0
  · exact l5EditsM0 s r w h c first n hn hc hr0
def editsM (s : Scr) (c first n : Int) : Scr := if c = 74 then wipeM s first 0 s.grid.cells.length else if c = 75 then wipeM s first (s.y.toNat * s.grid.width.toNat) ((s.y.toNat * s.grid.width.toNat) + s.grid.width.toNat) else if c = 88 then { s with grid := { s.grid with cells := erC s.grid.cells ((s.y.toNat * s.grid.width.toNat) + s.x.toNat) ((s.y.toNat * s.grid.width.toNat) + min s.grid.width.toNat (s.x.toNat + n.toNat)) s.attr } } else if c = 76 then linesM s (-n) else if c = 77 then linesM s n else if c = 83 then { s with grid := gridM s s.top.toNat s.bottom.toNat n } else if c = 84 then { s with grid := gridM s s.top.toNat s.bottom.toNat (-n) } else if c = 64 then { s with grid := { s.grid with cells := shC s n } } else if c = 80 then { s with grid := { s.grid with cells := shC s (-n) } } else s
theorem l5Edits (s : Scr) (r w : Nat) (h : OkS s r w) (c first n : Int) (hn : 1 ≤ n ∧ n ≤ 99999)  : CallA S 228 [.ptr (.loc 0) 20 none 0, .int .i64 c, .int .i64 first, .int .i64 n] ⟨[⟨.loc 0, true, .raw (scrC (.loc 1) (.loc 2) (.loc 3) (.loc 4) s)⟩, ⟨.loc 1, true, .arr pairE s.grid.cells⟩, ⟨.loc 2, true, .arr pairE s.grid.back⟩], 5⟩ (Ret1 (.tup []) ⟨[⟨.loc 0, true, .raw (scrC (.loc 1) (.loc 5) (.loc 3) (.loc 4) (editsM s c first n : Scr))⟩, ⟨.loc 1, true, .arr pairE (editsM s c first n : Scr).grid.cells⟩, ⟨.loc 5, true, .arr pairE (editsM s c first n : Scr).grid.back⟩], 6⟩) := by
  by_cases c0 : c = 74
  · have e : editsM s c first n = wipeM s first 0 s.grid.cells.length := by unfold editsM; rw [if_pos c0]
    rw [e]; exact l5Edits0 s r w h c first n hn c0
  by_cases c1 : c = 75
  · have e : editsM s c first n = wipeM s first (s.y.toNat * s.grid.width.toNat) ((s.y.toNat * s.grid.width.toNat) + s.grid.width.toNat) := by unfold editsM; rw [if_neg c0, if_pos c1]
    rw [e]; exact l5Edits1 s r w h c first n hn c1
  by_cases c2 : c = 88
  · have e : editsM s c first n = { s with grid := { s.grid with cells := erC s.grid.cells ((s.y.toNat * s.grid.width.toNat) + s.x.toNat) ((s.y.toNat * s.grid.width.toNat) + min s.grid.width.toNat (s.x.toNat + n.toNat)) s.attr } } := by unfold editsM; rw [if_neg c0, if_neg c1, if_pos c2]
    rw [e]; exact l5Edits2 s r w h c first n hn c2
  by_cases c3 : c = 76
  · have e : editsM s c first n = linesM s (-n) := by unfold editsM; rw [if_neg c0, if_neg c1, if_neg c2, if_pos c3]
    rw [e]; exact l5EditsL s r w h c first n hn c3
  by_cases c4 : c = 77
  · have e : editsM s c first n = linesM s n := by unfold editsM; rw [if_neg c0, if_neg c1, if_neg c2, if_neg c3, if_pos c4]
    rw [e]; exact l5EditsM s r w h c first n hn c4
  by_cases c5 : c = 83
  · have e : editsM s c first n = { s with grid := gridM s s.top.toNat s.bottom.toNat n } := by unfold editsM; rw [if_neg c0, if_neg c1, if_neg c2, if_neg c3, if_neg c4, if_pos c5]
    rw [e]; exact l5Edits3 s r w h c first n hn c5
  by_cases c6 : c = 84
  · have e : editsM s c first n = { s with grid := gridM s s.top.toNat s.bottom.toNat (-n) } := by unfold editsM; rw [if_neg c0, if_neg c1, if_neg c2, if_neg c3, if_neg c4, if_neg c5, if_pos c6]
    rw [e]; exact l5Edits4 s r w h c first n hn c6
  by_cases c7 : c = 64
  · have e : editsM s c first n = { s with grid := { s.grid with cells := shC s n } } := by unfold editsM; rw [if_neg c0, if_neg c1, if_neg c2, if_neg c3, if_neg c4, if_neg c5, if_neg c6, if_pos c7]
    rw [e]; exact l5Edits5 s r w h c first n hn c7
  by_cases c8 : c = 80
  · have e : editsM s c first n = { s with grid := { s.grid with cells := shC s (-n) } } := by unfold editsM; rw [if_neg c0, if_neg c1, if_neg c2, if_neg c3, if_neg c4, if_neg c5, if_neg c6, if_neg c7, if_pos c8]
    rw [e]; exact l5Edits6 s r w h c first n hn c8
  have e : editsM s c first n = s := by unfold editsM; rw [if_neg c0, if_neg c1, if_neg c2, if_neg c3, if_neg c4, if_neg c5, if_neg c6, if_neg c7, if_neg c8]
  rw [e]; exact l5Edits9 s r w h c first n hn ⟨c0, c1, c2, c3, c4, c5, c6, c7, c8⟩
theorem wipeM_rest (s : Scr) (way : Int) (f t : Nat) : (wipeM s way f t).tabs = s.tabs ∧ (wipeM s way f t).sets = s.sets := by
  unfold wipeM; (repeat' split) <;> exact ⟨rfl, rfl⟩
theorem linesM_rest (s : Scr) (n : Int) : (linesM s n).tabs = s.tabs ∧ (linesM s n).sets = s.sets := by
  unfold linesM; split <;> exact ⟨rfl, rfl⟩
theorem editsM_rest (s : Scr) (c f n : Int) : (editsM s c f n).tabs = s.tabs ∧ (editsM s c f n).sets = s.sets := by
  unfold editsM
  split
  · exact wipeM_rest ..
  split
  · exact wipeM_rest ..
  split
  · exact ⟨rfl, rfl⟩
  split
  · exact linesM_rest ..
  split
  · exact linesM_rest ..
  split
  · exact ⟨rfl, rfl⟩
  split
  · exact ⟨rfl, rfl⟩
  split
  · exact ⟨rfl, rfl⟩
  split
  · exact ⟨rfl, rfl⟩
  exact ⟨rfl, rfl⟩
theorem movesM_rest (s : Scr) (c n m : Int) : (movesM s c n m).tabs = s.tabs ∧ (movesM s c n m).sets = s.sets ∧ (movesM s c n m).grid = s.grid := by
  unfold movesM; (repeat' split) <;> exact ⟨rfl, rfl, rfl⟩
end Go.Mu

namespace Go.Mu
open Go Go.Vm Go.RowKit Go.Proofs
set_option maxRecDepth 20000
set_option maxHeartbeats 4000000
theorem scroll_ok {s : Scr} {r w : Nat} (h : OkS s r w) (n : Int) : OkS { s with grid := gridM s s.top.toNat s.bottom.toNat n } r w := by
  have hr := h.reg
  exact OkS.grid h s.top.toNat s.bottom.toNat (by omega) (by omega) n s.wrap
theorem editsM_ok {s : Scr} {r w : Nat} (h : OkS s r w) (c f n : Int) (hn : 1 ≤ n) : OkS (editsM s c f n) r w := by
  obtain ⟨e3, a1, a2, a3⟩ := atM h
  have hcl := h.cells
  have h6 := mul_lt_le (w := w) a2
  have h7 := Nat.add_mul s.y.toNat 1 w
  unfold editsM
  rw [e3]
  split
  · exact wipeM_ok h _ _ _ (by omega) (by omega) (by omega)
  split
  · exact wipeM_ok h _ _ _ (by omega) (by omega) (by omega)
  split
  · exact cells_ok h _ ((erC_len (by omega) (by omega)).trans hcl)
  split
  · exact linesM_ok h _
  split
  · exact linesM_ok h _
  split
  · exact scroll_ok h _
  split
  · exact scroll_ok h _
  split
  · exact cells_ok h _ (shC_len h _)
  split
  · exact cells_ok h _ (shC_len h _)
  exact h
def seqM (s : Scr) (w : Nat) (a : Vm.Act) : Scr := othersM (editsM (movesM s a.char (max 1 (a.params.getD 0 0)) (max 1 (paramM a 1))) a.char (a.params.getD 0 0) (max 1 (a.params.getD 0 0))) w a
noncomputable def paramsM (s : Scr) (w : Nat) (a : Vm.Act) : Scr := if a.char = 104 ∨ a.char = 108 then modesL a.priv (decide (a.char = 104)) s a.params a.params.length else if a.priv = true then s else seqM s w a
noncomputable def doM (s : Scr) (w : Nat) (a : Vm.Act) : Scr := if a.kind = 1 then printM s a.char else if a.kind = 2 then ctlM s a.char else if a.kind = 3 then escM s a.char else if a.kind = 5 then setM s a.set a.char else if a.kind = 4 then paramsM s w a else s
structure ActOk (a : Vm.Act) : Prop where
  print : a.kind = 1 → 0 ≤ a.char ∧ a.char ≤ 1114111
  set : a.kind = 5 → 1 ≤ a.set ∧ a.set ≤ 2
  params : a.kind = 4 → (1 ≤ a.params.length ∧ a.params.length ≤ 1000) ∧ ∀ p ∈ a.params, 0 ≤ p ∧ p ≤ 99999
theorem seqM_ok {s : Scr} {r w : Nat} (h : OkS s r w) (a : Vm.Act) : OkS (seqM s w a) r w := othersM_ok (editsM_ok (movesM_ok h _ _ _) _ _ _ (by omega)) _
theorem paramsM_ok {s : Scr} {r w : Nat} (h : OkS s r w) (a : Vm.Act) : OkS (paramsM s w a) r w := by
  unfold paramsM
  split
  · exact modesL_ok h _ _ _ _
  split
  · exact h
  · exact seqM_ok h a
theorem doM_ok {s : Scr} {r w : Nat} (h : OkS s r w) (a : Vm.Act) : OkS (doM s w a) r w := by
  unfold doM
  split
  · exact printM_ok h _
  split
  · exact ctlM_ok h _
  split
  · exact escM_ok h _
  split
  · exact setM_ok h _ _
  split
  · exact paramsM_ok h a
  exact h
theorem privM_rest (s : Scr) (m : Int) (on : Bool) : (privM s m on).tabs = s.tabs ∧ (privM s m on).grid = s.grid ∧ (privM s m on).sets = s.sets := by
  unfold privM; (repeat' split) <;> exact ⟨rfl, rfl, rfl⟩
theorem modeStep_rest (priv on : Bool) (s : Scr) (p : Int) : (modeStep priv on s p).tabs = s.tabs ∧ (modeStep priv on s p).grid = s.grid ∧ (modeStep priv on s p).sets = s.sets := by
  unfold modeStep
  split
  · exact privM_rest ..
  · split <;> exact ⟨rfl, rfl, rfl⟩
theorem modesL_rest (priv on : Bool) (s : Scr) (ps : List Int) (i : Nat) : (modesL priv on s ps i).tabs = s.tabs ∧ (modesL priv on s ps i).grid = s.grid ∧ (modesL priv on s ps i).sets = s.sets := by
  unfold modesL
  generalize ps.take i = l
  induction l generalizing s with
  | nil => exact ⟨rfl, rfl, rfl⟩
  | cons p l ih =>
    obtain ⟨h1, h2, h3⟩ := ih (modeStep priv on s p)
    obtain ⟨g1, g2, g3⟩ := modeStep_rest priv on s p
    exact ⟨h1.trans g1, h2.trans g2, h3.trans g3⟩
theorem othersM_rest (s : Scr) (w : Nat) (a : Vm.Act) : (othersM s w a).sets = s.sets ∧ (othersM s w a).grid = s.grid := by
  unfold othersM regM
  (repeat' split) <;> exact ⟨rfl, rfl⟩
theorem downM_rest (s : Scr) : (downM s).tabs = s.tabs ∧ (downM s).sets = s.sets := by
  unfold downM; (repeat' split) <;> exact ⟨rfl, rfl⟩
theorem printT_rest (s : Scr) (c : Int) : (printT s c).tabs = s.tabs ∧ (printT s c).sets = s.sets := by
  unfold printT; split <;> exact ⟨rfl, rfl⟩
theorem printM_rest (s : Scr) (c : Int) : (printM s c).tabs = s.tabs ∧ (printM s c).sets = s.sets := by
  unfold printM
  split
  · obtain ⟨h1, h2⟩ := printT_rest (downM { s with x := 0 }) c
    obtain ⟨g1, g2⟩ := downM_rest { s with x := 0 }
    exact ⟨h1.trans g1, h2.trans g2⟩
  · exact printT_rest s c
theorem ctlM_rest (s : Scr) (c : Int) : (ctlM s c).tabs = s.tabs ∧ (ctlM s c).sets = s.sets := by
  have hd := downM_rest s
  unfold ctlM
  (repeat' split) <;> first | exact hd | exact ⟨rfl, rfl⟩
theorem setM_rest (s : Scr) (k c : Int) : (setM s k c).tabs = s.tabs ∧ (setM s k c).grid = s.grid := by
  unfold setM; (repeat' split) <;> exact ⟨rfl, rfl⟩
theorem seqM_sets (s : Scr) (w : Nat) (a : Vm.Act) : (seqM s w a).sets = s.sets := by
  unfold seqM
  rw [(othersM_rest _ _ _).1, (editsM_rest _ _ _ _).2, (movesM_rest _ _ _ _).2.1]
theorem paramsM_sets (s : Scr) (w : Nat) (a : Vm.Act) : (paramsM s w a).sets = s.sets := by
  unfold paramsM
  split
  · exact (modesL_rest ..).2.2
  split
  · rfl
  · exact seqM_sets s w a
end Go.Mu
