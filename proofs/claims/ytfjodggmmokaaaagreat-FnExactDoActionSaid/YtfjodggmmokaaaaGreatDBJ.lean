/- Screens keep their bounds: what the reference's moves, modes and wipes make of them. -/
import Derived.Test.YtfjodggmmokaaaaGreatDBD
import Derived.Test.YtfjodggmmokaaaaGreatDBH
import Derived.Test.YtfjodggmmokaaaaGreatDBI
import Derived.Test.YtfjodggmmokaaaaGreatDAK
import Derived.Test.YtfjodggmmokaaaaGreatDBA
set_option linter.unusedSimpArgs false
set_option linter.unusedVariables false
set_option linter.constructorNameAsVariable false
namespace Go.Mu
open Go Go.Vm Go.RowKit Go.Proofs
set_option maxRecDepth 20000
set_option maxHeartbeats 4000000
theorem go_ok {s : Scr} {r w : Nat} (y0 : Int) (o : Bool) (h : OkS { s with y := y0, origin := o } r w) (y x : Int) : OkS (goM s y x) r w := by
  have hr := h.reg; have hrows := h.rows; have hwd := h.width; have hh := h.hr; have hww := h.hw
  simp only at hr hrows hwd
  have hb : s.origin = true → s.top ≤ max (lowM s) (min (highM s) y) ∧ max (lowM s) (min (highM s) y) ≤ s.bottom := fun q => by
    unfold lowM highM; rw [if_pos q, if_pos q]; omega
  have hy : 0 ≤ max (lowM s) (min (highM s) y) ∧ max (lowM s) (min (highM s) y) ≤ (r : Int) - 1 := by
    unfold lowM highM; split <;> omega
  exact ⟨h.hr, h.hw, h.rows, h.width, h.cells, h.back, hy, by simp only; omega, h.reg, h.attr, h.kept, h.tabs, h.sets, h.shift, h.bells, hb, h.mult⟩
theorem movesM_ok {s : Scr} {r w : Nat} (h : OkS s r w) (c n m : Int) : OkS (movesM s c n m) r w := by
  unfold movesM
  repeat' split
  all_goals first | exact goM_ok h _ _ | exact h
theorem cells_ok {s : Scr} {r w : Nat} (h : OkS s r w) (cs : Cs) (hc : cs.length = r * w) : OkS { s with grid := { s.grid with cells := cs } } r w :=
  ⟨h.hr, h.hw, h.rows, h.width, hc, h.back, h.y, h.x, h.reg, h.attr, h.kept, h.tabs, h.sets, h.shift, h.bells, h.orig, h.mult⟩
theorem atM {s : Scr} {r w : Nat} (h : OkS s r w) : s.grid.width.toNat = w ∧ s.y.toNat * w + s.x.toNat < r * w ∧ s.y.toNat + 1 ≤ r ∧ s.x.toNat < w := by
  have h1 := h.y; have h2 := h.x; have h3 := h.width; have h4 := h.hr; have h5 := h.hw
  have h6 := mul_lt_le (w := w) (show s.y.toNat + 1 ≤ r by omega)
  have h7 := Nat.add_mul s.y.toNat 1 w
  exact ⟨by omega, by omega, by omega, by omega⟩
theorem wipeM_ok {s : Scr} {r w : Nat} (h : OkS s r w) (way : Int) (f t : Nat) (hf : f ≤ s.y.toNat * w + s.x.toNat) (ht : s.y.toNat * w + s.x.toNat < t) (htl : t ≤ r * w) : OkS (wipeM s way f t) r w := by
  obtain ⟨e3, a1, a2, a3⟩ := atM h
  have hcl := h.cells
  unfold wipeM
  rw [e3]
  repeat' split
  · exact cells_ok h _ ((erC_len (by omega) (by omega)).trans hcl)
  · exact cells_ok h _ ((erC_len (by omega) (by omega)).trans hcl)
  · exact cells_ok h _ ((erC_len (by omega) (by omega)).trans hcl)
  · exact h
theorem shC_len {s : Scr} {r w : Nat} (h : OkS s r w) (n : Int) : (shC s n).length = r * w := by
  obtain ⟨e3, a1, a2, a3⟩ := atM h
  have hcl := h.cells
  have h6 := mul_lt_le (w := w) a2
  have h7 := Nat.add_mul s.y.toNat 1 w
  unfold shC over
  rw [e3]
  simp only [List.length_append, List.length_take, List.length_drop, shR_len]; omega
theorem linesM_ok {s : Scr} {r w : Nat} (h : OkS s r w) (n : Int) : OkS (linesM s n) r w := by
  obtain ⟨e3, a1, a2, a3⟩ := atM h
  have hcl := h.cells; have hr := h.reg; have hy := h.y
  unfold linesM
  rw [e3]
  split
  · have h6 := mul_lt_le (w := w) (show s.bottom.toNat + 1 ≤ r by omega)
    exact cells_ok h _ ((scC_len (by omega) (by omega)).trans hcl)
  · exact h
theorem setM_ok {s : Scr} {r w : Nat} (h : OkS s r w) (set c : Int) : OkS (setM s set c) r w := by
  unfold setM
  repeat' split
  all_goals first | exact h | exact ⟨h.hr, h.hw, h.rows, h.width, h.cells, h.back, h.y, h.x, h.reg, h.attr, h.kept, h.tabs, by simp only [List.length_set]; exact h.sets, h.shift, h.bells, h.orig, h.mult⟩
theorem privM_ok {s : Scr} {r w : Nat} (h : OkS s r w) (mode : Int) (on : Bool) : OkS (privM s mode on) r w := by
  unfold privM
  repeat' split
  · exact go_ok (s := { s with origin := on }) s.y s.origin h _ _
  · exact ⟨h.hr, h.hw, h.rows, h.width, h.cells, h.back, h.y, h.x, h.reg, h.attr, h.kept, h.tabs, h.sets, h.shift, h.bells, h.orig, h.mult⟩
  · exact h
theorem modeStep_ok {s : Scr} {r w : Nat} (h : OkS s r w) (priv on : Bool) (p : Int) : OkS (modeStep priv on s p) r w := by
  unfold modeStep
  repeat' split
  · exact privM_ok h _ _
  · exact ⟨h.hr, h.hw, h.rows, h.width, h.cells, h.back, h.y, h.x, h.reg, h.attr, h.kept, h.tabs, h.sets, h.shift, h.bells, h.orig, h.mult⟩
  · exact h
theorem modesL_ok {s : Scr} {r w : Nat} (h : OkS s r w) (priv on : Bool) (ps : List Int) (i : Nat) : OkS (modesL priv on s ps i) r w := by
  unfold modesL
  generalize ps.take i = l
  induction l generalizing s with
  | nil => exact h
  | cons p l ih => exact ih (modeStep_ok h _ _ _)
theorem regM_ok {s : Scr} {r w : Nat} (h : OkS s r w) (first last : Int) : OkS (regM s first last) r w := by
  have hrows := h.rows; have hh := h.hr
  unfold regM
  generalize (if last = 0 then s.grid.rows else last) = l
  split
  · rename_i hc
    refine go_ok (s := { s with top := max 1 first - 1, bottom := l - 1 }) 0 false ⟨h.hr, h.hw, h.rows, h.width, h.cells, h.back, by simp only; omega, h.x, by simp only; omega, h.attr, h.kept, h.tabs, h.sets, h.shift, h.bells, (fun q => by cases q), h.mult⟩ _ _
  · exact h
theorem putM_len {s : Scr} {r w : Nat} (h : OkS s r w) (c : Int) : (putM s c).length = r * w := by
  unfold putM insM
  rw [List.length_set]
  split
  · exact shC_len h 1
  · exact h.cells
theorem printT_ok {s : Scr} {r w : Nat} (h : OkS s r w) (c : Int) : OkS (printT s c) r w := by
  have h1 := h.x; have h2 := h.width
  unfold printT
  split
  · exact ⟨h.hr, h.hw, h.rows, h.width, putM_len h c, h.back, h.y, by simp only; omega, h.reg, h.attr, h.kept, h.tabs, h.sets, h.shift, h.bells, h.orig, h.mult⟩
  · exact ⟨h.hr, h.hw, h.rows, h.width, putM_len h c, h.back, h.y, h.x, h.reg, h.attr, h.kept, h.tabs, h.sets, h.shift, h.bells, h.orig, h.mult⟩
theorem x0_ok {s : Scr} {r w : Nat} (h : OkS s r w) : OkS { s with x := 0 } r w := ⟨h.hr, h.hw, h.rows, h.width, h.cells, h.back, h.y, by have := h.hw; simp only; omega, h.reg, h.attr, h.kept, h.tabs, h.sets, h.shift, h.bells, h.orig, h.mult⟩
theorem printM_ok {s : Scr} {r w : Nat} (h : OkS s r w) (c : Int) : OkS (printM s c) r w := by
  unfold printM
  split
  · exact printT_ok (downM_ok (x0_ok h)) c
  · exact printT_ok h c
theorem ctlM_ok {s : Scr} {r w : Nat} (h : OkS s r w) (c : Int) : OkS (ctlM s c) r w := by
  have hb := h.bells
  unfold ctlM
  repeat' split
  all_goals first
    | exact goM_ok h _ _
    | exact downM_ok h
    | exact h
    | exact ⟨h.hr, h.hw, h.rows, h.width, h.cells, h.back, h.y, h.x, h.reg, h.attr, h.kept, h.tabs, h.sets, h.shift, by simp only; omega, h.orig, h.mult⟩
    | exact ⟨h.hr, h.hw, h.rows, h.width, h.cells, h.back, h.y, h.x, h.reg, h.attr, h.kept, h.tabs, h.sets, by simp only; omega, h.bells, h.orig, h.mult⟩
theorem keptA_ok {s : Scr} {r w : Nat} (h : OkS s r w) : OkS { s with attr := s.keptA } r w := ⟨h.hr, h.hw, h.rows, h.width, h.cells, h.back, h.y, h.x, h.reg, h.kept.2.2, h.kept, h.tabs, h.sets, h.shift, h.bells, h.orig, h.mult⟩
theorem keep_ok {s : Scr} {r w : Nat} (h : OkS s r w) : OkS { s with keptY := s.y, keptX := s.x, keptA := s.attr } r w := by
  have h1 := h.y; have h2 := h.x; have h3 := h.hr; have h4 := h.hw; have h5 := h.attr
  exact ⟨h.hr, h.hw, h.rows, h.width, h.cells, h.back, h.y, h.x, h.reg, h.attr, ⟨by simp only; omega, by simp only; omega, h5⟩, h.tabs, h.sets, h.shift, h.bells, h.orig, h.mult⟩
theorem othersM_ok {s : Scr} {r w : Nat} (h : OkS s r w) (a : Vm.Act) : OkS (othersM s w a) r w := by
  unfold othersM
  repeat' split
  all_goals first
    | exact h
    | exact keep_ok h
    | exact goM_ok (keptA_ok h) _ _
    | exact regM_ok h _ _
    | exact ⟨h.hr, h.hw, h.rows, h.width, h.cells, h.back, h.y, h.x, h.reg, attrL_ok h.attr _, h.kept, h.tabs, h.sets, h.shift, h.bells, h.orig, h.mult⟩
    | exact ⟨h.hr, h.hw, h.rows, h.width, h.cells, h.back, h.y, h.x, h.reg, h.attr, h.kept, by simp only [List.length_set]; exact h.tabs, h.sets, h.shift, h.bells, h.orig, h.mult⟩
    | exact ⟨h.hr, h.hw, h.rows, h.width, h.cells, h.back, h.y, h.x, h.reg, h.attr, h.kept, by simp only [List.length_replicate], h.sets, h.shift, h.bells, h.orig, h.mult⟩
end Go.Mu

namespace Go.Mu
open Go Go.Vm Go.RowKit Go.Proofs
attribute [local irreducible] wpA opsA stillA drawA drawS
set_option maxRecDepth 20000
set_option maxHeartbeats 40000000
theorem translated0 (t c : Int) (hc : 0 ≤ c ∧ c ≤ 1114111) (h1 : t = 2 ∧ 97 ≤ c ∧ c ≤ 122) : CallA S 248 [.int .i64 t, .int .i64 c] ⟨[], 0⟩ (Ret1 (.int .i64 (trM t c)) ⟨[], 0⟩) := by
  have e : trM t c = 9472 + c - 97 := by unfold trM; rw [if_pos h1]
  rw [e]
  refine .ofC hS _ _ _ Tryz.func248 ?_
  conv => whnf
  repeat' (first|refine Seal.mk ?_|(refine wS ?_;(conv=>whnf);fail_if_success show False)|((first|refine opsA_step ?_|apply wL (inF _ _ _));conv=>whnf)|(intro _;first|omega|conv=>whnf)|(apply And.intro<;>intro _<;>first|omega|conv=>whnf)|((first|refine aLQ ?_|refine oLQ ?_|refine ⟨_,rfl,?_⟩|refine ⟨_,⟨rfl,rfl⟩,?_⟩|refine ⟨_,⟨rfl,rfl,leafQ⟩,?_⟩);conv=>whnf)|with_reducible assumption|exact lfQ|fail)
  all_goals (first | contradiction | (exfalso; omega) | (refine ⟨(),⟨⟩,?_⟩;exact fzQ))
theorem translated1 (t c : Int) (hc : 0 ≤ c ∧ c ≤ 1114111) (h1 : ¬ (t = 2 ∧ 97 ≤ c ∧ c ≤ 122)) (h2 : t = 3 ∧ 33 ≤ c ∧ c ≤ 126) : CallA S 248 [.int .i64 t, .int .i64 c] ⟨[], 0⟩ (Ret1 (.int .i64 (trM t c)) ⟨[], 0⟩) := by
  have e : trM t c = 61440 + c := by unfold trM; rw [if_neg h1, if_pos h2]
  rw [e]
  refine .ofC hS _ _ _ Tryz.func248 ?_
  conv => whnf
  repeat' (first|refine Seal.mk ?_|(refine wS ?_;(conv=>whnf);fail_if_success show False)|((first|refine opsA_step ?_|apply wL (inF _ _ _));conv=>whnf)|(intro _;first|omega|conv=>whnf)|(apply And.intro<;>intro _<;>first|omega|conv=>whnf)|((first|refine aLQ ?_|refine oLQ ?_|refine ⟨_,rfl,?_⟩|refine ⟨_,⟨rfl,rfl⟩,?_⟩|refine ⟨_,⟨rfl,rfl,leafQ⟩,?_⟩);conv=>whnf)|with_reducible assumption|exact lfQ|fail)
  all_goals (first | contradiction | (exfalso; omega) | (refine ⟨(),⟨⟩,?_⟩;exact fzQ))
theorem translated2 (t c : Int) (hc : 0 ≤ c ∧ c ≤ 1114111) (h1 : ¬ (t = 2 ∧ 97 ≤ c ∧ c ≤ 122)) (h2 : ¬ (t = 3 ∧ 33 ≤ c ∧ c ≤ 126)) : CallA S 248 [.int .i64 t, .int .i64 c] ⟨[], 0⟩ (Ret1 (.int .i64 (trM t c)) ⟨[], 0⟩) := by
  have e : trM t c = c := by unfold trM; rw [if_neg h1, if_neg h2]
  rw [e]
  refine .ofC hS _ _ _ Tryz.func248 ?_
  conv => whnf
  repeat' (first|refine Seal.mk ?_|(refine wS ?_;(conv=>whnf);fail_if_success show False)|((first|refine opsA_step ?_|apply wL (inF _ _ _));conv=>whnf)|(intro _;first|omega|conv=>whnf)|(apply And.intro<;>intro _<;>first|omega|conv=>whnf)|((first|refine aLQ ?_|refine ⟨_,rfl,?_⟩|refine ⟨_,⟨rfl,rfl⟩,?_⟩|refine ⟨_,⟨rfl,rfl,leafQ⟩,?_⟩);conv=>whnf)|with_reducible assumption|exact lfQ|fail)
  all_goals (first | contradiction | (exfalso; omega) | (refine ⟨(),⟨⟩,?_⟩;exact fzQ))
theorem translated (t c : Int) (hc : 0 ≤ c ∧ c ≤ 1114111) : CallA S 248 [.int .i64 t, .int .i64 c] ⟨[], 0⟩ (Ret1 (.int .i64 (trM t c)) ⟨[], 0⟩) := by
  by_cases h1 : t = 2 ∧ 97 ≤ c ∧ c ≤ 122
  · exact translated0 t c hc h1
  by_cases h2 : t = 3 ∧ 33 ≤ c ∧ c ≤ 126
  · exact translated1 t c hc h1 h2
  exact translated2 t c hc h1 h2
theorem goC_eq {s : Scr} {r w : Nat} (h : OkS s r w) : goC s 0 = { s with x := 0, wrap := false } := by
  have h4 := h.width; have h2 := h.hw
  unfold goC
  rw [show max 0 (min (s.grid.width - 1) 0) = 0 by omega]
theorem goC_ok {s : Scr} {r w : Nat} (h : OkS s r w) : OkS (goC s 0) r w := by
  rw [goC_eq h]
  exact ⟨h.hr, h.hw, h.rows, h.width, h.cells, h.back, h.y, by have := h.hw; simp only; omega, h.reg, h.attr, h.kept, h.tabs, h.sets, h.shift, h.bells, h.orig, h.mult⟩
theorem dnC_eq {s : Scr} {r w : Nat} (h : OkS s r w) : downM (goC s 0) = downM { s with x := 0 } := by
  rw [goC_eq h]
  unfold downM
  rfl
end Go.Mu

namespace Go.Mu
open Go Go.Vm Go.RowKit Go.Proofs
theorem wC {c : Operand} {x y : Code} {σ : St} {kn : St → Prop} {ke : Nat → St → Prop} {kr : St → Prop} (h : Wp S (.cond c x y) σ kn ke kr) : Wp S (.cond c x y) σ kn ke kr := h
end Go.Mu

namespace Go.Mu
open Go Go.Vm Go.RowKit Go.Proofs
attribute [local irreducible] wpA opsA stillA drawA drawS
set_option maxRecDepth 20000
set_option maxHeartbeats 40000000
theorem sPrint (s : Scr) (r w : Nat) (h : OkS s r w) (c : Int) (hc : 0 ≤ c ∧ c ≤ 1114111) : CallA S 153 [.ptr (.loc 0) 20 none 0, .int .i64 c] ⟨[⟨.loc 0, true, .raw (scrC (.loc 1) (.loc 2) (.loc 3) (.loc 4) s)⟩, ⟨.loc 1, true, .arr pairE s.grid.cells⟩, ⟨.loc 2, true, .arr pairE s.grid.back⟩, ⟨.loc 4, false, .arr (intE .i64) s.sets⟩], 5⟩ (Ret1 (.tup []) ⟨[⟨.loc 0, true, .raw (scrC (.loc 1) (.loc 5) (.loc 3) (.loc 4) (printM s c : Scr))⟩, ⟨.loc 1, true, .arr pairE (printM s c : Scr).grid.cells⟩, ⟨.loc 5, true, .arr pairE (printM s c : Scr).grid.back⟩], 6⟩) := by
  have hsl : s.sets.length = 2 := h.sets
  have hcol := sCol s r w h.rg 0
  have hdn := sDown (goC s 0) r w (goC_ok h)
  rw [dnC_eq h] at hdn
  obtain ⟨s1, hs1⟩ : ∃ s1, s1 = if s.wrap = true then downM { s with x := 0 } else s := ⟨_, rfl⟩
  have hpm : printM s c = printT s1 c := by
    unfold printM; rw [hs1]
    split <;> rfl
  have hk1 : OkS s1 r w := by
    rw [hs1]
    split
    · exact downM_ok (x0_ok h)
    · exact h
  have hss : s1.sets.length = s.sets.length := by
    rw [hs1]
    split
    · rw [downM_sets]
    · rfl
  have hss' : s1.sets = s.sets := by
    rw [hs1]
    split
    · rw [downM_sets]
    · rfl
  have w1 : s.wrap = true → downM { s with x := 0 } = s1 := fun q => by rw [hs1, if_pos q]
  have w2 : ¬ s.wrap = true → s = s1 := fun q => by rw [hs1, if_neg q]
  clear hs1
  rw [hpm]
  refine .ofC hS _ _ _ Tryz.func153 ?_
  conv => whnf
  repeat' (first|refine Seal.mk ?_|((fail_if_success with_reducible refine wC ?_);refine wS ?_;(conv=>whnf);fail_if_success show False)|((first|refine opsA_step ?_|refine drawS_go ?_);conv=>whnf)|(intro _;first|omega|conv=>whnf)|(apply And.intro<;>intro _<;>first|omega|conv=>whnf)|refine sM ?_ ?_|((first|refine aLQ ?_|refine oLQ ?_|refine ⟨_,rfl,?_⟩|refine ⟨_,⟨rfl,rfl⟩,?_⟩|refine ⟨_,⟨rfl,rfl,leafQ⟩,?_⟩);conv=>whnf)|with_reducible assumption|exact lfQ|fail)
  refine .cut hS (γ := Unit) (fun _ => ⟨[(0, .ptr (.loc 0) 20 none 0), (1, .int .i64 c)], ⟨[⟨.loc 0, true, .raw (scrC (.loc 1) (.loc 5) (.loc 3) (.loc 4) s1)⟩, ⟨.loc 1, true, .arr pairE s1.grid.cells⟩, ⟨.loc 5, true, .arr pairE s1.grid.back⟩, ⟨.loc 4, false, .arr (intE .i64) s.sets⟩], 6⟩, 92, 5⟩) (fun _ => True) ?_ ?_
  · repeat' (first|refine Seal.mk ?_|(refine wS ?_;(conv=>whnf);fail_if_success show False)|((first|refine opsA_step ?_|refine drawS_go ?_|apply wL (hcol)|apply wL (hdn));conv=>whnf)|(intro _;first|omega|conv=>whnf)|(apply And.intro<;>intro _<;>first|omega|conv=>whnf)|refine sM ?_ ?_|((first|refine aLQ ?_|refine oLQ ?_|refine ⟨_,rfl,?_⟩|refine ⟨_,⟨rfl,rfl⟩,?_⟩|refine ⟨_,⟨rfl,rfl,leafQ⟩,?_⟩);conv=>whnf)|with_reducible assumption|exact lfQ|fail)
    · rename_i q
      rw [← w1 (by assumption)]
      (refine ⟨(),⟨⟩,?_⟩;exact fzQ)
    · rename_i q
      rw [← w2 q]
      (refine ⟨(),⟨⟩,?_⟩;exact fzQ)
  · rintro ⟨⟩ -
    have hrg := hk1.rg
    have h7 := hk1.y; have h8 := hk1.x; have h4 := hk1.width; have h1 := hk1.hr; have h2 := hk1.hw
    obtain ⟨y, hy⟩ := Int.eq_ofNat_of_zero_le (show 0 ≤ s1.y by omega)
    obtain ⟨x, hx⟩ := Int.eq_ofNat_of_zero_le (show 0 ≤ s1.x by omega)
    have e1 : s1.y.toNat = y := by omega
    have e2 : s1.x.toNat = x := by omega
    have e3 : s1.grid.width.toNat = w := by omega
    have hcl := hk1.cells
    obtain ⟨-, a1, a2, a3⟩ := atM hk1
    have h10 := hk1.attr; have h14 := hk1.shift
    have hrw : r * w ≤ 6 * 12 := Nat.mul_le_mul h1.2 h2.2
    have hyw : (y + 1) * w = y * w + w := Nat.succ_mul y w
    have hle := mul_lt_le (w := w) (show y + 1 ≤ r by omega)
    rw [e1, e2] at a1
    obtain ⟨cs, hcs⟩ : ∃ cs, cs = insM s1 := ⟨_, rfl⟩
    have hcsl : cs.length = s1.grid.cells.length := by
      rw [hcs]; unfold insM
      split
      · exact (shC_len hk1 1).trans hcl.symm
      · rfl
    have i1 : s1.insert = true → cs = over s1.grid.cells (y * w) (shR ((s1.grid.cells.drop (y * w)).take w) x w 1 s1.attr) := fun q => by
      rw [hcs]; unfold insM shC; rw [if_pos q, e1, e2, e3]
    have i2 : ¬ s1.insert = true → s1.grid.cells = cs := fun q => by rw [hcs]; unfold insM; rw [if_neg q]
    conv => whnf
    repeat' (first|refine Seal.mk ?_|((fail_if_success with_reducible refine wC ?_);refine wS ?_;(conv=>whnf);fail_if_success show False)|((first|refine opsA_step ?_|refine drawS_go ?_);conv=>whnf)|(intro _;first|omega|conv=>whnf)|(apply And.intro<;>intro _<;>first|omega|conv=>whnf)|refine sM ?_ ?_|((first|refine aLQ ?_|refine oLQ ?_|refine ⟨_,rfl,?_⟩|refine ⟨_,⟨rfl,rfl⟩,?_⟩|refine ⟨_,⟨rfl,rfl,leafQ⟩,?_⟩);conv=>whnf)|with_reducible assumption|exact lfQ|fail)
    refine .cut hS (γ := Unit) (fun _ => ⟨[(0, .ptr (.loc 0) 20 none 0), (1, .int .i64 c)], ⟨[⟨.loc 0, true, .raw (scrC (.loc 1) (.loc 5) (.loc 3) (.loc 4) s1)⟩, ⟨.loc 1, true, .arr pairE cs⟩, ⟨.loc 5, true, .arr pairE s1.grid.back⟩, ⟨.loc 4, false, .arr (intE .i64) s.sets⟩], 6⟩, 92, 5⟩) (fun _ => True) ?_ ?_
    · by_cases q : s1.insert = true
      · have hm := gridShift s1.grid.cells s1.grid.back s1.grid.rows w s1.attr (by omega) y x 1 (by omega) (by omega) (by omega) (by omega) (by omega)
        rw [← i1 q] at hm
        repeat' (first|refine Seal.mk ?_|(refine wS ?_;(conv=>whnf);fail_if_success show False)|((first|refine opsA_step ?_|refine drawS_go ?_|refine wD (id:=4) (.quick 0 (.quick 1 (.quick 2 (.quick 3 (.quick 4 (.quick 5 (.quick 7 (.quick 8 (.quick 9 (.quick 11 (.quick 12 (.quick 13 (.read 6 (.read 10 (.read 14 (.all (.step 15 .done))))))))))))))))) [15] (by kernel_rfl) rfl ?_|apply wL (hm));conv=>whnf)|(intro _;first|omega|conv=>whnf)|(apply And.intro<;>intro _<;>first|omega|conv=>whnf)|refine sM ?_ ?_|((first|refine aLQ ?_|refine oLQ ?_|refine ⟨_,rfl,?_⟩|refine ⟨_,⟨rfl,rfl⟩,?_⟩|refine ⟨_,⟨rfl,rfl,leafQ⟩,?_⟩);conv=>whnf)|with_reducible assumption|exact lfQ|fail)
        all_goals (first | contradiction | (refine ⟨(),⟨⟩,?_⟩;exact fzQ))
      · rw [← i2 q]
        repeat' (first|refine Seal.mk ?_|(refine wS ?_;(conv=>whnf);fail_if_success show False)|((first|refine opsA_step ?_|refine drawS_go ?_);conv=>whnf)|(intro _;first|omega|conv=>whnf)|(apply And.intro<;>intro _<;>first|omega|conv=>whnf)|refine sM ?_ ?_|((first|refine aLQ ?_|refine oLQ ?_|refine ⟨_,rfl,?_⟩|refine ⟨_,⟨rfl,rfl⟩,?_⟩|refine ⟨_,⟨rfl,rfl,leafQ⟩,?_⟩);conv=>whnf)|with_reducible assumption|exact lfQ|fail)
        all_goals (first | contradiction | (refine ⟨(),⟨⟩,?_⟩;exact fzQ))
    · rintro ⟨⟩ -
      obtain ⟨ch, hch⟩ : ∃ ch, ch = chM s1 c := ⟨_, rfl⟩
      have c1 : c < 128 → trM (s.sets.getD s1.shift.toNat (intE .i64).d) c = ch := fun q => by rw [hch]; unfold chM; rw [if_pos q, hss']; rfl
      have c2 : ¬ c < 128 → c = ch := fun q => by rw [hch]; unfold chM; rw [if_neg q]
      conv => whnf
      repeat' (first|refine Seal.mk ?_|((fail_if_success with_reducible refine wC ?_);refine wS ?_;(conv=>whnf);fail_if_success show False)|((first|refine opsA_step ?_|refine drawS_go ?_);conv=>whnf)|(intro _;first|omega|conv=>whnf)|(apply And.intro<;>intro _<;>first|omega|conv=>whnf)|refine sM ?_ ?_|((first|refine aLQ ?_|refine oLQ ?_|refine ⟨_,rfl,?_⟩|refine ⟨_,⟨rfl,rfl⟩,?_⟩|refine ⟨_,⟨rfl,rfl,leafQ⟩,?_⟩);conv=>whnf)|with_reducible assumption|exact lfQ|fail)
      refine .cut hS (γ := Unit) (fun _ => ⟨[(0, .ptr (.loc 0) 20 none 0), (1, .int .i64 ch)], ⟨[⟨.loc 0, true, .raw (scrC (.loc 1) (.loc 5) (.loc 3) (.loc 4) s1)⟩, ⟨.loc 1, true, .arr pairE cs⟩, ⟨.loc 5, true, .arr pairE s1.grid.back⟩, ⟨.loc 4, false, .arr (intE .i64) s.sets⟩], 6⟩, 92, 5⟩) (fun _ => True) ?_ ?_
      · by_cases q : c < 128
        · have c1' := c1 q
          repeat' (first|refine Seal.mk ?_|(refine wS ?_;(conv=>whnf);fail_if_success show False)|((first|refine opsA_step ?_|refine drawS_go ?_|refine wD (id:=6) (.quick 0 (.quick 1 (.quick 2 (.quick 4 (.quick 5 (.quick 6 (.quick 10 (.read 3 (.read 7 (.quick 8 (.read 9 (.all (.step 11 (.quick 12 .done)))))))))))))) [11] (by kernel_rfl) rfl ?_|apply wL (translated _ _ hc));conv=>whnf)|(intro _;first|omega|conv=>whnf)|(apply And.intro<;>intro _<;>first|omega|conv=>whnf)|refine sM ?_ ?_|((first|refine aLQ ?_|refine oLQ ?_|refine ⟨_,rfl,?_⟩|refine ⟨_,⟨rfl,rfl⟩,?_⟩|refine ⟨_,⟨rfl,rfl,leafQ⟩,?_⟩);conv=>whnf)|with_reducible assumption|exact lfQ|fail)
          all_goals (first | contradiction | (exfalso; omega) | (refine ⟨(),⟨⟩,?_⟩;exact fzQ))
        · have c2' := c2 q
          repeat' (first|refine Seal.mk ?_|(refine wS ?_;(conv=>whnf);fail_if_success show False)|((first|refine opsA_step ?_|refine drawS_go ?_);conv=>whnf)|(intro _;first|omega|conv=>whnf)|(apply And.intro<;>intro _<;>first|omega|conv=>whnf)|refine sM ?_ ?_|((first|refine aLQ ?_|refine oLQ ?_|refine ⟨_,rfl,?_⟩|refine ⟨_,⟨rfl,rfl⟩,?_⟩|refine ⟨_,⟨rfl,rfl,leafQ⟩,?_⟩);conv=>whnf)|with_reducible assumption|exact lfQ|fail)
          all_goals (first | contradiction | (refine ⟨(),⟨⟩,?_⟩;exact fzQ))
      · rintro ⟨⟩ -
        have hat := gridAt cs s1.grid.back s1.grid.rows w 0 (by omega) y x (by omega) (by omega) (by omega)
        rw [hcsl] at hat
        have hla1 := sLast s1 r w hrg
        have hpu : putM s1 c = cs.set (y * w + x) (ch, s1.attr) := by unfold putM; rw [← hcs, ← hch, e1, e2, e3]
        have hset : (cs.set (y * w + x) (ch, s1.attr)).length = s1.grid.cells.length := by rw [List.length_set, hcsl]
        have ean : ((y * w + x : Nat) : Int).toNat = y * w + x := Int.toNat_natCast _
        have z1 : s1.x < s1.grid.width - 1 → printT s1 c = { s1 with grid := { s1.grid with cells := cs.set (y * w + x) (ch, s1.attr) }, x := s1.x + 1 } := fun q => by unfold printT; rw [if_pos q, hpu]
        have z2 : ¬ s1.x < s1.grid.width - 1 → printT s1 c = { s1 with grid := { s1.grid with cells := cs.set (y * w + x) (ch, s1.attr) }, wrap := s1.autow } := fun q => by unfold printT; rw [if_neg q, hpu]
        conv => whnf
        repeat' (first|refine Seal.mk ?_|(refine wS ?_;(conv=>whnf);fail_if_success show False)|((first|refine opsA_step ?_|refine drawS_go ?_|refine wD (id:=7) (.quick 0 (.quick 1 (.quick 2 (.quick 3 (.quick 4 (.quick 5 (.quick 7 (.quick 8 (.quick 9 (.quick 12 (.quick 13 (.quick 14 (.quick 15 (.all (.fork (.fork (.step 6 (.all (.fork (.step 10 (.all (.fork (.step 11 (.all (.step 16 (.quick 17 (.quick 18 (.all (.step 19 .done))))))) (.step 16 (.quick 17 (.all (.step 11 (.quick 18 (.all (.step 19 .done)))))))))) (.step 16 (.quick 17 (.all (.step 10 (.all (.step 11 (.quick 18 (.all (.step 19 .done)))))))))))) (.step 10 (.all (.fork (.step 6 (.all (.fork (.step 11 (.all (.step 16 (.quick 17 (.quick 18 (.all (.step 19 .done))))))) (.step 16 (.quick 17 (.all (.step 11 (.quick 18 (.all (.step 19 .done)))))))))) (.step 16 (.quick 17 (.all (.step 6 (.all (.step 11 (.quick 18 (.all (.step 19 .done))))))))))))) (.step 16 (.quick 17 (.all (.fork (.step 6 (.all (.step 10 (.all (.step 11 (.quick 18 (.all (.step 19 .done)))))))) (.step 10 (.all (.step 6 (.all (.step 11 (.quick 18 (.all (.step 19 .done))))))))))))))))))))))))))) [6, 10, 11, 16, 19] (by kernel_rfl) rfl ?_|apply wL (hat)|apply wL (hla1));conv=>whnf)|(intro _;first|omega|conv=>whnf)|(apply And.intro<;>intro _<;>first|omega|conv=>whnf)|refine sM ?_ ?_|((first|refine aLQ ?_|refine oLQ ?_|refine ⟨_,rfl,?_⟩|refine ⟨_,⟨rfl,rfl⟩,?_⟩|refine ⟨_,⟨rfl,rfl,leafQ⟩,?_⟩);conv=>whnf)|with_reducible assumption|exact lfQ|fail)
        all_goals (first | (rw [z1 (by assumption)]; (refine ⟨(),⟨⟩,?_⟩;exact fzQ)) | (rw [z2 (by assumption)]; (refine ⟨(),⟨⟩,?_⟩;exact fzQ)))
end Go.Mu

namespace Go.Mu
open Go Go.Vm Go.RowKit Go.Proofs
set_option maxRecDepth 20000
set_option maxHeartbeats 4000000
theorem newS_ok {r w : Nat} (hr : 1 ≤ r ∧ r ≤ 6) (hw : 2 ≤ w ∧ w ≤ 12) : OkS (newS r w) r w := by
  have hi : ((r : Int) * w).toNat = r * w := by rw [← Int.natCast_mul]; exact Int.toNat_natCast _
  refine ⟨hr, hw, rfl, rfl, by simp only [List.length_replicate]; exact hi, by simp, by simp only; omega, by simp only; omega, by simp only; omega, by simp only; omega, by simp only; omega, tabRun_len 0 w, rfl, by simp only; omega, by simp only; omega, (fun q => by cases q), ⟨0, by omega, by simp⟩⟩
theorem escM_ok {s : Scr} {r w : Nat} (h : OkS s r w) (c : Int) : OkS (escM s c) r w := by
  have h1 := h.rows; have h2 := h.width
  have e1 : s.grid.rows.toNat = r := by omega
  have e2 : s.grid.width.toNat = w := by omega
  unfold escM
  rw [e1, e2]
  repeat' split
  all_goals first
    | exact newS_ok h.hr h.hw
    | exact downM_ok (x0_ok h)
    | exact downM_ok h
    | exact upM_ok h
    | exact keep_ok h
    | exact goM_ok (keptA_ok h) _ _
    | exact h
    | exact ⟨h.hr, h.hw, h.rows, h.width, h.cells, h.back, h.y, h.x, h.reg, h.attr, h.kept, by simp only [List.length_set]; exact h.tabs, h.sets, h.shift, h.bells, h.orig, h.mult⟩
end Go.Mu
