/- Screens, as the reference does escapes, in one; its modes. -/
import Derived.Test.YtfjodggmmokaaaaGreatDAK
import Derived.Test.YtfjodggmmokaaaaGreatDBF
import Derived.Test.YtfjodggmmokaaaaGreatDAZ
set_option linter.unusedSimpArgs false
set_option linter.unusedVariables false
set_option linter.constructorNameAsVariable false
namespace Go.Mu
open Go Go.Vm Go.RowKit Go.Proofs
attribute [local irreducible] wpA opsA stillA drawA drawS
set_option maxRecDepth 20000
set_option maxHeartbeats 40000000
theorem l5Escape (s : Scr) (r w : Nat) (h : OkS s r w) (c : Int)  : CallA S 139 [.ptr (.loc 0) 20 none 0, .int .i64 c] ⟨[⟨.loc 0, true, .raw (scrC (.loc 1) (.loc 2) (.loc 3) (.loc 4) s)⟩, ⟨.loc 1, true, .arr pairE s.grid.cells⟩, ⟨.loc 2, true, .arr pairE s.grid.back⟩, ⟨.loc 3, true, .arr boolE s.tabs⟩, ⟨.loc 4, true, .arr (intE .i64) s.sets⟩], 5⟩ (Ret1 (.tup []) ⟨[⟨.loc 0, true, .raw (scrC (.loc 5) (.loc 6) (.loc 7) (.loc 8) (escM s c : Scr))⟩, ⟨.loc 5, true, .arr pairE (escM s c : Scr).grid.cells⟩, ⟨.loc 6, true, .arr pairE (escM s c : Scr).grid.back⟩, ⟨.loc 7, true, .arr boolE (escM s c : Scr).tabs⟩, ⟨.loc 8, true, .arr (intE .i64) (escM s c : Scr).sets⟩], 9⟩) := by
  by_cases c0 : c = 99
  · have e : escM s c = newS s.grid.rows.toNat s.grid.width.toNat := by unfold escM; rw [if_pos c0]
    rw [e]; exact l5Escape0 s r w h c c0
  by_cases c1 : c = 68
  · have e : escM s c = downM s := by unfold escM; rw [if_neg c0, if_pos c1]
    rw [e]; exact l5Escape1 s r w h c c1
  by_cases c2 : c = 69
  · have e : escM s c = downM { s with x := 0 } := by unfold escM; rw [if_neg c0, if_neg c1, if_pos c2]
    rw [e]; exact l5Escape2 s r w h c c2
  by_cases c3 : c = 72
  · have e : escM s c = { s with tabs := s.tabs.set s.x.toNat true } := by unfold escM; rw [if_neg c0, if_neg c1, if_neg c2, if_pos c3]
    rw [e]; exact l5Escape3 s r w h c c3
  by_cases c4 : c = 77
  · have e : escM s c = upM s := by unfold escM; rw [if_neg c0, if_neg c1, if_neg c2, if_neg c3, if_pos c4]
    rw [e]; exact l5Escape4 s r w h c c4
  by_cases c5 : c = 55
  · have e : escM s c = { s with keptY := s.y, keptX := s.x, keptA := s.attr } := by unfold escM; rw [if_neg c0, if_neg c1, if_neg c2, if_neg c3, if_neg c4, if_pos c5]
    rw [e]; exact l5Escape5 s r w h c c5
  by_cases c6 : c = 56
  · have e : escM s c = goM { s with attr := s.keptA } s.keptY s.keptX := by unfold escM; rw [if_neg c0, if_neg c1, if_neg c2, if_neg c3, if_neg c4, if_neg c5, if_pos c6]
    rw [e]; exact l5Escape6 s r w h c c6
  have e : escM s c = s := by unfold escM; rw [if_neg c0, if_neg c1, if_neg c2, if_neg c3, if_neg c4, if_neg c5, if_neg c6]
  rw [e]; exact l5Escape7 s r w h c ⟨c0, c1, c2, c3, c4, c5, c6⟩
def paramM (a : Vm.Act) (i : Nat) : Int := if i < a.params.length then a.params.getD i 0 else 0
theorem l5Param (a : Vm.Act) (i : Nat) (hi : i ≤ 100) (hl : a.params.length ≤ 1000) : CallA S 227 [.ptr (.loc 0) 5 none 0, .int .i64 i] ⟨[⟨.loc 0, false, .raw [.int .i64 a.kind, .int .i64 a.char, .int .i64 a.set, .prop (a.priv = true), .sl (.loc 1) 1 none a.params.length]⟩, ⟨.loc 1, false, .arr (intE .i64) a.params⟩], 2⟩ (Ret1 (.int .i64 (paramM a i)) ⟨[], 2⟩) := by
  by_cases h : i < a.params.length
  · have e : paramM a i = a.params.getD (i : Int).toNat 0 := by unfold paramM; rw [if_pos h, Int.toNat_natCast]
    rw [e]
    refine .ofC hS _ _ _ Tryz.func227 ?_
    conv => whnf
    repeat' (first|refine Seal.mk ?_|(refine wS ?_;(conv=>whnf);fail_if_success show False)|((first|refine opsA_step ?_);conv=>whnf)|(intro _;first|omega|conv=>whnf)|(apply And.intro<;>intro _<;>first|omega|conv=>whnf)|((first|refine aLQ ?_|refine ⟨_,rfl,?_⟩|refine ⟨_,⟨rfl,rfl⟩,?_⟩|refine ⟨_,⟨rfl,rfl,leafQ⟩,?_⟩);conv=>whnf)|with_reducible assumption|exact lfQ|fail)
    all_goals (first | (exfalso; omega) | (refine ⟨(),⟨⟩,?_⟩;exact fzQ))
  · have e : paramM a i = 0 := by unfold paramM; rw [if_neg h]
    rw [e]
    refine .ofC hS _ _ _ Tryz.func227 ?_
    conv => whnf
    repeat' (first|refine Seal.mk ?_|(refine wS ?_;(conv=>whnf);fail_if_success show False)|((first|refine opsA_step ?_);conv=>whnf)|(intro _;first|omega|conv=>whnf)|(apply And.intro<;>intro _<;>first|omega|conv=>whnf)|((first|refine aLQ ?_|refine ⟨_,rfl,?_⟩|refine ⟨_,⟨rfl,rfl⟩,?_⟩|refine ⟨_,⟨rfl,rfl,leafQ⟩,?_⟩);conv=>whnf)|with_reducible assumption|exact lfQ|fail)
    all_goals (first | (exfalso; omega) | (refine ⟨(),⟨⟩,?_⟩;exact fzQ))
noncomputable def modeStep (priv on : Bool) (s : Scr) (p : Int) : Scr := if priv = true then privM s p on else if p = 4 then { s with insert := on } else s
theorem modeStep_sz {priv on : Bool} {s : Scr} {p : Int} {r w : Nat} (h : SzS s r w) : SzS (modeStep priv on s p) r w := by
  unfold modeStep
  split
  · unfold privM
    split
    · exact ⟨h.hr, h.hw, h.rows, h.width⟩
    · split <;> exact ⟨h.hr, h.hw, h.rows, h.width⟩
  · split <;> exact ⟨h.hr, h.hw, h.rows, h.width⟩
noncomputable def modesL (priv on : Bool) (s : Scr) (ps : List Int) (i : Nat) : Scr := (ps.take i).foldl (modeStep priv on) s
theorem modesL_next {priv on : Bool} {s : Scr} {ps : List Int} {i : Nat} (h : i < ps.length) : modesL priv on s ps (i + 1) = modeStep priv on (modesL priv on s ps i) (ps.getD (i : Int).toNat 0) := by
  unfold modesL
  rw [Int.toNat_natCast, List.take_succ_eq_append_getElem h, List.foldl_append, show ps.getD i 0 = ps[i] by simp [h]]
  rfl
theorem modesL_sz {priv on : Bool} {s : Scr} {ps : List Int} {r w : Nat} (h : SzS s r w) : ∀ i, SzS (modesL priv on s ps i) r w := fun i => by
  unfold modesL
  generalize ps.take i = l
  induction l generalizing s with
  | nil => exact h
  | cons p l ih => exact ih (modeStep_sz h)
theorem l5Modes1 (s : Scr) (r w : Nat) (h : SzS s r w) (a : Vm.Act) (hl : a.params.length ≤ 1000) (on : Bool) (hon : on = true ↔ a.char = 104) (hp : a.priv = true) : CallA S 224 [.ptr (.loc 0) 20 none 0, .ptr (.loc 5) 5 none 0] ⟨[⟨.loc 0, true, .raw (scrC (.loc 1) (.loc 2) (.loc 3) (.loc 4) s)⟩, ⟨.loc 5, false, .raw [.int .i64 a.kind, .int .i64 a.char, .int .i64 a.set, .prop (a.priv = true), .sl (.loc 6) 1 none a.params.length]⟩, ⟨.loc 6, false, .arr (intE .i64) a.params⟩], 7⟩ (Ret1 (.tup []) ⟨[⟨.loc 0, true, .raw (scrC (.loc 1) (.loc 2) (.loc 3) (.loc 4) (modesL a.priv on s a.params a.params.length))⟩], 7⟩) := by
  have hon' := hon.symm
  refine .ofC hS _ _ _ Tryz.func224 ?_
  conv => whnf
  repeat' (first|refine Seal.mk ?_|(refine wS ?_;(conv=>whnf);fail_if_success show False)|((first|refine opsA_step ?_);conv=>whnf)|(intro _;first|omega|conv=>whnf)|(apply And.intro<;>intro _<;>first|omega|conv=>whnf)|((first|refine aLQ ?_|refine oLQ ?_|refine ⟨_,rfl,?_⟩|refine ⟨_,⟨rfl,rfl⟩,?_⟩|refine ⟨_,⟨rfl,rfl,leafQ⟩,?_⟩);conv=>whnf)|with_reducible assumption|exact lfQ|fail)
  refine .loop hS (γ := Nat) (fun i => ⟨[(0, .ptr (.loc 0) 20 none 0), (1, .ptr (.loc 5) 5 none 0), (4, .prop (a.char = 104)), (5, .int .i64 i)], ⟨[⟨.loc 0, true, .raw (scrC (.loc 1) (.loc 2) (.loc 3) (.loc 4) (modesL a.priv on s a.params i))⟩, ⟨.loc 5, false, .raw [.int .i64 a.kind, .int .i64 a.char, .int .i64 a.set, .prop (a.priv = true), .sl (.loc 6) 1 none a.params.length]⟩, ⟨.loc 6, false, .arr (intE .i64) a.params⟩], 7⟩, 46, 7⟩) (fun i => i ≤ a.params.length) (fun i => a.params.length - i) 0 (by omega) ?_ ?_
  · have h0 : modesL a.priv on s a.params 0 = s := rfl
    rw [h0]
    ((try dsimp only);exact fzQ)
  · intro i hi
    have hz := modesL_sz (priv := a.priv) (on := on) (ps := a.params) h i
    conv => whnf
    by_cases hgo : i < a.params.length
    · have hn := modesL_next (priv := a.priv) (on := on) (s := s) hgo
      generalize modesL a.priv on s a.params i = t at *
      have hm : modeStep a.priv on t (a.params.getD (i : Int).toNat 0) = privM t (a.params.getD (i : Int).toNat 0) on := by unfold modeStep; rw [if_pos hp]
      rw [hm] at hn
      repeat' (first|refine Seal.mk ?_|(refine wS ?_;(conv=>whnf);fail_if_success show False)|((first|refine opsA_step ?_|apply wL (l5Private t r w hz (a.params.getD (i : Int).toNat 0) on));conv=>whnf)|(intro _;first|omega|conv=>whnf)|(apply And.intro<;>intro _<;>first|omega|conv=>whnf)|((first|refine aLQ ?_|refine oLQ ?_|refine ⟨_,rfl,?_⟩|refine ⟨_,⟨rfl,rfl⟩,?_⟩|refine ⟨_,⟨rfl,rfl,leafQ⟩,?_⟩);conv=>whnf)|with_reducible assumption|exact lfQ|fail)
      all_goals (first | contradiction | (exfalso; omega) | (refine ⟨i + 1, ⟨by omega, by omega⟩, ?_⟩; rw [hn]; ((try dsimp only);exact fzQ)))
    · have hie : i = a.params.length := by omega
      subst hie
      repeat' (first|refine Seal.mk ?_|(refine wS ?_;(conv=>whnf);fail_if_success show False)|((first|refine opsA_step ?_);conv=>whnf)|(intro _;first|omega|conv=>whnf)|(apply And.intro<;>intro _<;>first|omega|conv=>whnf)|((first|refine aLQ ?_|refine oLQ ?_|refine ⟨_,rfl,?_⟩|refine ⟨_,⟨rfl,rfl⟩,?_⟩|refine ⟨_,⟨rfl,rfl,leafQ⟩,?_⟩);conv=>whnf)|with_reducible assumption|exact lfQ|fail)
      (refine ⟨(),⟨⟩,?_⟩;exact fzQ)
theorem l5Modes0 (s : Scr) (r w : Nat) (h : SzS s r w) (a : Vm.Act) (hl : a.params.length ≤ 1000) (on : Bool) (hon : on = true ↔ a.char = 104) (hp : ¬ a.priv = true) : CallA S 224 [.ptr (.loc 0) 20 none 0, .ptr (.loc 5) 5 none 0] ⟨[⟨.loc 0, true, .raw (scrC (.loc 1) (.loc 2) (.loc 3) (.loc 4) s)⟩, ⟨.loc 5, false, .raw [.int .i64 a.kind, .int .i64 a.char, .int .i64 a.set, .prop (a.priv = true), .sl (.loc 6) 1 none a.params.length]⟩, ⟨.loc 6, false, .arr (intE .i64) a.params⟩], 7⟩ (Ret1 (.tup []) ⟨[⟨.loc 0, true, .raw (scrC (.loc 1) (.loc 2) (.loc 3) (.loc 4) (modesL a.priv on s a.params a.params.length))⟩], 7⟩) := by
  have hon' := hon.symm
  refine .ofC hS _ _ _ Tryz.func224 ?_
  conv => whnf
  repeat' (first|refine Seal.mk ?_|(refine wS ?_;(conv=>whnf);fail_if_success show False)|((first|refine opsA_step ?_);conv=>whnf)|(intro _;first|omega|conv=>whnf)|(apply And.intro<;>intro _<;>first|omega|conv=>whnf)|((first|refine aLQ ?_|refine oLQ ?_|refine ⟨_,rfl,?_⟩|refine ⟨_,⟨rfl,rfl⟩,?_⟩|refine ⟨_,⟨rfl,rfl,leafQ⟩,?_⟩);conv=>whnf)|with_reducible assumption|exact lfQ|fail)
  refine .loop hS (γ := Nat) (fun i => ⟨[(0, .ptr (.loc 0) 20 none 0), (1, .ptr (.loc 5) 5 none 0), (4, .prop (a.char = 104)), (5, .int .i64 i)], ⟨[⟨.loc 0, true, .raw (scrC (.loc 1) (.loc 2) (.loc 3) (.loc 4) (modesL a.priv on s a.params i))⟩, ⟨.loc 5, false, .raw [.int .i64 a.kind, .int .i64 a.char, .int .i64 a.set, .prop (a.priv = true), .sl (.loc 6) 1 none a.params.length]⟩, ⟨.loc 6, false, .arr (intE .i64) a.params⟩], 7⟩, 46, 7⟩) (fun i => i ≤ a.params.length) (fun i => a.params.length - i) 0 (by omega) ?_ ?_
  · have h0 : modesL a.priv on s a.params 0 = s := rfl
    rw [h0]
    ((try dsimp only);exact fzQ)
  · intro i hi
    have hz := modesL_sz (priv := a.priv) (on := on) (ps := a.params) h i
    conv => whnf
    by_cases hgo : i < a.params.length
    · have hn := modesL_next (priv := a.priv) (on := on) (s := s) hgo
      generalize modesL a.priv on s a.params i = t at *
      by_cases h4 : a.params.getD (i : Int).toNat 0 = 4
      · have hm : modeStep a.priv on t (a.params.getD (i : Int).toNat 0) = { t with insert := on } := by unfold modeStep; rw [if_neg hp, if_pos h4]
        rw [hm] at hn
        repeat' (first|refine Seal.mk ?_|(refine wS ?_;(conv=>whnf);fail_if_success show False)|((first|refine opsA_step ?_);conv=>whnf)|(intro _;first|omega|conv=>whnf)|(apply And.intro<;>intro _<;>first|omega|conv=>whnf)|((first|refine aLQ ?_|refine oLQ ?_|refine ⟨_,rfl,?_⟩|refine ⟨_,⟨rfl,rfl⟩,?_⟩|refine ⟨_,⟨rfl,rfl,leafQ⟩,?_⟩);conv=>whnf)|with_reducible assumption|exact lfQ|fail)
        all_goals (first | contradiction | (exfalso; omega) | (refine ⟨i + 1, ⟨by omega, by omega⟩, ?_⟩; rw [hn]; ((try dsimp only);exact fzQ)))
      · have hm : modeStep a.priv on t (a.params.getD (i : Int).toNat 0) = t := by unfold modeStep; rw [if_neg hp, if_neg h4]
        rw [hm] at hn
        repeat' (first|refine Seal.mk ?_|(refine wS ?_;(conv=>whnf);fail_if_success show False)|((first|refine opsA_step ?_);conv=>whnf)|(intro _;first|omega|conv=>whnf)|(apply And.intro<;>intro _<;>first|omega|conv=>whnf)|((first|refine aLQ ?_|refine oLQ ?_|refine ⟨_,rfl,?_⟩|refine ⟨_,⟨rfl,rfl⟩,?_⟩|refine ⟨_,⟨rfl,rfl,leafQ⟩,?_⟩);conv=>whnf)|with_reducible assumption|exact lfQ|fail)
        all_goals (first | contradiction | (exfalso; omega) | (refine ⟨i + 1, ⟨by omega, by omega⟩, ?_⟩; rw [hn]; ((try dsimp only);exact fzQ)))
    · have hie : i = a.params.length := by omega
      subst hie
      repeat' (first|refine Seal.mk ?_|(refine wS ?_;(conv=>whnf);fail_if_success show False)|((first|refine opsA_step ?_);conv=>whnf)|(intro _;first|omega|conv=>whnf)|(apply And.intro<;>intro _<;>first|omega|conv=>whnf)|((first|refine aLQ ?_|refine oLQ ?_|refine ⟨_,rfl,?_⟩|refine ⟨_,⟨rfl,rfl⟩,?_⟩|refine ⟨_,⟨rfl,rfl,leafQ⟩,?_⟩);conv=>whnf)|with_reducible assumption|exact lfQ|fail)
      (refine ⟨(),⟨⟩,?_⟩;exact fzQ)
end Go.Mu
