/- Screens, as the reference turns their attributes, sets and modes; cells wiped. -/
import Derived.Test.YtfjodggmmokaaaaGreatDAY
set_option linter.unusedSimpArgs false
set_option linter.unusedVariables false
set_option linter.constructorNameAsVariable false
namespace Go.Mu
open Go Go.Vm Go.RowKit Go.Proofs
attribute [local irreducible] wpA opsA stillA drawA drawS
set_option maxRecDepth 20000
set_option maxHeartbeats 40000000
theorem leafH3 {P : Prop} (h : P := by
  first
  | exact leaf
  | exact PreC.of_eq rfl
  | rfl
  | exact Bool.false_ne_true
  | exact ⟨rfl, rfl⟩
  | (simp [*]; done)
  | fail) : P := h
theorem aLH3 {a b : Prop} (k : b) (h : a := by exact leafH3) : a ∧ b := ⟨h, k⟩
theorem oLH3 {a b c : Prop} (k : b) (h : a := by exact leafH3) : (a ∧ b) ∨ c := .inl ⟨h, k⟩
theorem fzH3 {P : Prop} (h : P := by
  (try refine wF ?_)
  repeat' (first|exact ⟨⟩|(apply And.intro;focus exact leafH3)|((conv=>whnf);first|exact ⟨⟩|(apply And.intro;focus exact leafH3))|fail)) : P := h
theorem not7 : ∀ k : Nat, k < 32 → (k ^^^ (k &&& 7)) ≤ 31 := by decide
def attrM (a p : Int) : Int := if p = 0 then 0 else if p = 1 then ((a.toNat ||| (8 : Int).toNat : Nat) : Int) else if p = 22 then ((a.toNat ^^^ (a.toNat &&& (8 : Int).toNat) : Nat) : Int) else if p = 7 then ((a.toNat ||| (16 : Int).toNat : Nat) : Int) else if p = 27 then ((a.toNat ^^^ (a.toNat &&& (16 : Int).toNat) : Nat) : Int) else if 30 ≤ p ∧ p ≤ 37 then ((a.toNat ^^^ (a.toNat &&& (7 : Int).toNat) : Nat) : Int) + p - 30 else if p = 39 then ((a.toNat ^^^ (a.toNat &&& (7 : Int).toNat) : Nat) : Int) else a
theorem l5Attr0 (a p : Int) (ha : 0 ≤ a ∧ a ≤ 31) (hp : 0 ≤ p ∧ p ≤ 99999) (hc : p = 0) : CallA S 315 [.int .i64 a, .int .i64 p] ⟨[], 0⟩ (Ret1 (.int .i64 (0)) ⟨[], 0⟩) := by
  have h7 := not7 a.toNat (by omega)
  have h7' : (((a.toNat ^^^ (a.toNat &&& (7 : Int).toNat)) : Nat) : Int) ≤ 31 := by exact_mod_cast h7
  refine .ofC hS _ _ _ Tryz.func315 ?_
  conv => whnf
  repeat' (first|refine Seal.mk ?_|(refine wS ?_;(conv=>whnf);fail_if_success show False)|((first|refine opsA_step ?_|apply wL (l1In _ _ _));conv=>whnf)|(intro _;first|omega|conv=>whnf)|(apply And.intro<;>intro _<;>first|omega|conv=>whnf)|((first|refine aLH3 ?_|refine ⟨_,rfl,?_⟩|refine ⟨_,⟨rfl,rfl⟩,?_⟩|refine ⟨_,⟨rfl,rfl,leafH3⟩,?_⟩);conv=>whnf)|with_reducible assumption|exact lfH3|fail)
  all_goals (first | contradiction | (exfalso; omega) | (refine ⟨(),⟨⟩,?_⟩;exact fzH3))
theorem l5Attr1 (a p : Int) (ha : 0 ≤ a ∧ a ≤ 31) (hp : 0 ≤ p ∧ p ≤ 99999) (hc : p = 1) : CallA S 315 [.int .i64 a, .int .i64 p] ⟨[], 0⟩ (Ret1 (.int .i64 (((a.toNat ||| (8 : Int).toNat : Nat) : Int))) ⟨[], 0⟩) := by
  have h7 := not7 a.toNat (by omega)
  have h7' : (((a.toNat ^^^ (a.toNat &&& (7 : Int).toNat)) : Nat) : Int) ≤ 31 := by exact_mod_cast h7
  refine .ofC hS _ _ _ Tryz.func315 ?_
  conv => whnf
  repeat' (first|refine Seal.mk ?_|(refine wS ?_;(conv=>whnf);fail_if_success show False)|((first|refine opsA_step ?_|apply wL (l1In _ _ _));conv=>whnf)|(intro _;first|omega|conv=>whnf)|(apply And.intro<;>intro _<;>first|omega|conv=>whnf)|((first|refine aLH3 ?_|refine ⟨_,rfl,?_⟩|refine ⟨_,⟨rfl,rfl⟩,?_⟩|refine ⟨_,⟨rfl,rfl,leafH3⟩,?_⟩);conv=>whnf)|with_reducible assumption|exact lfH3|fail)
  all_goals (first | contradiction | (exfalso; omega) | (refine ⟨(),⟨⟩,?_⟩;exact fzH3))
theorem l5Attr2 (a p : Int) (ha : 0 ≤ a ∧ a ≤ 31) (hp : 0 ≤ p ∧ p ≤ 99999) (hc : p = 22) : CallA S 315 [.int .i64 a, .int .i64 p] ⟨[], 0⟩ (Ret1 (.int .i64 (((a.toNat ^^^ (a.toNat &&& (8 : Int).toNat) : Nat) : Int))) ⟨[], 0⟩) := by
  have h7 := not7 a.toNat (by omega)
  have h7' : (((a.toNat ^^^ (a.toNat &&& (7 : Int).toNat)) : Nat) : Int) ≤ 31 := by exact_mod_cast h7
  refine .ofC hS _ _ _ Tryz.func315 ?_
  conv => whnf
  repeat' (first|refine Seal.mk ?_|(refine wS ?_;(conv=>whnf);fail_if_success show False)|((first|refine opsA_step ?_|apply wL (l1In _ _ _));conv=>whnf)|(intro _;first|omega|conv=>whnf)|(apply And.intro<;>intro _<;>first|omega|conv=>whnf)|((first|refine aLH3 ?_|refine ⟨_,rfl,?_⟩|refine ⟨_,⟨rfl,rfl⟩,?_⟩|refine ⟨_,⟨rfl,rfl,leafH3⟩,?_⟩);conv=>whnf)|with_reducible assumption|exact lfH3|fail)
  all_goals (first | contradiction | (exfalso; omega) | (refine ⟨(),⟨⟩,?_⟩;exact fzH3))
theorem l5Attr3 (a p : Int) (ha : 0 ≤ a ∧ a ≤ 31) (hp : 0 ≤ p ∧ p ≤ 99999) (hc : p = 7) : CallA S 315 [.int .i64 a, .int .i64 p] ⟨[], 0⟩ (Ret1 (.int .i64 (((a.toNat ||| (16 : Int).toNat : Nat) : Int))) ⟨[], 0⟩) := by
  have h7 := not7 a.toNat (by omega)
  have h7' : (((a.toNat ^^^ (a.toNat &&& (7 : Int).toNat)) : Nat) : Int) ≤ 31 := by exact_mod_cast h7
  refine .ofC hS _ _ _ Tryz.func315 ?_
  conv => whnf
  repeat' (first|refine Seal.mk ?_|(refine wS ?_;(conv=>whnf);fail_if_success show False)|((first|refine opsA_step ?_|apply wL (l1In _ _ _));conv=>whnf)|(intro _;first|omega|conv=>whnf)|(apply And.intro<;>intro _<;>first|omega|conv=>whnf)|((first|refine aLH3 ?_|refine ⟨_,rfl,?_⟩|refine ⟨_,⟨rfl,rfl⟩,?_⟩|refine ⟨_,⟨rfl,rfl,leafH3⟩,?_⟩);conv=>whnf)|with_reducible assumption|exact lfH3|fail)
  all_goals (first | contradiction | (exfalso; omega) | (refine ⟨(),⟨⟩,?_⟩;exact fzH3))
theorem l5Attr4 (a p : Int) (ha : 0 ≤ a ∧ a ≤ 31) (hp : 0 ≤ p ∧ p ≤ 99999) (hc : p = 27) : CallA S 315 [.int .i64 a, .int .i64 p] ⟨[], 0⟩ (Ret1 (.int .i64 (((a.toNat ^^^ (a.toNat &&& (16 : Int).toNat) : Nat) : Int))) ⟨[], 0⟩) := by
  have h7 := not7 a.toNat (by omega)
  have h7' : (((a.toNat ^^^ (a.toNat &&& (7 : Int).toNat)) : Nat) : Int) ≤ 31 := by exact_mod_cast h7
  refine .ofC hS _ _ _ Tryz.func315 ?_
  conv => whnf
  repeat' (first|refine Seal.mk ?_|(refine wS ?_;(conv=>whnf);fail_if_success show False)|((first|refine opsA_step ?_|apply wL (l1In _ _ _));conv=>whnf)|(intro _;first|omega|conv=>whnf)|(apply And.intro<;>intro _<;>first|omega|conv=>whnf)|((first|refine aLH3 ?_|refine ⟨_,rfl,?_⟩|refine ⟨_,⟨rfl,rfl⟩,?_⟩|refine ⟨_,⟨rfl,rfl,leafH3⟩,?_⟩);conv=>whnf)|with_reducible assumption|exact lfH3|fail)
  all_goals (first | contradiction | (exfalso; omega) | (refine ⟨(),⟨⟩,?_⟩;exact fzH3))
theorem l5Attr5 (a p : Int) (ha : 0 ≤ a ∧ a ≤ 31) (hp : 0 ≤ p ∧ p ≤ 99999) (hc : 30 ≤ p ∧ p ≤ 37) : CallA S 315 [.int .i64 a, .int .i64 p] ⟨[], 0⟩ (Ret1 (.int .i64 (((a.toNat ^^^ (a.toNat &&& (7 : Int).toNat) : Nat) : Int) + p - 30)) ⟨[], 0⟩) := by
  have h7 := not7 a.toNat (by omega)
  have h7' : (((a.toNat ^^^ (a.toNat &&& (7 : Int).toNat)) : Nat) : Int) ≤ 31 := by exact_mod_cast h7
  refine .ofC hS _ _ _ Tryz.func315 ?_
  conv => whnf
  repeat' (first|refine Seal.mk ?_|(refine wS ?_;(conv=>whnf);fail_if_success show False)|((first|refine opsA_step ?_|apply wL (l1In _ _ _));conv=>whnf)|(intro _;first|omega|conv=>whnf)|(apply And.intro<;>intro _<;>first|omega|conv=>whnf)|((first|refine aLH3 ?_|refine oLH3 ?_|refine ⟨_,rfl,?_⟩|refine ⟨_,⟨rfl,rfl⟩,?_⟩|refine ⟨_,⟨rfl,rfl,leafH3⟩,?_⟩);conv=>whnf)|with_reducible assumption|exact lfH3|fail)
  all_goals (first | contradiction | (exfalso; omega) | (refine ⟨(),⟨⟩,?_⟩;exact fzH3))
theorem l5Attr6 (a p : Int) (ha : 0 ≤ a ∧ a ≤ 31) (hp : 0 ≤ p ∧ p ≤ 99999) (hc : p = 39) : CallA S 315 [.int .i64 a, .int .i64 p] ⟨[], 0⟩ (Ret1 (.int .i64 (((a.toNat ^^^ (a.toNat &&& (7 : Int).toNat) : Nat) : Int))) ⟨[], 0⟩) := by
  have h7 := not7 a.toNat (by omega)
  have h7' : (((a.toNat ^^^ (a.toNat &&& (7 : Int).toNat)) : Nat) : Int) ≤ 31 := by exact_mod_cast h7
  refine .ofC hS _ _ _ Tryz.func315 ?_
  conv => whnf
  repeat' (first|refine Seal.mk ?_|(refine wS ?_;(conv=>whnf);fail_if_success show False)|((first|refine opsA_step ?_|apply wL (l1In _ _ _));conv=>whnf)|(intro _;first|omega|conv=>whnf)|(apply And.intro<;>intro _<;>first|omega|conv=>whnf)|((first|refine aLH3 ?_|refine ⟨_,rfl,?_⟩|refine ⟨_,⟨rfl,rfl⟩,?_⟩|refine ⟨_,⟨rfl,rfl,leafH3⟩,?_⟩);conv=>whnf)|with_reducible assumption|exact lfH3|fail)
  all_goals (first | contradiction | (exfalso; omega) | (refine ⟨(),⟨⟩,?_⟩;exact fzH3))
theorem l5Attr9 (a p : Int) (ha : 0 ≤ a ∧ a ≤ 31) (hp : 0 ≤ p ∧ p ≤ 99999) (hc : ¬ (p = 0) ∧ ¬ (p = 1) ∧ ¬ (p = 22) ∧ ¬ (p = 7) ∧ ¬ (p = 27) ∧ ¬ (30 ≤ p ∧ p ≤ 37) ∧ ¬ (p = 39)) : CallA S 315 [.int .i64 a, .int .i64 p] ⟨[], 0⟩ (Ret1 (.int .i64 (a)) ⟨[], 0⟩) := by
  have h7 := not7 a.toNat (by omega)
  have h7' : (((a.toNat ^^^ (a.toNat &&& (7 : Int).toNat)) : Nat) : Int) ≤ 31 := by exact_mod_cast h7
  refine .ofC hS _ _ _ Tryz.func315 ?_
  conv => whnf
  repeat' (first|refine Seal.mk ?_|(refine wS ?_;(conv=>whnf);fail_if_success show False)|((first|refine opsA_step ?_|apply wL (l1In _ _ _));conv=>whnf)|(intro _;first|omega|conv=>whnf)|(apply And.intro<;>intro _<;>first|omega|conv=>whnf)|((first|refine aLH3 ?_|refine ⟨_,rfl,?_⟩|refine ⟨_,⟨rfl,rfl⟩,?_⟩|refine ⟨_,⟨rfl,rfl,leafH3⟩,?_⟩);conv=>whnf)|with_reducible assumption|exact lfH3|fail)
  all_goals (first | contradiction | (exfalso; omega) | (refine ⟨(),⟨⟩,?_⟩;exact fzH3))
theorem l5Attr (a p : Int) (ha : 0 ≤ a ∧ a ≤ 31) (hp : 0 ≤ p ∧ p ≤ 99999) : CallA S 315 [.int .i64 a, .int .i64 p] ⟨[], 0⟩ (Ret1 (.int .i64 (attrM a p)) ⟨[], 0⟩) := by
  by_cases c0 : p = 0
  · have e : attrM a p = 0 := by unfold attrM; rw [if_pos c0]
    rw [e]; exact l5Attr0 a p ha hp c0
  by_cases c1 : p = 1
  · have e : attrM a p = ((a.toNat ||| (8 : Int).toNat : Nat) : Int) := by unfold attrM; rw [if_neg c0, if_pos c1]
    rw [e]; exact l5Attr1 a p ha hp c1
  by_cases c2 : p = 22
  · have e : attrM a p = ((a.toNat ^^^ (a.toNat &&& (8 : Int).toNat) : Nat) : Int) := by unfold attrM; rw [if_neg c0, if_neg c1, if_pos c2]
    rw [e]; exact l5Attr2 a p ha hp c2
  by_cases c3 : p = 7
  · have e : attrM a p = ((a.toNat ||| (16 : Int).toNat : Nat) : Int) := by unfold attrM; rw [if_neg c0, if_neg c1, if_neg c2, if_pos c3]
    rw [e]; exact l5Attr3 a p ha hp c3
  by_cases c4 : p = 27
  · have e : attrM a p = ((a.toNat ^^^ (a.toNat &&& (16 : Int).toNat) : Nat) : Int) := by unfold attrM; rw [if_neg c0, if_neg c1, if_neg c2, if_neg c3, if_pos c4]
    rw [e]; exact l5Attr4 a p ha hp c4
  by_cases c5 : 30 ≤ p ∧ p ≤ 37
  · have e : attrM a p = ((a.toNat ^^^ (a.toNat &&& (7 : Int).toNat) : Nat) : Int) + p - 30 := by unfold attrM; rw [if_neg c0, if_neg c1, if_neg c2, if_neg c3, if_neg c4, if_pos c5]
    rw [e]; exact l5Attr5 a p ha hp c5
  by_cases c6 : p = 39
  · have e : attrM a p = ((a.toNat ^^^ (a.toNat &&& (7 : Int).toNat) : Nat) : Int) := by unfold attrM; rw [if_neg c0, if_neg c1, if_neg c2, if_neg c3, if_neg c4, if_neg c5, if_pos c6]
    rw [e]; exact l5Attr6 a p ha hp c6
  have e : attrM a p = a := by unfold attrM; rw [if_neg c0, if_neg c1, if_neg c2, if_neg c3, if_neg c4, if_neg c5, if_neg c6]
  rw [e]; exact l5Attr9 a p ha hp ⟨c0, c1, c2, c3, c4, c5, c6⟩
def setM (s : Scr) (set c : Int) : Scr := if c = 66 then { s with sets := (s.sets.set (set - 1).toNat 1) } else if c = 48 then { s with sets := (s.sets.set (set - 1).toNat 2) } else if c = 85 then { s with sets := (s.sets.set (set - 1).toNat 3) } else s
theorem l5Set0 (s : Scr) (set c : Int) (hs : s.sets.length = 2) (hset : 1 ≤ set ∧ set ≤ 2) (hc : c = 66) : CallA S 140 [.ptr (.loc 0) 20 none 0, .int .i64 set, .int .i64 c] ⟨[⟨.loc 0, true, .raw (scrC (.loc 1) (.loc 2) (.loc 3) (.loc 4) s)⟩, ⟨.loc 4, true, .arr (intE .i64) s.sets⟩], 5⟩ (Ret1 (.tup []) ⟨[⟨.loc 0, true, .raw (scrC (.loc 1) (.loc 2) (.loc 3) (.loc 4) ({ s with sets := (s.sets.set (set - 1).toNat 1) } : Scr))⟩, ⟨.loc 4, true, .arr (intE .i64) (s.sets.set (set - 1).toNat 1)⟩], 5⟩) := by
  have hl : (s.sets.set (set - 1).toNat 1).length = s.sets.length := List.length_set ..
  refine .ofC hS _ _ _ Tryz.func140 ?_
  conv => whnf
  repeat' (first|refine Seal.mk ?_|(refine wS ?_;(conv=>whnf);fail_if_success show False)|((first|refine opsA_step ?_);conv=>whnf)|(intro _;first|omega|conv=>whnf)|(apply And.intro<;>intro _<;>first|omega|conv=>whnf)|((first|refine aLH3 ?_|refine oLH3 ?_|refine ⟨_,rfl,?_⟩|refine ⟨_,⟨rfl,rfl⟩,?_⟩|refine ⟨_,⟨rfl,rfl,leafH3⟩,?_⟩);conv=>whnf)|with_reducible assumption|exact lfH3|fail)
  all_goals (first | contradiction | (exfalso; omega) | (refine ⟨(),⟨⟩,?_⟩;exact fzH3))
theorem l5Set1 (s : Scr) (set c : Int) (hs : s.sets.length = 2) (hset : 1 ≤ set ∧ set ≤ 2) (hc : c = 48) : CallA S 140 [.ptr (.loc 0) 20 none 0, .int .i64 set, .int .i64 c] ⟨[⟨.loc 0, true, .raw (scrC (.loc 1) (.loc 2) (.loc 3) (.loc 4) s)⟩, ⟨.loc 4, true, .arr (intE .i64) s.sets⟩], 5⟩ (Ret1 (.tup []) ⟨[⟨.loc 0, true, .raw (scrC (.loc 1) (.loc 2) (.loc 3) (.loc 4) ({ s with sets := (s.sets.set (set - 1).toNat 2) } : Scr))⟩, ⟨.loc 4, true, .arr (intE .i64) (s.sets.set (set - 1).toNat 2)⟩], 5⟩) := by
  have hl : (s.sets.set (set - 1).toNat 2).length = s.sets.length := List.length_set ..
  refine .ofC hS _ _ _ Tryz.func140 ?_
  conv => whnf
  repeat' (first|refine Seal.mk ?_|(refine wS ?_;(conv=>whnf);fail_if_success show False)|((first|refine opsA_step ?_);conv=>whnf)|(intro _;first|omega|conv=>whnf)|(apply And.intro<;>intro _<;>first|omega|conv=>whnf)|((first|refine aLH3 ?_|refine oLH3 ?_|refine ⟨_,rfl,?_⟩|refine ⟨_,⟨rfl,rfl⟩,?_⟩|refine ⟨_,⟨rfl,rfl,leafH3⟩,?_⟩);conv=>whnf)|with_reducible assumption|exact lfH3|fail)
  all_goals (first | contradiction | (exfalso; omega) | (refine ⟨(),⟨⟩,?_⟩;exact fzH3))
theorem l5Set2 (s : Scr) (set c : Int) (hs : s.sets.length = 2) (hset : 1 ≤ set ∧ set ≤ 2) (hc : c = 85) : CallA S 140 [.ptr (.loc 0) 20 none 0, .int .i64 set, .int .i64 c] ⟨[⟨.loc 0, true, .raw (scrC (.loc 1) (.loc 2) (.loc 3) (.loc 4) s)⟩, ⟨.loc 4, true, .arr (intE .i64) s.sets⟩], 5⟩ (Ret1 (.tup []) ⟨[⟨.loc 0, true, .raw (scrC (.loc 1) (.loc 2) (.loc 3) (.loc 4) ({ s with sets := (s.sets.set (set - 1).toNat 3) } : Scr))⟩, ⟨.loc 4, true, .arr (intE .i64) (s.sets.set (set - 1).toNat 3)⟩], 5⟩) := by
  have hl : (s.sets.set (set - 1).toNat 3).length = s.sets.length := List.length_set ..
  refine .ofC hS _ _ _ Tryz.func140 ?_
  conv => whnf
  repeat' (first|refine Seal.mk ?_|(refine wS ?_;(conv=>whnf);fail_if_success show False)|((first|refine opsA_step ?_);conv=>whnf)|(intro _;first|omega|conv=>whnf)|(apply And.intro<;>intro _<;>first|omega|conv=>whnf)|((first|refine aLH3 ?_|refine oLH3 ?_|refine ⟨_,rfl,?_⟩|refine ⟨_,⟨rfl,rfl⟩,?_⟩|refine ⟨_,⟨rfl,rfl,leafH3⟩,?_⟩);conv=>whnf)|with_reducible assumption|exact lfH3|fail)
  all_goals (first | contradiction | (exfalso; omega) | (refine ⟨(),⟨⟩,?_⟩;exact fzH3))
theorem l5Set9 (s : Scr) (set c : Int) (hs : s.sets.length = 2) (hset : 1 ≤ set ∧ set ≤ 2) (hc : ¬ (c = 66) ∧ ¬ (c = 48) ∧ ¬ (c = 85)) : CallA S 140 [.ptr (.loc 0) 20 none 0, .int .i64 set, .int .i64 c] ⟨[⟨.loc 0, true, .raw (scrC (.loc 1) (.loc 2) (.loc 3) (.loc 4) s)⟩, ⟨.loc 4, true, .arr (intE .i64) s.sets⟩], 5⟩ (Ret1 (.tup []) ⟨[⟨.loc 0, true, .raw (scrC (.loc 1) (.loc 2) (.loc 3) (.loc 4) (s : Scr))⟩, ⟨.loc 4, true, .arr (intE .i64) s.sets⟩], 5⟩) := by
  refine .ofC hS _ _ _ Tryz.func140 ?_
  conv => whnf
  repeat' (first|refine Seal.mk ?_|(refine wS ?_;(conv=>whnf);fail_if_success show False)|((first|refine opsA_step ?_);conv=>whnf)|(intro _;first|omega|conv=>whnf)|(apply And.intro<;>intro _<;>first|omega|conv=>whnf)|((first|refine aLH3 ?_|refine ⟨_,rfl,?_⟩|refine ⟨_,⟨rfl,rfl⟩,?_⟩|refine ⟨_,⟨rfl,rfl,leafH3⟩,?_⟩);conv=>whnf)|with_reducible assumption|exact lfH3|fail)
  all_goals (first | contradiction | (exfalso; omega) | (refine ⟨(),⟨⟩,?_⟩;exact fzH3))
theorem l5Set (s : Scr) (set c : Int) (hs : s.sets.length = 2) (hset : 1 ≤ set ∧ set ≤ 2)  : CallA S 140 [.ptr (.loc 0) 20 none 0, .int .i64 set, .int .i64 c] ⟨[⟨.loc 0, true, .raw (scrC (.loc 1) (.loc 2) (.loc 3) (.loc 4) s)⟩, ⟨.loc 4, true, .arr (intE .i64) s.sets⟩], 5⟩ (Ret1 (.tup []) ⟨[⟨.loc 0, true, .raw (scrC (.loc 1) (.loc 2) (.loc 3) (.loc 4) (setM s set c))⟩, ⟨.loc 4, true, .arr (intE .i64) (setM s set c).sets⟩], 5⟩) := by
  by_cases c0 : c = 66
  · have e : setM s set c = { s with sets := (s.sets.set (set - 1).toNat 1) } := by unfold setM; rw [if_pos c0]
    rw [e]; exact l5Set0 s set c hs hset c0
  by_cases c1 : c = 48
  · have e : setM s set c = { s with sets := (s.sets.set (set - 1).toNat 2) } := by unfold setM; rw [if_neg c0, if_pos c1]
    rw [e]; exact l5Set1 s set c hs hset c1
  by_cases c2 : c = 85
  · have e : setM s set c = { s with sets := (s.sets.set (set - 1).toNat 3) } := by unfold setM; rw [if_neg c0, if_neg c1, if_pos c2]
    rw [e]; exact l5Set2 s set c hs hset c2
  have e : setM s set c = s := by unfold setM; rw [if_neg c0, if_neg c1, if_neg c2]
  rw [e]; exact l5Set9 s set c hs hset ⟨c0, c1, c2⟩
def privM (s : Scr) (mode : Int) (on : Bool) : Scr := if mode = 6 then goM { s with origin := on } 0 0 else if mode = 7 then { s with autow := on, wrap := s.wrap && on } else s
theorem l5Private0 (s : Scr) (r w : Nat) (h : SzS s r w) (mode : Int) (on : Bool) (hc : mode = 6) : CallA S 309 [.ptr (.loc 0) 20 none 0, .int .i64 mode, .prop (on = true)] ⟨[⟨.loc 0, true, .raw (scrC (.loc 1) (.loc 2) (.loc 3) (.loc 4) s)⟩], 5⟩ (Ret1 (.tup []) ⟨[⟨.loc 0, true, .raw (scrC (.loc 1) (.loc 2) (.loc 3) (.loc 4) (goM { s with origin := on } 0 0 : Scr))⟩], 5⟩) := by
  have hz : SzS { s with origin := on } r w := ⟨h.hr, h.hw, h.rows, h.width⟩
  refine .ofC hS _ _ _ Tryz.func309 ?_
  conv => whnf
  repeat' (first|refine Seal.mk ?_|(refine wS ?_;(conv=>whnf);fail_if_success show False)|((first|refine opsA_step ?_|apply wL (l5Home { s with origin := on } r w hz));conv=>whnf)|(intro _;first|omega|conv=>whnf)|(apply And.intro<;>intro _<;>first|omega|conv=>whnf)|((first|refine aLH3 ?_|refine ⟨_,rfl,?_⟩|refine ⟨_,⟨rfl,rfl⟩,?_⟩|refine ⟨_,⟨rfl,rfl,leafH3⟩,?_⟩);conv=>whnf)|with_reducible assumption|exact lfH3|fail)
  all_goals (first | contradiction | (exfalso; omega) | (refine ⟨(),⟨⟩,?_⟩;exact fzH3))
theorem l5Private1 (s : Scr) (r w : Nat) (h : SzS s r w) (mode : Int) (on : Bool) (hc : mode = 7) : CallA S 309 [.ptr (.loc 0) 20 none 0, .int .i64 mode, .prop (on = true)] ⟨[⟨.loc 0, true, .raw (scrC (.loc 1) (.loc 2) (.loc 3) (.loc 4) s)⟩], 5⟩ (Ret1 (.tup []) ⟨[⟨.loc 0, true, .raw (scrC (.loc 1) (.loc 2) (.loc 3) (.loc 4) ({ s with autow := on, wrap := s.wrap && on } : Scr))⟩], 5⟩) := by
  have hz : SzS { s with origin := on } r w := ⟨h.hr, h.hw, h.rows, h.width⟩
  refine .ofC hS _ _ _ Tryz.func309 ?_
  conv => whnf
  repeat' (first|refine Seal.mk ?_|(refine wS ?_;(conv=>whnf);fail_if_success show False)|((first|refine opsA_step ?_|apply wL (l5Home { s with origin := on } r w hz));conv=>whnf)|(intro _;first|omega|conv=>whnf)|(apply And.intro<;>intro _<;>first|omega|conv=>whnf)|((first|refine aLH3 ?_|refine ⟨_,rfl,?_⟩|refine ⟨_,⟨rfl,rfl⟩,?_⟩|refine ⟨_,⟨rfl,rfl,leafH3⟩,?_⟩);conv=>whnf)|with_reducible assumption|exact lfH3|fail)
  all_goals (first | contradiction | (exfalso; omega) | (refine ⟨(),⟨⟩,?_⟩;exact fzH3))
theorem l5Private2 (s : Scr) (r w : Nat) (h : SzS s r w) (mode : Int) (on : Bool) (hc : ¬ mode = 6 ∧ ¬ mode = 7) : CallA S 309 [.ptr (.loc 0) 20 none 0, .int .i64 mode, .prop (on = true)] ⟨[⟨.loc 0, true, .raw (scrC (.loc 1) (.loc 2) (.loc 3) (.loc 4) s)⟩], 5⟩ (Ret1 (.tup []) ⟨[⟨.loc 0, true, .raw (scrC (.loc 1) (.loc 2) (.loc 3) (.loc 4) (s : Scr))⟩], 5⟩) := by
  have hz : SzS { s with origin := on } r w := ⟨h.hr, h.hw, h.rows, h.width⟩
  refine .ofC hS _ _ _ Tryz.func309 ?_
  conv => whnf
  repeat' (first|refine Seal.mk ?_|(refine wS ?_;(conv=>whnf);fail_if_success show False)|((first|refine opsA_step ?_|apply wL (l5Home { s with origin := on } r w hz));conv=>whnf)|(intro _;first|omega|conv=>whnf)|(apply And.intro<;>intro _<;>first|omega|conv=>whnf)|((first|refine aLH3 ?_|refine ⟨_,rfl,?_⟩|refine ⟨_,⟨rfl,rfl⟩,?_⟩|refine ⟨_,⟨rfl,rfl,leafH3⟩,?_⟩);conv=>whnf)|with_reducible assumption|exact lfH3|fail)
  all_goals (first | contradiction | (exfalso; omega) | (refine ⟨(),⟨⟩,?_⟩;exact fzH3))
theorem l5Private (s : Scr) (r w : Nat) (h : SzS s r w) (mode : Int) (on : Bool)  : CallA S 309 [.ptr (.loc 0) 20 none 0, .int .i64 mode, .prop (on = true)] ⟨[⟨.loc 0, true, .raw (scrC (.loc 1) (.loc 2) (.loc 3) (.loc 4) s)⟩], 5⟩ (Ret1 (.tup []) ⟨[⟨.loc 0, true, .raw (scrC (.loc 1) (.loc 2) (.loc 3) (.loc 4) (privM s mode on))⟩], 5⟩) := by
  by_cases c0 : mode = 6
  · have e : privM s mode on = goM { s with origin := on } 0 0 := by unfold privM; rw [if_pos c0]
    rw [e]; exact l5Private0 s r w h mode on c0
  by_cases c1 : mode = 7
  · have e : privM s mode on = { s with autow := on, wrap := s.wrap && on } := by unfold privM; rw [if_neg c0, if_pos c1]
    rw [e]; exact l5Private1 s r w h mode on c1
  have e : privM s mode on = s := by unfold privM; rw [if_neg c0, if_neg c1]
  rw [e]; exact l5Private2 s r w h mode on ⟨c0, c1⟩
end Go.Mu
