/- What is wrong with a terminal, a console, as the reference tells. -/
import Derived.Test.YtfjodggmmokaaaaGreatDBO
import Derived.Test.YtfjodggmmokaaaaGreatDAK
import Derived.Test.YtfjodggmmokaaaaGreatDBN
set_option linter.unusedSimpArgs false
set_option linter.unusedVariables false
set_option linter.constructorNameAsVariable false
namespace Go.Mu
open Go Go.Vm Go.RowKit Go.Proofs
attribute [local irreducible] wpA opsA stillA drawA drawS
set_option maxRecDepth 20000
set_option maxHeartbeats 4000000
theorem l4Params (xs : List Int) (hx : xs.length ≤ 1048576) : CallA S 135 [.sl (.loc 0) 1 none xs.length] ⟨[⟨.loc 0, false, .arr (intE .i64) xs⟩], 1⟩ (Ret1 (.int .i64 (parmsF xs)) ⟨[], 1⟩) := by
  refine .ofC hS _ _ _ Tryz.func135 ?_
  conv => whnf
  repeat' (first|refine Seal.mk ?_|(refine wS ?_;(conv=>whnf);fail_if_success show False)|((first|refine opsA_step ?_);conv=>whnf)|(intro _;first|omega|conv=>whnf)|(apply And.intro<;>intro _<;>first|omega|conv=>whnf)|((first|refine aL ?_|refine oL ?_|refine ⟨_,rfl,?_⟩|refine ⟨_,⟨rfl,rfl⟩,?_⟩|refine ⟨_,⟨rfl,rfl,leaf⟩,?_⟩);conv=>whnf)|with_reducible assumption|exact lf|fail)
  all_goals first | ((refine ⟨(), trivial, ?_⟩; (try refine FitsT.now hS ?_); (conv => whnf); apply And.intro; (case right => (repeat' (first|exact ⟨⟩|(apply And.intro;focus exact leaf)|((conv=>whnf);first|exact ⟨⟩|(apply And.intro;focus exact leaf))|fail)))); unfold parmsF; rw [if_neg (by omega)]; done) | skip
  refine .loop hS (γ := Nat) (fun i => ⟨[(0, .sl (.loc 0) 1 none xs.length), (3, .int .i64 i)],
      ⟨[⟨.loc 0, false, .arr (intE .i64) xs⟩], 1⟩, 24, 1⟩) (fun i => i ≤ xs.length ∧ ∀ k, k < i → 0 ≤ xs.getD k 0 ∧ xs.getD k 0 ≤ 999) (fun i => xs.length - i) 0 ⟨by omega, by omega⟩ ?_ ?_
  · ((try dsimp only);exact fz)
  · intro i hi
    obtain ⟨hi, hk⟩ := hi
    conv => whnf
    repeat' (first|refine Seal.mk ?_|(refine wS ?_;(conv=>whnf);fail_if_success show False)|((first|refine opsA_step ?_|apply wL (l1In _ _ _));conv=>whnf)|(intro _;first|omega|conv=>whnf)|(apply And.intro<;>intro _<;>first|omega|conv=>whnf)|((first|refine aL ?_|refine oL ?_|refine ⟨_,rfl,?_⟩|refine ⟨_,⟨rfl,rfl⟩,?_⟩|refine ⟨_,⟨rfl,rfl,leaf⟩,?_⟩);conv=>whnf)|with_reducible assumption|exact lf|fail)
    · have hn : ¬ allParams xs := fun h => absurd (h i (by omega)) ‹_›
      (refine ⟨(), trivial, ?_⟩; (try refine FitsT.now hS ?_); (conv => whnf); apply And.intro; (case right => (repeat' (first|exact ⟨⟩|(apply And.intro;focus exact leaf)|((conv=>whnf);first|exact ⟨⟩|(apply And.intro;focus exact leaf))|fail))))
      unfold parmsF; rw [if_pos (by omega), if_neg hn]
    · refine ⟨i + 1, ⟨⟨by omega, fun k hk' => ?_⟩, by omega⟩, ?_⟩
      · rcases Nat.lt_or_eq_of_le (Nat.le_of_lt_succ hk') with q | q
        · exact hk k q
        · subst q; exact Classical.not_not.1 ‹_›
      · ((try dsimp only);exact fz)
    · have hn : allParams xs := fun k hk' => hk k (by omega)
      (refine ⟨(), trivial, ?_⟩; (try refine FitsT.now hS ?_); (conv => whnf); apply And.intro; (case right => (repeat' (first|exact ⟨⟩|(apply And.intro;focus exact leaf)|((conv=>whnf);first|exact ⟨⟩|(apply And.intro;focus exact leaf))|fail))))
      unfold parmsF; rw [if_pos (by omega), if_pos hn]
theorem l5Fault' (s : Scr) (h : ScrB s) : CallA S 56 [.ptr (.loc 0) 20 none 0] ⟨⟨.loc 0, false, .raw (scrC (.loc 1) (.loc 2) (.loc 3) (.loc 4) s)⟩ :: scrH false (.loc 1) (.loc 2) (.loc 3) (.loc 4) s [], 5⟩ (Ret1 (.int .i64 (scrF s)) ⟨[], 5⟩) := by
  refine CallA.mono (l5Fault s h.grid.cells h.grid.back h.tabs h.sets) fun v H' k => ?_
  obtain ⟨g, ⟨rfl, _⟩, h1, h2⟩ := k
  exact ⟨(), trivial, h1, h2⟩
end Go.Mu

namespace Go.Mu
open Go Go.Vm Go.RowKit Go.Proofs
attribute [local irreducible] wpA opsA stillA drawA drawS
set_option maxRecDepth 20000
set_option maxHeartbeats 40000000
theorem l4Shown (c : Int) : CallA S 213 [.int .i64 c] ⟨[], 0⟩ (Ret1 (.prop (shP c)) ⟨[], 0⟩) := by
  refine .ofC hS _ _ _ Tryz.func213 ?_
  conv => whnf
  repeat' (first|refine Seal.mk ?_|(refine wS ?_;(conv=>whnf);fail_if_success show False)|((first|refine opsA_step ?_|apply wL (l1Char _)|apply wL (l1In _ _ _));conv=>whnf)|(intro _;first|omega|conv=>whnf)|(apply And.intro<;>intro _<;>first|omega|conv=>whnf)|((first|refine aLQ ?_|refine ⟨_,rfl,?_⟩|refine ⟨_,⟨rfl,rfl⟩,?_⟩|refine ⟨_,⟨rfl,rfl,leafQ⟩,?_⟩);conv=>whnf)|with_reducible assumption|exact lfQ|fail)
  all_goals (first | contradiction | (exfalso; omega) | (refine ⟨(),⟨⟩,?_⟩;exact fzQ))
theorem l4Form1 (a : Vm.Act) (h : a.params.length ≤ 1048576) (hp : a.priv = true) : CallA S 133 [.ptr (.loc 0) 5 none 0] ⟨[⟨.loc 0, false, .raw (actC (.loc 1) a)⟩, ⟨.loc 1, false, .arr (intE .i64) a.params⟩], 2⟩ (Ret1 (.prop (a.kind = 4 ∧ a.set = 0)) ⟨[], 2⟩) := by
  refine .ofC hS _ _ _ Tryz.func133 ?_
  conv => whnf
  repeat' (first|refine Seal.mk ?_|(refine wS ?_;(conv=>whnf);fail_if_success show False)|((first|refine opsA_step ?_|apply wL (l1In _ _ _));conv=>whnf)|(intro _;first|omega|conv=>whnf)|(apply And.intro<;>intro _<;>first|omega|conv=>whnf)|((first|refine aLQ ?_|refine ⟨_,rfl,?_⟩|refine ⟨_,⟨rfl,rfl⟩,?_⟩|refine ⟨_,⟨rfl,rfl,leafQ⟩,?_⟩);conv=>whnf)|with_reducible assumption|exact lfQ|fail)
  all_goals (first | contradiction | (exfalso; omega) | (refine ⟨(),⟨⟩,?_⟩;exact fzQ))
theorem l4Form0 (a : Vm.Act) (h : a.params.length ≤ 1048576) (hp : ¬ a.priv = true) : CallA S 133 [.ptr (.loc 0) 5 none 0] ⟨[⟨.loc 0, false, .raw (actC (.loc 1) a)⟩, ⟨.loc 1, false, .arr (intE .i64) a.params⟩], 2⟩ (Ret1 (.prop ((0 ≤ a.kind ∧ a.kind ≤ 5) ∧ (a.kind = 4 ∨ a.params.length = 0) ∧ (a.kind = 5 ∨ a.set = 0) ∧ (¬ a.kind = 0 ∨ a.char = 0))) ⟨[], 2⟩) := by
  refine .ofC hS _ _ _ Tryz.func133 ?_
  conv => whnf
  repeat' (first|refine Seal.mk ?_|(refine wS ?_;(conv=>whnf);fail_if_success show False)|((first|refine opsA_step ?_|apply wL (l1In _ _ _));conv=>whnf)|(intro _;first|omega|conv=>whnf)|(apply And.intro<;>intro _<;>first|omega|conv=>whnf)|((first|refine aLQ ?_|refine ⟨_,rfl,?_⟩|refine ⟨_,⟨rfl,rfl⟩,?_⟩|refine ⟨_,⟨rfl,rfl,leafQ⟩,?_⟩);conv=>whnf)|with_reducible assumption|exact lfQ|fail)
  all_goals (first | contradiction | (exfalso; omega) | (refine ⟨(),⟨⟩,?_⟩;exact fzQ))
theorem l4Char (a : Vm.Act) : CallA S 134 [.ptr (.loc 0) 5 none 0] ⟨[⟨.loc 0, false, .raw (actC (.loc 1) a)⟩, ⟨.loc 1, false, .arr (intE .i64) a.params⟩], 2⟩ (Ret1 (.prop (charP a)) ⟨[], 2⟩) := by
  refine .ofC hS _ _ _ Tryz.func134 ?_
  conv => whnf
  repeat' (first|refine Seal.mk ?_|(refine wS ?_;(conv=>whnf);fail_if_success show False)|((first|refine opsA_step ?_|apply wL (l4Shown _)|apply wL (l1In _ _ _));conv=>whnf)|(intro _;first|omega|conv=>whnf)|(apply And.intro<;>intro _<;>first|omega|conv=>whnf)|((first|refine aLQ ?_|refine ⟨_,rfl,?_⟩|refine ⟨_,⟨rfl,rfl⟩,?_⟩|refine ⟨_,⟨rfl,rfl,leafQ⟩,?_⟩);conv=>whnf)|with_reducible assumption|exact lfQ|fail)
  all_goals (first | contradiction | (exfalso; omega) | (refine ⟨(),⟨⟩,?_⟩;exact fzQ))
theorem l4Action1 (a : Vm.Act) (h : a.params.length ≤ 1048576) (hp : a.priv = true) : CallA S 58 [.ptr (.loc 0) 5 none 0] ⟨[⟨.loc 0, false, .raw (actC (.loc 1) a)⟩, ⟨.loc 1, false, .arr (intE .i64) a.params⟩], 2⟩ (Ret1 (.int .i64 (actT a)) ⟨[], 2⟩) := by
  refine .ofC hS _ _ _ Tryz.func58 ?_
  conv => whnf
  repeat' (first|refine Seal.mk ?_|(refine wS ?_;(conv=>whnf);fail_if_success show False)|((first|refine opsA_step ?_|apply wL (l4Form1 a h hp)|apply wL (l4Char a)|apply wL (l4Params _ h));conv=>whnf)|(intro _;first|omega|conv=>whnf)|(apply And.intro<;>intro _<;>first|omega|conv=>whnf)|((first|refine aLQ ?_|refine ⟨_,rfl,?_⟩|refine ⟨_,⟨rfl,rfl⟩,?_⟩|refine ⟨_,⟨rfl,rfl,leafQ⟩,?_⟩);conv=>whnf)|with_reducible assumption|exact lfQ|fail)
  all_goals (first | contradiction | (exfalso; omega) | (rw [show actT a = 1 from by unfold actT; (repeat' split) <;> first | rfl | (exfalso; omega)]; (refine ⟨(),⟨⟩,?_⟩;exact fzQ); done) | (rw [show actT a = 3 from by unfold actT; (repeat' split) <;> first | rfl | (exfalso; omega)]; (refine ⟨(),⟨⟩,?_⟩;exact fzQ); done) | (rw [show actT a = 0 from by unfold actT; (repeat' split) <;> first | rfl | (exfalso; omega)]; (refine ⟨(),⟨⟩,?_⟩;exact fzQ); done) | (rw [show actT a = parmsF a.params from by unfold actT; (repeat' split) <;> first | rfl | (exfalso; omega)]; (refine ⟨(),⟨⟩,?_⟩;exact fzQ); done))
theorem l4Action0 (a : Vm.Act) (h : a.params.length ≤ 1048576) (hp : ¬ a.priv = true) : CallA S 58 [.ptr (.loc 0) 5 none 0] ⟨[⟨.loc 0, false, .raw (actC (.loc 1) a)⟩, ⟨.loc 1, false, .arr (intE .i64) a.params⟩], 2⟩ (Ret1 (.int .i64 (actU a)) ⟨[], 2⟩) := by
  refine .ofC hS _ _ _ Tryz.func58 ?_
  conv => whnf
  repeat' (first|refine Seal.mk ?_|(refine wS ?_;(conv=>whnf);fail_if_success show False)|((first|refine opsA_step ?_|apply wL (l4Form0 a h hp)|apply wL (l4Char a)|apply wL (l4Params _ h));conv=>whnf)|(intro _;first|omega|conv=>whnf)|(apply And.intro<;>intro _<;>first|omega|conv=>whnf)|((first|refine aLQ ?_|refine ⟨_,rfl,?_⟩|refine ⟨_,⟨rfl,rfl⟩,?_⟩|refine ⟨_,⟨rfl,rfl,leafQ⟩,?_⟩);conv=>whnf)|with_reducible assumption|exact lfQ|fail)
  all_goals (first | contradiction | (exfalso; omega) | (rw [show actU a = 1 from by unfold actU; (repeat' split) <;> first | rfl | (exfalso; omega)]; (refine ⟨(),⟨⟩,?_⟩;exact fzQ); done) | (rw [show actU a = 3 from by unfold actU; (repeat' split) <;> first | rfl | (exfalso; omega)]; (refine ⟨(),⟨⟩,?_⟩;exact fzQ); done) | (rw [show actU a = 0 from by unfold actU; (repeat' split) <;> first | rfl | (exfalso; omega)]; (refine ⟨(),⟨⟩,?_⟩;exact fzQ); done) | (rw [show actU a = parmsF a.params from by unfold actU; (repeat' split) <;> first | rfl | (exfalso; omega)]; (refine ⟨(),⟨⟩,?_⟩;exact fzQ); done))
theorem l4Action (a : Vm.Act) (h : a.params.length ≤ 1048576) : CallA S 58 [.ptr (.loc 0) 5 none 0] ⟨[⟨.loc 0, false, .raw (actC (.loc 1) a)⟩, ⟨.loc 1, false, .arr (intE .i64) a.params⟩], 2⟩ (Ret1 (.int .i64 (actF a)) ⟨[], 2⟩) := by
  unfold actF
  by_cases hp : a.priv = true
  · rw [if_pos hp]; exact l4Action1 a h hp
  · rw [if_neg hp]; exact l4Action0 a h hp
end Go.Mu

namespace Go.Mu
open Go Go.Vm Go.RowKit Go.Proofs
attribute [local irreducible] wpA opsA stillA drawA drawS
set_option maxRecDepth 20000
set_option maxHeartbeats 40000000
theorem leafI10 {P : Prop} (h : P := by
  first
  | exact leaf
  | exact PreC.of_eq rfl
  | rfl
  | exact Bool.false_ne_true
  | exact ⟨rfl, rfl⟩
  | exact fa (by assumption)
  | exact (fa (by assumption)).symm
  | exact fb (by assumption)
  | fail) : P := h
theorem aLI10 {a b : Prop} (k : b) (h : a := by exact leafI10) : a ∧ b := ⟨h, k⟩
theorem oLI10 {a b c : Prop} (k : b) (h : a := by exact leafI10) : (a ∧ b) ∨ c := .inl ⟨h, k⟩
theorem fzI10 {P : Prop} (h : P := by
  (try refine wF ?_)
  repeat' (first|exact ⟨⟩|(apply And.intro;focus exact leafI10)|((conv=>whnf);first|exact ⟨⟩|(apply And.intro;focus exact leafI10))|fail)
  (first | done | fail)) : P := h
theorem sPriv0 (s : Scr) (c : Int) (ps : List Int) (hc : ¬ (c = 104 ∨ c = 108)) : CallA S 157 [.ptr (.loc 0) 20 none 0, .int .i64 c, .sl (.loc 5) 1 none ps.length] ⟨[⟨.loc 0, true, .raw (scrC (.loc 1) (.loc 2) (.loc 3) (.loc 4) s)⟩, ⟨.loc 5, false, .arr (intE .i64) ps⟩], 6⟩ (Ret1 (.tup []) ⟨[⟨.loc 0, true, .raw (scrC (.loc 1) (.loc 2) (.loc 3) (.loc 4) s)⟩], 6⟩) := by
  refine .ofC hS _ _ _ Tryz.func157 ?_
  conv => whnf
  repeat' (first|refine Seal.mk ?_|(refine wS ?_;(conv=>whnf);fail_if_success show False)|((first|refine opsA_step ?_);conv=>whnf)|(intro _;first|omega|conv=>whnf)|(apply And.intro<;>intro _<;>first|omega|conv=>whnf)|((first|refine aLI10 ?_|refine ⟨_,rfl,?_⟩|refine ⟨_,⟨rfl,rfl⟩,?_⟩|refine ⟨_,⟨rfl,rfl,leafI10⟩,?_⟩);conv=>whnf)|with_reducible assumption|exact lfI10|fail)
  all_goals (first | contradiction | (exfalso; omega) | (refine ⟨(),⟨⟩,?_⟩;exact fzI10))
theorem sPriv1 (s : Scr) (r w : Nat) (h : OkS s r w) (c : Int) (ps : List Int) (hl : ps.length ≤ 1000) (hc : c = 104 ∨ c = 108) (on : Bool) (hon : on = true ↔ c = 104) : CallA S 157 [.ptr (.loc 0) 20 none 0, .int .i64 c, .sl (.loc 5) 1 none ps.length] ⟨[⟨.loc 0, true, .raw (scrC (.loc 1) (.loc 2) (.loc 3) (.loc 4) s)⟩, ⟨.loc 5, false, .arr (intE .i64) ps⟩], 6⟩ (Ret1 (.tup []) ⟨[⟨.loc 0, true, .raw (scrC (.loc 1) (.loc 2) (.loc 3) (.loc 4) (modesL true on s ps ps.length))⟩], 6⟩) := by
  have hon' := hon.symm
  refine .ofC hS _ _ _ Tryz.func157 ?_
  conv => whnf
  repeat' (first|refine Seal.mk ?_|(refine wS ?_;(conv=>whnf);fail_if_success show False)|((first|refine opsA_step ?_);conv=>whnf)|(intro _;first|omega|conv=>whnf)|(apply And.intro<;>intro _<;>first|omega|conv=>whnf)|((first|refine aLI10 ?_|refine oLI10 ?_|refine ⟨_,rfl,?_⟩|refine ⟨_,⟨rfl,rfl⟩,?_⟩|refine ⟨_,⟨rfl,rfl,leafI10⟩,?_⟩);conv=>whnf)|with_reducible assumption|exact lfI10|fail)
  all_goals (try (exfalso; omega))
  all_goals
    refine .loop hS (γ := Nat) (fun i => ⟨[(0, .ptr (.loc 0) 20 none 0), (1, .int .i64 c), (14, .sl (.loc 5) 1 none ps.length), (15, .int .i64 ps.length), (16, .int .i64 i)], ⟨[⟨.loc 0, true, .raw (scrC (.loc 1) (.loc 2) (.loc 3) (.loc 4) (modesL true on s ps i))⟩, ⟨.loc 5, false, .arr (intE .i64) ps⟩], 6⟩, 51, 6⟩) (fun i => i ≤ ps.length) (fun i => ps.length - i) 0 (by omega) ?_ ?_
    · have h0 : modesL true on s ps 0 = s := rfl
      rw [h0]
      ((try dsimp only);exact fzI10)
    · intro i hi
      have hk := modesL_ok h true on ps i
      conv => whnf
      by_cases hgo : i < ps.length
      · have hn := modesL_next (priv := true) (on := on) (s := s) hgo
        generalize modesL true on s ps i = t at *
        have hv : modeStep true on t (ps.getD (i : Int).toNat 0) = privM t (ps.getD (i : Int).toNat 0) on := if_pos rfl
        rw [hv] at hn
        have hhm := sHome { t with origin := on } r w ⟨hk.hr, hk.hw, hk.rows, hk.width, hk.reg⟩
        have z6 : ps.getD (i : Int).toNat (intE .i64).d = 6 → modesL true on s ps (i + 1) = goM { t with origin := on } 0 0 := fun q => by rw [hn]; exact if_pos q
        have z7 : ps.getD (i : Int).toNat (intE .i64).d = 7 → modesL true on s ps (i + 1) = { t with autow := on, wrap := t.wrap && on } := fun q => by rw [hn]; exact (if_neg (fun q' => by have q : ps.getD (i : Int).toNat 0 = 7 := q; omega)).trans (if_pos q)
        have zx : ¬ ps.getD (i : Int).toNat (intE .i64).d = 6 → ¬ ps.getD (i : Int).toNat (intE .i64).d = 7 → modesL true on s ps (i + 1) = t := fun q q' => by rw [hn]; exact (if_neg q).trans (if_neg q')
        have fa : t.wrap = true → ((t.wrap && on) = true ↔ c = 104) := fun q => by rw [q, Bool.true_and]; exact hon
        have fb : ¬ t.wrap = true → ¬ ((t.wrap && on) = true) := fun q q' => q (by rw [Bool.and_eq_true] at q'; exact q'.1)
        repeat' (first|refine Seal.mk ?_|(refine wS ?_;(conv=>whnf);fail_if_success show False)|((first|refine opsA_step ?_|apply wL (hhm));conv=>whnf)|(intro _;first|omega|conv=>whnf)|(apply And.intro<;>intro _<;>first|omega|conv=>whnf)|((first|refine aLI10 ?_|refine oLI10 ?_|refine ⟨_,rfl,?_⟩|refine ⟨_,⟨rfl,rfl⟩,?_⟩|refine ⟨_,⟨rfl,rfl,leafI10⟩,?_⟩);conv=>whnf)|with_reducible assumption|exact lfI10|fail)
        all_goals (first | contradiction | (exfalso; omega) | (refine ⟨i + 1, ⟨by omega, by omega⟩, ?_⟩; first | (rw [z6 (by assumption)]; ((try dsimp only);exact fzI10); done) | (rw [z7 (by assumption)]; ((try dsimp only);exact fzI10); done) | (rw [zx (by assumption) (by assumption)]; ((try dsimp only);exact fzI10); done)))
      · have hie : i = ps.length := by omega
        subst hie
        repeat' (first|refine Seal.mk ?_|(refine wS ?_;(conv=>whnf);fail_if_success show False)|((first|refine opsA_step ?_);conv=>whnf)|(intro _;first|omega|conv=>whnf)|(apply And.intro<;>intro _<;>first|omega|conv=>whnf)|((first|refine aLI10 ?_|refine oLI10 ?_|refine ⟨_,rfl,?_⟩|refine ⟨_,⟨rfl,rfl⟩,?_⟩|refine ⟨_,⟨rfl,rfl,leafI10⟩,?_⟩);conv=>whnf)|with_reducible assumption|exact lfI10|fail)
        (refine ⟨(),⟨⟩,?_⟩;exact fzI10)
def idxN (ps : List Int) (v : Int) : Nat → Int → Int
  | 0, _ => -1
  | n + 1, i => if ps.getD i.toNat 0 = v then i else idxN ps v n (i + 1)
theorem idxN_mem (ps : List Int) (v : Int) : ∀ (n i : Nat), i + n = ps.length → (0 ≤ idxN ps v n i ↔ v ∈ ps.drop i) := by
  intro n
  induction n with
  | zero => intro i hi; unfold idxN; rw [List.drop_eq_nil_of_le (by omega)]; simp
  | succ n ih =>
    intro i hi
    have hlt : i < ps.length := by omega
    have hg : ps.getD ((i : Int)).toNat 0 = ps[i] := by rw [Int.toNat_natCast]; simp [hlt]
    unfold idxN
    rw [List.drop_eq_getElem_cons hlt, List.mem_cons, hg]
    by_cases q : ps[i] = v
    · rw [if_pos q]; exact ⟨fun _ => .inl q.symm, fun _ => by omega⟩
    · rw [if_neg q, show ((i : Int) + 1) = ((i + 1 : Nat) : Int) by omega, ih (i + 1) (by omega)]
      exact ⟨.inr, fun h => h.elim (fun e => absurd e.symm q) id⟩
theorem indexI (ps : List Int) (v : Int) (hl : ps.length ≤ 1000) : CallA S 329 [.sl (.loc 0) 1 none ps.length, .int .i64 v] ⟨[⟨.loc 0, false, .arr (intE .i64) ps⟩], 1⟩ (Ret1 (.int .i64 (idxN ps v ps.length 0)) ⟨[], 1⟩) := by
  refine .ofC hS _ _ _ Tryz.func329 ?_
  conv => whnf
  repeat' (first|refine Seal.mk ?_|(refine wS ?_;(conv=>whnf);fail_if_success show False)|((first|refine opsA_step ?_);conv=>whnf)|(intro _;first|omega|conv=>whnf)|(apply And.intro<;>intro _<;>first|omega|conv=>whnf)|((first|refine aLI10 ?_|refine oLI10 ?_|refine ⟨_,rfl,?_⟩|refine ⟨_,⟨rfl,rfl⟩,?_⟩|refine ⟨_,⟨rfl,rfl,leafI10⟩,?_⟩);conv=>whnf)|with_reducible assumption|exact lfI10|fail)
  refine .loop hS (γ := Nat) (fun i => ⟨[(0, .sl (.loc 0) 1 none ps.length), (1, .int .i64 v), (7, .int .i64 ps.length), (8, .int .i64 i)], ⟨[⟨.loc 0, false, .arr (intE .i64) ps⟩], 1⟩, 19, 1⟩) (fun i => i ≤ ps.length ∧ idxN ps v ps.length 0 = idxN ps v (ps.length - i) i) (fun i => ps.length - i) 0 ⟨by omega, rfl⟩ ?_ ?_
  · ((try dsimp only);exact fzI10)
  · rintro i ⟨hi, hn⟩
    conv => whnf
    by_cases hgo : i < ps.length
    · replace hn : idxN ps v ps.length 0 = if ps.getD (i : Int).toNat 0 = v then (i : Int) else idxN ps v (ps.length - (i + 1)) ((i : Int) + 1) := by
        rw [hn, show ps.length - i = (ps.length - (i + 1)) + 1 by omega]; rfl
      by_cases hv : ps.getD (i : Int).toNat (intE .i64).d = v
      · have hn1 : idxN ps v ps.length 0 = i := hn.trans (if_pos hv)
        repeat' (first|refine Seal.mk ?_|(refine wS ?_;(conv=>whnf);fail_if_success show False)|((first|refine opsA_step ?_);conv=>whnf)|(intro _;first|omega|conv=>whnf)|(apply And.intro<;>intro _<;>first|omega|conv=>whnf)|((first|refine aLI10 ?_|refine oLI10 ?_|refine ⟨_,rfl,?_⟩|refine ⟨_,⟨rfl,rfl⟩,?_⟩|refine ⟨_,⟨rfl,rfl,leafI10⟩,?_⟩);conv=>whnf)|with_reducible assumption|exact lfI10|fail)
        all_goals (first | contradiction | (exfalso; omega) | (refine ⟨(),⟨⟩,?_⟩;exact fzI10))
      · have hn1 : idxN ps v ps.length 0 = idxN ps v (ps.length - (i + 1)) ((i + 1 : Nat) : Int) := hn.trans (if_neg hv)
        repeat' (first|refine Seal.mk ?_|(refine wS ?_;(conv=>whnf);fail_if_success show False)|((first|refine opsA_step ?_);conv=>whnf)|(intro _;first|omega|conv=>whnf)|(apply And.intro<;>intro _<;>first|omega|conv=>whnf)|((first|refine aLI10 ?_|refine oLI10 ?_|refine ⟨_,rfl,?_⟩|refine ⟨_,⟨rfl,rfl⟩,?_⟩|refine ⟨_,⟨rfl,rfl,leafI10⟩,?_⟩);conv=>whnf)|with_reducible assumption|exact lfI10|fail)
        all_goals (first | contradiction | (exfalso; omega) | (refine ⟨i + 1, ⟨⟨by omega, hn1⟩, by omega⟩, ?_⟩; ((try dsimp only);exact fzI10)))
    · have hn1 : idxN ps v ps.length 0 = -1 := by rw [hn, show ps.length - i = 0 by omega]; rfl
      repeat' (first|refine Seal.mk ?_|(refine wS ?_;(conv=>whnf);fail_if_success show False)|((first|refine opsA_step ?_);conv=>whnf)|(intro _;first|omega|conv=>whnf)|(apply And.intro<;>intro _<;>first|omega|conv=>whnf)|((first|refine aLI10 ?_|refine oLI10 ?_|refine ⟨_,rfl,?_⟩|refine ⟨_,⟨rfl,rfl⟩,?_⟩|refine ⟨_,⟨rfl,rfl,leafI10⟩,?_⟩);conv=>whnf)|with_reducible assumption|exact lfI10|fail)
      all_goals (first | contradiction | (exfalso; omega) | (refine ⟨(),⟨⟩,?_⟩;exact fzI10))
theorem containsI (ps : List Int) (v : Int) (hl : ps.length ≤ 1000) : CallA S 259 [.sl (.loc 0) 1 none ps.length, .int .i64 v] ⟨[⟨.loc 0, false, .arr (intE .i64) ps⟩], 1⟩ (Ret1 (.prop (v ∈ ps)) ⟨[], 1⟩) := by
  have e : 0 ≤ idxN ps v ps.length 0 ↔ v ∈ ps := by have := idxN_mem ps v ps.length 0 (by omega); rwa [List.drop_zero] at this
  refine .ofC hS _ _ _ Tryz.func259 ?_
  conv => whnf
  repeat' (first|refine Seal.mk ?_|(refine wS ?_;(conv=>whnf);fail_if_success show False)|((first|refine opsA_step ?_|apply wL (indexI ps v hl));conv=>whnf)|(intro _;first|omega|conv=>whnf)|(apply And.intro<;>intro _<;>first|omega|conv=>whnf)|((first|refine aLI10 ?_|refine ⟨_,rfl,?_⟩|refine ⟨_,⟨rfl,rfl⟩,?_⟩|refine ⟨_,⟨rfl,rfl,leafI10⟩,?_⟩);conv=>whnf)|with_reducible assumption|exact lfI10|fail)
  (refine ⟨(),⟨⟩,?_⟩;exact fzI10)
end Go.Mu
