/- Screens, as the reference prints on them. -/
import Derived.Test.YtfjodggmmokaaaaGreatDAK
import Derived.Test.YtfjodggmmokaaaaGreatDAX
import Derived.Test.YtfjodggmmokaaaaGreatDBC
import Derived.Test.YtfjodggmmokaaaaGreatDAY
import Derived.Test.YtfjodggmmokaaaaGreatDAQ
set_option linter.unusedSimpArgs false
set_option linter.unusedVariables false
set_option linter.constructorNameAsVariable false
namespace Go.Mu
open Go Go.Vm Go.RowKit Go.Proofs
attribute [local irreducible] wpA opsA stillA drawA drawS
set_option maxRecDepth 20000
set_option maxHeartbeats 40000000
def trM (t c : Int) : Int := if t = 2 ∧ 97 ≤ c ∧ c ≤ 122 then 9472 + c - 97 else if t = 3 ∧ 33 ≤ c ∧ c ≤ 126 then 61440 + c else c
theorem l2Tr0 (t c : Int) (hc : 0 ≤ c ∧ c ≤ 1114111) (h1 : t = 2 ∧ 97 ≤ c ∧ c ≤ 122) : CallA S 215 [.int .i64 t, .int .i64 c] ⟨[], 0⟩ (Ret1 (.int .i64 (trM t c)) ⟨[], 0⟩) := by
  have e : trM t c = 9472 + c - 97 := by unfold trM; rw [if_pos h1]
  rw [e]
  refine .ofC hS _ _ _ Tryz.func215 ?_
  conv => whnf
  repeat' (first|refine Seal.mk ?_|(refine wS ?_;(conv=>whnf);fail_if_success show False)|((first|refine opsA_step ?_|apply wL (l1In _ _ _));conv=>whnf)|(intro _;first|omega|conv=>whnf)|(apply And.intro<;>intro _<;>first|omega|conv=>whnf)|((first|refine aLQ ?_|refine oLQ ?_|refine ⟨_,rfl,?_⟩|refine ⟨_,⟨rfl,rfl⟩,?_⟩|refine ⟨_,⟨rfl,rfl,leafQ⟩,?_⟩);conv=>whnf)|with_reducible assumption|exact lfQ|fail)
  all_goals (first | contradiction | (exfalso; omega) | (refine ⟨(),⟨⟩,?_⟩;exact fzQ))
theorem l2Tr1 (t c : Int) (hc : 0 ≤ c ∧ c ≤ 1114111) (h1 : ¬ (t = 2 ∧ 97 ≤ c ∧ c ≤ 122)) (h2 : t = 3 ∧ 33 ≤ c ∧ c ≤ 126) : CallA S 215 [.int .i64 t, .int .i64 c] ⟨[], 0⟩ (Ret1 (.int .i64 (trM t c)) ⟨[], 0⟩) := by
  have e : trM t c = 61440 + c := by unfold trM; rw [if_neg h1, if_pos h2]
  rw [e]
  refine .ofC hS _ _ _ Tryz.func215 ?_
  conv => whnf
  repeat' (first|refine Seal.mk ?_|(refine wS ?_;(conv=>whnf);fail_if_success show False)|((first|refine opsA_step ?_|apply wL (l1In _ _ _));conv=>whnf)|(intro _;first|omega|conv=>whnf)|(apply And.intro<;>intro _<;>first|omega|conv=>whnf)|((first|refine aLQ ?_|refine oLQ ?_|refine ⟨_,rfl,?_⟩|refine ⟨_,⟨rfl,rfl⟩,?_⟩|refine ⟨_,⟨rfl,rfl,leafQ⟩,?_⟩);conv=>whnf)|with_reducible assumption|exact lfQ|fail)
  all_goals (first | contradiction | (exfalso; omega) | (refine ⟨(),⟨⟩,?_⟩;exact fzQ))
theorem l2Tr2 (t c : Int) (hc : 0 ≤ c ∧ c ≤ 1114111) (h1 : ¬ (t = 2 ∧ 97 ≤ c ∧ c ≤ 122)) (h2 : ¬ (t = 3 ∧ 33 ≤ c ∧ c ≤ 126)) : CallA S 215 [.int .i64 t, .int .i64 c] ⟨[], 0⟩ (Ret1 (.int .i64 (trM t c)) ⟨[], 0⟩) := by
  have e : trM t c = c := by unfold trM; rw [if_neg h1, if_neg h2]
  rw [e]
  refine .ofC hS _ _ _ Tryz.func215 ?_
  conv => whnf
  repeat' (first|refine Seal.mk ?_|(refine wS ?_;(conv=>whnf);fail_if_success show False)|((first|refine opsA_step ?_|apply wL (l1In _ _ _));conv=>whnf)|(intro _;first|omega|conv=>whnf)|(apply And.intro<;>intro _<;>first|omega|conv=>whnf)|((first|refine aLQ ?_|refine ⟨_,rfl,?_⟩|refine ⟨_,⟨rfl,rfl⟩,?_⟩|refine ⟨_,⟨rfl,rfl,leafQ⟩,?_⟩);conv=>whnf)|with_reducible assumption|exact lfQ|fail)
  all_goals (first | contradiction | (exfalso; omega) | (refine ⟨(),⟨⟩,?_⟩;exact fzQ))
theorem l2Translate (t c : Int) (hc : 0 ≤ c ∧ c ≤ 1114111) : CallA S 215 [.int .i64 t, .int .i64 c] ⟨[], 0⟩ (Ret1 (.int .i64 (trM t c)) ⟨[], 0⟩) := by
  by_cases h1 : t = 2 ∧ 97 ≤ c ∧ c ≤ 122
  · exact l2Tr0 t c hc h1
  by_cases h2 : t = 3 ∧ 33 ≤ c ∧ c ≤ 126
  · exact l2Tr1 t c hc h1 h2
  exact l2Tr2 t c hc h1 h2
end Go.Mu

namespace Go.Mu
open Go Go.Vm Go.RowKit Go.Proofs
attribute [local irreducible] wpA opsA stillA drawA drawS
set_option maxRecDepth 20000
set_option maxHeartbeats 40000000
def chM (s : Scr) (c : Int) : Int := if c < 128 then trM (s.sets.getD s.shift.toNat 0) c else c
def insM (s : Scr) : Cs := if s.insert = true then shC s 1 else s.grid.cells
def putM (s : Scr) (c : Int) : Cs := (insM s).set (s.y.toNat * s.grid.width.toNat + s.x.toNat) (chM s c, s.attr)
def printT (s : Scr) (c : Int) : Scr := if s.x < s.grid.width - 1 then { s with grid := { s.grid with cells := putM s c }, x := s.x + 1 } else { s with grid := { s.grid with cells := putM s c }, wrap := s.autow }
def printM (s : Scr) (c : Int) : Scr := if s.wrap = true then printT (downM { s with x := 0 }) c else printT s c
theorem downM_sets (s : Scr) : (downM s).sets = s.sets := by unfold downM; split; rfl; split <;> rfl
end Go.Mu

namespace Go.Mu
open Go Go.Vm Go.RowKit Go.Proofs
attribute [local irreducible] wpA opsA stillA drawA drawS
set_option maxRecDepth 20000
set_option maxHeartbeats 40000000
def nextT (tabs : List Bool) (w k : Nat) : Nat := if h : k < w ∧ ¬ tabs.getD k false = true then nextT tabs w (k + 1) else k
termination_by w - k
decreasing_by omega
theorem nextT_go {tabs : List Bool} {w k : Nat} (h : k < w) (h2 : ¬ tabs.getD k false = true) : nextT tabs w k = nextT tabs w (k + 1) := by rw [nextT, dif_pos ⟨h, h2⟩]
theorem nextT_at {tabs : List Bool} {w k : Nat} (h2 : tabs.getD k false = true) : nextT tabs w k = k := by rw [nextT, dif_neg (fun q => q.2 h2)]
theorem nextT_end {tabs : List Bool} {w k : Nat} (h : ¬ k < w) : nextT tabs w k = k := by rw [nextT, dif_neg (fun q => h q.1)]
def tabM (s : Scr) : Int := min ((nextT s.tabs s.grid.width.toNat (s.x.toNat + 1) : Nat) : Int) (s.grid.width - 1)
theorem l5Tab (s : Scr) (r w : Nat) (h : OkS s r w) : CallA S 219 [.ptr (.loc 0) 20 none 0] ⟨[⟨.loc 0, false, .raw (scrC (.loc 1) (.loc 2) (.loc 3) (.loc 4) s)⟩, ⟨.loc 3, false, .arr boolE s.tabs⟩], 5⟩ (Ret1 (.int .i64 (tabM s)) ⟨[], 5⟩) := by
  obtain ⟨h1, h2, h3, h4, h5, h6, h7, h8, h9, h10, h11, h12, _⟩ := h
  obtain ⟨x, hx⟩ := Int.eq_ofNat_of_zero_le (show 0 ≤ s.x by omega)
  have e1 : s.x.toNat = x := by omega
  have e3 : s.grid.width.toNat = w := by omega
  unfold tabM
  rw [e1, e3]
  refine .ofC hS _ _ _ Tryz.func219 ?_
  conv => whnf
  repeat' (first|refine Seal.mk ?_|(refine wS ?_;(conv=>whnf);fail_if_success show False)|((first|refine opsA_step ?_);conv=>whnf)|(intro _;first|omega|conv=>whnf)|(apply And.intro<;>intro _<;>first|omega|conv=>whnf)|((first|refine aLQ ?_|refine oLQ ?_|refine ⟨_,rfl,?_⟩|refine ⟨_,⟨rfl,rfl⟩,?_⟩|refine ⟨_,⟨rfl,rfl,leafQ⟩,?_⟩);conv=>whnf)|with_reducible assumption|exact lfQ|fail)
  refine .loop hS (γ := Nat) (fun j => ⟨[(0, .ptr (.loc 0) 20 none 0), (3, .int .i64 j)], ⟨[⟨.loc 0, false, .raw (scrC (.loc 1) (.loc 2) (.loc 3) (.loc 4) s)⟩, ⟨.loc 3, false, .arr boolE s.tabs⟩], 5⟩, 36, 5⟩) (fun j => (x + 1 ≤ j ∧ j ≤ w) ∧ nextT s.tabs w (x + 1) = nextT s.tabs w j) (fun j => w - j) (x + 1) ⟨by omega, rfl⟩ ?_ ?_
  · ((try dsimp only);exact fzQ)
  · intro j hj
    obtain ⟨⟨hj1, hj2⟩, hj3⟩ := hj
    conv => whnf
    by_cases hgo : j < w
    · by_cases ht : s.tabs.getD (j : Int).toNat boolE.d = true
      · have hn : nextT s.tabs w j = j := nextT_at (by rw [Int.toNat_natCast] at ht; exact ht)
        have hq : ((nextT s.tabs w (x + 1) : Nat) : Int) = j := by rw [hj3, hn]
        repeat' (first|refine Seal.mk ?_|(refine wS ?_;(conv=>whnf);fail_if_success show False)|((first|refine opsA_step ?_|apply wL (minS _ _));conv=>whnf)|(intro _;first|omega|conv=>whnf)|(apply And.intro<;>intro _<;>first|omega|conv=>whnf)|((first|refine aLQ ?_|refine oLQ ?_|refine ⟨_,rfl,?_⟩|refine ⟨_,⟨rfl,rfl⟩,?_⟩|refine ⟨_,⟨rfl,rfl,leafQ⟩,?_⟩);conv=>whnf)|with_reducible assumption|exact lfQ|fail)
        all_goals (first | contradiction | (exfalso; omega) | (refine ⟨(),⟨⟩,?_⟩;exact fzQ))
      · have hn : nextT s.tabs w j = nextT s.tabs w (j + 1) := nextT_go hgo (by rw [Int.toNat_natCast] at ht; exact ht)
        repeat' (first|refine Seal.mk ?_|(refine wS ?_;(conv=>whnf);fail_if_success show False)|((first|refine opsA_step ?_|apply wL (minS _ _));conv=>whnf)|(intro _;first|omega|conv=>whnf)|(apply And.intro<;>intro _<;>first|omega|conv=>whnf)|((first|refine aLQ ?_|refine oLQ ?_|refine ⟨_,rfl,?_⟩|refine ⟨_,⟨rfl,rfl⟩,?_⟩|refine ⟨_,⟨rfl,rfl,leafQ⟩,?_⟩);conv=>whnf)|with_reducible assumption|exact lfQ|fail)
        all_goals (first | contradiction | (exfalso; omega) | (refine ⟨j + 1, ⟨⟨⟨by omega, by omega⟩, hj3.trans hn⟩, by omega⟩, ?_⟩; ((try dsimp only);exact fzQ)))
    · have hn : nextT s.tabs w j = j := nextT_end hgo
      have hq : ((nextT s.tabs w (x + 1) : Nat) : Int) = j := by rw [hj3, hn]
      repeat' (first|refine Seal.mk ?_|(refine wS ?_;(conv=>whnf);fail_if_success show False)|((first|refine opsA_step ?_|apply wL (minS _ _));conv=>whnf)|(intro _;first|omega|conv=>whnf)|(apply And.intro<;>intro _<;>first|omega|conv=>whnf)|((first|refine aLQ ?_|refine oLQ ?_|refine ⟨_,rfl,?_⟩|refine ⟨_,⟨rfl,rfl⟩,?_⟩|refine ⟨_,⟨rfl,rfl,leafQ⟩,?_⟩);conv=>whnf)|with_reducible assumption|exact lfQ|fail)
      all_goals (first | contradiction | (exfalso; omega) | (refine ⟨(),⟨⟩,?_⟩;exact fzQ))
def regM (s : Scr) (first last : Int) : Scr := if max 1 first < (if last = 0 then s.grid.rows else last) ∧ (if last = 0 then s.grid.rows else last) ≤ s.grid.rows then goM { s with top := max 1 first - 1, bottom := (if last = 0 then s.grid.rows else last) - 1 } 0 0 else s
theorem l5Reg00 (s : Scr) (r w : Nat) (h : OkS s r w) (first last : Int) (hf : 0 ≤ first ∧ first ≤ 99999) (hl : 0 ≤ last ∧ last ≤ 99999) (hc : last = 0) (h2 : max 1 first < s.grid.rows ∧ s.grid.rows ≤ s.grid.rows) : CallA S 316 [.ptr (.loc 0) 20 none 0, .int .i64 first, .int .i64 last] ⟨[⟨.loc 0, true, .raw (scrC (.loc 1) (.loc 2) (.loc 3) (.loc 4) s)⟩], 5⟩ (Ret1 (.tup []) ⟨[⟨.loc 0, true, .raw (scrC (.loc 1) (.loc 2) (.loc 3) (.loc 4) (regM s first last : Scr))⟩], 5⟩) := by
  have e : regM s first last = goM { s with top := max 1 first - 1, bottom := s.grid.rows - 1 } 0 0 := by unfold regM; rw [if_pos hc, if_pos h2]
  rw [e]
  have hz0 := h.sz
  have hz : SzS { s with top := max 1 first - 1, bottom := s.grid.rows - 1 } r w := ⟨h.hr, h.hw, h.rows, h.width⟩
  obtain ⟨q1, q2, q3, q4⟩ := hz0
  refine .ofC hS _ _ _ Tryz.func316 ?_
  conv => whnf
  repeat' (first|refine Seal.mk ?_|(refine wS ?_;(conv=>whnf);fail_if_success show False)|((first|refine opsA_step ?_|apply wL (maxS _ _)|apply wL (l5Home { s with top := max 1 first - 1, bottom := s.grid.rows - 1 } r w hz));conv=>whnf)|(intro _;first|omega|conv=>whnf)|(apply And.intro<;>intro _<;>first|omega|conv=>whnf)|((first|refine aLQ ?_|refine oLQ ?_|refine ⟨_,rfl,?_⟩|refine ⟨_,⟨rfl,rfl⟩,?_⟩|refine ⟨_,⟨rfl,rfl,leafQ⟩,?_⟩);conv=>whnf)|with_reducible assumption|exact lfQ|fail)
  all_goals (first | contradiction | (exfalso; omega) | (refine ⟨(),⟨⟩,?_⟩;exact fzQ))
theorem l5Reg01 (s : Scr) (r w : Nat) (h : OkS s r w) (first last : Int) (hf : 0 ≤ first ∧ first ≤ 99999) (hl : 0 ≤ last ∧ last ≤ 99999) (hc : last = 0) (h2 : ¬ (max 1 first < s.grid.rows ∧ s.grid.rows ≤ s.grid.rows)) : CallA S 316 [.ptr (.loc 0) 20 none 0, .int .i64 first, .int .i64 last] ⟨[⟨.loc 0, true, .raw (scrC (.loc 1) (.loc 2) (.loc 3) (.loc 4) s)⟩], 5⟩ (Ret1 (.tup []) ⟨[⟨.loc 0, true, .raw (scrC (.loc 1) (.loc 2) (.loc 3) (.loc 4) (regM s first last : Scr))⟩], 5⟩) := by
  have e : regM s first last = s := by unfold regM; rw [if_pos hc, if_neg h2]
  rw [e]
  have hz0 := h.sz
  have hz : SzS { s with top := max 1 first - 1, bottom := s.grid.rows - 1 } r w := ⟨h.hr, h.hw, h.rows, h.width⟩
  obtain ⟨q1, q2, q3, q4⟩ := hz0
  refine .ofC hS _ _ _ Tryz.func316 ?_
  conv => whnf
  repeat' (first|refine Seal.mk ?_|(refine wS ?_;(conv=>whnf);fail_if_success show False)|((first|refine opsA_step ?_|apply wL (maxS _ _)|apply wL (l5Home { s with top := max 1 first - 1, bottom := s.grid.rows - 1 } r w hz));conv=>whnf)|(intro _;first|omega|conv=>whnf)|(apply And.intro<;>intro _<;>first|omega|conv=>whnf)|((first|refine aLQ ?_|refine ⟨_,rfl,?_⟩|refine ⟨_,⟨rfl,rfl⟩,?_⟩|refine ⟨_,⟨rfl,rfl,leafQ⟩,?_⟩);conv=>whnf)|with_reducible assumption|exact lfQ|fail)
  all_goals (first | contradiction | (exfalso; omega) | (refine ⟨(),⟨⟩,?_⟩;exact fzQ))
theorem l5Reg10 (s : Scr) (r w : Nat) (h : OkS s r w) (first last : Int) (hf : 0 ≤ first ∧ first ≤ 99999) (hl : 0 ≤ last ∧ last ≤ 99999) (hc : ¬ last = 0) (h2 : max 1 first < last ∧ last ≤ s.grid.rows) : CallA S 316 [.ptr (.loc 0) 20 none 0, .int .i64 first, .int .i64 last] ⟨[⟨.loc 0, true, .raw (scrC (.loc 1) (.loc 2) (.loc 3) (.loc 4) s)⟩], 5⟩ (Ret1 (.tup []) ⟨[⟨.loc 0, true, .raw (scrC (.loc 1) (.loc 2) (.loc 3) (.loc 4) (regM s first last : Scr))⟩], 5⟩) := by
  have e : regM s first last = goM { s with top := max 1 first - 1, bottom := last - 1 } 0 0 := by unfold regM; rw [if_neg hc, if_pos h2]
  rw [e]
  have hz0 := h.sz
  have hz : SzS { s with top := max 1 first - 1, bottom := last - 1 } r w := ⟨h.hr, h.hw, h.rows, h.width⟩
  obtain ⟨q1, q2, q3, q4⟩ := hz0
  refine .ofC hS _ _ _ Tryz.func316 ?_
  conv => whnf
  repeat' (first|refine Seal.mk ?_|(refine wS ?_;(conv=>whnf);fail_if_success show False)|((first|refine opsA_step ?_|apply wL (maxS _ _)|apply wL (l5Home { s with top := max 1 first - 1, bottom := last - 1 } r w hz));conv=>whnf)|(intro _;first|omega|conv=>whnf)|(apply And.intro<;>intro _<;>first|omega|conv=>whnf)|((first|refine aLQ ?_|refine oLQ ?_|refine ⟨_,rfl,?_⟩|refine ⟨_,⟨rfl,rfl⟩,?_⟩|refine ⟨_,⟨rfl,rfl,leafQ⟩,?_⟩);conv=>whnf)|with_reducible assumption|exact lfQ|fail)
  all_goals (first | contradiction | (exfalso; omega) | (refine ⟨(),⟨⟩,?_⟩;exact fzQ))
theorem l5Reg11 (s : Scr) (r w : Nat) (h : OkS s r w) (first last : Int) (hf : 0 ≤ first ∧ first ≤ 99999) (hl : 0 ≤ last ∧ last ≤ 99999) (hc : ¬ last = 0) (h2 : ¬ (max 1 first < last ∧ last ≤ s.grid.rows)) : CallA S 316 [.ptr (.loc 0) 20 none 0, .int .i64 first, .int .i64 last] ⟨[⟨.loc 0, true, .raw (scrC (.loc 1) (.loc 2) (.loc 3) (.loc 4) s)⟩], 5⟩ (Ret1 (.tup []) ⟨[⟨.loc 0, true, .raw (scrC (.loc 1) (.loc 2) (.loc 3) (.loc 4) (regM s first last : Scr))⟩], 5⟩) := by
  have e : regM s first last = s := by unfold regM; rw [if_neg hc, if_neg h2]
  rw [e]
  have hz0 := h.sz
  have hz : SzS { s with top := max 1 first - 1, bottom := last - 1 } r w := ⟨h.hr, h.hw, h.rows, h.width⟩
  obtain ⟨q1, q2, q3, q4⟩ := hz0
  refine .ofC hS _ _ _ Tryz.func316 ?_
  conv => whnf
  repeat' (first|refine Seal.mk ?_|(refine wS ?_;(conv=>whnf);fail_if_success show False)|((first|refine opsA_step ?_|apply wL (maxS _ _)|apply wL (l5Home { s with top := max 1 first - 1, bottom := last - 1 } r w hz));conv=>whnf)|(intro _;first|omega|conv=>whnf)|(apply And.intro<;>intro _<;>first|omega|conv=>whnf)|((first|refine aLQ ?_|refine ⟨_,rfl,?_⟩|refine ⟨_,⟨rfl,rfl⟩,?_⟩|refine ⟨_,⟨rfl,rfl,leafQ⟩,?_⟩);conv=>whnf)|with_reducible assumption|exact lfQ|fail)
  all_goals (first | contradiction | (exfalso; omega) | (refine ⟨(),⟨⟩,?_⟩;exact fzQ))
theorem l5SetRegion (s : Scr) (r w : Nat) (h : OkS s r w) (first last : Int) (hf : 0 ≤ first ∧ first ≤ 99999) (hl : 0 ≤ last ∧ last ≤ 99999) : CallA S 316 [.ptr (.loc 0) 20 none 0, .int .i64 first, .int .i64 last] ⟨[⟨.loc 0, true, .raw (scrC (.loc 1) (.loc 2) (.loc 3) (.loc 4) s)⟩], 5⟩ (Ret1 (.tup []) ⟨[⟨.loc 0, true, .raw (scrC (.loc 1) (.loc 2) (.loc 3) (.loc 4) (regM s first last))⟩], 5⟩) := by
  by_cases hc : last = 0
  · by_cases h2 : max 1 first < s.grid.rows ∧ s.grid.rows ≤ s.grid.rows
    · exact l5Reg00 s r w h first last hf hl hc h2
    · exact l5Reg01 s r w h first last hf hl hc h2
  · by_cases h2 : max 1 first < last ∧ last ≤ s.grid.rows
    · exact l5Reg10 s r w h first last hf hl hc h2
    · exact l5Reg11 s r w h first last hf hl hc h2
end Go.Mu

namespace Go.Mu
open Go Go.Vm Go.RowKit Go.Proofs
attribute [local irreducible] wpA opsA stillA drawA drawS
set_option maxRecDepth 20000
set_option maxHeartbeats 40000000
@[reducible] noncomputable def newS (r w : Nat) : Scr := ⟨⟨r, w, List.replicate ((r : Int) * w).toNat (bl 0), []⟩, 0, 0, false, 0, 0, (r : Int) - 1, false, true, false, tabRun 0 w, 0, 0, 0, [1, 1], 0, 0⟩
theorem newGrid (r w : Nat) (hrw : r * w ≤ 72) : CallA S 323 [.int .i64 r, .int .i64 w] ⟨[], 0⟩ (Ret1 (.agg [.int .i64 r, .int .i64 w, .sl (.loc 0) 2 none ((r : Int) * w).toNat, .nils]) ⟨[⟨.loc 0, true, .arr pairE (List.replicate ((r : Int) * w).toNat (bl 0))⟩], 1⟩) := by
  have hi : (r : Int) * w = ((r * w : Nat) : Int) := (Int.natCast_mul _ _).symm
  refine .ofC hS _ _ _ Tryz.func323 ?_
  conv => whnf
  repeat' (first|refine Seal.mk ?_|(refine wS ?_;(conv=>whnf);fail_if_success show False)|((first|refine opsA_step ?_|apply wL (blanks ((r : Int) * w) 0 (by omega) (by omega)));conv=>whnf)|(intro _;first|omega|conv=>whnf)|(apply And.intro<;>intro _<;>first|omega|conv=>whnf)|((first|refine aLQ ?_|refine oLQ ?_|refine ⟨_,rfl,?_⟩|refine ⟨_,⟨rfl,rfl⟩,?_⟩|refine ⟨_,⟨rfl,rfl,leafQ⟩,?_⟩);conv=>whnf)|with_reducible assumption|exact lfQ|fail)
  (refine ⟨(),⟨⟩,?_⟩;exact fzQ)
theorem newScreen (r w : Nat) (hr : 1 ≤ r ∧ r ≤ 6) (hw : 2 ≤ w ∧ w ≤ 12) : CallA S 251 [.int .i64 r, .int .i64 w] ⟨[], 0⟩ (Ret1 (.agg (scrC (.loc 0) (.loc 1) (.loc 2) (.loc 3) (newS r w))) ⟨scrH true (.loc 0) (.loc 1) (.loc 2) (.loc 3) (newS r w) [], 4⟩) := by
  have hrw : r * w ≤ 6 * 12 := Nat.mul_le_mul hr.2 hw.2
  have hi : (r : Int) * w = ((r * w : Nat) : Int) := (Int.natCast_mul _ _).symm
  refine .ofC hS _ _ _ Tryz.func251 ?_
  conv => whnf
  repeat' (first|refine Seal.mk ?_|(refine wS ?_;(conv=>whnf);fail_if_success show False)|((first|refine opsA_step ?_|refine drawS_go ?_|apply wL (newGrid r w (by omega)));conv=>whnf)|(intro _;first|omega|conv=>whnf)|(apply And.intro<;>intro _<;>first|omega|conv=>whnf)|refine sM ?_ ?_|((first|refine aLQ ?_|refine oLQ ?_|apply Roads.one|refine ⟨_,rfl,?_⟩|refine ⟨_,⟨rfl,rfl⟩,?_⟩|refine ⟨_,⟨rfl,rfl,leafQ⟩,?_⟩);conv=>whnf)|with_reducible assumption|exact lfQ|fail)
  refine .loop hS (γ := Nat) (fun i => ⟨[(4, .ptr (.loc 0) 20 none 0), (5, .ptr (.loc 3) 20 none 0), (14, .int .i64 w), (15, .int .i64 i)], ⟨[⟨.loc 4, true, .arr boolE (tabRun 0 i)⟩, ⟨.loc 1, true, .arr pairE (List.replicate ((r : Int) * w).toNat (bl 0))⟩, ⟨.loc 2, true, .arr (intE .i64) [1, 1]⟩, ⟨.loc 3, true, .raw [.int .i64 r, .int .i64 w, .sl (.loc 1) 2 none ((r : Int) * w).toNat, .nils, .int .i64 0, .int .i64 0, .ff, .int .i64 0, .int .i64 0, .int .i64 ((r : Int) - 1), .ff, .tt, .ff, .sl (.loc 4) 1 none i, .int .i64 0, .int .i64 0, .int .i64 0, .sl (.loc 2) 1 none 2, .int .i64 0, .int .i64 0]⟩, ⟨.loc 0, true, .raw [.int .i64 0, .int .i64 0, .nils, .nils, .int .i64 0, .int .i64 0, .ff, .int .i64 0, .int .i64 0, .int .i64 0, .ff, .ff, .ff, .nils, .int .i64 0, .int .i64 0, .int .i64 0, .nils, .int .i64 0, .int .i64 0]⟩], 5⟩, 27, 0⟩) (fun i => i ≤ w) (fun i => w - i) 0 (by omega) ?_ ?_
  · have h0 : (tabRun 0 0).length = 0 := rfl
    ((try dsimp only);exact fzQ)
  · intro i hx
    have hl := tabRun_len 0 i
    conv => whnf
    by_cases hgo : i < w
    · have hn : tabRun 0 (i + 1) = tabRun 0 i ++ [tabAt (i : Int)] := by rw [tabRun_succ, Nat.zero_add]
      have hnl := tabRun_len 0 (i + 1)
      have e1 : (List.take ((1 : Nat) : Int).toNat [pb (0 < (i : Int) ∧ (i : Int) % 8 = 0)]).length = 1 := rfl
      have hn2 : tabRun 0 i ++ List.take ((1 : Nat) : Int).toNat [pb (0 < (i : Int) ∧ (i : Int) % 8 = 0)] = tabRun 0 (i + 1) := hn.symm
      repeat' (first|refine Seal.mk ?_|(refine wS ?_;(conv=>whnf);fail_if_success show False)|((first|refine opsA_step ?_|refine drawS_go ?_|refine wD (id:=5) (.quick 0 (.quick 2 (.all (.fork (.step 1 (.all (.step 3 (.all (.step 4 (.all (.step 5 (.quick 6 (.all (.step 7 .done)))))))))) (.step 3 (.all (.fork (.step 1 (.all (.step 4 (.all (.step 5 (.quick 6 (.all (.step 7 .done)))))))) (.step 4 (.all (.step 1 (.all (.step 5 (.quick 6 (.all (.step 7 .done))))))))))))))) [1, 3, 4, 5, 7] (by kernel_rfl) rfl ?_|apply wL (isTab _));conv=>whnf)|(intro _;first|omega|conv=>whnf)|(apply And.intro<;>intro _<;>first|omega|conv=>whnf)|refine sM ?_ ?_|((first|refine aLQ ?_|refine oLQ ?_|apply Roads.one|refine ⟨_,rfl,?_⟩|refine ⟨_,⟨rfl,rfl⟩,?_⟩|refine ⟨_,⟨rfl,rfl,leafQ⟩,?_⟩);conv=>whnf)|with_reducible assumption|exact lfQ|fail)
      all_goals
        refine ⟨i + 1, ⟨by omega, by omega⟩, ?_⟩
        ((try dsimp only);exact fzQ)
    · have hi : i = w := by omega
      subst hi
      repeat' (first|refine Seal.mk ?_|(refine wS ?_;(conv=>whnf);fail_if_success show False)|((first|refine opsA_step ?_|refine drawS_go ?_);conv=>whnf)|(intro _;first|omega|conv=>whnf)|(apply And.intro<;>intro _<;>first|omega|conv=>whnf)|refine sM ?_ ?_|((first|refine aLQ ?_|refine oLQ ?_|apply Roads.one|refine ⟨_,rfl,?_⟩|refine ⟨_,⟨rfl,rfl⟩,?_⟩|refine ⟨_,⟨rfl,rfl,leafQ⟩,?_⟩);conv=>whnf)|with_reducible assumption|exact lfQ|fail)
      (refine ⟨(),⟨⟩,?_⟩;exact fzQ)
theorem l5New (r w : Nat) (hr : 1 ≤ r ∧ r ≤ 6) (hw : 2 ≤ w ∧ w ≤ 12) : CallA S 220 [.int .i64 r, .int .i64 w] ⟨[], 0⟩ (Ret1 (.agg (scrC (.loc 0) (.loc 1) (.loc 2) (.loc 3) (newS r w))) ⟨scrH true (.loc 0) (.loc 1) (.loc 2) (.loc 3) (newS r w) [], 4⟩) := by
  have hrw : r * w ≤ 6 * 12 := Nat.mul_le_mul hr.2 hw.2
  have hi : (r : Int) * w = ((r * w : Nat) : Int) := (Int.natCast_mul _ _).symm
  have hl := tabRun_len 0 w
  refine .ofC hS _ _ _ Tryz.func220 ?_
  conv => whnf
  repeat' (first|refine Seal.mk ?_|(refine wS ?_;(conv=>whnf);fail_if_success show False)|((first|refine opsA_step ?_|apply wL (l3New r w (by omega))|apply wL (l5Tabs 0 w hw.2 (by omega)));conv=>whnf)|(intro _;first|omega|conv=>whnf)|(apply And.intro<;>intro _<;>first|omega|conv=>whnf)|((first|refine aLQ ?_|refine oLQ ?_|refine ⟨_,rfl,?_⟩|refine ⟨_,⟨rfl,rfl⟩,?_⟩|refine ⟨_,⟨rfl,rfl,leafQ⟩,?_⟩);conv=>whnf)|with_reducible assumption|exact lfQ|fail)
  (refine ⟨(),⟨⟩,?_⟩;exact fzQ)
end Go.Mu
