/- Screens, as the program goes where numbers tell. -/
import Derived.Test.YtfjodggmmokaaaaGreatDAK
import Derived.Test.YtfjodggmmokaaaaGreatDBN
set_option linter.unusedSimpArgs false
set_option linter.unusedVariables false
set_option linter.constructorNameAsVariable false
namespace Go.Mu
open Go Go.Vm Go.RowKit Go.Proofs
attribute [local irreducible] wpA opsA stillA drawA drawS
set_option maxRecDepth 20000
set_option maxHeartbeats 40000000
theorem went_eq {s : Scr} {r w : Nat} (h : OkS s r w) (c n m : Int) (hn : 1 ≤ n) :
    (c = 65 → movesM s c n m = { s with y := max (s.y - n) (if s.top ≤ s.y then s.top else 0), wrap := false }) ∧
    (c = 70 → movesM s c n m = { s with y := max (s.y - n) (if s.top ≤ s.y then s.top else 0), x := 0, wrap := false }) ∧
    (c = 66 → movesM s c n m = { s with y := min (s.y + n) (if s.y ≤ s.bottom then s.bottom else s.grid.rows - 1), wrap := false }) ∧
    (c = 69 → movesM s c n m = { s with y := min (s.y + n) (if s.y ≤ s.bottom then s.bottom else s.grid.rows - 1), x := 0, wrap := false }) ∧
    (c = 67 → movesM s c n m = goC s (s.x + n)) ∧ (c = 68 → movesM s c n m = goC s (s.x - n)) ∧ (c = 71 ∨ c = 96 → movesM s c n m = goC s (n - 1)) ∧
    (c = 100 → movesM s c n m = goR s (lowM s + n - 1)) ∧ (c = 72 ∨ c = 102 → movesM s c n m = goC (goR s (lowM s + n - 1)) (m - 1)) := by
  have h7 := h.y; have h8 := h.x; have h9 := h.reg; have ho := h.orig; have h3 := h.rows; have h4 := h.width; have h1 := h.hr; have h2 := h.hw
  have hx : max 0 (min (s.grid.width - 1) s.x) = s.x := by omega
  have hx0 : max 0 (min (s.grid.width - 1) 0) = 0 := by omega
  have hup : max (lowM s) (min (highM s) (rowsM s (-n))) = max (s.y - n) (if s.top ≤ s.y then s.top else 0) := by
    unfold lowM highM rowsM
    rw [if_pos (show -n < 0 by omega)]
    by_cases q : s.origin = true
    · have := ho q; rw [if_pos q, if_pos q, if_pos this.1, if_pos this.1]; omega
    · rw [if_neg q, if_neg q]; split <;> omega
  have hdn : max (lowM s) (min (highM s) (rowsM s n)) = min (s.y + n) (if s.y ≤ s.bottom then s.bottom else s.grid.rows - 1) := by
    unfold lowM highM rowsM
    rw [if_neg (show ¬ n < 0 by omega)]
    by_cases q : s.origin = true
    · have := ho q; rw [if_pos q, if_pos q, if_pos this.2, if_pos this.2]; omega
    · rw [if_neg q, if_neg q]; split <;> omega
  have cs : ∀ {A B : Scr}, movesM s c n m = A → A = B → movesM s c n m = B := fun a b => a.trans b
  refine ⟨fun q => ?_, fun q => ?_, fun q => ?_, fun q => ?_, fun q => ?_, fun q => ?_, fun q => ?_, fun q => ?_, fun q => ?_⟩
  · refine cs (A := goM s (rowsM s (-n)) s.x) (by unfold movesM; (repeat' split) <;> first | rfl | (exfalso; omega)) ?_
    unfold goM; rw [hup, hx]
  · refine cs (A := goM s (rowsM s (-n)) 0) (by unfold movesM; (repeat' split) <;> first | rfl | (exfalso; omega)) ?_
    unfold goM; rw [hup, hx0]
  · refine cs (A := goM s (rowsM s n) s.x) (by unfold movesM; (repeat' split) <;> first | rfl | (exfalso; omega)) ?_
    unfold goM; rw [hdn, hx]
  · refine cs (A := goM s (rowsM s n) 0) (by unfold movesM; (repeat' split) <;> first | rfl | (exfalso; omega)) ?_
    unfold goM; rw [hdn, hx0]
  · exact cs (A := goM s s.y (s.x + n)) (by unfold movesM; (repeat' split) <;> first | rfl | (exfalso; omega)) (goC_goM h _).symm
  · exact cs (A := goM s s.y (s.x - n)) (by unfold movesM; (repeat' split) <;> first | rfl | (exfalso; omega)) (goC_goM h _).symm
  · exact cs (A := goM s s.y (n - 1)) (by unfold movesM; (repeat' split) <;> first | rfl | (exfalso; omega)) (goC_goM h _).symm
  · refine cs (A := goM s (lowM s + n - 1) s.x) (by unfold movesM; (repeat' split) <;> first | rfl | (exfalso; omega)) ?_
    unfold goM goR; rw [hx]
  · exact cs (A := goM s (lowM s + n - 1) (m - 1)) (by unfold movesM; (repeat' split) <;> first | rfl | (exfalso; omega)) rfl
theorem went_no {s : Scr} {c n m : Int} (hc : ¬ c = 65 ∧ ¬ c = 66 ∧ ¬ c = 67 ∧ ¬ c = 68 ∧ ¬ c = 69 ∧ ¬ c = 70 ∧ ¬ (c = 71 ∨ c = 96) ∧ ¬ c = 100 ∧ ¬ (c = 72 ∨ c = 102)) : movesM s c n m = s := by
  unfold movesM; (repeat' split) <;> first | rfl | (exfalso; omega)
theorem sWent65p (s : Scr) (r w : Nat) (h : OkS s r w) (c n m : Int) (hn : 1 ≤ n ∧ n ≤ 99999) (hm : 1 ≤ m ∧ m ≤ 99999) (hc : c = 65) (hb : s.top ≤ s.y) : CallA S 257 [.ptr (.loc 0) 20 none 0, .int .i64 c, .int .i64 n, .int .i64 m] ⟨[⟨.loc 0, true, .raw (scrC (.loc 1) (.loc 2) (.loc 3) (.loc 4) s)⟩], 5⟩ (Ret1 (.tup []) ⟨[⟨.loc 0, true, .raw (scrC (.loc 1) (.loc 2) (.loc 3) (.loc 4) (movesM s c n m))⟩], 5⟩) := by
  have e : movesM s c n m = _ := (went_eq h c n m hn.1).1 (by omega)
  have hrg := h.rg
  have hla := sLast s r w hrg
  have h7 := h.y; have h8 := h.x; have h9 := h.reg; have h3 := h.rows; have h4 := h.width; have h1 := h.hr; have h2 := h.hw
  rw [if_pos hb] at e
  rw [e]
  clear e
  refine .ofC hS _ _ _ Tryz.func257 ?_
  conv => whnf
  repeat' (first|refine Seal.mk ?_|(refine wS ?_;(conv=>whnf);fail_if_success show False)|((first|refine opsA_step ?_|refine drawS_go ?_|refine wD (id:=5) (.quick 0 (.quick 1 (.quick 2 (.quick 4 (.quick 5 (.quick 6 (.read 3 (.read 7 (.quick 8 .done))))))))) [] (by kernel_rfl) rfl ?_|apply wL (hla));conv=>whnf)|(intro _;first|omega|conv=>whnf)|(apply And.intro<;>intro _<;>first|omega|conv=>whnf)|((first|refine aLQ ?_|refine oLQ ?_|refine ⟨_,rfl,?_⟩|refine ⟨_,⟨rfl,rfl⟩,?_⟩|refine ⟨_,⟨rfl,rfl,leafQ⟩,?_⟩);conv=>whnf)|with_reducible assumption|exact lfQ|fail)
  all_goals (first | contradiction | (exfalso; omega) | (refine ⟨(),⟨⟩,?_⟩;exact fzQ))
theorem sWent65n (s : Scr) (r w : Nat) (h : OkS s r w) (c n m : Int) (hn : 1 ≤ n ∧ n ≤ 99999) (hm : 1 ≤ m ∧ m ≤ 99999) (hc : c = 65) (hb : ¬ s.top ≤ s.y) : CallA S 257 [.ptr (.loc 0) 20 none 0, .int .i64 c, .int .i64 n, .int .i64 m] ⟨[⟨.loc 0, true, .raw (scrC (.loc 1) (.loc 2) (.loc 3) (.loc 4) s)⟩], 5⟩ (Ret1 (.tup []) ⟨[⟨.loc 0, true, .raw (scrC (.loc 1) (.loc 2) (.loc 3) (.loc 4) (movesM s c n m))⟩], 5⟩) := by
  have e : movesM s c n m = _ := (went_eq h c n m hn.1).1 (by omega)
  have hrg := h.rg
  have hla := sLast s r w hrg
  have h7 := h.y; have h8 := h.x; have h9 := h.reg; have h3 := h.rows; have h4 := h.width; have h1 := h.hr; have h2 := h.hw
  rw [if_neg hb] at e
  rw [e]
  clear e
  refine .ofC hS _ _ _ Tryz.func257 ?_
  conv => whnf
  repeat' (first|refine Seal.mk ?_|(refine wS ?_;(conv=>whnf);fail_if_success show False)|((first|refine opsA_step ?_|refine drawS_go ?_|refine wD (id:=5) (.quick 0 (.quick 1 (.quick 2 (.quick 4 (.quick 5 (.quick 6 (.read 3 (.read 7 (.quick 8 .done))))))))) [] (by kernel_rfl) rfl ?_|apply wL (hla));conv=>whnf)|(intro _;first|omega|conv=>whnf)|(apply And.intro<;>intro _<;>first|omega|conv=>whnf)|((first|refine aLQ ?_|refine oLQ ?_|refine ⟨_,rfl,?_⟩|refine ⟨_,⟨rfl,rfl⟩,?_⟩|refine ⟨_,⟨rfl,rfl,leafQ⟩,?_⟩);conv=>whnf)|with_reducible assumption|exact lfQ|fail)
  all_goals (first | contradiction | (exfalso; omega) | (refine ⟨(),⟨⟩,?_⟩;exact fzQ))
theorem sWent70p (s : Scr) (r w : Nat) (h : OkS s r w) (c n m : Int) (hn : 1 ≤ n ∧ n ≤ 99999) (hm : 1 ≤ m ∧ m ≤ 99999) (hc : c = 70) (hb : s.top ≤ s.y) : CallA S 257 [.ptr (.loc 0) 20 none 0, .int .i64 c, .int .i64 n, .int .i64 m] ⟨[⟨.loc 0, true, .raw (scrC (.loc 1) (.loc 2) (.loc 3) (.loc 4) s)⟩], 5⟩ (Ret1 (.tup []) ⟨[⟨.loc 0, true, .raw (scrC (.loc 1) (.loc 2) (.loc 3) (.loc 4) (movesM s c n m))⟩], 5⟩) := by
  have e : movesM s c n m = _ := (went_eq h c n m hn.1).2.1 (by omega)
  have hrg := h.rg
  have hla := sLast s r w hrg
  have h7 := h.y; have h8 := h.x; have h9 := h.reg; have h3 := h.rows; have h4 := h.width; have h1 := h.hr; have h2 := h.hw
  rw [if_pos hb] at e
  rw [e]
  clear e
  have hcl := sCol { s with y := max (s.y - n) s.top, wrap := false } r w ⟨h.hr, h.hw, h.rows, h.width, h.reg⟩ 0
  have hx0 : max 0 (min (s.grid.width - 1) 0) = 0 := by omega
  unfold goC at hcl
  simp only at hcl
  rw [hx0] at hcl
  refine .ofC hS _ _ _ Tryz.func257 ?_
  conv => whnf
  repeat' (first|refine Seal.mk ?_|(refine wS ?_;(conv=>whnf);fail_if_success show False)|((first|refine opsA_step ?_|refine drawS_go ?_|refine wD (id:=5) (.quick 0 (.quick 1 (.quick 2 (.quick 4 (.quick 5 (.quick 6 (.read 3 (.read 7 (.quick 8 .done))))))))) [] (by kernel_rfl) rfl ?_|apply wL (hla)|apply wL (hcl));conv=>whnf)|(intro _;first|omega|conv=>whnf)|(apply And.intro<;>intro _<;>first|omega|conv=>whnf)|((first|refine aLQ ?_|refine oLQ ?_|refine ⟨_,rfl,?_⟩|refine ⟨_,⟨rfl,rfl⟩,?_⟩|refine ⟨_,⟨rfl,rfl,leafQ⟩,?_⟩);conv=>whnf)|with_reducible assumption|exact lfQ|fail)
  all_goals (first | contradiction | (exfalso; omega) | (refine ⟨(),⟨⟩,?_⟩;exact fzQ))
theorem sWent70n (s : Scr) (r w : Nat) (h : OkS s r w) (c n m : Int) (hn : 1 ≤ n ∧ n ≤ 99999) (hm : 1 ≤ m ∧ m ≤ 99999) (hc : c = 70) (hb : ¬ s.top ≤ s.y) : CallA S 257 [.ptr (.loc 0) 20 none 0, .int .i64 c, .int .i64 n, .int .i64 m] ⟨[⟨.loc 0, true, .raw (scrC (.loc 1) (.loc 2) (.loc 3) (.loc 4) s)⟩], 5⟩ (Ret1 (.tup []) ⟨[⟨.loc 0, true, .raw (scrC (.loc 1) (.loc 2) (.loc 3) (.loc 4) (movesM s c n m))⟩], 5⟩) := by
  have e : movesM s c n m = _ := (went_eq h c n m hn.1).2.1 (by omega)
  have hrg := h.rg
  have hla := sLast s r w hrg
  have h7 := h.y; have h8 := h.x; have h9 := h.reg; have h3 := h.rows; have h4 := h.width; have h1 := h.hr; have h2 := h.hw
  rw [if_neg hb] at e
  rw [e]
  clear e
  have hcl := sCol { s with y := max (s.y - n) 0, wrap := false } r w ⟨h.hr, h.hw, h.rows, h.width, h.reg⟩ 0
  have hx0 : max 0 (min (s.grid.width - 1) 0) = 0 := by omega
  unfold goC at hcl
  simp only at hcl
  rw [hx0] at hcl
  refine .ofC hS _ _ _ Tryz.func257 ?_
  conv => whnf
  repeat' (first|refine Seal.mk ?_|(refine wS ?_;(conv=>whnf);fail_if_success show False)|((first|refine opsA_step ?_|refine drawS_go ?_|refine wD (id:=5) (.quick 0 (.quick 1 (.quick 2 (.quick 4 (.quick 5 (.quick 6 (.read 3 (.read 7 (.quick 8 .done))))))))) [] (by kernel_rfl) rfl ?_|apply wL (hla)|apply wL (hcl));conv=>whnf)|(intro _;first|omega|conv=>whnf)|(apply And.intro<;>intro _<;>first|omega|conv=>whnf)|((first|refine aLQ ?_|refine oLQ ?_|refine ⟨_,rfl,?_⟩|refine ⟨_,⟨rfl,rfl⟩,?_⟩|refine ⟨_,⟨rfl,rfl,leafQ⟩,?_⟩);conv=>whnf)|with_reducible assumption|exact lfQ|fail)
  all_goals (first | contradiction | (exfalso; omega) | (refine ⟨(),⟨⟩,?_⟩;exact fzQ))
theorem sWent66p (s : Scr) (r w : Nat) (h : OkS s r w) (c n m : Int) (hn : 1 ≤ n ∧ n ≤ 99999) (hm : 1 ≤ m ∧ m ≤ 99999) (hc : c = 66) (hb : s.y ≤ s.bottom) : CallA S 257 [.ptr (.loc 0) 20 none 0, .int .i64 c, .int .i64 n, .int .i64 m] ⟨[⟨.loc 0, true, .raw (scrC (.loc 1) (.loc 2) (.loc 3) (.loc 4) s)⟩], 5⟩ (Ret1 (.tup []) ⟨[⟨.loc 0, true, .raw (scrC (.loc 1) (.loc 2) (.loc 3) (.loc 4) (movesM s c n m))⟩], 5⟩) := by
  have e : movesM s c n m = _ := (went_eq h c n m hn.1).2.2.1 (by omega)
  have hrg := h.rg
  have hla := sLast s r w hrg
  have h7 := h.y; have h8 := h.x; have h9 := h.reg; have h3 := h.rows; have h4 := h.width; have h1 := h.hr; have h2 := h.hw
  rw [if_pos hb] at e
  rw [e]
  clear e
  refine .ofC hS _ _ _ Tryz.func257 ?_
  conv => whnf
  repeat' (first|refine Seal.mk ?_|(refine wS ?_;(conv=>whnf);fail_if_success show False)|((first|refine opsA_step ?_|refine drawS_go ?_|refine wD (id:=11) (.quick 0 (.quick 1 (.quick 2 (.quick 4 (.quick 5 (.quick 6 (.read 3 (.read 7 (.quick 8 .done))))))))) [] (by kernel_rfl) rfl ?_|apply wL (hla));conv=>whnf)|(intro _;first|omega|conv=>whnf)|(apply And.intro<;>intro _<;>first|omega|conv=>whnf)|((first|refine aLQ ?_|refine oLQ ?_|refine ⟨_,rfl,?_⟩|refine ⟨_,⟨rfl,rfl⟩,?_⟩|refine ⟨_,⟨rfl,rfl,leafQ⟩,?_⟩);conv=>whnf)|with_reducible assumption|exact lfQ|fail)
  all_goals (first | contradiction | (exfalso; omega) | (refine ⟨(),⟨⟩,?_⟩;exact fzQ))
theorem sWent66n (s : Scr) (r w : Nat) (h : OkS s r w) (c n m : Int) (hn : 1 ≤ n ∧ n ≤ 99999) (hm : 1 ≤ m ∧ m ≤ 99999) (hc : c = 66) (hb : ¬ s.y ≤ s.bottom) : CallA S 257 [.ptr (.loc 0) 20 none 0, .int .i64 c, .int .i64 n, .int .i64 m] ⟨[⟨.loc 0, true, .raw (scrC (.loc 1) (.loc 2) (.loc 3) (.loc 4) s)⟩], 5⟩ (Ret1 (.tup []) ⟨[⟨.loc 0, true, .raw (scrC (.loc 1) (.loc 2) (.loc 3) (.loc 4) (movesM s c n m))⟩], 5⟩) := by
  have e : movesM s c n m = _ := (went_eq h c n m hn.1).2.2.1 (by omega)
  have hrg := h.rg
  have hla := sLast s r w hrg
  have h7 := h.y; have h8 := h.x; have h9 := h.reg; have h3 := h.rows; have h4 := h.width; have h1 := h.hr; have h2 := h.hw
  rw [if_neg hb] at e
  rw [e]
  clear e
  refine .ofC hS _ _ _ Tryz.func257 ?_
  conv => whnf
  repeat' (first|refine Seal.mk ?_|(refine wS ?_;(conv=>whnf);fail_if_success show False)|((first|refine opsA_step ?_|refine drawS_go ?_|refine wD (id:=11) (.quick 0 (.quick 1 (.quick 2 (.quick 4 (.quick 5 (.quick 6 (.read 3 (.read 7 (.quick 8 .done))))))))) [] (by kernel_rfl) rfl ?_|apply wL (hla));conv=>whnf)|(intro _;first|omega|conv=>whnf)|(apply And.intro<;>intro _<;>first|omega|conv=>whnf)|((first|refine aLQ ?_|refine oLQ ?_|refine ⟨_,rfl,?_⟩|refine ⟨_,⟨rfl,rfl⟩,?_⟩|refine ⟨_,⟨rfl,rfl,leafQ⟩,?_⟩);conv=>whnf)|with_reducible assumption|exact lfQ|fail)
  all_goals (first | contradiction | (exfalso; omega) | (refine ⟨(),⟨⟩,?_⟩;exact fzQ))
theorem sWent69p (s : Scr) (r w : Nat) (h : OkS s r w) (c n m : Int) (hn : 1 ≤ n ∧ n ≤ 99999) (hm : 1 ≤ m ∧ m ≤ 99999) (hc : c = 69) (hb : s.y ≤ s.bottom) : CallA S 257 [.ptr (.loc 0) 20 none 0, .int .i64 c, .int .i64 n, .int .i64 m] ⟨[⟨.loc 0, true, .raw (scrC (.loc 1) (.loc 2) (.loc 3) (.loc 4) s)⟩], 5⟩ (Ret1 (.tup []) ⟨[⟨.loc 0, true, .raw (scrC (.loc 1) (.loc 2) (.loc 3) (.loc 4) (movesM s c n m))⟩], 5⟩) := by
  have e : movesM s c n m = _ := (went_eq h c n m hn.1).2.2.2.1 (by omega)
  have hrg := h.rg
  have hla := sLast s r w hrg
  have h7 := h.y; have h8 := h.x; have h9 := h.reg; have h3 := h.rows; have h4 := h.width; have h1 := h.hr; have h2 := h.hw
  rw [if_pos hb] at e
  rw [e]
  clear e
  have hcl := sCol { s with y := min (s.y + n) s.bottom, wrap := false } r w ⟨h.hr, h.hw, h.rows, h.width, h.reg⟩ 0
  have hx0 : max 0 (min (s.grid.width - 1) 0) = 0 := by omega
  unfold goC at hcl
  simp only at hcl
  rw [hx0] at hcl
  refine .ofC hS _ _ _ Tryz.func257 ?_
  conv => whnf
  repeat' (first|refine Seal.mk ?_|(refine wS ?_;(conv=>whnf);fail_if_success show False)|((first|refine opsA_step ?_|refine drawS_go ?_|refine wD (id:=11) (.quick 0 (.quick 1 (.quick 2 (.quick 4 (.quick 5 (.quick 6 (.read 3 (.read 7 (.quick 8 .done))))))))) [] (by kernel_rfl) rfl ?_|apply wL (hla)|apply wL (hcl));conv=>whnf)|(intro _;first|omega|conv=>whnf)|(apply And.intro<;>intro _<;>first|omega|conv=>whnf)|((first|refine aLQ ?_|refine oLQ ?_|refine ⟨_,rfl,?_⟩|refine ⟨_,⟨rfl,rfl⟩,?_⟩|refine ⟨_,⟨rfl,rfl,leafQ⟩,?_⟩);conv=>whnf)|with_reducible assumption|exact lfQ|fail)
  all_goals (first | contradiction | (exfalso; omega) | (refine ⟨(),⟨⟩,?_⟩;exact fzQ))
theorem sWent69n (s : Scr) (r w : Nat) (h : OkS s r w) (c n m : Int) (hn : 1 ≤ n ∧ n ≤ 99999) (hm : 1 ≤ m ∧ m ≤ 99999) (hc : c = 69) (hb : ¬ s.y ≤ s.bottom) : CallA S 257 [.ptr (.loc 0) 20 none 0, .int .i64 c, .int .i64 n, .int .i64 m] ⟨[⟨.loc 0, true, .raw (scrC (.loc 1) (.loc 2) (.loc 3) (.loc 4) s)⟩], 5⟩ (Ret1 (.tup []) ⟨[⟨.loc 0, true, .raw (scrC (.loc 1) (.loc 2) (.loc 3) (.loc 4) (movesM s c n m))⟩], 5⟩) := by
  have e : movesM s c n m = _ := (went_eq h c n m hn.1).2.2.2.1 (by omega)
  have hrg := h.rg
  have hla := sLast s r w hrg
  have h7 := h.y; have h8 := h.x; have h9 := h.reg; have h3 := h.rows; have h4 := h.width; have h1 := h.hr; have h2 := h.hw
  rw [if_neg hb] at e
  rw [e]
  clear e
  have hcl := sCol { s with y := min (s.y + n) (s.grid.rows - 1), wrap := false } r w ⟨h.hr, h.hw, h.rows, h.width, h.reg⟩ 0
  have hx0 : max 0 (min (s.grid.width - 1) 0) = 0 := by omega
  unfold goC at hcl
  simp only at hcl
  rw [hx0] at hcl
  refine .ofC hS _ _ _ Tryz.func257 ?_
  conv => whnf
  repeat' (first|refine Seal.mk ?_|(refine wS ?_;(conv=>whnf);fail_if_success show False)|((first|refine opsA_step ?_|refine drawS_go ?_|refine wD (id:=11) (.quick 0 (.quick 1 (.quick 2 (.quick 4 (.quick 5 (.quick 6 (.read 3 (.read 7 (.quick 8 .done))))))))) [] (by kernel_rfl) rfl ?_|apply wL (hla)|apply wL (hcl));conv=>whnf)|(intro _;first|omega|conv=>whnf)|(apply And.intro<;>intro _<;>first|omega|conv=>whnf)|((first|refine aLQ ?_|refine oLQ ?_|refine ⟨_,rfl,?_⟩|refine ⟨_,⟨rfl,rfl⟩,?_⟩|refine ⟨_,⟨rfl,rfl,leafQ⟩,?_⟩);conv=>whnf)|with_reducible assumption|exact lfQ|fail)
  all_goals (first | contradiction | (exfalso; omega) | (refine ⟨(),⟨⟩,?_⟩;exact fzQ))
theorem sWent67 (s : Scr) (r w : Nat) (h : OkS s r w) (c n m : Int) (hn : 1 ≤ n ∧ n ≤ 99999) (hm : 1 ≤ m ∧ m ≤ 99999) (hc : c = 67)  : CallA S 257 [.ptr (.loc 0) 20 none 0, .int .i64 c, .int .i64 n, .int .i64 m] ⟨[⟨.loc 0, true, .raw (scrC (.loc 1) (.loc 2) (.loc 3) (.loc 4) s)⟩], 5⟩ (Ret1 (.tup []) ⟨[⟨.loc 0, true, .raw (scrC (.loc 1) (.loc 2) (.loc 3) (.loc 4) (movesM s c n m))⟩], 5⟩) := by
  have e : movesM s c n m = _ := (went_eq h c n m hn.1).2.2.2.2.1 (by omega)
  have hrg := h.rg
  have hla := sLast s r w hrg
  have h7 := h.y; have h8 := h.x; have h9 := h.reg; have h3 := h.rows; have h4 := h.width; have h1 := h.hr; have h2 := h.hw
  rw [e]
  clear e
  have hcl := sCol s r w hrg (s.x + n)
  refine .ofC hS _ _ _ Tryz.func257 ?_
  conv => whnf
  repeat' (first|refine Seal.mk ?_|(refine wS ?_;(conv=>whnf);fail_if_success show False)|((first|refine opsA_step ?_|apply wL (hla)|apply wL (hcl));conv=>whnf)|(intro _;first|omega|conv=>whnf)|(apply And.intro<;>intro _<;>first|omega|conv=>whnf)|((first|refine aLQ ?_|refine oLQ ?_|refine ⟨_,rfl,?_⟩|refine ⟨_,⟨rfl,rfl⟩,?_⟩|refine ⟨_,⟨rfl,rfl,leafQ⟩,?_⟩);conv=>whnf)|with_reducible assumption|exact lfQ|fail)
  all_goals (first | contradiction | (exfalso; omega) | (refine ⟨(),⟨⟩,?_⟩;exact fzQ))
theorem sWent68 (s : Scr) (r w : Nat) (h : OkS s r w) (c n m : Int) (hn : 1 ≤ n ∧ n ≤ 99999) (hm : 1 ≤ m ∧ m ≤ 99999) (hc : c = 68)  : CallA S 257 [.ptr (.loc 0) 20 none 0, .int .i64 c, .int .i64 n, .int .i64 m] ⟨[⟨.loc 0, true, .raw (scrC (.loc 1) (.loc 2) (.loc 3) (.loc 4) s)⟩], 5⟩ (Ret1 (.tup []) ⟨[⟨.loc 0, true, .raw (scrC (.loc 1) (.loc 2) (.loc 3) (.loc 4) (movesM s c n m))⟩], 5⟩) := by
  have e : movesM s c n m = _ := (went_eq h c n m hn.1).2.2.2.2.2.1 (by omega)
  have hrg := h.rg
  have hla := sLast s r w hrg
  have h7 := h.y; have h8 := h.x; have h9 := h.reg; have h3 := h.rows; have h4 := h.width; have h1 := h.hr; have h2 := h.hw
  rw [e]
  clear e
  have hcl := sCol s r w hrg (s.x - n)
  refine .ofC hS _ _ _ Tryz.func257 ?_
  conv => whnf
  repeat' (first|refine Seal.mk ?_|(refine wS ?_;(conv=>whnf);fail_if_success show False)|((first|refine opsA_step ?_|apply wL (hla)|apply wL (hcl));conv=>whnf)|(intro _;first|omega|conv=>whnf)|(apply And.intro<;>intro _<;>first|omega|conv=>whnf)|((first|refine aLQ ?_|refine oLQ ?_|refine ⟨_,rfl,?_⟩|refine ⟨_,⟨rfl,rfl⟩,?_⟩|refine ⟨_,⟨rfl,rfl,leafQ⟩,?_⟩);conv=>whnf)|with_reducible assumption|exact lfQ|fail)
  all_goals (first | contradiction | (exfalso; omega) | (refine ⟨(),⟨⟩,?_⟩;exact fzQ))
theorem sWent71 (s : Scr) (r w : Nat) (h : OkS s r w) (c n m : Int) (hn : 1 ≤ n ∧ n ≤ 99999) (hm : 1 ≤ m ∧ m ≤ 99999) (hc : c = 71)  : CallA S 257 [.ptr (.loc 0) 20 none 0, .int .i64 c, .int .i64 n, .int .i64 m] ⟨[⟨.loc 0, true, .raw (scrC (.loc 1) (.loc 2) (.loc 3) (.loc 4) s)⟩], 5⟩ (Ret1 (.tup []) ⟨[⟨.loc 0, true, .raw (scrC (.loc 1) (.loc 2) (.loc 3) (.loc 4) (movesM s c n m))⟩], 5⟩) := by
  have e : movesM s c n m = _ := (went_eq h c n m hn.1).2.2.2.2.2.2.1 (by omega)
  have hrg := h.rg
  have hla := sLast s r w hrg
  have h7 := h.y; have h8 := h.x; have h9 := h.reg; have h3 := h.rows; have h4 := h.width; have h1 := h.hr; have h2 := h.hw
  rw [e]
  clear e
  have hcl := sCol s r w hrg (n - 1)
  refine .ofC hS _ _ _ Tryz.func257 ?_
  conv => whnf
  repeat' (first|refine Seal.mk ?_|(refine wS ?_;(conv=>whnf);fail_if_success show False)|((first|refine opsA_step ?_|apply wL (hla)|apply wL (hcl));conv=>whnf)|(intro _;first|omega|conv=>whnf)|(apply And.intro<;>intro _<;>first|omega|conv=>whnf)|((first|refine aLQ ?_|refine oLQ ?_|refine ⟨_,rfl,?_⟩|refine ⟨_,⟨rfl,rfl⟩,?_⟩|refine ⟨_,⟨rfl,rfl,leafQ⟩,?_⟩);conv=>whnf)|with_reducible assumption|exact lfQ|fail)
  all_goals (first | contradiction | (exfalso; omega) | (refine ⟨(),⟨⟩,?_⟩;exact fzQ))
theorem sWent96 (s : Scr) (r w : Nat) (h : OkS s r w) (c n m : Int) (hn : 1 ≤ n ∧ n ≤ 99999) (hm : 1 ≤ m ∧ m ≤ 99999) (hc : c = 96)  : CallA S 257 [.ptr (.loc 0) 20 none 0, .int .i64 c, .int .i64 n, .int .i64 m] ⟨[⟨.loc 0, true, .raw (scrC (.loc 1) (.loc 2) (.loc 3) (.loc 4) s)⟩], 5⟩ (Ret1 (.tup []) ⟨[⟨.loc 0, true, .raw (scrC (.loc 1) (.loc 2) (.loc 3) (.loc 4) (movesM s c n m))⟩], 5⟩) := by
  have e : movesM s c n m = _ := (went_eq h c n m hn.1).2.2.2.2.2.2.1 (by omega)
  have hrg := h.rg
  have hla := sLast s r w hrg
  have h7 := h.y; have h8 := h.x; have h9 := h.reg; have h3 := h.rows; have h4 := h.width; have h1 := h.hr; have h2 := h.hw
  rw [e]
  clear e
  have hcl := sCol s r w hrg (n - 1)
  refine .ofC hS _ _ _ Tryz.func257 ?_
  conv => whnf
  repeat' (first|refine Seal.mk ?_|(refine wS ?_;(conv=>whnf);fail_if_success show False)|((first|refine opsA_step ?_|apply wL (hla)|apply wL (hcl));conv=>whnf)|(intro _;first|omega|conv=>whnf)|(apply And.intro<;>intro _<;>first|omega|conv=>whnf)|((first|refine aLQ ?_|refine oLQ ?_|refine ⟨_,rfl,?_⟩|refine ⟨_,⟨rfl,rfl⟩,?_⟩|refine ⟨_,⟨rfl,rfl,leafQ⟩,?_⟩);conv=>whnf)|with_reducible assumption|exact lfQ|fail)
  all_goals (first | contradiction | (exfalso; omega) | (refine ⟨(),⟨⟩,?_⟩;exact fzQ))
theorem sWent100 (s : Scr) (r w : Nat) (h : OkS s r w) (c n m : Int) (hn : 1 ≤ n ∧ n ≤ 99999) (hm : 1 ≤ m ∧ m ≤ 99999) (hc : c = 100)  : CallA S 257 [.ptr (.loc 0) 20 none 0, .int .i64 c, .int .i64 n, .int .i64 m] ⟨[⟨.loc 0, true, .raw (scrC (.loc 1) (.loc 2) (.loc 3) (.loc 4) s)⟩], 5⟩ (Ret1 (.tup []) ⟨[⟨.loc 0, true, .raw (scrC (.loc 1) (.loc 2) (.loc 3) (.loc 4) (movesM s c n m))⟩], 5⟩) := by
  have e : movesM s c n m = _ := (went_eq h c n m hn.1).2.2.2.2.2.2.2.1 (by omega)
  have hrg := h.rg
  have hla := sLast s r w hrg
  have h7 := h.y; have h8 := h.x; have h9 := h.reg; have h3 := h.rows; have h4 := h.width; have h1 := h.hr; have h2 := h.hw
  have hlo : 0 ≤ lowM s ∧ lowM s ≤ 5 := by unfold lowM; split <;> omega
  have hrw := sRow s r w hrg (lowM s + n - 1)
  have hfi := sFirst s
  rw [e]
  clear e
  refine .ofC hS _ _ _ Tryz.func257 ?_
  conv => whnf
  repeat' (first|refine Seal.mk ?_|(refine wS ?_;(conv=>whnf);fail_if_success show False)|((first|refine opsA_step ?_|apply wL (hla)|apply wL (hfi)|apply wL (hrw));conv=>whnf)|(intro _;first|omega|conv=>whnf)|(apply And.intro<;>intro _<;>first|omega|conv=>whnf)|((first|refine aLQ ?_|refine oLQ ?_|refine ⟨_,rfl,?_⟩|refine ⟨_,⟨rfl,rfl⟩,?_⟩|refine ⟨_,⟨rfl,rfl,leafQ⟩,?_⟩);conv=>whnf)|with_reducible assumption|exact lfQ|fail)
  all_goals (first | contradiction | (exfalso; omega) | (refine ⟨(),⟨⟩,?_⟩;exact fzQ))
theorem sWent72 (s : Scr) (r w : Nat) (h : OkS s r w) (c n m : Int) (hn : 1 ≤ n ∧ n ≤ 99999) (hm : 1 ≤ m ∧ m ≤ 99999) (hc : c = 72)  : CallA S 257 [.ptr (.loc 0) 20 none 0, .int .i64 c, .int .i64 n, .int .i64 m] ⟨[⟨.loc 0, true, .raw (scrC (.loc 1) (.loc 2) (.loc 3) (.loc 4) s)⟩], 5⟩ (Ret1 (.tup []) ⟨[⟨.loc 0, true, .raw (scrC (.loc 1) (.loc 2) (.loc 3) (.loc 4) (movesM s c n m))⟩], 5⟩) := by
  have e : movesM s c n m = _ := (went_eq h c n m hn.1).2.2.2.2.2.2.2.2 (by omega)
  have hrg := h.rg
  have hla := sLast s r w hrg
  have h7 := h.y; have h8 := h.x; have h9 := h.reg; have h3 := h.rows; have h4 := h.width; have h1 := h.hr; have h2 := h.hw
  have hlo : 0 ≤ lowM s ∧ lowM s ≤ 5 := by unfold lowM; split <;> omega
  have hrw := sRow s r w hrg (lowM s + n - 1)
  have hcl := sCol (goR s (lowM s + n - 1)) r w ⟨h.hr, h.hw, h.rows, h.width, h.reg⟩ (m - 1)
  have hfi := sFirst s
  rw [e]
  clear e
  refine .ofC hS _ _ _ Tryz.func257 ?_
  conv => whnf
  repeat' (first|refine Seal.mk ?_|(refine wS ?_;(conv=>whnf);fail_if_success show False)|((first|refine opsA_step ?_|apply wL (hla)|apply wL (hfi)|apply wL (hrw)|apply wL (hcl));conv=>whnf)|(intro _;first|omega|conv=>whnf)|(apply And.intro<;>intro _<;>first|omega|conv=>whnf)|((first|refine aLQ ?_|refine oLQ ?_|refine ⟨_,rfl,?_⟩|refine ⟨_,⟨rfl,rfl⟩,?_⟩|refine ⟨_,⟨rfl,rfl,leafQ⟩,?_⟩);conv=>whnf)|with_reducible assumption|exact lfQ|fail)
  all_goals (first | contradiction | (exfalso; omega) | (refine ⟨(),⟨⟩,?_⟩;exact fzQ))
theorem sWent102 (s : Scr) (r w : Nat) (h : OkS s r w) (c n m : Int) (hn : 1 ≤ n ∧ n ≤ 99999) (hm : 1 ≤ m ∧ m ≤ 99999) (hc : c = 102)  : CallA S 257 [.ptr (.loc 0) 20 none 0, .int .i64 c, .int .i64 n, .int .i64 m] ⟨[⟨.loc 0, true, .raw (scrC (.loc 1) (.loc 2) (.loc 3) (.loc 4) s)⟩], 5⟩ (Ret1 (.tup []) ⟨[⟨.loc 0, true, .raw (scrC (.loc 1) (.loc 2) (.loc 3) (.loc 4) (movesM s c n m))⟩], 5⟩) := by
  have e : movesM s c n m = _ := (went_eq h c n m hn.1).2.2.2.2.2.2.2.2 (by omega)
  have hrg := h.rg
  have hla := sLast s r w hrg
  have h7 := h.y; have h8 := h.x; have h9 := h.reg; have h3 := h.rows; have h4 := h.width; have h1 := h.hr; have h2 := h.hw
  have hlo : 0 ≤ lowM s ∧ lowM s ≤ 5 := by unfold lowM; split <;> omega
  have hrw := sRow s r w hrg (lowM s + n - 1)
  have hcl := sCol (goR s (lowM s + n - 1)) r w ⟨h.hr, h.hw, h.rows, h.width, h.reg⟩ (m - 1)
  have hfi := sFirst s
  rw [e]
  clear e
  refine .ofC hS _ _ _ Tryz.func257 ?_
  conv => whnf
  repeat' (first|refine Seal.mk ?_|(refine wS ?_;(conv=>whnf);fail_if_success show False)|((first|refine opsA_step ?_|apply wL (hla)|apply wL (hfi)|apply wL (hrw)|apply wL (hcl));conv=>whnf)|(intro _;first|omega|conv=>whnf)|(apply And.intro<;>intro _<;>first|omega|conv=>whnf)|((first|refine aLQ ?_|refine oLQ ?_|refine ⟨_,rfl,?_⟩|refine ⟨_,⟨rfl,rfl⟩,?_⟩|refine ⟨_,⟨rfl,rfl,leafQ⟩,?_⟩);conv=>whnf)|with_reducible assumption|exact lfQ|fail)
  all_goals (first | contradiction | (exfalso; omega) | (refine ⟨(),⟨⟩,?_⟩;exact fzQ))
theorem sWent (s : Scr) (r w : Nat) (h : OkS s r w) (c n m : Int) (hn : 1 ≤ n ∧ n ≤ 99999) (hm : 1 ≤ m ∧ m ≤ 99999) (hc : c = 65 ∨ c = 66 ∨ c = 67 ∨ c = 68 ∨ c = 69 ∨ c = 70 ∨ c = 71 ∨ c = 96 ∨ c = 100 ∨ c = 72 ∨ c = 102) : CallA S 257 [.ptr (.loc 0) 20 none 0, .int .i64 c, .int .i64 n, .int .i64 m] ⟨[⟨.loc 0, true, .raw (scrC (.loc 1) (.loc 2) (.loc 3) (.loc 4) s)⟩], 5⟩ (Ret1 (.tup []) ⟨[⟨.loc 0, true, .raw (scrC (.loc 1) (.loc 2) (.loc 3) (.loc 4) (movesM s c n m))⟩], 5⟩) := by
  rcases hc with hc | hc | hc | hc | hc | hc | hc | hc | hc | hc | hc
  · by_cases hb : s.top ≤ s.y
    · exact sWent65p s r w h c n m hn hm hc hb
    · exact sWent65n s r w h c n m hn hm hc hb
  · by_cases hb : s.y ≤ s.bottom
    · exact sWent66p s r w h c n m hn hm hc hb
    · exact sWent66n s r w h c n m hn hm hc hb
  · exact sWent67 s r w h c n m hn hm hc
  · exact sWent68 s r w h c n m hn hm hc
  · by_cases hb : s.y ≤ s.bottom
    · exact sWent69p s r w h c n m hn hm hc hb
    · exact sWent69n s r w h c n m hn hm hc hb
  · by_cases hb : s.top ≤ s.y
    · exact sWent70p s r w h c n m hn hm hc hb
    · exact sWent70n s r w h c n m hn hm hc hb
  · exact sWent71 s r w h c n m hn hm hc
  · exact sWent96 s r w h c n m hn hm hc
  · exact sWent100 s r w h c n m hn hm hc
  · exact sWent72 s r w h c n m hn hm hc
  · exact sWent102 s r w h c n m hn hm hc
end Go.Mu
