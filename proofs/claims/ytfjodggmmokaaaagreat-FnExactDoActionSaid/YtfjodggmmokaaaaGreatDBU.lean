/- Screens, as the program does what numbers ask for, in one. -/
import Derived.Test.YtfjodggmmokaaaaGreatDBT
set_option linter.unusedSimpArgs false
set_option linter.unusedVariables false
set_option linter.constructorNameAsVariable false
namespace Go.Mu
open Go Go.Vm Go.RowKit Go.Proofs
attribute [local irreducible] wpA opsA stillA drawA drawS
set_option maxRecDepth 20000
set_option maxHeartbeats 40000000
theorem leafI15 {P : Prop} (h : P := by
  first
  | exact leaf
  | exact PreC.of_eq rfl
  | rfl
  | (simp [hi4, hins]; done)
  | exact Bool.false_ne_true
  | exact ⟨rfl, rfl⟩
  | fail) : P := h
theorem aLI15 {a b : Prop} (k : b) (h : a := by exact leafI15) : a ∧ b := ⟨h, k⟩
theorem oLI15 {a b c : Prop} (k : b) (h : a := by exact leafI15) : (a ∧ b) ∨ c := .inl ⟨h, k⟩
theorem fzI15 {P : Prop} (h : P := by
  (try refine wF ?_)
  repeat' (first|exact ⟨⟩|(apply And.intro;focus exact leafI15)|((conv=>whnf);first|exact ⟨⟩|(apply And.intro;focus exact leafI15))|fail)
  (first | done | fail)) : P := h
theorem sParM (s : Scr) (r w : Nat) (h : OkS s r w) (ch : Int) (ps : List Int) (hl : 1 ≤ ps.length ∧ ps.length ≤ 1000) (hps : ∀ p ∈ ps, 0 ≤ p ∧ p ≤ 99999) (hc : ch = 109) : CallA S 158 [.ptr (.loc 0) 20 none 0, .int .i64 ch, .sl (.loc 5) 1 none ps.length] ⟨[⟨.loc 0, true, .raw (scrC (.loc 1) (.loc 2) (.loc 3) (.loc 4) s)⟩, ⟨.loc 1, true, .arr pairE s.grid.cells⟩, ⟨.loc 2, true, .arr pairE s.grid.back⟩, ⟨.loc 3, true, .arr boolE s.tabs⟩, ⟨.loc 5, false, .arr (intE .i64) ps⟩], 6⟩ (Ret1 (.tup []) ⟨[⟨.loc 0, true, .raw (scrC (.loc 1) (.loc 6) (.loc 7) (.loc 4) ({ s with attr := attrL s.attr ps ps.length } : Scr))⟩, ⟨.loc 1, true, .arr pairE ({ s with attr := attrL s.attr ps ps.length } : Scr).grid.cells⟩, ⟨.loc 6, true, .arr pairE ({ s with attr := attrL s.attr ps ps.length } : Scr).grid.back⟩, ⟨.loc 7, true, .arr boolE ({ s with attr := attrL s.attr ps ps.length } : Scr).tabs⟩], 8⟩) := by
  have hget : ∀ i : Nat, 0 ≤ ps.getD i 0 ∧ ps.getD i 0 ≤ 99999 := fun i => getD_all (d := 0) (P := fun p => 0 ≤ p ∧ p ≤ 99999) hps (by omega) i
  have g0 := hget 0
  have g1 := hget 1
  have e0 : pmI ps 0 = ps.getD 0 0 := if_pos (by omega)
  have n0 := numberAt ps 0 (by omega) (by omega)
  rw [e0] at n0
  have n1 := numberAt ps 1 (by omega) (by omega)
  have p1 : 0 ≤ pmI ps 1 ∧ pmI ps 1 ≤ 99999 := by unfold pmI; split <;> omega
  have ln := hl
  have h10 := h.attr
  rcases hc with rfl
  refine .ofC hS _ _ _ Tryz.func158 ?_
  conv => whnf
  repeat' (first|refine Seal.mk ?_|((fail_if_success with_reducible refine wC ?_);refine wS ?_;(conv=>whnf);fail_if_success show False)|((first|refine opsA_step ?_|apply wL (n0));conv=>whnf)|(intro _;first|omega|conv=>whnf)|(apply And.intro<;>intro _<;>first|omega|conv=>whnf)|((first|refine aLI15 ?_|refine oLI15 ?_|refine ⟨_,rfl,?_⟩|refine ⟨_,⟨rfl,rfl⟩,?_⟩|refine ⟨_,⟨rfl,rfl,leafI15⟩,?_⟩);conv=>whnf)|with_reducible assumption|exact lfI15|fail)
  repeat' (first|refine Seal.mk ?_|(refine wS ?_;(conv=>whnf);fail_if_success show False)|((first|refine opsA_step ?_);conv=>whnf)|(intro _;first|omega|conv=>whnf)|(apply And.intro<;>intro _<;>first|omega|conv=>whnf)|((first|refine aLI15 ?_|refine oLI15 ?_|refine ⟨_,rfl,?_⟩|refine ⟨_,⟨rfl,rfl⟩,?_⟩|refine ⟨_,⟨rfl,rfl,leafI15⟩,?_⟩);conv=>whnf)|with_reducible assumption|exact lfI15|fail)
  refine .loop hS (γ := Nat) (fun i => ⟨[(0, .ptr (.loc 0) 20 none 0), (72, .sl (.loc 5) 1 none ps.length), (73, .int .i64 ps.length), (74, .int .i64 i)], ⟨[⟨.loc 0, true, .raw (scrC (.loc 1) (.loc 2) (.loc 3) (.loc 4) ({ s with attr := attrL s.attr ps i } : Scr))⟩, ⟨.loc 1, true, .arr pairE s.grid.cells⟩, ⟨.loc 2, true, .arr pairE s.grid.back⟩, ⟨.loc 3, true, .arr boolE s.tabs⟩, ⟨.loc 5, false, .arr (intE .i64) ps⟩], 6⟩, 102, 6⟩) (fun i => i ≤ ps.length) (fun i => ps.length - i) 0 (by omega) ?_ ?_
  · have h0 : attrL s.attr ps 0 = s.attr := rfl
    rw [h0]
    ((try dsimp only);exact fzI15)
  · intro i hi
    have hat := attrL_ok (ps := ps) h10 i
    have hgi := hget i
    conv => whnf
    by_cases hgo : i < ps.length
    · have hn := attrL_next (a := s.attr) hgo
      have hd := sDress ({ s with attr := attrL s.attr ps i } : Scr) hat (ps.getD (i : Int).toNat 0) (by rw [Int.toNat_natCast]; exact hgi)
      have hd' := hd
      simp only [← hn] at hd
      repeat' (first|refine Seal.mk ?_|(refine wS ?_;(conv=>whnf);fail_if_success show False)|((first|refine opsA_step ?_|apply wL (hd));conv=>whnf)|(intro _;first|omega|conv=>whnf)|(apply And.intro<;>intro _<;>first|omega|conv=>whnf)|((first|refine aLI15 ?_|refine oLI15 ?_|refine ⟨_,rfl,?_⟩|refine ⟨_,⟨rfl,rfl⟩,?_⟩|refine ⟨_,⟨rfl,rfl,leafI15⟩,?_⟩);conv=>whnf)|with_reducible assumption|exact lfI15|fail)
      all_goals (first | contradiction | (exfalso; omega) | (refine ⟨i + 1, ⟨by omega, by omega⟩, ?_⟩; ((try dsimp only);exact fzI15)))
    · have hie : i = ps.length := by omega
      subst hie
      repeat' (first|refine Seal.mk ?_|(refine wS ?_;(conv=>whnf);fail_if_success show False)|((first|refine opsA_step ?_);conv=>whnf)|(intro _;first|omega|conv=>whnf)|(apply And.intro<;>intro _<;>first|omega|conv=>whnf)|((first|refine aLI15 ?_|refine oLI15 ?_|refine ⟨_,rfl,?_⟩|refine ⟨_,⟨rfl,rfl⟩,?_⟩|refine ⟨_,⟨rfl,rfl,leafI15⟩,?_⟩);conv=>whnf)|with_reducible assumption|exact lfI15|fail)
      (refine ⟨(),⟨⟩,?_⟩;exact fzI15)
theorem sParG (s : Scr) (r w : Nat) (h : OkS s r w) (ch : Int) (ps : List Int) (hl : 1 ≤ ps.length ∧ ps.length ≤ 1000) (hps : ∀ p ∈ ps, 0 ≤ p ∧ p ≤ 99999) (hc : ch = 103) : CallA S 158 [.ptr (.loc 0) 20 none 0, .int .i64 ch, .sl (.loc 5) 1 none ps.length] ⟨[⟨.loc 0, true, .raw (scrC (.loc 1) (.loc 2) (.loc 3) (.loc 4) s)⟩, ⟨.loc 1, true, .arr pairE s.grid.cells⟩, ⟨.loc 2, true, .arr pairE s.grid.back⟩, ⟨.loc 3, true, .arr boolE s.tabs⟩, ⟨.loc 5, false, .arr (intE .i64) ps⟩], 6⟩ (Ret1 (.tup []) ⟨[⟨.loc 0, true, .raw (scrC (.loc 1) (.loc 6) (.loc 7) (.loc 4) (dropM s w (ps.getD 0 0) : Scr))⟩, ⟨.loc 1, true, .arr pairE (dropM s w (ps.getD 0 0) : Scr).grid.cells⟩, ⟨.loc 6, true, .arr pairE (dropM s w (ps.getD 0 0) : Scr).grid.back⟩, ⟨.loc 7, true, .arr boolE (dropM s w (ps.getD 0 0) : Scr).tabs⟩], 8⟩) := by
  have hget : ∀ i : Nat, 0 ≤ ps.getD i 0 ∧ ps.getD i 0 ≤ 99999 := fun i => getD_all (d := 0) (P := fun p => 0 ≤ p ∧ p ≤ 99999) hps (by omega) i
  have g0 := hget 0
  have g1 := hget 1
  have e0 : pmI ps 0 = ps.getD 0 0 := if_pos (by omega)
  have n0 := numberAt ps 0 (by omega) (by omega)
  rw [e0] at n0
  have n1 := numberAt ps 1 (by omega) (by omega)
  have p1 : 0 ≤ pmI ps 1 ∧ pmI ps 1 ≤ 99999 := by unfold pmI; split <;> omega
  have ln := hl
  have hw := sDropTabs s r w h (ps.getD 0 0)
  have hw0 : ps.getD (Int.toNat 0) (intE .i64).d = ps.getD 0 0 := rfl
  obtain ⟨s1, hs1⟩ : ∃ s1, dropM s w (ps.getD 0 0) = s1 := ⟨_, rfl⟩
  have r2 : (dropM s w (ps.getD 0 0)).sets = s.sets ∧ (dropM s w (ps.getD 0 0)).grid = s.grid := by unfold dropM; (repeat' split) <;> exact ⟨rfl, rfl⟩
  rw [hs1] at hw r2 ⊢
  clear hs1
  obtain ⟨r2, r3⟩ := r2
  have l2 : s1.sets.length = s.sets.length := by rw [r2]
  have c1 : s1.grid.cells = s.grid.cells := by rw [r3]
  have c2 : s1.grid.back = s.grid.back := by rw [r3]
  have c1' := c1.symm
  have c2' := c2.symm
  have l3 : s1.grid.cells.length = s.grid.cells.length := by rw [c1]
  have l4 : s1.grid.back.length = s.grid.back.length := by rw [c2]
  rcases hc with rfl
  refine .ofC hS _ _ _ Tryz.func158 ?_
  conv => whnf
  repeat' (first|refine Seal.mk ?_|((fail_if_success with_reducible refine wC ?_);refine wS ?_;(conv=>whnf);fail_if_success show False)|((first|refine opsA_step ?_|apply wL (n0));conv=>whnf)|(intro _;first|omega|conv=>whnf)|(apply And.intro<;>intro _<;>first|omega|conv=>whnf)|((first|refine aLI15 ?_|refine ⟨_,rfl,?_⟩|refine ⟨_,⟨rfl,rfl⟩,?_⟩|refine ⟨_,⟨rfl,rfl,leafI15⟩,?_⟩);conv=>whnf)|with_reducible assumption|exact lfI15|fail)
  repeat' (first|refine Seal.mk ?_|(refine wS ?_;(conv=>whnf);fail_if_success show False)|((first|refine opsA_step ?_|apply wL (hw));conv=>whnf)|(intro _;first|omega|conv=>whnf)|(apply And.intro<;>intro _<;>first|omega|conv=>whnf)|((first|refine aLI15 ?_|refine ⟨_,rfl,?_⟩|refine ⟨_,⟨rfl,rfl⟩,?_⟩|refine ⟨_,⟨rfl,rfl,leafI15⟩,?_⟩);conv=>whnf)|with_reducible assumption|exact lfI15|fail)
  all_goals (first | contradiction | (exfalso; omega) | (refine ⟨(),⟨⟩,?_⟩;exact fzI15))
theorem sParR (s : Scr) (r w : Nat) (h : OkS s r w) (ch : Int) (ps : List Int) (hl : 1 ≤ ps.length ∧ ps.length ≤ 1000) (hps : ∀ p ∈ ps, 0 ≤ p ∧ p ≤ 99999) (hc : ch = 114) : CallA S 158 [.ptr (.loc 0) 20 none 0, .int .i64 ch, .sl (.loc 5) 1 none ps.length] ⟨[⟨.loc 0, true, .raw (scrC (.loc 1) (.loc 2) (.loc 3) (.loc 4) s)⟩, ⟨.loc 1, true, .arr pairE s.grid.cells⟩, ⟨.loc 2, true, .arr pairE s.grid.back⟩, ⟨.loc 3, true, .arr boolE s.tabs⟩, ⟨.loc 5, false, .arr (intE .i64) ps⟩], 6⟩ (Ret1 (.tup []) ⟨[⟨.loc 0, true, .raw (scrC (.loc 1) (.loc 6) (.loc 7) (.loc 4) (regM s (ps.getD 0 0) (pmI ps 1) : Scr))⟩, ⟨.loc 1, true, .arr pairE (regM s (ps.getD 0 0) (pmI ps 1) : Scr).grid.cells⟩, ⟨.loc 6, true, .arr pairE (regM s (ps.getD 0 0) (pmI ps 1) : Scr).grid.back⟩, ⟨.loc 7, true, .arr boolE (regM s (ps.getD 0 0) (pmI ps 1) : Scr).tabs⟩], 8⟩) := by
  have hget : ∀ i : Nat, 0 ≤ ps.getD i 0 ∧ ps.getD i 0 ≤ 99999 := fun i => getD_all (d := 0) (P := fun p => 0 ≤ p ∧ p ≤ 99999) hps (by omega) i
  have g0 := hget 0
  have g1 := hget 1
  have e0 : pmI ps 0 = ps.getD 0 0 := if_pos (by omega)
  have n0 := numberAt ps 0 (by omega) (by omega)
  rw [e0] at n0
  have n1 := numberAt ps 1 (by omega) (by omega)
  have p1 : 0 ≤ pmI ps 1 ∧ pmI ps 1 ≤ 99999 := by unfold pmI; split <;> omega
  have ln := hl
  have hw := sSetRegion s r w h ps hl hps
  obtain ⟨s1, hs1⟩ : ∃ s1, regM s (ps.getD 0 0) (pmI ps 1) = s1 := ⟨_, rfl⟩
  have r2 : (regM s (ps.getD 0 0) (pmI ps 1)).tabs = s.tabs ∧ (regM s (ps.getD 0 0) (pmI ps 1)).sets = s.sets ∧ (regM s (ps.getD 0 0) (pmI ps 1)).grid = s.grid := by unfold regM; (repeat' split) <;> exact ⟨rfl, rfl, rfl⟩
  rw [hs1] at hw r2 ⊢
  clear hs1
  obtain ⟨r1, r2, r3⟩ := r2
  have r1' := r1.symm
  have l1 : s1.tabs.length = s.tabs.length := by rw [r1]
  have l2 : s1.sets.length = s.sets.length := by rw [r2]
  have c1 : s1.grid.cells = s.grid.cells := by rw [r3]
  have c2 : s1.grid.back = s.grid.back := by rw [r3]
  have c1' := c1.symm
  have c2' := c2.symm
  have l3 : s1.grid.cells.length = s.grid.cells.length := by rw [c1]
  have l4 : s1.grid.back.length = s.grid.back.length := by rw [c2]
  rcases hc with rfl
  refine .ofC hS _ _ _ Tryz.func158 ?_
  conv => whnf
  repeat' (first|refine Seal.mk ?_|((fail_if_success with_reducible refine wC ?_);refine wS ?_;(conv=>whnf);fail_if_success show False)|((first|refine opsA_step ?_|apply wL (n0));conv=>whnf)|(intro _;first|omega|conv=>whnf)|(apply And.intro<;>intro _<;>first|omega|conv=>whnf)|((first|refine aLI15 ?_|refine ⟨_,rfl,?_⟩|refine ⟨_,⟨rfl,rfl⟩,?_⟩|refine ⟨_,⟨rfl,rfl,leafI15⟩,?_⟩);conv=>whnf)|with_reducible assumption|exact lfI15|fail)
  repeat' (first|refine Seal.mk ?_|(refine wS ?_;(conv=>whnf);fail_if_success show False)|((first|refine opsA_step ?_|apply wL (hw));conv=>whnf)|(intro _;first|omega|conv=>whnf)|(apply And.intro<;>intro _<;>first|omega|conv=>whnf)|((first|refine aLI15 ?_|refine ⟨_,rfl,?_⟩|refine ⟨_,⟨rfl,rfl⟩,?_⟩|refine ⟨_,⟨rfl,rfl,leafI15⟩,?_⟩);conv=>whnf)|with_reducible assumption|exact lfI15|fail)
  all_goals (first | contradiction | (exfalso; omega) | (refine ⟨(),⟨⟩,?_⟩;exact fzI15))
theorem sParS (s : Scr) (r w : Nat) (h : OkS s r w) (ch : Int) (ps : List Int) (hl : 1 ≤ ps.length ∧ ps.length ≤ 1000) (hps : ∀ p ∈ ps, 0 ≤ p ∧ p ≤ 99999) (hc : ch = 115) : CallA S 158 [.ptr (.loc 0) 20 none 0, .int .i64 ch, .sl (.loc 5) 1 none ps.length] ⟨[⟨.loc 0, true, .raw (scrC (.loc 1) (.loc 2) (.loc 3) (.loc 4) s)⟩, ⟨.loc 1, true, .arr pairE s.grid.cells⟩, ⟨.loc 2, true, .arr pairE s.grid.back⟩, ⟨.loc 3, true, .arr boolE s.tabs⟩, ⟨.loc 5, false, .arr (intE .i64) ps⟩], 6⟩ (Ret1 (.tup []) ⟨[⟨.loc 0, true, .raw (scrC (.loc 1) (.loc 6) (.loc 7) (.loc 4) ({ s with keptY := s.y, keptX := s.x, keptA := s.attr } : Scr))⟩, ⟨.loc 1, true, .arr pairE ({ s with keptY := s.y, keptX := s.x, keptA := s.attr } : Scr).grid.cells⟩, ⟨.loc 6, true, .arr pairE ({ s with keptY := s.y, keptX := s.x, keptA := s.attr } : Scr).grid.back⟩, ⟨.loc 7, true, .arr boolE ({ s with keptY := s.y, keptX := s.x, keptA := s.attr } : Scr).tabs⟩], 8⟩) := by
  have hget : ∀ i : Nat, 0 ≤ ps.getD i 0 ∧ ps.getD i 0 ≤ 99999 := fun i => getD_all (d := 0) (P := fun p => 0 ≤ p ∧ p ≤ 99999) hps (by omega) i
  have g0 := hget 0
  have g1 := hget 1
  have e0 : pmI ps 0 = ps.getD 0 0 := if_pos (by omega)
  have n0 := numberAt ps 0 (by omega) (by omega)
  rw [e0] at n0
  have n1 := numberAt ps 1 (by omega) (by omega)
  have p1 : 0 ≤ pmI ps 1 ∧ pmI ps 1 ≤ 99999 := by unfold pmI; split <;> omega
  have ln := hl
  have hw := sKeep s r w h
  rcases hc with rfl
  refine .ofC hS _ _ _ Tryz.func158 ?_
  conv => whnf
  repeat' (first|refine Seal.mk ?_|((fail_if_success with_reducible refine wC ?_);refine wS ?_;(conv=>whnf);fail_if_success show False)|((first|refine opsA_step ?_|apply wL (n0));conv=>whnf)|(intro _;first|omega|conv=>whnf)|(apply And.intro<;>intro _<;>first|omega|conv=>whnf)|((first|refine aLI15 ?_|refine ⟨_,rfl,?_⟩|refine ⟨_,⟨rfl,rfl⟩,?_⟩|refine ⟨_,⟨rfl,rfl,leafI15⟩,?_⟩);conv=>whnf)|with_reducible assumption|exact lfI15|fail)
  repeat' (first|refine Seal.mk ?_|(refine wS ?_;(conv=>whnf);fail_if_success show False)|((first|refine opsA_step ?_|apply wL (hw));conv=>whnf)|(intro _;first|omega|conv=>whnf)|(apply And.intro<;>intro _<;>first|omega|conv=>whnf)|((first|refine aLI15 ?_|refine ⟨_,rfl,?_⟩|refine ⟨_,⟨rfl,rfl⟩,?_⟩|refine ⟨_,⟨rfl,rfl,leafI15⟩,?_⟩);conv=>whnf)|with_reducible assumption|exact lfI15|fail)
  all_goals (first | contradiction | (exfalso; omega) | (refine ⟨(),⟨⟩,?_⟩;exact fzI15))
theorem sParU (s : Scr) (r w : Nat) (h : OkS s r w) (ch : Int) (ps : List Int) (hl : 1 ≤ ps.length ∧ ps.length ≤ 1000) (hps : ∀ p ∈ ps, 0 ≤ p ∧ p ≤ 99999) (hc : ch = 117) : CallA S 158 [.ptr (.loc 0) 20 none 0, .int .i64 ch, .sl (.loc 5) 1 none ps.length] ⟨[⟨.loc 0, true, .raw (scrC (.loc 1) (.loc 2) (.loc 3) (.loc 4) s)⟩, ⟨.loc 1, true, .arr pairE s.grid.cells⟩, ⟨.loc 2, true, .arr pairE s.grid.back⟩, ⟨.loc 3, true, .arr boolE s.tabs⟩, ⟨.loc 5, false, .arr (intE .i64) ps⟩], 6⟩ (Ret1 (.tup []) ⟨[⟨.loc 0, true, .raw (scrC (.loc 1) (.loc 6) (.loc 7) (.loc 4) (goM { s with attr := s.keptA } s.keptY s.keptX : Scr))⟩, ⟨.loc 1, true, .arr pairE (goM { s with attr := s.keptA } s.keptY s.keptX : Scr).grid.cells⟩, ⟨.loc 6, true, .arr pairE (goM { s with attr := s.keptA } s.keptY s.keptX : Scr).grid.back⟩, ⟨.loc 7, true, .arr boolE (goM { s with attr := s.keptA } s.keptY s.keptX : Scr).tabs⟩], 8⟩) := by
  have hget : ∀ i : Nat, 0 ≤ ps.getD i 0 ∧ ps.getD i 0 ≤ 99999 := fun i => getD_all (d := 0) (P := fun p => 0 ≤ p ∧ p ≤ 99999) hps (by omega) i
  have g0 := hget 0
  have g1 := hget 1
  have e0 : pmI ps 0 = ps.getD 0 0 := if_pos (by omega)
  have n0 := numberAt ps 0 (by omega) (by omega)
  rw [e0] at n0
  have n1 := numberAt ps 1 (by omega) (by omega)
  have p1 : 0 ≤ pmI ps 1 ∧ pmI ps 1 ≤ 99999 := by unfold pmI; split <;> omega
  have ln := hl
  have hw := sBack s r w h
  rcases hc with rfl
  refine .ofC hS _ _ _ Tryz.func158 ?_
  conv => whnf
  repeat' (first|refine Seal.mk ?_|((fail_if_success with_reducible refine wC ?_);refine wS ?_;(conv=>whnf);fail_if_success show False)|((first|refine opsA_step ?_|apply wL (n0));conv=>whnf)|(intro _;first|omega|conv=>whnf)|(apply And.intro<;>intro _<;>first|omega|conv=>whnf)|((first|refine aLI15 ?_|refine ⟨_,rfl,?_⟩|refine ⟨_,⟨rfl,rfl⟩,?_⟩|refine ⟨_,⟨rfl,rfl,leafI15⟩,?_⟩);conv=>whnf)|with_reducible assumption|exact lfI15|fail)
  repeat' (first|refine Seal.mk ?_|(refine wS ?_;(conv=>whnf);fail_if_success show False)|((first|refine opsA_step ?_|apply wL (hw));conv=>whnf)|(intro _;first|omega|conv=>whnf)|(apply And.intro<;>intro _<;>first|omega|conv=>whnf)|((first|refine aLI15 ?_|refine ⟨_,rfl,?_⟩|refine ⟨_,⟨rfl,rfl⟩,?_⟩|refine ⟨_,⟨rfl,rfl,leafI15⟩,?_⟩);conv=>whnf)|with_reducible assumption|exact lfI15|fail)
  all_goals (first | contradiction | (exfalso; omega) | (refine ⟨(),⟨⟩,?_⟩;exact fzI15))
theorem sParX (s : Scr) (r w : Nat) (h : OkS s r w) (ch : Int) (ps : List Int) (hl : 1 ≤ ps.length ∧ ps.length ≤ 1000) (hps : ∀ p ∈ ps, 0 ≤ p ∧ p ≤ 99999) (hc : ¬ ch = 65 ∧ ¬ ch = 66 ∧ ¬ ch = 67 ∧ ¬ ch = 68 ∧ ¬ ch = 69 ∧ ¬ ch = 70 ∧ ¬ ch = 71 ∧ ¬ ch = 96 ∧ ¬ ch = 100 ∧ ¬ ch = 72 ∧ ¬ ch = 102 ∧ ¬ ch = 74 ∧ ¬ ch = 75 ∧ ¬ ch = 88 ∧ ¬ ch = 76 ∧ ¬ ch = 77 ∧ ¬ ch = 83 ∧ ¬ ch = 84 ∧ ¬ ch = 64 ∧ ¬ ch = 80 ∧ ¬ ch = 104 ∧ ¬ ch = 108 ∧ ¬ ch = 109 ∧ ¬ ch = 103 ∧ ¬ ch = 114 ∧ ¬ ch = 115 ∧ ¬ ch = 117) : CallA S 158 [.ptr (.loc 0) 20 none 0, .int .i64 ch, .sl (.loc 5) 1 none ps.length] ⟨[⟨.loc 0, true, .raw (scrC (.loc 1) (.loc 2) (.loc 3) (.loc 4) s)⟩, ⟨.loc 1, true, .arr pairE s.grid.cells⟩, ⟨.loc 2, true, .arr pairE s.grid.back⟩, ⟨.loc 3, true, .arr boolE s.tabs⟩, ⟨.loc 5, false, .arr (intE .i64) ps⟩], 6⟩ (Ret1 (.tup []) ⟨[⟨.loc 0, true, .raw (scrC (.loc 1) (.loc 6) (.loc 7) (.loc 4) (s : Scr))⟩, ⟨.loc 1, true, .arr pairE (s : Scr).grid.cells⟩, ⟨.loc 6, true, .arr pairE (s : Scr).grid.back⟩, ⟨.loc 7, true, .arr boolE (s : Scr).tabs⟩], 8⟩) := by
  have hget : ∀ i : Nat, 0 ≤ ps.getD i 0 ∧ ps.getD i 0 ≤ 99999 := fun i => getD_all (d := 0) (P := fun p => 0 ≤ p ∧ p ≤ 99999) hps (by omega) i
  have g0 := hget 0
  have g1 := hget 1
  have e0 : pmI ps 0 = ps.getD 0 0 := if_pos (by omega)
  have n0 := numberAt ps 0 (by omega) (by omega)
  rw [e0] at n0
  have n1 := numberAt ps 1 (by omega) (by omega)
  have p1 : 0 ≤ pmI ps 1 ∧ pmI ps 1 ≤ 99999 := by unfold pmI; split <;> omega
  have ln := hl
  obtain ⟨k0, k1, k2, k3, k4, k5, k6, k7, k8, k9, k10, k11, k12, k13, k14, k15, k16, k17, k18, k19, k20, k21, k22, k23, k24, k25, k26⟩ := hc
  refine .ofC hS _ _ _ Tryz.func158 ?_
  conv => whnf
  repeat' (first|refine Seal.mk ?_|((fail_if_success with_reducible refine wC ?_);refine wS ?_;(conv=>whnf);fail_if_success show False)|((first|refine opsA_step ?_|apply wL (n0));conv=>whnf)|(intro _;first|omega|conv=>whnf)|(apply And.intro<;>intro _<;>first|omega|conv=>whnf)|((first|refine aLI15 ?_|refine ⟨_,rfl,?_⟩|refine ⟨_,⟨rfl,rfl⟩,?_⟩|refine ⟨_,⟨rfl,rfl,leafI15⟩,?_⟩);conv=>whnf)|with_reducible assumption|exact lfI15|fail)
  repeat' (first|refine Seal.mk ?_|(refine wS ?_;(conv=>whnf);fail_if_success show False)|((first|refine opsA_step ?_);conv=>whnf)|(intro _;first|omega|conv=>whnf)|(apply And.intro<;>intro _<;>first|omega|conv=>whnf)|((first|refine aLI15 ?_|refine ⟨_,rfl,?_⟩|refine ⟨_,⟨rfl,rfl⟩,?_⟩|refine ⟨_,⟨rfl,rfl,leafI15⟩,?_⟩);conv=>whnf)|with_reducible assumption|exact lfI15|fail)
  all_goals (first | contradiction | (exfalso; omega) | (refine ⟨(),⟨⟩,?_⟩;exact fzI15))
theorem sParH11 (s : Scr) (r w : Nat) (h : OkS s r w) (ch : Int) (ps : List Int) (hl : 1 ≤ ps.length ∧ ps.length ≤ 1000) (hps : ∀ p ∈ ps, 0 ≤ p ∧ p ≤ 99999) (hc : ch = 104 ∨ ch = 108) (hi4 : 4 ∈ ps) (hins : s.insert = true) : CallA S 158 [.ptr (.loc 0) 20 none 0, .int .i64 ch, .sl (.loc 5) 1 none ps.length] ⟨[⟨.loc 0, true, .raw (scrC (.loc 1) (.loc 2) (.loc 3) (.loc 4) s)⟩, ⟨.loc 1, true, .arr pairE s.grid.cells⟩, ⟨.loc 2, true, .arr pairE s.grid.back⟩, ⟨.loc 3, true, .arr boolE s.tabs⟩, ⟨.loc 5, false, .arr (intE .i64) ps⟩], 6⟩ (Ret1 (.tup []) ⟨[⟨.loc 0, true, .raw (scrC (.loc 1) (.loc 6) (.loc 7) (.loc 4) ({ s with insert := decide (ch = 104) } : Scr))⟩, ⟨.loc 1, true, .arr pairE ({ s with insert := decide (ch = 104) } : Scr).grid.cells⟩, ⟨.loc 6, true, .arr pairE ({ s with insert := decide (ch = 104) } : Scr).grid.back⟩, ⟨.loc 7, true, .arr boolE ({ s with insert := decide (ch = 104) } : Scr).tabs⟩], 8⟩) := by
  have hget : ∀ i : Nat, 0 ≤ ps.getD i 0 ∧ ps.getD i 0 ≤ 99999 := fun i => getD_all (d := 0) (P := fun p => 0 ≤ p ∧ p ≤ 99999) hps (by omega) i
  have g0 := hget 0
  have g1 := hget 1
  have e0 : pmI ps 0 = ps.getD 0 0 := if_pos (by omega)
  have n0 := numberAt ps 0 (by omega) (by omega)
  rw [e0] at n0
  have n1 := numberAt ps 1 (by omega) (by omega)
  have p1 : 0 ≤ pmI ps 1 ∧ pmI ps 1 ≤ 99999 := by unfold pmI; split <;> omega
  have ln := hl
  have hct := containsI ps 4 hl.2
  rcases hc with rfl | rfl
  all_goals
    refine .ofC hS _ _ _ Tryz.func158 ?_
    conv => whnf
    repeat' (first|refine Seal.mk ?_|((fail_if_success with_reducible refine wC ?_);refine wS ?_;(conv=>whnf);fail_if_success show False)|((first|refine opsA_step ?_|apply wL (n0));conv=>whnf)|(intro _;first|omega|conv=>whnf)|(apply And.intro<;>intro _<;>first|omega|conv=>whnf)|((first|refine aLI15 ?_|refine ⟨_,rfl,?_⟩|refine ⟨_,⟨rfl,rfl⟩,?_⟩|refine ⟨_,⟨rfl,rfl,leafI15⟩,?_⟩);conv=>whnf)|with_reducible assumption|exact lfI15|fail)
    repeat' (first|refine Seal.mk ?_|(refine wS ?_;(conv=>whnf);fail_if_success show False)|((first|refine opsA_step ?_|apply wL (hct));conv=>whnf)|(intro _;first|omega|conv=>whnf)|(apply And.intro<;>intro _<;>first|omega|conv=>whnf)|((first|refine aLI15 ?_|refine ⟨_,rfl,?_⟩|refine ⟨_,⟨rfl,rfl⟩,?_⟩|refine ⟨_,⟨rfl,rfl,leafI15⟩,?_⟩);conv=>whnf)|with_reducible assumption|exact lfI15|fail)
    all_goals (first | contradiction | (exfalso; omega) | (refine ⟨(),⟨⟩,?_⟩;exact fzI15))
theorem sParH10 (s : Scr) (r w : Nat) (h : OkS s r w) (ch : Int) (ps : List Int) (hl : 1 ≤ ps.length ∧ ps.length ≤ 1000) (hps : ∀ p ∈ ps, 0 ≤ p ∧ p ≤ 99999) (hc : ch = 104 ∨ ch = 108) (hi4 : 4 ∈ ps) (hins : ¬ s.insert = true) : CallA S 158 [.ptr (.loc 0) 20 none 0, .int .i64 ch, .sl (.loc 5) 1 none ps.length] ⟨[⟨.loc 0, true, .raw (scrC (.loc 1) (.loc 2) (.loc 3) (.loc 4) s)⟩, ⟨.loc 1, true, .arr pairE s.grid.cells⟩, ⟨.loc 2, true, .arr pairE s.grid.back⟩, ⟨.loc 3, true, .arr boolE s.tabs⟩, ⟨.loc 5, false, .arr (intE .i64) ps⟩], 6⟩ (Ret1 (.tup []) ⟨[⟨.loc 0, true, .raw (scrC (.loc 1) (.loc 6) (.loc 7) (.loc 4) ({ s with insert := decide (ch = 104) } : Scr))⟩, ⟨.loc 1, true, .arr pairE ({ s with insert := decide (ch = 104) } : Scr).grid.cells⟩, ⟨.loc 6, true, .arr pairE ({ s with insert := decide (ch = 104) } : Scr).grid.back⟩, ⟨.loc 7, true, .arr boolE ({ s with insert := decide (ch = 104) } : Scr).tabs⟩], 8⟩) := by
  have hget : ∀ i : Nat, 0 ≤ ps.getD i 0 ∧ ps.getD i 0 ≤ 99999 := fun i => getD_all (d := 0) (P := fun p => 0 ≤ p ∧ p ≤ 99999) hps (by omega) i
  have g0 := hget 0
  have g1 := hget 1
  have e0 : pmI ps 0 = ps.getD 0 0 := if_pos (by omega)
  have n0 := numberAt ps 0 (by omega) (by omega)
  rw [e0] at n0
  have n1 := numberAt ps 1 (by omega) (by omega)
  have p1 : 0 ≤ pmI ps 1 ∧ pmI ps 1 ≤ 99999 := by unfold pmI; split <;> omega
  have ln := hl
  have hct := containsI ps 4 hl.2
  rcases hc with rfl | rfl
  all_goals
    refine .ofC hS _ _ _ Tryz.func158 ?_
    conv => whnf
    repeat' (first|refine Seal.mk ?_|((fail_if_success with_reducible refine wC ?_);refine wS ?_;(conv=>whnf);fail_if_success show False)|((first|refine opsA_step ?_|apply wL (n0));conv=>whnf)|(intro _;first|omega|conv=>whnf)|(apply And.intro<;>intro _<;>first|omega|conv=>whnf)|((first|refine aLI15 ?_|refine ⟨_,rfl,?_⟩|refine ⟨_,⟨rfl,rfl⟩,?_⟩|refine ⟨_,⟨rfl,rfl,leafI15⟩,?_⟩);conv=>whnf)|with_reducible assumption|exact lfI15|fail)
    repeat' (first|refine Seal.mk ?_|(refine wS ?_;(conv=>whnf);fail_if_success show False)|((first|refine opsA_step ?_|apply wL (hct));conv=>whnf)|(intro _;first|omega|conv=>whnf)|(apply And.intro<;>intro _<;>first|omega|conv=>whnf)|((first|refine aLI15 ?_|refine ⟨_,rfl,?_⟩|refine ⟨_,⟨rfl,rfl⟩,?_⟩|refine ⟨_,⟨rfl,rfl,leafI15⟩,?_⟩);conv=>whnf)|with_reducible assumption|exact lfI15|fail)
    all_goals (first | contradiction | (exfalso; omega) | (refine ⟨(),⟨⟩,?_⟩;exact fzI15))
theorem sParH01 (s : Scr) (r w : Nat) (h : OkS s r w) (ch : Int) (ps : List Int) (hl : 1 ≤ ps.length ∧ ps.length ≤ 1000) (hps : ∀ p ∈ ps, 0 ≤ p ∧ p ≤ 99999) (hc : ch = 104 ∨ ch = 108) (hi4 : ¬ 4 ∈ ps) (hins : s.insert = true) : CallA S 158 [.ptr (.loc 0) 20 none 0, .int .i64 ch, .sl (.loc 5) 1 none ps.length] ⟨[⟨.loc 0, true, .raw (scrC (.loc 1) (.loc 2) (.loc 3) (.loc 4) s)⟩, ⟨.loc 1, true, .arr pairE s.grid.cells⟩, ⟨.loc 2, true, .arr pairE s.grid.back⟩, ⟨.loc 3, true, .arr boolE s.tabs⟩, ⟨.loc 5, false, .arr (intE .i64) ps⟩], 6⟩ (Ret1 (.tup []) ⟨[⟨.loc 0, true, .raw (scrC (.loc 1) (.loc 6) (.loc 7) (.loc 4) ({ s with insert := s.insert } : Scr))⟩, ⟨.loc 1, true, .arr pairE ({ s with insert := s.insert } : Scr).grid.cells⟩, ⟨.loc 6, true, .arr pairE ({ s with insert := s.insert } : Scr).grid.back⟩, ⟨.loc 7, true, .arr boolE ({ s with insert := s.insert } : Scr).tabs⟩], 8⟩) := by
  have hget : ∀ i : Nat, 0 ≤ ps.getD i 0 ∧ ps.getD i 0 ≤ 99999 := fun i => getD_all (d := 0) (P := fun p => 0 ≤ p ∧ p ≤ 99999) hps (by omega) i
  have g0 := hget 0
  have g1 := hget 1
  have e0 : pmI ps 0 = ps.getD 0 0 := if_pos (by omega)
  have n0 := numberAt ps 0 (by omega) (by omega)
  rw [e0] at n0
  have n1 := numberAt ps 1 (by omega) (by omega)
  have p1 : 0 ≤ pmI ps 1 ∧ pmI ps 1 ≤ 99999 := by unfold pmI; split <;> omega
  have ln := hl
  have hct := containsI ps 4 hl.2
  rcases hc with rfl | rfl
  all_goals
    refine .ofC hS _ _ _ Tryz.func158 ?_
    conv => whnf
    repeat' (first|refine Seal.mk ?_|((fail_if_success with_reducible refine wC ?_);refine wS ?_;(conv=>whnf);fail_if_success show False)|((first|refine opsA_step ?_|apply wL (n0));conv=>whnf)|(intro _;first|omega|conv=>whnf)|(apply And.intro<;>intro _<;>first|omega|conv=>whnf)|((first|refine aLI15 ?_|refine ⟨_,rfl,?_⟩|refine ⟨_,⟨rfl,rfl⟩,?_⟩|refine ⟨_,⟨rfl,rfl,leafI15⟩,?_⟩);conv=>whnf)|with_reducible assumption|exact lfI15|fail)
    repeat' (first|refine Seal.mk ?_|(refine wS ?_;(conv=>whnf);fail_if_success show False)|((first|refine opsA_step ?_|apply wL (hct));conv=>whnf)|(intro _;first|omega|conv=>whnf)|(apply And.intro<;>intro _<;>first|omega|conv=>whnf)|((first|refine aLI15 ?_|refine ⟨_,rfl,?_⟩|refine ⟨_,⟨rfl,rfl⟩,?_⟩|refine ⟨_,⟨rfl,rfl,leafI15⟩,?_⟩);conv=>whnf)|with_reducible assumption|exact lfI15|fail)
    all_goals (first | contradiction | (exfalso; omega) | (refine ⟨(),⟨⟩,?_⟩;exact fzI15))
theorem sParH00 (s : Scr) (r w : Nat) (h : OkS s r w) (ch : Int) (ps : List Int) (hl : 1 ≤ ps.length ∧ ps.length ≤ 1000) (hps : ∀ p ∈ ps, 0 ≤ p ∧ p ≤ 99999) (hc : ch = 104 ∨ ch = 108) (hi4 : ¬ 4 ∈ ps) (hins : ¬ s.insert = true) : CallA S 158 [.ptr (.loc 0) 20 none 0, .int .i64 ch, .sl (.loc 5) 1 none ps.length] ⟨[⟨.loc 0, true, .raw (scrC (.loc 1) (.loc 2) (.loc 3) (.loc 4) s)⟩, ⟨.loc 1, true, .arr pairE s.grid.cells⟩, ⟨.loc 2, true, .arr pairE s.grid.back⟩, ⟨.loc 3, true, .arr boolE s.tabs⟩, ⟨.loc 5, false, .arr (intE .i64) ps⟩], 6⟩ (Ret1 (.tup []) ⟨[⟨.loc 0, true, .raw (scrC (.loc 1) (.loc 6) (.loc 7) (.loc 4) ({ s with insert := s.insert } : Scr))⟩, ⟨.loc 1, true, .arr pairE ({ s with insert := s.insert } : Scr).grid.cells⟩, ⟨.loc 6, true, .arr pairE ({ s with insert := s.insert } : Scr).grid.back⟩, ⟨.loc 7, true, .arr boolE ({ s with insert := s.insert } : Scr).tabs⟩], 8⟩) := by
  have hget : ∀ i : Nat, 0 ≤ ps.getD i 0 ∧ ps.getD i 0 ≤ 99999 := fun i => getD_all (d := 0) (P := fun p => 0 ≤ p ∧ p ≤ 99999) hps (by omega) i
  have g0 := hget 0
  have g1 := hget 1
  have e0 : pmI ps 0 = ps.getD 0 0 := if_pos (by omega)
  have n0 := numberAt ps 0 (by omega) (by omega)
  rw [e0] at n0
  have n1 := numberAt ps 1 (by omega) (by omega)
  have p1 : 0 ≤ pmI ps 1 ∧ pmI ps 1 ≤ 99999 := by unfold pmI; split <;> omega
  have ln := hl
  have hct := containsI ps 4 hl.2
  rcases hc with rfl | rfl
  all_goals
    refine .ofC hS _ _ _ Tryz.func158 ?_
    conv => whnf
    repeat' (first|refine Seal.mk ?_|((fail_if_success with_reducible refine wC ?_);refine wS ?_;(conv=>whnf);fail_if_success show False)|((first|refine opsA_step ?_|apply wL (n0));conv=>whnf)|(intro _;first|omega|conv=>whnf)|(apply And.intro<;>intro _<;>first|omega|conv=>whnf)|((first|refine aLI15 ?_|refine ⟨_,rfl,?_⟩|refine ⟨_,⟨rfl,rfl⟩,?_⟩|refine ⟨_,⟨rfl,rfl,leafI15⟩,?_⟩);conv=>whnf)|with_reducible assumption|exact lfI15|fail)
    repeat' (first|refine Seal.mk ?_|(refine wS ?_;(conv=>whnf);fail_if_success show False)|((first|refine opsA_step ?_|apply wL (hct));conv=>whnf)|(intro _;first|omega|conv=>whnf)|(apply And.intro<;>intro _<;>first|omega|conv=>whnf)|((first|refine aLI15 ?_|refine ⟨_,rfl,?_⟩|refine ⟨_,⟨rfl,rfl⟩,?_⟩|refine ⟨_,⟨rfl,rfl,leafI15⟩,?_⟩);conv=>whnf)|with_reducible assumption|exact lfI15|fail)
    all_goals (first | contradiction | (exfalso; omega) | (refine ⟨(),⟨⟩,?_⟩;exact fzI15))
theorem sParams (s : Scr) (r w : Nat) (h : OkS s r w) (ch : Int) (ps : List Int) (hl : 1 ≤ ps.length ∧ ps.length ≤ 1000) (hps : ∀ p ∈ ps, 0 ≤ p ∧ p ≤ 99999)  : CallA S 158 [.ptr (.loc 0) 20 none 0, .int .i64 ch, .sl (.loc 5) 1 none ps.length] ⟨[⟨.loc 0, true, .raw (scrC (.loc 1) (.loc 2) (.loc 3) (.loc 4) s)⟩, ⟨.loc 1, true, .arr pairE s.grid.cells⟩, ⟨.loc 2, true, .arr pairE s.grid.back⟩, ⟨.loc 3, true, .arr boolE s.tabs⟩, ⟨.loc 5, false, .arr (intE .i64) ps⟩], 6⟩ (Ret1 (.tup []) ⟨[⟨.loc 0, true, .raw (scrC (.loc 1) (.loc 6) (.loc 7) (.loc 4) (paramsM s w (⟨4, ch, 0, false, ps⟩ : Vm.Act) : Scr))⟩, ⟨.loc 1, true, .arr pairE (paramsM s w (⟨4, ch, 0, false, ps⟩ : Vm.Act) : Scr).grid.cells⟩, ⟨.loc 6, true, .arr pairE (paramsM s w (⟨4, ch, 0, false, ps⟩ : Vm.Act) : Scr).grid.back⟩, ⟨.loc 7, true, .arr boolE (paramsM s w (⟨4, ch, 0, false, ps⟩ : Vm.Act) : Scr).tabs⟩], 8⟩) := by
  have cs : ∀ {X : Scr}, paramsM s w (⟨4, ch, 0, false, ps⟩ : Vm.Act) = X → CallA S 158 [.ptr (.loc 0) 20 none 0, .int .i64 ch, .sl (.loc 5) 1 none ps.length] ⟨[⟨.loc 0, true, .raw (scrC (.loc 1) (.loc 2) (.loc 3) (.loc 4) s)⟩, ⟨.loc 1, true, .arr pairE s.grid.cells⟩, ⟨.loc 2, true, .arr pairE s.grid.back⟩, ⟨.loc 3, true, .arr boolE s.tabs⟩, ⟨.loc 5, false, .arr (intE .i64) ps⟩], 6⟩ (Ret1 (.tup []) ⟨[⟨.loc 0, true, .raw (scrC (.loc 1) (.loc 6) (.loc 7) (.loc 4) (X : Scr))⟩, ⟨.loc 1, true, .arr pairE (X : Scr).grid.cells⟩, ⟨.loc 6, true, .arr pairE (X : Scr).grid.back⟩, ⟨.loc 7, true, .arr boolE (X : Scr).tabs⟩], 8⟩) → CallA S 158 [.ptr (.loc 0) 20 none 0, .int .i64 ch, .sl (.loc 5) 1 none ps.length] ⟨[⟨.loc 0, true, .raw (scrC (.loc 1) (.loc 2) (.loc 3) (.loc 4) s)⟩, ⟨.loc 1, true, .arr pairE s.grid.cells⟩, ⟨.loc 2, true, .arr pairE s.grid.back⟩, ⟨.loc 3, true, .arr boolE s.tabs⟩, ⟨.loc 5, false, .arr (intE .i64) ps⟩], 6⟩ (Ret1 (.tup []) ⟨[⟨.loc 0, true, .raw (scrC (.loc 1) (.loc 6) (.loc 7) (.loc 4) (paramsM s w (⟨4, ch, 0, false, ps⟩ : Vm.Act) : Scr))⟩, ⟨.loc 1, true, .arr pairE (paramsM s w (⟨4, ch, 0, false, ps⟩ : Vm.Act) : Scr).grid.cells⟩, ⟨.loc 6, true, .arr pairE (paramsM s w (⟨4, ch, 0, false, ps⟩ : Vm.Act) : Scr).grid.back⟩, ⟨.loc 7, true, .arr boolE (paramsM s w (⟨4, ch, 0, false, ps⟩ : Vm.Act) : Scr).tabs⟩], 8⟩) := fun e h => e ▸ h
  have pe : paramM (⟨4, ch, 0, false, ps⟩ : Vm.Act) 1 = pmI ps 1 := rfl
  have sq : ¬ (ch = 104 ∨ ch = 108) → paramsM s w (⟨4, ch, 0, false, ps⟩ : Vm.Act) = seqM s w (⟨4, ch, 0, false, ps⟩ : Vm.Act) := fun q => by unfold paramsM; rw [if_neg q, if_neg (by simp)]
  by_cases c1 : ch = 104 ∨ ch = 108
  · have e : paramsM s w (⟨4, ch, 0, false, ps⟩ : Vm.Act) = modesL false (decide (ch = 104)) s ps ps.length := by unfold paramsM; rw [if_pos c1]
    rw [modesL_ins] at e
    by_cases h4 : 4 ∈ ps
    · rw [if_pos h4] at e
      refine cs e ?_
      by_cases hi : s.insert = true
      · exact sParH11 s r w h ch ps hl hps c1 h4 hi
      · exact sParH10 s r w h ch ps hl hps c1 h4 hi
    · rw [if_neg h4] at e
      refine cs e ?_
      by_cases hi : s.insert = true
      · exact sParH01 s r w h ch ps hl hps c1 h4 hi
      · exact sParH00 s r w h ch ps hl hps c1 h4 hi
  have sq := sq c1
  by_cases c2 : ch = 65 ∨ ch = 66 ∨ ch = 67 ∨ ch = 68 ∨ ch = 69 ∨ ch = 70 ∨ ch = 71 ∨ ch = 96 ∨ ch = 100 ∨ ch = 72 ∨ ch = 102
  · refine cs (sq.trans ?_) (sParW s r w h ch ps hl hps c2)
    unfold seqM; rw [others_no (by simp only; omega), edits_no (by simp only; omega)]; rfl
  by_cases c3 : ch = 74 ∨ ch = 75 ∨ ch = 88 ∨ ch = 76 ∨ ch = 77 ∨ ch = 83 ∨ ch = 84 ∨ ch = 64 ∨ ch = 80
  · refine cs (sq.trans ?_) (sParE s r w h ch ps hl hps c3)
    unfold seqM; rw [others_no (by simp only; omega), went_no (by simp only; omega)]
  have id2 : editsM (movesM s ch (max 1 (ps.getD 0 0)) (max 1 (paramM (⟨4, ch, 0, false, ps⟩ : Vm.Act) 1))) ch (ps.getD 0 0) (max 1 (ps.getD 0 0)) = s := by rw [went_no (by omega), edits_no (by omega)]
  replace sq : paramsM s w (⟨4, ch, 0, false, ps⟩ : Vm.Act) = othersM s w (⟨4, ch, 0, false, ps⟩ : Vm.Act) := by rw [sq]; unfold seqM; simp only; rw [id2]
  by_cases c4 : ch = 109
  · exact cs (sq.trans (if_pos c4)) (sParM s r w h ch ps hl hps c4)
  by_cases c5 : ch = 103
  · exact cs (sq.trans ((if_neg c4).trans (if_pos c5))) (sParG s r w h ch ps hl hps c5)
  by_cases c6 : ch = 114
  · exact cs (sq.trans ((if_neg c4).trans ((if_neg c5).trans (if_pos c6)))) (sParR s r w h ch ps hl hps c6)
  by_cases c7 : ch = 115
  · exact cs (sq.trans ((if_neg c4).trans ((if_neg c5).trans ((if_neg c6).trans (if_pos c7))))) (sParS s r w h ch ps hl hps c7)
  by_cases c8 : ch = 117
  · exact cs (sq.trans ((if_neg c4).trans ((if_neg c5).trans ((if_neg c6).trans ((if_neg c7).trans (if_pos c8)))))) (sParU s r w h ch ps hl hps c8)
  exact cs (sq.trans ((if_neg c4).trans ((if_neg c5).trans ((if_neg c6).trans ((if_neg c7).trans (if_neg c8)))))) (sParX s r w h ch ps hl hps (by omega))
end Go.Mu
