/- Grids, as the reference scrolls them: by many rows. -/
import Derived.Test.YtfjodggmmokaaaaGreatDAK
import Derived.Test.YtfjodggmmokaaaaGreatDAS
import Derived.Test.YtfjodggmmokaaaaGreatDAO
set_option linter.unusedSimpArgs false
set_option linter.unusedVariables false
set_option linter.constructorNameAsVariable false
namespace Go.Mu
open Go Go.Vm Go.RowKit Go.Proofs
attribute [local irreducible] wpA opsA stillA drawA drawS
set_option maxRecDepth 20000
set_option maxHeartbeats 40000000
theorem l3ManyUp (c bk : Cs) (gr : Int) (w t b : Nat) (a : Int) (hw : 1 ≤ w ∧ w ≤ 12) (hc : (b + 1) * w ≤ c.length) (hc' : c.length ≤ 4096) (hb6 : b ≤ 5) (htb : t ≤ b) (hbk : bk.length ≤ 1000) (n : Int) (hn : 0 < n) (hn' : n ≤ 100000) (K : Nat) (hK : K = min n.toNat (b + 1 - t)) : CallA S 304 [.ptr (.loc 0) 4 none 0, .int .i64 t, .int .i64 b, .int .i64 n, .int .i64 a] ⟨[⟨.loc 0, true, .raw [.int .i64 gr, .int .i64 w, .sl (.loc 1) 2 none c.length, .sl (.loc 2) 2 none bk.length]⟩, ⟨.loc 1, true, .arr pairE c⟩, ⟨.loc 2, true, .arr pairE bk⟩], 3⟩ (Ret1 (.tup []) ⟨[⟨.loc 0, true, .raw [.int .i64 gr, .int .i64 w, .sl (.loc 1) 2 none c.length, .sl (.loc 3) 2 none (bkM bk c w t K).length]⟩, ⟨.loc 1, true, .arr pairE (upK c w t b K a)⟩, ⟨.loc 3, true, .arr pairE (bkM bk c w t K)⟩], 4⟩) := by
  refine .ofC hS _ _ _ Tryz.func304 ?_
  conv => whnf
  repeat' (first|refine Seal.mk ?_|(refine wS ?_;(conv=>whnf);fail_if_success show False)|((first|refine opsA_step ?_|apply wL (minS _ _));conv=>whnf)|(intro _;first|omega|conv=>whnf)|(apply And.intro<;>intro _<;>first|omega|conv=>whnf)|((first|refine aLQ ?_|refine oLQ ?_|refine ⟨_,rfl,?_⟩|refine ⟨_,⟨rfl,rfl⟩,?_⟩|refine ⟨_,⟨rfl,rfl,leafQ⟩,?_⟩);conv=>whnf)|with_reducible assumption|exact lfQ|fail)
  all_goals (try contradiction)
  all_goals (try (exfalso; omega))
  refine .loop hS (γ := Nat) (fun j => ⟨[(0, .ptr (.loc 0) 4 none 0), (1, .int .i64 t), (2, .int .i64 b), (3, .int .i64 ((K : Int) - j)), (4, .int .i64 a), (10, .prop (0 < n))], ⟨[⟨.loc 0, true, .raw [.int .i64 gr, .int .i64 w, .sl (.loc 1) 2 none c.length, .sl (.loc 3) 2 none (bkM bk c w t j).length]⟩, ⟨.loc 1, true, .arr pairE (upK c w t b j a)⟩, ⟨.loc 3, true, .arr pairE (bkM bk c w t j)⟩], 4⟩, 33, 3⟩) (fun j => j ≤ K) (fun j => K - j) 0 (by omega) ?_ ?_
  · have h0 := upK_zero (c := c) (w := w) (t := t) (b := b) (a := a) (by omega)
    have h1 := bkM_zero bk c w t
    have h1' := h1.symm
    have h0' := h0.symm
    have h2 : (bkM bk c w t 0).length = bk.length := by rw [h1]
    have h3 : (upK c w t b 0 a).length = c.length := by rw [h0]
    ((try dsimp only);exact fzQ)
  · intro j hj
    have hl := upK_len (c := c) (w := w) (t := t) (b := b) (k := j) (a := a) (by omega) hc
    have hbl := bkM_len bk c w t j
    have hjw := mul_lt_le (w := w) (show j ≤ 6 by omega)
    conv => whnf
    by_cases hgo : j < K
    · have hs := upK_succ (c := c) (w := w) (t := t) (b := b) (k := j) (a := a) (by omega) hc
      have hl1 := upK_len (c := c) (w := w) (t := t) (b := b) (k := j + 1) (a := a) (by omega) hc
      have hbs := bkM_step bk (c := c) (w := w) (t := t) (b := b) (k := j) (a := a) (by omega) hc
      by_cases ht0 : t = 0
      · have hcall := l3ScrollUp0 (upK c w t b j a) (bkM bk c w t j) gr w t b a hw (by rw [hl]; exact hc) (by rw [hl]; exact hc') hb6 htb (by omega) (0 < n) hn ht0 (bkM bk c w t (j + 1)) (hbs.1 ht0)
        rw [hs] at hcall
        repeat' (first|refine Seal.mk ?_|(refine wS ?_;(conv=>whnf);fail_if_success show False)|((first|refine opsA_step ?_|apply wL (hcall));conv=>whnf)|(intro _;first|omega|conv=>whnf)|(apply And.intro<;>intro _<;>first|omega|conv=>whnf)|((first|refine aLQ ?_|refine oLQ ?_|refine ⟨_,rfl,?_⟩|refine ⟨_,⟨rfl,rfl⟩,?_⟩|refine ⟨_,⟨rfl,rfl,leafQ⟩,?_⟩);conv=>whnf)|with_reducible assumption|exact lfQ|fail)
        all_goals
          refine ⟨j + 1, ⟨by omega, by omega⟩, ?_⟩
          ((try dsimp only);exact fzQ)
      · have hcall := l3ScrollUpT (upK c w t b j a) (bkM bk c w t j) gr w t b a hw (by rw [hl]; exact hc) (by rw [hl]; exact hc') hb6 htb (by omega) (0 < n) hn ht0 (bkM bk c w t (j + 1)) (hbs.2 ht0)
        rw [hs] at hcall
        repeat' (first|refine Seal.mk ?_|(refine wS ?_;(conv=>whnf);fail_if_success show False)|((first|refine opsA_step ?_|apply wL (hcall));conv=>whnf)|(intro _;first|omega|conv=>whnf)|(apply And.intro<;>intro _<;>first|omega|conv=>whnf)|((first|refine aLQ ?_|refine oLQ ?_|refine ⟨_,rfl,?_⟩|refine ⟨_,⟨rfl,rfl⟩,?_⟩|refine ⟨_,⟨rfl,rfl,leafQ⟩,?_⟩);conv=>whnf)|with_reducible assumption|exact lfQ|fail)
        all_goals
          refine ⟨j + 1, ⟨by omega, by omega⟩, ?_⟩
          ((try dsimp only);exact fzQ)
    · have hke : j = K := by omega
      subst hke
      repeat' (first|refine Seal.mk ?_|(refine wS ?_;(conv=>whnf);fail_if_success show False)|((first|refine opsA_step ?_);conv=>whnf)|(intro _;first|omega|conv=>whnf)|(apply And.intro<;>intro _<;>first|omega|conv=>whnf)|((first|refine aLQ ?_|refine oLQ ?_|refine ⟨_,rfl,?_⟩|refine ⟨_,⟨rfl,rfl⟩,?_⟩|refine ⟨_,⟨rfl,rfl,leafQ⟩,?_⟩);conv=>whnf)|with_reducible assumption|exact lfQ|fail)
      all_goals (refine ⟨(),⟨⟩,?_⟩;exact fzQ)
theorem l3ManyDn (c bk : Cs) (gr : Int) (w t b : Nat) (a : Int) (hw : 1 ≤ w ∧ w ≤ 12) (hc : (b + 1) * w ≤ c.length) (hc' : c.length ≤ 4096) (hb6 : b ≤ 5) (htb : t ≤ b) (hbk : bk.length ≤ 1000) (n : Int) (hn : ¬ 0 < n) (hn' : -100000 ≤ n) (K : Nat) (hK : K = min (-n).toNat (b + 1 - t)) : CallA S 304 [.ptr (.loc 0) 4 none 0, .int .i64 t, .int .i64 b, .int .i64 n, .int .i64 a] ⟨[⟨.loc 0, true, .raw [.int .i64 gr, .int .i64 w, .sl (.loc 1) 2 none c.length, .sl (.loc 2) 2 none bk.length]⟩, ⟨.loc 1, true, .arr pairE c⟩, ⟨.loc 2, true, .arr pairE bk⟩], 3⟩ (Ret1 (.tup []) ⟨[⟨.loc 0, true, .raw [.int .i64 gr, .int .i64 w, .sl (.loc 1) 2 none c.length, .sl (.loc 3) 2 none bk.length]⟩, ⟨.loc 1, true, .arr pairE (dnK c w t b K a)⟩, ⟨.loc 3, true, .arr pairE bk⟩], 4⟩) := by
  refine .ofC hS _ _ _ Tryz.func304 ?_
  conv => whnf
  repeat' (first|refine Seal.mk ?_|(refine wS ?_;(conv=>whnf);fail_if_success show False)|((first|refine opsA_step ?_|apply wL (minS _ _));conv=>whnf)|(intro _;first|omega|conv=>whnf)|(apply And.intro<;>intro _<;>first|omega|conv=>whnf)|((first|refine aLQ ?_|refine oLQ ?_|refine ⟨_,rfl,?_⟩|refine ⟨_,⟨rfl,rfl⟩,?_⟩|refine ⟨_,⟨rfl,rfl,leafQ⟩,?_⟩);conv=>whnf)|with_reducible assumption|exact lfQ|fail)
  all_goals (try contradiction)
  all_goals
    refine .loop hS (γ := Nat) (fun j => ⟨[(0, .ptr (.loc 0) 4 none 0), (1, .int .i64 t), (2, .int .i64 b), (3, .int .i64 ((K : Int) - j)), (4, .int .i64 a), (10, .prop (0 < n))], ⟨[⟨.loc 0, true, .raw [.int .i64 gr, .int .i64 w, .sl (.loc 1) 2 none c.length, .sl (.loc 2) 2 none bk.length]⟩, ⟨.loc 1, true, .arr pairE (dnK c w t b j a)⟩, ⟨.loc 2, true, .arr pairE bk⟩], 3⟩, 33, 3⟩) (fun j => j ≤ K) (fun j => K - j) 0 (by omega) ?_ ?_
    · have h0 := dnK_zero (c := c) (w := w) (t := t) (b := b) (a := a) (by omega)
      have h0' := h0.symm
      have h3 : (dnK c w t b 0 a).length = c.length := by rw [h0]
      ((try dsimp only);exact fzQ)
    · intro j hj
      have hl := dnK_len (c := c) (w := w) (t := t) (b := b) (k := j) (a := a) (by omega) hc
      have hbl := bkM_len bk c w t j
      have hjw := mul_lt_le (w := w) (show j ≤ 6 by omega)
      conv => whnf
      by_cases hgo : j < K
      · have hs := dnK_succ (c := c) (w := w) (t := t) (b := b) (k := j) (a := a) (by omega) hc
        have hl1 := dnK_len (c := c) (w := w) (t := t) (b := b) (k := j + 1) (a := a) (by omega) hc
        have hcall := l3ScrollDn (dnK c w t b j a) bk gr w t b a hw (by rw [hl]; exact hc) (by rw [hl]; exact hc') hb6 htb (by omega) (0 < n) hn
        rw [hs] at hcall
        repeat' (first|refine Seal.mk ?_|(refine wS ?_;(conv=>whnf);fail_if_success show False)|((first|refine opsA_step ?_|apply wL (hcall));conv=>whnf)|(intro _;first|omega|conv=>whnf)|(apply And.intro<;>intro _<;>first|omega|conv=>whnf)|((first|refine aLQ ?_|refine oLQ ?_|refine ⟨_,rfl,?_⟩|refine ⟨_,⟨rfl,rfl⟩,?_⟩|refine ⟨_,⟨rfl,rfl,leafQ⟩,?_⟩);conv=>whnf)|with_reducible assumption|exact lfQ|fail)
        all_goals
          refine ⟨j + 1, ⟨by omega, by omega⟩, ?_⟩
          ((try dsimp only);exact fzQ)
      · have hke : j = K := by omega
        subst hke
        repeat' (first|refine Seal.mk ?_|(refine wS ?_;(conv=>whnf);fail_if_success show False)|((first|refine opsA_step ?_);conv=>whnf)|(intro _;first|omega|conv=>whnf)|(apply And.intro<;>intro _<;>first|omega|conv=>whnf)|((first|refine aLQ ?_|refine oLQ ?_|refine ⟨_,rfl,?_⟩|refine ⟨_,⟨rfl,rfl⟩,?_⟩|refine ⟨_,⟨rfl,rfl,leafQ⟩,?_⟩);conv=>whnf)|with_reducible assumption|exact lfQ|fail)
        all_goals (refine ⟨(),⟨⟩,?_⟩;exact fzQ)
def scC (c : Cs) (w t b : Nat) (n a : Int) : Cs := if 0 < n then upK c w t b (min n.toNat (b + 1 - t)) a else dnK c w t b (min (-n).toNat (b + 1 - t)) a
def scB (bk c : Cs) (w t b : Nat) (n : Int) : Cs := if 0 < n then bkM bk c w t (min n.toNat (b + 1 - t)) else bk
theorem scC_len {c : Cs} {w t b : Nat} {n a : Int} (htb : t ≤ b) (h : (b + 1) * w ≤ c.length) : (scC c w t b n a).length = c.length := by
  unfold scC
  split
  · exact upK_len (by omega) h
  · exact dnK_len (by omega) h
theorem l3Many (c bk : Cs) (gr : Int) (w t b : Nat) (a : Int) (hw : 1 ≤ w ∧ w ≤ 12) (hc : (b + 1) * w ≤ c.length) (hc' : c.length ≤ 4096) (hb6 : b ≤ 5) (htb : t ≤ b) (hbk : bk.length ≤ 1000) (n : Int) (hn : -100000 ≤ n ∧ n ≤ 100000) : CallA S 304 [.ptr (.loc 0) 4 none 0, .int .i64 t, .int .i64 b, .int .i64 n, .int .i64 a] ⟨[⟨.loc 0, true, .raw [.int .i64 gr, .int .i64 w, .sl (.loc 1) 2 none c.length, .sl (.loc 2) 2 none bk.length]⟩, ⟨.loc 1, true, .arr pairE c⟩, ⟨.loc 2, true, .arr pairE bk⟩], 3⟩ (Ret1 (.tup []) ⟨[⟨.loc 0, true, .raw [.int .i64 gr, .int .i64 w, .sl (.loc 1) 2 none c.length, .sl (.loc 3) 2 none (scB bk c w t b n).length]⟩, ⟨.loc 1, true, .arr pairE (scC c w t b n a)⟩, ⟨.loc 3, true, .arr pairE (scB bk c w t b n)⟩], 4⟩) := by
  by_cases hp : 0 < n
  · have h := l3ManyUp c bk gr w t b a hw hc hc' hb6 htb hbk n hp hn.2 _ rfl
    unfold scC scB
    rw [if_pos hp, if_pos hp]
    exact h
  · have h := l3ManyDn c bk gr w t b a hw hc hc' hb6 htb hbk n hp hn.1 _ rfl
    unfold scC scB
    rw [if_neg hp, if_neg hp]
    exact h
end Go.Mu

namespace Go.Mu
open Go Go.Vm Go.RowKit Go.Proofs
attribute [local irreducible] wpA opsA stillA drawA drawS
set_option maxRecDepth 20000
set_option maxHeartbeats 4000000
theorem l1In (x a b : Int) : CallA S 210 [.int .i64 x, .int .i64 a, .int .i64 b] ⟨[], 0⟩ fun v H' =>
    ∃ _ : Unit, True ∧ v = .prop (a ≤ x ∧ x ≤ b) ∧ H' = ⟨[], 0⟩ := by
  refine .ofC hS (fun _ => True) (fun _ => .prop (a ≤ x ∧ x ≤ b)) (fun _ => ⟨[], 0⟩) Tryz.func210 ?_
  conv => whnf
  repeat' (first|refine Seal.mk ?_|(refine wS ?_;(conv=>whnf);fail_if_success show False)|((first|refine opsA_step ?_);conv=>whnf)|(intro _;first|omega|conv=>whnf)|(apply And.intro<;>intro _<;>first|omega|conv=>whnf)|((first|refine aL ?_|refine ⟨_,rfl,?_⟩|refine ⟨_,⟨rfl,rfl⟩,?_⟩|refine ⟨_,⟨rfl,rfl,leaf⟩,?_⟩);conv=>whnf)|with_reducible assumption|exact lf|fail)
  all_goals (refine ⟨(),⟨⟩,?_⟩;exact fz)
theorem l3Attr (n : Int) : CallA S 209 [.int .i64 n] ⟨[], 0⟩ fun v H' =>
    ∃ _ : Unit, True ∧ v = .prop (0 ≤ n ∧ n ≤ 31) ∧ H' = ⟨[], 0⟩ := by
  refine .ofC hS (fun _ => True) (fun _ => .prop (0 ≤ n ∧ n ≤ 31)) (fun _ => ⟨[], 0⟩) Tryz.func209 ?_
  conv => whnf
  repeat' (first|refine Seal.mk ?_|(refine wS ?_;(conv=>whnf);fail_if_success show False)|((first|refine opsA_step ?_|apply wL (l1In _ _ _));conv=>whnf)|(intro _;first|omega|conv=>whnf)|(apply And.intro<;>intro _<;>first|omega|conv=>whnf)|((first|refine aL ?_|refine ⟨_,rfl,?_⟩|refine ⟨_,⟨rfl,rfl⟩,?_⟩|refine ⟨_,⟨rfl,rfl,leaf⟩,?_⟩);conv=>whnf)|with_reducible assumption|exact lf|fail)
  all_goals (refine ⟨(),⟨⟩,?_⟩;exact fz)
theorem l2Table (n : Int) : CallA S 211 [.int .i64 n] ⟨[], 0⟩ fun v H' =>
    ∃ _ : Unit, True ∧ v = .prop (1 ≤ n ∧ n ≤ 3) ∧ H' = ⟨[], 0⟩ := by
  refine .ofC hS (fun _ => True) (fun _ => .prop (1 ≤ n ∧ n ≤ 3)) (fun _ => ⟨[], 0⟩) Tryz.func211 ?_
  conv => whnf
  repeat' (first|refine Seal.mk ?_|(refine wS ?_;(conv=>whnf);fail_if_success show False)|((first|refine opsA_step ?_|apply wL (l1In _ _ _));conv=>whnf)|(intro _;first|omega|conv=>whnf)|(apply And.intro<;>intro _<;>first|omega|conv=>whnf)|((first|refine aL ?_|refine ⟨_,rfl,?_⟩|refine ⟨_,⟨rfl,rfl⟩,?_⟩|refine ⟨_,⟨rfl,rfl,leaf⟩,?_⟩);conv=>whnf)|with_reducible assumption|exact lf|fail)
  all_goals (refine ⟨(),⟨⟩,?_⟩;exact fz)
theorem l1Char (c : Int) : CallA S 266 [.int .i64 c] ⟨[], 0⟩ fun v H' =>
    ∃ _ : Unit, True ∧ v = .prop ((0 ≤ c ∧ c ≤ 55295) ∨ (57344 ≤ c ∧ c ≤ 65535)) ∧ H' = ⟨[], 0⟩ := by
  refine .ofC hS (fun _ => True) (fun _ => .prop ((0 ≤ c ∧ c ≤ 55295) ∨ (57344 ≤ c ∧ c ≤ 65535))) (fun _ => ⟨[], 0⟩) Tryz.func266 ?_
  conv => whnf
  repeat' (first|refine Seal.mk ?_|(refine wS ?_;(conv=>whnf);fail_if_success show False)|((first|refine opsA_step ?_|apply wL (l1In _ _ _));conv=>whnf)|(intro _;first|omega|conv=>whnf)|(apply And.intro<;>intro _<;>first|omega|conv=>whnf)|((first|refine aL ?_|refine ⟨_,rfl,?_⟩|refine ⟨_,⟨rfl,rfl⟩,?_⟩|refine ⟨_,⟨rfl,rfl,leaf⟩,?_⟩);conv=>whnf)|with_reducible assumption|exact lf|fail)
  all_goals (refine ⟨(),⟨⟩,?_⟩;exact fz)
theorem l3Cell (xs : List (Int × Int)) (i : Nat) (hi : i < xs.length) : CallA S 303 [.ptr (.loc 0) 2 (some i) 0] ⟨[⟨.loc 0, false, .arr pairE xs⟩], 1⟩ fun v H' =>
    ∃ _ : Unit, True ∧ v = .prop (cellP (xs.getD i (0, 0))) ∧ H' = ⟨[], 1⟩ := by
  refine .ofC hS (fun _ => True) (fun _ => .prop (cellP (xs.getD i (0, 0)))) (fun _ => ⟨[], 1⟩) Tryz.func303 ?_
  have e : xs.getD (i : Int).toNat pairE.d = xs.getD i (0, 0) := rfl
  conv => whnf
  repeat' (first|refine Seal.mk ?_|(refine wS ?_;(conv=>whnf);fail_if_success show False)|((first|refine opsA_step ?_|apply wL (l1Char _)|apply wL (l1In _ _ _));conv=>whnf)|(intro _;first|omega|conv=>whnf)|(apply And.intro<;>intro _<;>first|omega|conv=>whnf)|((first|refine aL ?_|refine ⟨_,rfl,?_⟩|refine ⟨_,⟨rfl,rfl⟩,?_⟩|refine ⟨_,⟨rfl,rfl,leaf⟩,?_⟩);conv=>whnf)|with_reducible assumption|exact lf|fail)
  all_goals (simp only [e] at *; unfold cellP)
  all_goals (refine ⟨(),⟨⟩,?_⟩;exact fz)
theorem l3Cells (xs : List (Int × Int)) (hx : xs.length ≤ 1048576) : CallA S 207 [.sl (.loc 0) 2 none xs.length] ⟨[⟨.loc 0, false, .arr pairE xs⟩], 1⟩ fun v H' =>
    ∃ _ : Unit, True ∧ v = .prop (allCells xs) ∧ H' = ⟨[], 1⟩ := by
  refine .ofC hS (fun _ => True) (fun _ => .prop (allCells xs)) (fun _ => ⟨[], 1⟩) Tryz.func207 ?_
  conv => whnf
  repeat' (first|refine Seal.mk ?_|(refine wS ?_;(conv=>whnf);fail_if_success show False)|((first|refine opsA_step ?_);conv=>whnf)|(intro _;first|omega|conv=>whnf)|(apply And.intro<;>intro _<;>first|omega|conv=>whnf)|((first|refine aL ?_|refine oL ?_|refine ⟨_,rfl,?_⟩|refine ⟨_,⟨rfl,rfl⟩,?_⟩|refine ⟨_,⟨rfl,rfl,leaf⟩,?_⟩);conv=>whnf)|with_reducible assumption|exact lf|fail)
  refine .loop hS (γ := Nat) (fun i => ⟨[(0, .sl (.loc 0) 2 none xs.length), (3, .int .i64 i)],
      ⟨[⟨.loc 0, false, .arr pairE xs⟩], 1⟩, 15, 1⟩) (fun i => i ≤ xs.length ∧ ∀ k, k < i → cellP (xs.getD k (0, 0))) (fun i => xs.length - i) 0 ⟨by omega, by omega⟩ ?_ ?_
  · ((try dsimp only);exact fz)
  · intro i hi
    obtain ⟨hi, hk⟩ := hi
    conv => whnf
    repeat' (first|refine Seal.mk ?_|(refine wS ?_;(conv=>whnf);fail_if_success show False)|((first|refine opsA_step ?_|apply wL (l3Cell xs i (by omega)));conv=>whnf)|(intro _;first|omega|conv=>whnf)|(apply And.intro<;>intro _<;>first|omega|conv=>whnf)|((first|refine aL ?_|refine oL ?_|refine ⟨_,rfl,?_⟩|refine ⟨_,⟨rfl,rfl⟩,?_⟩|refine ⟨_,⟨rfl,rfl,leaf⟩,?_⟩);conv=>whnf)|with_reducible assumption|exact lf|fail)
    · have hn : ¬ allCells xs := fun h => ‹¬ cellP _› (h i (by omega))
      (refine ⟨(),⟨⟩,?_⟩;exact fz)
    · refine ⟨i + 1, ⟨⟨by omega, fun k hk' => ?_⟩, by omega⟩, ?_⟩
      · rcases Nat.lt_or_eq_of_le (Nat.le_of_lt_succ hk') with q | q
        · exact hk k q
        · subst q; exact Classical.not_not.1 ‹_›
      · ((try dsimp only);exact fz)
    · have hn : allCells xs := fun k hk' => hk k (by omega)
      (refine ⟨(),⟨⟩,?_⟩;exact fz)
end Go.Mu
