/- Grids, as the reference scrolls them where nothing is kept. -/
import Derived.Test.YtfjodggmmokaaaaGreatDAK
import Derived.Test.YtfjodggmmokaaaaGreatDAT
import Derived.Test.YtfjodggmmokaaaaGreatDAX
import Derived.Test.YtfjodggmmokaaaaGreatDAZ
import Derived.Test.YtfjodggmmokaaaaGreatDBC
set_option linter.unusedSimpArgs false
set_option linter.unusedVariables false
set_option linter.constructorNameAsVariable false
namespace Go.Mu
open Go Go.Vm Go.RowKit Go.Proofs
attribute [local irreducible] wpA opsA stillA drawA drawS
set_option maxRecDepth 20000
set_option maxHeartbeats 40000000
theorem l3ScrollUpK (c bk : Cs) (gr : Int) (w t b : Nat) (a : Int) (hw : 1 ≤ w ∧ w ≤ 12) (hc : (b + 1) * w ≤ c.length) (hc' : c.length ≤ 4096) (hb6 : b ≤ 5) (htb : t ≤ b) (hbk : bk.length ≤ 3000) (p : Prop) (hp : p) (ht : ¬ t = 0) : CallA S 350 [.ptr (.loc 0) 4 none 0, .int .i64 t, .int .i64 b, .prop p, .int .i64 a] ⟨[⟨.loc 0, true, .raw [.int .i64 gr, .int .i64 w, .sl (.loc 1) 2 none c.length, .sl (.loc 2) 2 none bk.length]⟩, ⟨.loc 1, true, .arr pairE c⟩], 3⟩ (Ret1 (.tup []) ⟨[⟨.loc 0, true, .raw [.int .i64 gr, .int .i64 w, .sl (.loc 1) 2 none c.length, .sl (.loc 2) 2 none bk.length]⟩, ⟨.loc 1, true, .arr pairE (upK c w t b 1 a)⟩], 3⟩) := by
  have e1 := Nat.add_mul b 1 w
  have hup : (upK c w t b 1 a).length = c.length := upK_len (by omega) hc
  refine .ofC hS _ _ _ Tryz.func350 ?_
  conv => whnf
  repeat' (first|refine Seal.mk ?_|(refine wS ?_;(conv=>whnf);fail_if_success show False)|((first|refine opsA_step ?_);conv=>whnf)|(intro _;first|omega|conv=>whnf)|(apply And.intro<;>intro _<;>first|omega|conv=>whnf)|((first|refine aLQ ?_|refine oLQ ?_|refine ⟨_,rfl,?_⟩|refine ⟨_,⟨rfl,rfl⟩,?_⟩|refine ⟨_,⟨rfl,rfl,leafQ⟩,?_⟩);conv=>whnf)|with_reducible assumption|exact lfQ|fail)
  all_goals (try contradiction)
  refine .loop hS (γ := Nat) (fun k => ⟨[(0, .ptr (.loc 0) 4 none 0), (1, .int .i64 t), (2, .int .i64 b), (4, .int .i64 a), (10, .int .i64 ((t : Int) + k))], ⟨[⟨.loc 0, true, .raw [.int .i64 gr, .int .i64 w, .sl (.loc 1) 2 none c.length, .sl (.loc 2) 2 none bk.length]⟩, ⟨.loc 1, true, .arr pairE (upL c w t k)⟩], 3⟩, 63, 3⟩) (fun k => k ≤ b - t) (fun k => b - t - k) 0 (by omega) ?_ ?_
  · have h0 := upL_zero c w t
    ((try dsimp only);exact fzQ)
  · intro k hk
    have hyl := mul_lt_le (w := w) (show t + k + 1 ≤ b + 1 by omega)
    have hll := upL_len (c := c) (w := w) (t := t) (k := k) (by omega)
    conv => whnf
    by_cases hgo : k < b - t
    · have hyl2 := mul_lt_le (w := w) (show t + k + 2 ≤ b + 1 by omega)
      have hst := upL_step (c := c) (w := w) (t := t) (k := k) (by omega)
      have hrw := upL_row (c := c) (w := w) (t := t) (k := k) (by omega)
      have hrl : (((upL c w t k).drop ((t + k + 1) * w)).take w).length = w := by
        have := Nat.add_mul (t + k) 2 w; have := Nat.add_mul (t + k) 1 w
        rw [hrw]; simp only [List.length_take, List.length_drop]; omega
      have hll' := upL_len (c := c) (w := w) (t := t) (k := k + 1) (by rw [show t + (k + 1) + 1 = t + k + 2 by omega]; omega)
      rw [← hrw] at hst
      have hc1 := l3RowOf (upL c w t k) bk gr w (t + k + 1) (by omega) (by rw [hll]; show (t + k + 2) * w ≤ _; omega) (by rw [hll]; omega)
      have hc2 := l3RowG (upL c w t k) (((upL c w t k).drop ((t + k + 1) * w)).take w) bk gr w (t + k) (by omega) hrl (by rw [hll]; omega) (by rw [hll]; omega)
      rw [hst] at hc2
      repeat' (first|refine Seal.mk ?_|(refine wS ?_;(conv=>whnf);fail_if_success show False)|((first|refine opsA_step ?_|apply wL (hc1)|apply wL (hc2));conv=>whnf)|(intro _;first|omega|conv=>whnf)|(apply And.intro<;>intro _<;>first|omega|conv=>whnf)|((first|refine aLQ ?_|refine oLQ ?_|refine ⟨_,rfl,?_⟩|refine ⟨_,⟨rfl,rfl⟩,?_⟩|refine ⟨_,⟨rfl,rfl,leafQ⟩,?_⟩);conv=>whnf)|with_reducible assumption|exact lfQ|fail)
      refine ⟨k + 1, ⟨by omega, by omega⟩, ?_⟩
      ((try dsimp only);exact fzQ)
    · have hke : k = b - t := by omega
      subst hke
      have hbl : (List.replicate (w : Int).toNat (bl a)).length = w := by simp
      have hen := upL_end (a := a) htb hc
      have hc3 := l3Blanks (w : Int) a (by omega)
      have hc2 := l3RowG (upL c w t (b - t)) (List.replicate w (bl a)) bk gr w b (by omega) (by simp) (by rw [hll]; omega) (by rw [hll]; omega)
      rw [hen] at hc2
      rw [Int.toNat_natCast] at hc3
      repeat' (first|refine Seal.mk ?_|(refine wS ?_;(conv=>whnf);fail_if_success show False)|((first|refine opsA_step ?_|apply wL (hc3)|apply wL (hc2));conv=>whnf)|(intro _;first|omega|conv=>whnf)|(apply And.intro<;>intro _<;>first|omega|conv=>whnf)|((first|refine aLQ ?_|refine oLQ ?_|refine ⟨_,rfl,?_⟩|refine ⟨_,⟨rfl,rfl⟩,?_⟩|refine ⟨_,⟨rfl,rfl,leafQ⟩,?_⟩);conv=>whnf)|with_reducible assumption|exact lfQ|fail)
      all_goals (refine ⟨(),⟨⟩,?_⟩;exact fzQ)
theorem l3ManyUpK (c bk : Cs) (gr : Int) (w t b : Nat) (a : Int) (hw : 1 ≤ w ∧ w ≤ 12) (hc : (b + 1) * w ≤ c.length) (hc' : c.length ≤ 4096) (hb6 : b ≤ 5) (htb : t ≤ b) (hbk : bk.length ≤ 1000) (n : Int) (hn : 0 < n) (hn' : n ≤ 100000) (ht0 : ¬ t = 0) (K : Nat) (hK : K = min n.toNat (b + 1 - t)) : CallA S 304 [.ptr (.loc 0) 4 none 0, .int .i64 t, .int .i64 b, .int .i64 n, .int .i64 a] ⟨[⟨.loc 0, true, .raw [.int .i64 gr, .int .i64 w, .sl (.loc 1) 2 none c.length, .sl (.loc 2) 2 none bk.length]⟩, ⟨.loc 1, true, .arr pairE c⟩], 3⟩ (Ret1 (.tup []) ⟨[⟨.loc 0, true, .raw [.int .i64 gr, .int .i64 w, .sl (.loc 1) 2 none c.length, .sl (.loc 2) 2 none bk.length]⟩, ⟨.loc 1, true, .arr pairE (upK c w t b K a)⟩], 3⟩) := by
  refine .ofC hS _ _ _ Tryz.func304 ?_
  conv => whnf
  repeat' (first|refine Seal.mk ?_|(refine wS ?_;(conv=>whnf);fail_if_success show False)|((first|refine opsA_step ?_|apply wL (minS _ _));conv=>whnf)|(intro _;first|omega|conv=>whnf)|(apply And.intro<;>intro _<;>first|omega|conv=>whnf)|((first|refine aLQ ?_|refine oLQ ?_|refine ⟨_,rfl,?_⟩|refine ⟨_,⟨rfl,rfl⟩,?_⟩|refine ⟨_,⟨rfl,rfl,leafQ⟩,?_⟩);conv=>whnf)|with_reducible assumption|exact lfQ|fail)
  all_goals (try contradiction)
  all_goals (try (exfalso; omega))
  refine .loop hS (γ := Nat) (fun j => ⟨[(0, .ptr (.loc 0) 4 none 0), (1, .int .i64 t), (2, .int .i64 b), (3, .int .i64 ((K : Int) - j)), (4, .int .i64 a), (10, .prop (0 < n))], ⟨[⟨.loc 0, true, .raw [.int .i64 gr, .int .i64 w, .sl (.loc 1) 2 none c.length, .sl (.loc 2) 2 none bk.length]⟩, ⟨.loc 1, true, .arr pairE (upK c w t b j a)⟩], 3⟩, 33, 3⟩) (fun j => j ≤ K) (fun j => K - j) 0 (by omega) ?_ ?_
  · have h0 := upK_zero (c := c) (w := w) (t := t) (b := b) (a := a) (by omega)
    have h0' := h0.symm
    have h3 : (upK c w t b 0 a).length = c.length := by rw [h0]
    ((try dsimp only);exact fzQ)
  · intro j hj
    have hl := upK_len (c := c) (w := w) (t := t) (b := b) (k := j) (a := a) (by omega) hc
    have hbl := bkM_len bk c w t j
    have hjw := mul_lt_le (w := w) (show j ≤ 6 by omega)
    conv => whnf
    by_cases hgo : j < K
    · have hs := upK_succ (c := c) (w := w) (t := t) (b := b) (k := j) (a := a) (by omega) hc
      have hl1 := upK_len (c := c) (w := w) (t := t) (b := b) (k := j + 1) (a := a) (by omega) hc
      have hcall := l3ScrollUpK (upK c w t b j a) bk gr w t b a hw (by rw [hl]; exact hc) (by rw [hl]; exact hc') hb6 htb (by omega) (0 < n) hn ht0
      rw [hs] at hcall
      repeat' (first|refine Seal.mk ?_|(refine wS ?_;(conv=>whnf);fail_if_success show False)|((first|refine opsA_step ?_|apply wL (hcall));conv=>whnf)|(intro _;first|omega|conv=>whnf)|(apply And.intro<;>intro _<;>first|omega|conv=>whnf)|((first|refine aLQ ?_|refine oLQ ?_|refine ⟨_,rfl,?_⟩|refine ⟨_,⟨rfl,rfl⟩,?_⟩|refine ⟨_,⟨rfl,rfl,leafQ⟩,?_⟩);conv=>whnf)|with_reducible assumption|exact lfQ|fail)
      all_goals
        refine ⟨j + 1, ⟨by omega, by omega⟩, ?_⟩
        ((try dsimp only);exact fzQ)
    · have hke : j = K := by omega
      subst hke
      repeat' (first|refine Seal.mk ?_|(refine wS ?_;(conv=>whnf);fail_if_success show False)|((first|refine opsA_step ?_);conv=>whnf)|(intro _;first|omega|conv=>whnf)|(apply And.intro<;>intro _<;>first|omega|conv=>whnf)|((first|refine aLQ ?_|refine oLQ ?_|refine ⟨_,rfl,?_⟩|refine ⟨_,⟨rfl,rfl⟩,?_⟩|refine ⟨_,⟨rfl,rfl,leafQ⟩,?_⟩);conv=>whnf)|with_reducible assumption|exact lfQ|fail)
      all_goals (refine ⟨(),⟨⟩,?_⟩;exact fzQ)
theorem l3ManyDnK (c bk : Cs) (gr : Int) (w t b : Nat) (a : Int) (hw : 1 ≤ w ∧ w ≤ 12) (hc : (b + 1) * w ≤ c.length) (hc' : c.length ≤ 4096) (hb6 : b ≤ 5) (htb : t ≤ b) (hbk : bk.length ≤ 1000) (n : Int) (hn : ¬ 0 < n) (hn' : -100000 ≤ n) (K : Nat) (hK : K = min (-n).toNat (b + 1 - t)) : CallA S 304 [.ptr (.loc 0) 4 none 0, .int .i64 t, .int .i64 b, .int .i64 n, .int .i64 a] ⟨[⟨.loc 0, true, .raw [.int .i64 gr, .int .i64 w, .sl (.loc 1) 2 none c.length, .sl (.loc 2) 2 none bk.length]⟩, ⟨.loc 1, true, .arr pairE c⟩], 3⟩ (Ret1 (.tup []) ⟨[⟨.loc 0, true, .raw [.int .i64 gr, .int .i64 w, .sl (.loc 1) 2 none c.length, .sl (.loc 2) 2 none bk.length]⟩, ⟨.loc 1, true, .arr pairE (dnK c w t b K a)⟩], 3⟩) := by
  refine .ofC hS _ _ _ Tryz.func304 ?_
  conv => whnf
  repeat' (first|refine Seal.mk ?_|(refine wS ?_;(conv=>whnf);fail_if_success show False)|((first|refine opsA_step ?_|apply wL (minS _ _));conv=>whnf)|(intro _;first|omega|conv=>whnf)|(apply And.intro<;>intro _<;>first|omega|conv=>whnf)|((first|refine aLQ ?_|refine oLQ ?_|refine ⟨_,rfl,?_⟩|refine ⟨_,⟨rfl,rfl⟩,?_⟩|refine ⟨_,⟨rfl,rfl,leafQ⟩,?_⟩);conv=>whnf)|with_reducible assumption|exact lfQ|fail)
  all_goals (try contradiction)
  all_goals
    refine .loop hS (γ := Nat) (fun j => ⟨[(0, .ptr (.loc 0) 4 none 0), (1, .int .i64 t), (2, .int .i64 b), (3, .int .i64 ((K : Int) - j)), (4, .int .i64 a), (10, .prop (0 < n))], ⟨[⟨.loc 0, true, .raw [.int .i64 gr, .int .i64 w, .sl (.loc 1) 2 none c.length, .sl (.loc 2) 2 none bk.length]⟩, ⟨.loc 1, true, .arr pairE (dnK c w t b j a)⟩], 3⟩, 33, 3⟩) (fun j => j ≤ K) (fun j => K - j) 0 (by omega) ?_ ?_
    · have h0 := dnK_zero (c := c) (w := w) (t := t) (b := b) (a := a) (by omega)
      have h0' := h0.symm
      have h3 : (dnK c w t b 0 a).length = c.length := by rw [h0]
      ((try dsimp only);exact fzQ)
    · intro j hj
      have hl := dnK_len (c := c) (w := w) (t := t) (b := b) (k := j) (a := a) (by omega) hc
      have hbl := bkM_len bk c w t j
      have hjw := mul_lt_le (w := w) (show j ≤ 6 by omega)
      conv => whnf
      by_cases hgo : j < K
      · have hs := dnK_succ (c := c) (w := w) (t := t) (b := b) (k := j) (a := a) (by omega) hc
        have hl1 := dnK_len (c := c) (w := w) (t := t) (b := b) (k := j + 1) (a := a) (by omega) hc
        have hcall := l3ScrollDn (dnK c w t b j a) bk gr w t b a hw (by rw [hl]; exact hc) (by rw [hl]; exact hc') hb6 htb (by omega) (0 < n) hn
        rw [hs] at hcall
        repeat' (first|refine Seal.mk ?_|(refine wS ?_;(conv=>whnf);fail_if_success show False)|((first|refine opsA_step ?_|apply wL (hcall));conv=>whnf)|(intro _;first|omega|conv=>whnf)|(apply And.intro<;>intro _<;>first|omega|conv=>whnf)|((first|refine aLQ ?_|refine oLQ ?_|refine ⟨_,rfl,?_⟩|refine ⟨_,⟨rfl,rfl⟩,?_⟩|refine ⟨_,⟨rfl,rfl,leafQ⟩,?_⟩);conv=>whnf)|with_reducible assumption|exact lfQ|fail)
        all_goals
          refine ⟨j + 1, ⟨by omega, by omega⟩, ?_⟩
          ((try dsimp only);exact fzQ)
      · have hke : j = K := by omega
        subst hke
        repeat' (first|refine Seal.mk ?_|(refine wS ?_;(conv=>whnf);fail_if_success show False)|((first|refine opsA_step ?_);conv=>whnf)|(intro _;first|omega|conv=>whnf)|(apply And.intro<;>intro _<;>first|omega|conv=>whnf)|((first|refine aLQ ?_|refine oLQ ?_|refine ⟨_,rfl,?_⟩|refine ⟨_,⟨rfl,rfl⟩,?_⟩|refine ⟨_,⟨rfl,rfl,leafQ⟩,?_⟩);conv=>whnf)|with_reducible assumption|exact lfQ|fail)
        all_goals (refine ⟨(),⟨⟩,?_⟩;exact fzQ)
theorem l3ManyK (c bk : Cs) (gr : Int) (w t b : Nat) (a : Int) (hw : 1 ≤ w ∧ w ≤ 12) (hc : (b + 1) * w ≤ c.length) (hc' : c.length ≤ 4096) (hb6 : b ≤ 5) (htb : t ≤ b) (hbk : bk.length ≤ 1000) (n : Int) (hn : -100000 ≤ n ∧ n ≤ 100000) (ht0 : 0 < n → ¬ t = 0) : CallA S 304 [.ptr (.loc 0) 4 none 0, .int .i64 t, .int .i64 b, .int .i64 n, .int .i64 a] ⟨[⟨.loc 0, true, .raw [.int .i64 gr, .int .i64 w, .sl (.loc 1) 2 none c.length, .sl (.loc 2) 2 none bk.length]⟩, ⟨.loc 1, true, .arr pairE c⟩], 3⟩ (Ret1 (.tup []) ⟨[⟨.loc 0, true, .raw [.int .i64 gr, .int .i64 w, .sl (.loc 1) 2 none c.length, .sl (.loc 2) 2 none bk.length]⟩, ⟨.loc 1, true, .arr pairE (scC c w t b n a)⟩], 3⟩) := by
  by_cases hp : 0 < n
  · have h := l3ManyUpK c bk gr w t b a hw hc hc' hb6 htb hbk n hp hn.2 (ht0 hp) _ rfl
    unfold scC
    rw [if_pos hp]
    exact h
  · have h := l3ManyDnK c bk gr w t b a hw hc hc' hb6 htb hbk n hp hn.1 _ rfl
    unfold scC
    rw [if_neg hp]
    exact h
end Go.Mu

namespace Go.Mu
open Go Go.Vm Go.RowKit Go.Proofs
attribute [local irreducible] wpA opsA stillA drawA drawS
set_option maxRecDepth 20000
set_option maxHeartbeats 40000000
def linesM (s : Scr) (n : Int) : Scr := if s.top ≤ s.y ∧ s.y ≤ s.bottom then { s with grid := { s.grid with cells := scC s.grid.cells s.grid.width.toNat s.y.toNat s.bottom.toNat n s.attr } } else s
theorem l5LinesOut (s : Scr) (r w : Nat) (h : OkS s r w) (n : Int) (hn : -99999 ≤ n ∧ n ≤ 99999) (hc : ¬ (s.top ≤ s.y ∧ s.y ≤ s.bottom)) : CallA S 314 [.ptr (.loc 0) 20 none 0, .int .i64 n] ⟨[⟨.loc 0, true, .raw (scrC (.loc 1) (.loc 2) (.loc 3) (.loc 4) s)⟩, ⟨.loc 1, true, .arr pairE s.grid.cells⟩], 5⟩ (Ret1 (.tup []) ⟨[⟨.loc 0, true, .raw (scrC (.loc 1) (.loc 2) (.loc 3) (.loc 4) (linesM s n : Scr))⟩, ⟨.loc 1, true, .arr pairE (linesM s n : Scr).grid.cells⟩], 5⟩) := by
  have e : linesM s n = s := by unfold linesM; rw [if_neg hc]
  rw [e]
  have hz := h.sz
  have hh := h
  obtain ⟨h1, h2, h3, h4, h5, h6, h7, h8, h9, h10, h11, h12, h13, h14, h15, _⟩ := hh
  refine .ofC hS _ _ _ Tryz.func314 ?_
  conv => whnf
  repeat' (first|refine Seal.mk ?_|(refine wS ?_;(conv=>whnf);fail_if_success show False)|((first|refine opsA_step ?_|refine drawS_go ?_|refine wD (id:=0) (.quick 0 (.quick 1 (.quick 2 (.quick 4 (.quick 5 (.quick 6 (.quick 8 (.quick 9 (.quick 10 (.read 3 (.read 7 (.read 11 (.all (.step 12 (.quick 13 .done))))))))))))))) [12] (by kernel_rfl) rfl ?_|apply wL (l1In _ _ _));conv=>whnf)|(intro _;first|omega|conv=>whnf)|(apply And.intro<;>intro _<;>first|omega|conv=>whnf)|((first|refine aLQ ?_|refine ⟨_,rfl,?_⟩|refine ⟨_,⟨rfl,rfl⟩,?_⟩|refine ⟨_,⟨rfl,rfl,leafQ⟩,?_⟩);conv=>whnf)|with_reducible assumption|exact lfQ|fail)
  all_goals (first | contradiction | (exfalso; omega) | (refine ⟨(),⟨⟩,?_⟩;exact fzQ))
theorem l5LinesK (s : Scr) (r w : Nat) (h : OkS s r w) (n : Int) (hn : -99999 ≤ n ∧ n ≤ 99999) (hc : s.top ≤ s.y ∧ s.y ≤ s.bottom) (h0 : 0 < n → ¬ s.y = 0) : CallA S 314 [.ptr (.loc 0) 20 none 0, .int .i64 n] ⟨[⟨.loc 0, true, .raw (scrC (.loc 1) (.loc 2) (.loc 3) (.loc 4) s)⟩, ⟨.loc 1, true, .arr pairE s.grid.cells⟩], 5⟩ (Ret1 (.tup []) ⟨[⟨.loc 0, true, .raw (scrC (.loc 1) (.loc 2) (.loc 3) (.loc 4) (linesM s n : Scr))⟩, ⟨.loc 1, true, .arr pairE (linesM s n : Scr).grid.cells⟩], 5⟩) := by
  have e : linesM s n = { s with grid := { s.grid with cells := scC s.grid.cells s.grid.width.toNat s.y.toNat s.bottom.toNat n s.attr } } := by unfold linesM; rw [if_pos hc]
  rw [e]
  have hz := h.sz
  have hh := h
  obtain ⟨h1, h2, h3, h4, h5, h6, h7, h8, h9, h10, h11, h12, h13, h14, h15, _⟩ := hh
  obtain ⟨y, hy⟩ := Int.eq_ofNat_of_zero_le (show 0 ≤ s.y by omega)
  obtain ⟨b, hb⟩ := Int.eq_ofNat_of_zero_le (show 0 ≤ s.bottom by omega)
  have e1 : s.y.toNat = y := by omega
  have e2 : s.bottom.toNat = b := by omega
  have e3 : s.grid.width.toNat = w := by omega
  have hle := mul_lt_le (w := w) (show b + 1 ≤ r by omega)
  have hrw : r * w ≤ 6 * 12 := Nat.mul_le_mul h1.2 h2.2
  have hm := l3ManyK s.grid.cells s.grid.back s.grid.rows w y b s.attr (by omega) (by omega) (by omega) (by omega) (by omega) (by omega) n (by omega) (fun q => by have := h0 q; omega)
  have hl := scC_len (c := s.grid.cells) (w := w) (t := y) (b := b) (n := n) (a := s.attr) (by omega) (by omega)
  rw [e1, e2, e3]
  refine .ofC hS _ _ _ Tryz.func314 ?_
  conv => whnf
  repeat' (first|refine Seal.mk ?_|(refine wS ?_;(conv=>whnf);fail_if_success show False)|((first|refine opsA_step ?_|refine drawS_go ?_|refine wD (id:=0) (.quick 0 (.quick 1 (.quick 2 (.quick 4 (.quick 5 (.quick 6 (.quick 8 (.quick 9 (.quick 10 (.read 3 (.read 7 (.read 11 (.all (.step 12 (.quick 13 .done))))))))))))))) [12] (by kernel_rfl) rfl ?_|refine wD (id:=2) (.quick 0 (.quick 1 (.quick 2 (.quick 3 (.quick 4 (.quick 5 (.quick 7 (.quick 8 (.quick 9 (.quick 11 (.quick 12 (.quick 13 (.quick 14 (.read 6 (.read 10 (.read 15 (.all (.step 16 .done)))))))))))))))))) [16] (by kernel_rfl) rfl ?_|apply wL (l1In _ _ _)|apply wL (hm));conv=>whnf)|(intro _;first|omega|conv=>whnf)|(apply And.intro<;>intro _<;>first|omega|conv=>whnf)|((first|refine aLQ ?_|refine ⟨_,rfl,?_⟩|refine ⟨_,⟨rfl,rfl⟩,?_⟩|refine ⟨_,⟨rfl,rfl,leafQ⟩,?_⟩);conv=>whnf)|with_reducible assumption|exact lfQ|fail)
  all_goals (first | contradiction | (exfalso; omega) | (refine ⟨(),⟨⟩,?_⟩;exact fzQ))
end Go.Mu

namespace Go.Mu
open Go Go.Vm Go.RowKit Go.Proofs
attribute [local irreducible] wpA opsA stillA drawA drawS
set_option maxRecDepth 20000
set_option maxHeartbeats 40000000
theorem l5EditsL0 (s : Scr) (r w : Nat) (h : OkS s r w) (c first n : Int) (hn : 1 ≤ n ∧ n ≤ 99999) (hc : c = 76) (hr0 : ¬ (s.top ≤ s.y ∧ s.y ≤ s.bottom)) : CallA S 228 [.ptr (.loc 0) 20 none 0, .int .i64 c, .int .i64 first, .int .i64 n] ⟨[⟨.loc 0, true, .raw (scrC (.loc 1) (.loc 2) (.loc 3) (.loc 4) s)⟩, ⟨.loc 1, true, .arr pairE s.grid.cells⟩, ⟨.loc 2, true, .arr pairE s.grid.back⟩], 5⟩ (Ret1 (.tup []) ⟨[⟨.loc 0, true, .raw (scrC (.loc 1) (.loc 5) (.loc 3) (.loc 4) (linesM s (-n) : Scr))⟩, ⟨.loc 1, true, .arr pairE (linesM s (-n) : Scr).grid.cells⟩, ⟨.loc 5, true, .arr pairE (linesM s (-n) : Scr).grid.back⟩], 6⟩) := by
  have hln := l5LinesOut s r w h (-n) (by omega) hr0
  have hbk : (linesM s (-n)).grid.back = s.grid.back := by unfold linesM; split <;> rfl
  have hbk' := hbk.symm
  have hbl : (linesM s (-n)).grid.back.length = s.grid.back.length := by rw [hbk]
  refine .ofC hS _ _ _ Tryz.func228 ?_
  conv => whnf
  repeat' (first|refine Seal.mk ?_|(refine wS ?_;(conv=>whnf);fail_if_success show False)|((first|refine opsA_step ?_|apply wL (hln));conv=>whnf)|(intro _;first|omega|conv=>whnf)|(apply And.intro<;>intro _<;>first|omega|conv=>whnf)|((first|refine aLQ ?_|refine ⟨_,rfl,?_⟩|refine ⟨_,⟨rfl,rfl⟩,?_⟩|refine ⟨_,⟨rfl,rfl,leafQ⟩,?_⟩);conv=>whnf)|with_reducible assumption|exact lfQ|fail)
  all_goals (first | contradiction | (exfalso; omega) | (refine ⟨(),⟨⟩,?_⟩;exact fzQ))
theorem l5EditsL1 (s : Scr) (r w : Nat) (h : OkS s r w) (c first n : Int) (hn : 1 ≤ n ∧ n ≤ 99999) (hc : c = 76) (hr0 : s.top ≤ s.y ∧ s.y ≤ s.bottom) : CallA S 228 [.ptr (.loc 0) 20 none 0, .int .i64 c, .int .i64 first, .int .i64 n] ⟨[⟨.loc 0, true, .raw (scrC (.loc 1) (.loc 2) (.loc 3) (.loc 4) s)⟩, ⟨.loc 1, true, .arr pairE s.grid.cells⟩, ⟨.loc 2, true, .arr pairE s.grid.back⟩], 5⟩ (Ret1 (.tup []) ⟨[⟨.loc 0, true, .raw (scrC (.loc 1) (.loc 5) (.loc 3) (.loc 4) (linesM s (-n) : Scr))⟩, ⟨.loc 1, true, .arr pairE (linesM s (-n) : Scr).grid.cells⟩, ⟨.loc 5, true, .arr pairE (linesM s (-n) : Scr).grid.back⟩], 6⟩) := by
  have hln := l5LinesK s r w h (-n) (by omega) hr0 (fun q => by omega)
  have hbk : (linesM s (-n)).grid.back = s.grid.back := by unfold linesM; split <;> rfl
  have hbk' := hbk.symm
  have hbl : (linesM s (-n)).grid.back.length = s.grid.back.length := by rw [hbk]
  refine .ofC hS _ _ _ Tryz.func228 ?_
  conv => whnf
  repeat' (first|refine Seal.mk ?_|(refine wS ?_;(conv=>whnf);fail_if_success show False)|((first|refine opsA_step ?_|apply wL (hln));conv=>whnf)|(intro _;first|omega|conv=>whnf)|(apply And.intro<;>intro _<;>first|omega|conv=>whnf)|((first|refine aLQ ?_|refine ⟨_,rfl,?_⟩|refine ⟨_,⟨rfl,rfl⟩,?_⟩|refine ⟨_,⟨rfl,rfl,leafQ⟩,?_⟩);conv=>whnf)|with_reducible assumption|exact lfQ|fail)
  all_goals (first | contradiction | (exfalso; omega) | (refine ⟨(),⟨⟩,?_⟩;exact fzQ))
theorem l5EditsM0 (s : Scr) (r w : Nat) (h : OkS s r w) (c first n : Int) (hn : 1 ≤ n ∧ n ≤ 99999) (hc : c = 77) (hr0 : ¬ (s.top ≤ s.y ∧ s.y ≤ s.bottom)) : CallA S 228 [.ptr (.loc 0) 20 none 0, .int .i64 c, .int .i64 first, .int .i64 n] ⟨[⟨.loc 0, true, .raw (scrC (.loc 1) (.loc 2) (.loc 3) (.loc 4) s)⟩, ⟨.loc 1, true, .arr pairE s.grid.cells⟩, ⟨.loc 2, true, .arr pairE s.grid.back⟩], 5⟩ (Ret1 (.tup []) ⟨[⟨.loc 0, true, .raw (scrC (.loc 1) (.loc 5) (.loc 3) (.loc 4) (linesM s n : Scr))⟩, ⟨.loc 1, true, .arr pairE (linesM s n : Scr).grid.cells⟩, ⟨.loc 5, true, .arr pairE (linesM s n : Scr).grid.back⟩], 6⟩) := by
  have hln := l5LinesOut s r w h n (by omega) hr0
  have hbk : (linesM s n).grid.back = s.grid.back := by unfold linesM; split <;> rfl
  have hbk' := hbk.symm
  have hbl : (linesM s n).grid.back.length = s.grid.back.length := by rw [hbk]
  refine .ofC hS _ _ _ Tryz.func228 ?_
  conv => whnf
  repeat' (first|refine Seal.mk ?_|(refine wS ?_;(conv=>whnf);fail_if_success show False)|((first|refine opsA_step ?_|apply wL (hln));conv=>whnf)|(intro _;first|omega|conv=>whnf)|(apply And.intro<;>intro _<;>first|omega|conv=>whnf)|((first|refine aLQ ?_|refine ⟨_,rfl,?_⟩|refine ⟨_,⟨rfl,rfl⟩,?_⟩|refine ⟨_,⟨rfl,rfl,leafQ⟩,?_⟩);conv=>whnf)|with_reducible assumption|exact lfQ|fail)
  all_goals (first | contradiction | (exfalso; omega) | (refine ⟨(),⟨⟩,?_⟩;exact fzQ))
theorem l5EditsM1 (s : Scr) (r w : Nat) (h : OkS s r w) (c first n : Int) (hn : 1 ≤ n ∧ n ≤ 99999) (hc : c = 77) (hr0 : s.top ≤ s.y ∧ s.y ≤ s.bottom) (hy0 : ¬ s.y = 0) : CallA S 228 [.ptr (.loc 0) 20 none 0, .int .i64 c, .int .i64 first, .int .i64 n] ⟨[⟨.loc 0, true, .raw (scrC (.loc 1) (.loc 2) (.loc 3) (.loc 4) s)⟩, ⟨.loc 1, true, .arr pairE s.grid.cells⟩, ⟨.loc 2, true, .arr pairE s.grid.back⟩], 5⟩ (Ret1 (.tup []) ⟨[⟨.loc 0, true, .raw (scrC (.loc 1) (.loc 5) (.loc 3) (.loc 4) (linesM s n : Scr))⟩, ⟨.loc 1, true, .arr pairE (linesM s n : Scr).grid.cells⟩, ⟨.loc 5, true, .arr pairE (linesM s n : Scr).grid.back⟩], 6⟩) := by
  have hln := l5LinesK s r w h n (by omega) hr0 (fun _ => hy0)
  have hbk : (linesM s n).grid.back = s.grid.back := by unfold linesM; split <;> rfl
  have hbk' := hbk.symm
  have hbl : (linesM s n).grid.back.length = s.grid.back.length := by rw [hbk]
  refine .ofC hS _ _ _ Tryz.func228 ?_
  conv => whnf
  repeat' (first|refine Seal.mk ?_|(refine wS ?_;(conv=>whnf);fail_if_success show False)|((first|refine opsA_step ?_|apply wL (hln));conv=>whnf)|(intro _;first|omega|conv=>whnf)|(apply And.intro<;>intro _<;>first|omega|conv=>whnf)|((first|refine aLQ ?_|refine ⟨_,rfl,?_⟩|refine ⟨_,⟨rfl,rfl⟩,?_⟩|refine ⟨_,⟨rfl,rfl,leafQ⟩,?_⟩);conv=>whnf)|with_reducible assumption|exact lfQ|fail)
  all_goals (first | contradiction | (exfalso; omega) | (refine ⟨(),⟨⟩,?_⟩;exact fzQ))
theorem l5EditsL (s : Scr) (r w : Nat) (h : OkS s r w) (c first n : Int) (hn : 1 ≤ n ∧ n ≤ 99999) (hc : c = 76) : CallA S 228 [.ptr (.loc 0) 20 none 0, .int .i64 c, .int .i64 first, .int .i64 n] ⟨[⟨.loc 0, true, .raw (scrC (.loc 1) (.loc 2) (.loc 3) (.loc 4) s)⟩, ⟨.loc 1, true, .arr pairE s.grid.cells⟩, ⟨.loc 2, true, .arr pairE s.grid.back⟩], 5⟩ (Ret1 (.tup []) ⟨[⟨.loc 0, true, .raw (scrC (.loc 1) (.loc 5) (.loc 3) (.loc 4) (linesM s (-n) : Scr))⟩, ⟨.loc 1, true, .arr pairE (linesM s (-n) : Scr).grid.cells⟩, ⟨.loc 5, true, .arr pairE (linesM s (-n) : Scr).grid.back⟩], 6⟩) := by
  by_cases hr0 : s.top ≤ s.y ∧ s.y ≤ s.bottom
  · exact l5EditsL1 s r w h c first n hn hc hr0
  · exact l5EditsL0 s r w h c first n hn hc hr0
end Go.Mu
