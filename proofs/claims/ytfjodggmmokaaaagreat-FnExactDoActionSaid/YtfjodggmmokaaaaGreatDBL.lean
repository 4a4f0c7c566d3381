/- Grids, as the reference scrolls them while the old header of what is kept is read again. -/
import Derived.Test.YtfjodggmmokaaaaGreatDAK
import Derived.Test.YtfjodggmmokaaaaGreatDBI
set_option linter.unusedSimpArgs false
set_option linter.unusedVariables false
set_option linter.constructorNameAsVariable false
namespace Go.Mu
open Go Go.Vm Go.RowKit Go.Proofs
attribute [local irreducible] wpA opsA stillA drawA drawS
set_option maxRecDepth 20000
set_option maxHeartbeats 40000000
inductive KpG
  | a (z : Cs)
  | b (z y : Cs)
def PreL (bk z : Cs) : Prop := ∃ x, z = bk ++ x
theorem PreL.self (bk : Cs) : PreL bk bk := ⟨[], (List.append_nil _).symm⟩
theorem PreL.app {bk z : Cs} (h : PreL bk z) (r : Cs) : PreL bk (z ++ r) := by
  obtain ⟨x, rfl⟩ := h
  exact ⟨x ++ r, List.append_assoc _ _ _⟩
def KpR (bk : Cs) (N : Nat) : KpG → Prop
  | .a z => PreL bk z ∧ z.length ≤ N
  | .b z y => PreL bk z ∧ z.length ≤ N ∧ y.length ≤ N
theorem l3KeepP (c bk z row : Cs) (r : Int) (w : Nat) (hw : 1 ≤ w ∧ w ≤ 12) (hz : PreL bk z) (hb : z.length ≤ 4096) (hr : row.length = w) : CallA S 372 [.ptr (.loc 0) 4 none 0, .sl (.loc 3) 2 none row.length] ⟨[⟨.loc 0, true, .raw [.int .i64 r, .int .i64 w, .sl (.loc 1) 2 none c.length, .sl (.loc 2) 2 none z.length]⟩, ⟨.loc 2, true, .arr pairE z⟩, ⟨.loc 3, false, .arr pairE row⟩], 4⟩ (Ret (KpR bk (z.length + w)) (fun _ => .tup []) (fun g => match g with | .a z => ⟨[⟨.loc 0, true, .raw [.int .i64 r, .int .i64 w, .sl (.loc 1) 2 none c.length, .sl (.loc 2) 2 none z.length]⟩, ⟨.loc 2, true, .arr pairE z⟩], 4⟩ | .b z y => ⟨[⟨.loc 0, true, .raw [.int .i64 r, .int .i64 w, .sl (.loc 1) 2 none c.length, .sl (.loc 4) 2 none y.length]⟩, ⟨.loc 2, true, .arr pairE z⟩, ⟨.loc 4, true, .arr pairE y⟩], 5⟩)) := by
  have hl : (z ++ row).length = z.length + row.length := List.length_append
  have ht : List.take (row.length : Int).toNat row = row := by rw [Int.toNat_natCast, List.take_length]
  have htl : (List.take (row.length : Int).toNat row).length = row.length := by rw [ht]
  have ht' : z ++ List.take (row.length : Int).toNat row = z ++ row := by rw [ht]
  have hzp := hz.app row
  by_cases hg : 5 * w < (z ++ row).length
  · have hdl : (List.drop w (z ++ row)).length = z.length := by rw [List.length_drop, hl]; omega
    have hct : [] ++ List.take (((z.length + (List.take (row.length : Int).toNat row).length : Nat) : Int) - (w : Int)).toNat (List.drop (w : Int).toNat (z ++ List.take (row.length : Int).toNat row)) = List.drop w (z ++ row) := by
      rw [ht, List.nil_append, Int.toNat_natCast, List.take_of_length_le (by rw [List.length_drop, hl]; omega)]
    have hcl : ([] : Cs).length + (List.take (((z.length + (List.take (row.length : Int).toNat row).length : Nat) : Int) - (w : Int)).toNat (List.drop (w : Int).toNat (z ++ List.take (row.length : Int).toNat row))).length = (List.drop w (z ++ row)).length := by rw [← hct, List.length_append]
    refine .ofC hS _ _ _ Tryz.func372 ?_
    conv => whnf
    repeat' (first|refine Seal.mk ?_|(refine wS ?_;(conv=>whnf);fail_if_success show False)|((first|refine opsA_step ?_|refine drawS_go ?_|refine wD (id:=1) (.quick 0 (.quick 1 (.quick 2 (.quick 5 (.quick 6 (.quick 7 (.read 3 (.quick 4 (.read 8 (.quick 9 (.quick 10 .done))))))))))) [] (by kernel_rfl) rfl ?_|refine wD (id:=2) (.quick 0 (.quick 2 (.quick 3 (.quick 4 (.quick 6 (.quick 7 (.quick 8 (.all (.fork (.fork (.step 1 (.all (.fork (.step 5 (.all (.step 9 (.quick 10 (.all (.step 11 (.quick 12 (.quick 13 (.all (.step 14 .done)))))))))) (.step 9 (.all (.step 5 (.quick 10 (.all (.step 11 (.quick 12 (.quick 13 (.all (.step 14 .done))))))))))))) (.step 5 (.all (.fork (.step 1 (.all (.step 9 (.quick 10 (.all (.step 11 (.quick 12 (.quick 13 (.all (.step 14 .done)))))))))) (.step 9 (.quick 10 (.all (.step 1 (.all (.step 11 (.quick 12 (.quick 13 (.all (.step 14 .done)))))))))))))) (.step 9 (.all (.fork (.step 1 (.all (.step 5 (.quick 10 (.all (.step 11 (.quick 12 (.quick 13 (.all (.step 14 .done)))))))))) (.step 5 (.quick 10 (.all (.step 1 (.all (.step 11 (.quick 12 (.quick 13 (.all (.step 14 .done)))))))))))))))))))))) [1, 5, 9, 11, 14] (by kernel_rfl) rfl ?_);conv=>whnf)|(apply Roads.two;conv=>whnf)|((with_reducible refine And.intro (?_ : appendK _ _ _ _ _ _ _) ?_)<;>conv=>whnf)|(intro _;first|omega|conv=>whnf)|(apply And.intro<;>intro _<;>first|omega|conv=>whnf)|refine sM ?_ ?_|((first|refine aLQ ?_|refine oLQ ?_|refine ⟨_,rfl,?_⟩|refine ⟨_,⟨rfl,rfl⟩,?_⟩|refine ⟨_,⟨rfl,rfl,leafQ⟩,?_⟩);conv=>whnf)|with_reducible assumption|exact lfQ|fail)
    all_goals (first | (exfalso; omega) | (refine ⟨.b z (List.drop w (z ++ row)), ⟨hz, by omega, by omega⟩, ?_⟩; exact fzQ; done) | (refine ⟨.b (z ++ row) (List.drop w (z ++ row)), ⟨hzp, by omega, by omega⟩, ?_⟩; exact fzQ))
  · refine .ofC hS _ _ _ Tryz.func372 ?_
    conv => whnf
    repeat' (first|refine Seal.mk ?_|(refine wS ?_;(conv=>whnf);fail_if_success show False)|((first|refine opsA_step ?_|refine drawS_go ?_|refine wD (id:=1) (.quick 0 (.quick 1 (.quick 2 (.quick 5 (.quick 6 (.quick 7 (.read 3 (.quick 4 (.read 8 (.quick 9 (.quick 10 .done))))))))))) [] (by kernel_rfl) rfl ?_|refine wD (id:=2) (.quick 0 (.quick 2 (.quick 3 (.quick 4 (.quick 6 (.quick 7 (.quick 8 (.all (.fork (.fork (.step 1 (.all (.fork (.step 5 (.all (.step 9 (.quick 10 (.all (.step 11 (.quick 12 (.quick 13 (.all (.step 14 .done)))))))))) (.step 9 (.all (.step 5 (.quick 10 (.all (.step 11 (.quick 12 (.quick 13 (.all (.step 14 .done))))))))))))) (.step 5 (.all (.fork (.step 1 (.all (.step 9 (.quick 10 (.all (.step 11 (.quick 12 (.quick 13 (.all (.step 14 .done)))))))))) (.step 9 (.quick 10 (.all (.step 1 (.all (.step 11 (.quick 12 (.quick 13 (.all (.step 14 .done)))))))))))))) (.step 9 (.all (.fork (.step 1 (.all (.step 5 (.quick 10 (.all (.step 11 (.quick 12 (.quick 13 (.all (.step 14 .done)))))))))) (.step 5 (.quick 10 (.all (.step 1 (.all (.step 11 (.quick 12 (.quick 13 (.all (.step 14 .done)))))))))))))))))))))) [1, 5, 9, 11, 14] (by kernel_rfl) rfl ?_);conv=>whnf)|(apply Roads.two;conv=>whnf)|((with_reducible refine And.intro (?_ : appendK _ _ _ _ _ _ _) ?_)<;>conv=>whnf)|(intro _;first|omega|conv=>whnf)|(apply And.intro<;>intro _<;>first|omega|conv=>whnf)|refine sM ?_ ?_|((first|refine aLQ ?_|refine oLQ ?_|refine ⟨_,rfl,?_⟩|refine ⟨_,⟨rfl,rfl⟩,?_⟩|refine ⟨_,⟨rfl,rfl,leafQ⟩,?_⟩);conv=>whnf)|with_reducible assumption|exact lfQ|fail)
    all_goals (first | (exfalso; omega) | (refine ⟨.a (z ++ row), ⟨hzp, by omega⟩, ?_⟩; exact fzQ; done) | (refine ⟨.b z (z ++ row), ⟨hz, by omega, by omega⟩, ?_⟩; exact fzQ))
theorem l3ScrollUp0P (c bk z : Cs) (gr : Int) (w t b : Nat) (a : Int) (hw : 1 ≤ w ∧ w ≤ 12) (hc : (b + 1) * w ≤ c.length) (hc' : c.length ≤ 4096) (hb6 : b ≤ 5) (htb : t ≤ b) (hbk : z.length ≤ 3000) (p : Prop) (hp : p) (ht : t = 0) (hz : PreL bk z) : CallA S 350 [.ptr (.loc 0) 4 none 0, .int .i64 t, .int .i64 b, .prop p, .int .i64 a] ⟨[⟨.loc 0, true, .raw [.int .i64 gr, .int .i64 w, .sl (.loc 1) 2 none c.length, .sl (.loc 2) 2 none z.length]⟩, ⟨.loc 1, true, .arr pairE c⟩, ⟨.loc 2, true, .arr pairE z⟩], 3⟩ (Ret (KpR bk (z.length + w)) (fun _ => .tup []) (fun g => match g with | .a z => ⟨[⟨.loc 0, true, .raw [.int .i64 gr, .int .i64 w, .sl (.loc 1) 2 none c.length, .sl (.loc 2) 2 none z.length]⟩, ⟨.loc 1, true, .arr pairE (upK c w t b 1 a)⟩, ⟨.loc 2, true, .arr pairE z⟩], 3⟩ | .b z y => ⟨[⟨.loc 0, true, .raw [.int .i64 gr, .int .i64 w, .sl (.loc 1) 2 none c.length, .sl (.loc 3) 2 none y.length]⟩, ⟨.loc 1, true, .arr pairE (upK c w t b 1 a)⟩, ⟨.loc 2, true, .arr pairE z⟩, ⟨.loc 3, true, .arr pairE y⟩], 4⟩)) := by
  have e1 := Nat.add_mul b 1 w
  have hup : (upK c w t b 1 a).length = c.length := upK_len (by omega) hc
  have hr0 : ((c.drop (0 * w)).take w).length = w := by have := mul_lt_le (w := w) (show 1 ≤ b + 1 by omega); simp only [Nat.zero_mul, List.drop_zero, List.length_take]; omega
  have hk0 := l3RowOf c z gr w 0 (by omega) (by have := mul_lt_le (w := w) (show 0 + 1 ≤ b + 1 by omega); omega) hc'
  have hk1 := l3KeepP c bk z ((c.drop (0 * w)).take w) gr w hw hz (by omega) hr0
  refine .ofC hS _ _ _ Tryz.func350 ?_
  conv => whnf
  repeat' (first|refine Seal.mk ?_|(refine wS ?_;(conv=>whnf);fail_if_success show False)|((first|refine opsA_step ?_|apply wL (hk0)|apply wL (hk1));conv=>whnf)|(intro _;first|omega|conv=>whnf)|(apply And.intro<;>intro _<;>first|omega|conv=>whnf)|((first|refine aLQ ?_|refine oLQ ?_|refine ⟨_,rfl,?_⟩|refine ⟨_,⟨rfl,rfl⟩,?_⟩|refine ⟨_,⟨rfl,rfl,leafQ⟩,?_⟩);conv=>whnf)|with_reducible assumption|exact lfQ|fail)
  all_goals (try contradiction)
  rename_i g hg
  rcases g with z1 | ⟨z1, y1⟩
  · obtain ⟨hp, hq⟩ := hg
    conv => whnf
    repeat' (first|refine Seal.mk ?_|(refine wS ?_;(conv=>whnf);fail_if_success show False)|((first|refine opsA_step ?_);conv=>whnf)|(intro _;first|omega|conv=>whnf)|(apply And.intro<;>intro _<;>first|omega|conv=>whnf)|((first|refine aLQ ?_|refine oLQ ?_|refine ⟨_,rfl,?_⟩|refine ⟨_,⟨rfl,rfl⟩,?_⟩|refine ⟨_,⟨rfl,rfl,leafQ⟩,?_⟩);conv=>whnf)|with_reducible assumption|exact lfQ|fail)
    refine .loop hS (γ := Nat) (fun k => ⟨[(0, .ptr (.loc 0) 4 none 0), (1, .int .i64 t), (2, .int .i64 b), (4, .int .i64 a), (10, .int .i64 ((t : Int) + k))], ⟨[⟨.loc 0, true, .raw [.int .i64 gr, .int .i64 w, .sl (.loc 1) 2 none c.length, .sl (.loc 2) 2 none z1.length]⟩, ⟨.loc 1, true, .arr pairE (upL c w t k)⟩, ⟨.loc 2, true, .arr pairE z1⟩], 3⟩, 63, 3⟩) (fun k => k ≤ b - t) (fun k => b - t - k) 0 (by omega) ?_ ?_
    · have h0 := upL_zero c w t
      ((try dsimp only);exact fzQ)
    · intro k hk
      have hyl := mul_lt_le (w := w) (show t + k + 1 ≤ b + 1 by omega)
      have hll := upL_len (c := c) (w := w) (t := t) (k := k) (by omega)
      conv => whnf
      by_cases hgo : k < b - t
      · have hyl2 := mul_lt_le (w := w) (show t + k + 2 ≤ b + 1 by omega)
        have hst := upL_step (c := c) (w := w) (t := t) (k := k) (by omega)
        have hrw := upL_row (c := c) (w := w) (t := t) (k := k) (by omega)
        have hrl : (((upL c w t k).drop ((t + k + 1) * w)).take w).length = w := by
          have := Nat.add_mul (t + k) 2 w; have := Nat.add_mul (t + k) 1 w
          rw [hrw]; simp only [List.length_take, List.length_drop]; omega
        have hll' := upL_len (c := c) (w := w) (t := t) (k := k + 1) (by rw [show t + (k + 1) + 1 = t + k + 2 by omega]; omega)
        rw [← hrw] at hst
        have hc1 := l3RowOf (upL c w t k) z1 gr w (t + k + 1) (by omega) (by rw [hll]; show (t + k + 2) * w ≤ _; omega) (by rw [hll]; omega)
        have hc2 := l3RowG (upL c w t k) (((upL c w t k).drop ((t + k + 1) * w)).take w) z1 gr w (t + k) (by omega) hrl (by rw [hll]; omega) (by rw [hll]; omega)
        rw [hst] at hc2
        repeat' (first|refine Seal.mk ?_|(refine wS ?_;(conv=>whnf);fail_if_success show False)|((first|refine opsA_step ?_|apply wL (hc1)|apply wL (hc2));conv=>whnf)|(intro _;first|omega|conv=>whnf)|(apply And.intro<;>intro _<;>first|omega|conv=>whnf)|((first|refine aLQ ?_|refine oLQ ?_|refine ⟨_,rfl,?_⟩|refine ⟨_,⟨rfl,rfl⟩,?_⟩|refine ⟨_,⟨rfl,rfl,leafQ⟩,?_⟩);conv=>whnf)|with_reducible assumption|exact lfQ|fail)
        refine ⟨k + 1, ⟨by omega, by omega⟩, ?_⟩
        ((try dsimp only);exact fzQ)
      · have hke : k = b - t := by omega
        subst hke
        have hbl : (List.replicate (w : Int).toNat (bl a)).length = w := by simp
        have hen := upL_end (a := a) htb hc
        have hc3 := l3Blanks (w : Int) a (by omega)
        have hc2 := l3RowG (upL c w t (b - t)) (List.replicate w (bl a)) z1 gr w b (by omega) (by simp) (by rw [hll]; omega) (by rw [hll]; omega)
        rw [hen] at hc2
        rw [Int.toNat_natCast] at hc3
        repeat' (first|refine Seal.mk ?_|(refine wS ?_;(conv=>whnf);fail_if_success show False)|((first|refine opsA_step ?_|apply wL (hc3)|apply wL (hc2));conv=>whnf)|(intro _;first|omega|conv=>whnf)|(apply And.intro<;>intro _<;>first|omega|conv=>whnf)|((first|refine aLQ ?_|refine oLQ ?_|refine ⟨_,rfl,?_⟩|refine ⟨_,⟨rfl,rfl⟩,?_⟩|refine ⟨_,⟨rfl,rfl,leafQ⟩,?_⟩);conv=>whnf)|with_reducible assumption|exact lfQ|fail)
        all_goals (refine ⟨.a z1, ⟨hp, hq⟩, ?_⟩; exact fzQ)
  · obtain ⟨hp, hq, hq'⟩ := hg
    conv => whnf
    repeat' (first|refine Seal.mk ?_|(refine wS ?_;(conv=>whnf);fail_if_success show False)|((first|refine opsA_step ?_);conv=>whnf)|(intro _;first|omega|conv=>whnf)|(apply And.intro<;>intro _<;>first|omega|conv=>whnf)|((first|refine aLQ ?_|refine oLQ ?_|refine ⟨_,rfl,?_⟩|refine ⟨_,⟨rfl,rfl⟩,?_⟩|refine ⟨_,⟨rfl,rfl,leafQ⟩,?_⟩);conv=>whnf)|with_reducible assumption|exact lfQ|fail)
    refine .loop hS (γ := Nat) (fun k => ⟨[(0, .ptr (.loc 0) 4 none 0), (1, .int .i64 t), (2, .int .i64 b), (4, .int .i64 a), (10, .int .i64 ((t : Int) + k))], ⟨[⟨.loc 0, true, .raw [.int .i64 gr, .int .i64 w, .sl (.loc 1) 2 none c.length, .sl (.loc 3) 2 none y1.length]⟩, ⟨.loc 1, true, .arr pairE (upL c w t k)⟩, ⟨.loc 2, true, .arr pairE z1⟩, ⟨.loc 3, true, .arr pairE y1⟩], 4⟩, 63, 3⟩) (fun k => k ≤ b - t) (fun k => b - t - k) 0 (by omega) ?_ ?_
    · have h0 := upL_zero c w t
      ((try dsimp only);exact fzQ)
    · intro k hk
      have hyl := mul_lt_le (w := w) (show t + k + 1 ≤ b + 1 by omega)
      have hll := upL_len (c := c) (w := w) (t := t) (k := k) (by omega)
      conv => whnf
      by_cases hgo : k < b - t
      · have hyl2 := mul_lt_le (w := w) (show t + k + 2 ≤ b + 1 by omega)
        have hst := upL_step (c := c) (w := w) (t := t) (k := k) (by omega)
        have hrw := upL_row (c := c) (w := w) (t := t) (k := k) (by omega)
        have hrl : (((upL c w t k).drop ((t + k + 1) * w)).take w).length = w := by
          have := Nat.add_mul (t + k) 2 w; have := Nat.add_mul (t + k) 1 w
          rw [hrw]; simp only [List.length_take, List.length_drop]; omega
        have hll' := upL_len (c := c) (w := w) (t := t) (k := k + 1) (by rw [show t + (k + 1) + 1 = t + k + 2 by omega]; omega)
        rw [← hrw] at hst
        have hc1 := l3RowOf (upL c w t k) y1 gr w (t + k + 1) (by omega) (by rw [hll]; show (t + k + 2) * w ≤ _; omega) (by rw [hll]; omega)
        have hc2 := l3RowG (upL c w t k) (((upL c w t k).drop ((t + k + 1) * w)).take w) y1 gr w (t + k) (by omega) hrl (by rw [hll]; omega) (by rw [hll]; omega)
        rw [hst] at hc2
        repeat' (first|refine Seal.mk ?_|(refine wS ?_;(conv=>whnf);fail_if_success show False)|((first|refine opsA_step ?_|apply wL (hc1)|apply wL (hc2));conv=>whnf)|(intro _;first|omega|conv=>whnf)|(apply And.intro<;>intro _<;>first|omega|conv=>whnf)|((first|refine aLQ ?_|refine oLQ ?_|refine ⟨_,rfl,?_⟩|refine ⟨_,⟨rfl,rfl⟩,?_⟩|refine ⟨_,⟨rfl,rfl,leafQ⟩,?_⟩);conv=>whnf)|with_reducible assumption|exact lfQ|fail)
        refine ⟨k + 1, ⟨by omega, by omega⟩, ?_⟩
        ((try dsimp only);exact fzQ)
      · have hke : k = b - t := by omega
        subst hke
        have hbl : (List.replicate (w : Int).toNat (bl a)).length = w := by simp
        have hen := upL_end (a := a) htb hc
        have hc3 := l3Blanks (w : Int) a (by omega)
        have hc2 := l3RowG (upL c w t (b - t)) (List.replicate w (bl a)) y1 gr w b (by omega) (by simp) (by rw [hll]; omega) (by rw [hll]; omega)
        rw [hen] at hc2
        rw [Int.toNat_natCast] at hc3
        repeat' (first|refine Seal.mk ?_|(refine wS ?_;(conv=>whnf);fail_if_success show False)|((first|refine opsA_step ?_|apply wL (hc3)|apply wL (hc2));conv=>whnf)|(intro _;first|omega|conv=>whnf)|(apply And.intro<;>intro _<;>first|omega|conv=>whnf)|((first|refine aLQ ?_|refine oLQ ?_|refine ⟨_,rfl,?_⟩|refine ⟨_,⟨rfl,rfl⟩,?_⟩|refine ⟨_,⟨rfl,rfl,leafQ⟩,?_⟩);conv=>whnf)|with_reducible assumption|exact lfQ|fail)
        all_goals (refine ⟨.b z1 y1, ⟨hp, hq, hq'⟩, ?_⟩; exact fzQ)
theorem l3ManyP (c bk : Cs) (gr : Int) (w t b : Nat) (a : Int) (hw : 1 ≤ w ∧ w ≤ 12) (hc : (b + 1) * w ≤ c.length) (hc' : c.length ≤ 4096) (hb6 : b ≤ 5) (htb : t ≤ b) (hbk : bk.length ≤ 1000) (n : Int) (hn : 0 < n) (hn' : n ≤ 100000) (ht0 : t = 0) (K : Nat) (hK : K = min n.toNat (b + 1 - t)) : CallA S 304 [.ptr (.loc 0) 4 none 0, .int .i64 t, .int .i64 b, .int .i64 n, .int .i64 a] ⟨[⟨.loc 0, true, .raw [.int .i64 gr, .int .i64 w, .sl (.loc 1) 2 none c.length, .sl (.loc 2) 2 none bk.length]⟩, ⟨.loc 1, true, .arr pairE c⟩, ⟨.loc 2, true, .arr pairE bk⟩], 3⟩ (Ret (KpR bk (bk.length + 72)) (fun _ => .tup []) (fun g => match g with | .a z => ⟨[⟨.loc 0, true, .raw [.int .i64 gr, .int .i64 w, .sl (.loc 1) 2 none c.length, .sl (.loc 2) 2 none z.length]⟩, ⟨.loc 1, true, .arr pairE (upK c w t b K a)⟩, ⟨.loc 2, true, .arr pairE z⟩], 3⟩ | .b z y => ⟨[⟨.loc 0, true, .raw [.int .i64 gr, .int .i64 w, .sl (.loc 1) 2 none c.length, .sl (.loc 3) 2 none y.length]⟩, ⟨.loc 1, true, .arr pairE (upK c w t b K a)⟩, ⟨.loc 2, true, .arr pairE z⟩, ⟨.loc 3, true, .arr pairE y⟩], 4⟩)) := by
  refine .ofC hS _ _ _ Tryz.func304 ?_
  conv => whnf
  repeat' (first|refine Seal.mk ?_|(refine wS ?_;(conv=>whnf);fail_if_success show False)|((first|refine opsA_step ?_|apply wL (minS _ _));conv=>whnf)|(intro _;first|omega|conv=>whnf)|(apply And.intro<;>intro _<;>first|omega|conv=>whnf)|((first|refine aLQ ?_|refine oLQ ?_|refine ⟨_,rfl,?_⟩|refine ⟨_,⟨rfl,rfl⟩,?_⟩|refine ⟨_,⟨rfl,rfl,leafQ⟩,?_⟩);conv=>whnf)|with_reducible assumption|exact lfQ|fail)
  all_goals (try contradiction)
  all_goals (try (exfalso; omega))
  refine .loop hS (γ := Nat × KpG) (fun p => ⟨[(0, .ptr (.loc 0) 4 none 0), (1, .int .i64 t), (2, .int .i64 b), (3, .int .i64 ((K : Int) - p.1)), (4, .int .i64 a), (10, .prop (0 < n))], ((fun g => match g with | .a z => ⟨[⟨.loc 0, true, .raw [.int .i64 gr, .int .i64 w, .sl (.loc 1) 2 none c.length, .sl (.loc 2) 2 none z.length]⟩, ⟨.loc 1, true, .arr pairE (upK c w t b p.1 a)⟩, ⟨.loc 2, true, .arr pairE z⟩], 3⟩ | .b z y => ⟨[⟨.loc 0, true, .raw [.int .i64 gr, .int .i64 w, .sl (.loc 1) 2 none c.length, .sl (.loc 3) 2 none y.length]⟩, ⟨.loc 1, true, .arr pairE (upK c w t b p.1 a)⟩, ⟨.loc 2, true, .arr pairE z⟩, ⟨.loc 3, true, .arr pairE y⟩], 4⟩) p.2 : Heap), 33, 3⟩) (fun p => p.1 ≤ K ∧ KpR bk (bk.length + p.1 * w) p.2) (fun p => K - p.1) (0, .a bk) ⟨by omega, .self bk, by omega⟩ ?_ ?_
  · have h0 := upK_zero (c := c) (w := w) (t := t) (b := b) (a := a) (by omega)
    have h0' := h0.symm
    ((try dsimp only);exact fzQ)
  · rintro ⟨j, g⟩ ⟨hj, hg⟩
    replace hj : j ≤ K := hj
    have hl := upK_len (c := c) (w := w) (t := t) (b := b) (k := j) (a := a) (by omega) hc
    have hjw := mul_lt_le (w := w) (show j ≤ 6 by omega)
    have hj1 := Nat.add_mul j 1 w
    rcases g with z1 | ⟨z1, y1⟩
    · obtain ⟨hp, hq⟩ := hg
      replace hq : z1.length ≤ bk.length + j * w := hq
      conv => whnf
      by_cases hgo : j < K
      · have hs := upK_succ (c := c) (w := w) (t := t) (b := b) (k := j) (a := a) (by omega) hc
        have hl1 := upK_len (c := c) (w := w) (t := t) (b := b) (k := j + 1) (a := a) (by omega) hc
        have hcall := l3ScrollUp0P (upK c w t b j a) bk z1 gr w t b a hw (by rw [hl]; exact hc) (by rw [hl]; exact hc') hb6 htb (by omega) (0 < n) hn ht0 hp
        rw [hs] at hcall
        repeat' (first|refine Seal.mk ?_|(refine wS ?_;(conv=>whnf);fail_if_success show False)|((first|refine opsA_step ?_|apply wL (hcall));conv=>whnf)|(intro _;first|omega|conv=>whnf)|(apply And.intro<;>intro _<;>first|omega|conv=>whnf)|((first|refine aLQ ?_|refine oLQ ?_|refine ⟨_,rfl,?_⟩|refine ⟨_,⟨rfl,rfl⟩,?_⟩|refine ⟨_,⟨rfl,rfl,leafQ⟩,?_⟩);conv=>whnf)|with_reducible assumption|exact lfQ|fail)
        all_goals (try contradiction)
        rename_i g hg
        rcases g with z2 | ⟨z2, y2⟩
        · obtain ⟨hp2, hq2⟩ := hg
          conv => whnf
          repeat' (first|refine Seal.mk ?_|(refine wS ?_;(conv=>whnf);fail_if_success show False)|((first|refine opsA_step ?_);conv=>whnf)|(intro _;first|omega|conv=>whnf)|(apply And.intro<;>intro _<;>first|omega|conv=>whnf)|((first|refine aLQ ?_|refine oLQ ?_|refine ⟨_,rfl,?_⟩|refine ⟨_,⟨rfl,rfl⟩,?_⟩|refine ⟨_,⟨rfl,rfl,leafQ⟩,?_⟩);conv=>whnf)|with_reducible assumption|exact lfQ|fail)
          refine ⟨(j + 1, .a z2), ⟨⟨by show j + 1 ≤ K; omega, hp2, by show z2.length ≤ bk.length + (j + 1) * w; omega⟩, by show K - (j + 1) < K - j; omega⟩, ?_⟩
          ((try dsimp only);exact fzQ)
        · obtain ⟨hp2, hq2, hq3⟩ := hg
          conv => whnf
          repeat' (first|refine Seal.mk ?_|(refine wS ?_;(conv=>whnf);fail_if_success show False)|((first|refine opsA_step ?_);conv=>whnf)|(intro _;first|omega|conv=>whnf)|(apply And.intro<;>intro _<;>first|omega|conv=>whnf)|((first|refine aLQ ?_|refine oLQ ?_|refine ⟨_,rfl,?_⟩|refine ⟨_,⟨rfl,rfl⟩,?_⟩|refine ⟨_,⟨rfl,rfl,leafQ⟩,?_⟩);conv=>whnf)|with_reducible assumption|exact lfQ|fail)
          refine ⟨(j + 1, .b z2 y2), ⟨⟨by show j + 1 ≤ K; omega, hp2, by show z2.length ≤ bk.length + (j + 1) * w; omega, by show y2.length ≤ bk.length + (j + 1) * w; omega⟩, by show K - (j + 1) < K - j; omega⟩, ?_⟩
          ((try dsimp only);exact fzQ)
      · have hke : j = K := by omega
        subst hke
        repeat' (first|refine Seal.mk ?_|(refine wS ?_;(conv=>whnf);fail_if_success show False)|((first|refine opsA_step ?_);conv=>whnf)|(intro _;first|omega|conv=>whnf)|(apply And.intro<;>intro _<;>first|omega|conv=>whnf)|((first|refine aLQ ?_|refine oLQ ?_|refine ⟨_,rfl,?_⟩|refine ⟨_,⟨rfl,rfl⟩,?_⟩|refine ⟨_,⟨rfl,rfl,leafQ⟩,?_⟩);conv=>whnf)|with_reducible assumption|exact lfQ|fail)
        all_goals (refine ⟨.a z1, ⟨hp, by omega⟩, ?_⟩; exact fzQ)
    · obtain ⟨hp, hq, hq'⟩ := hg
      replace hq : z1.length ≤ bk.length + j * w := hq
      replace hq' : y1.length ≤ bk.length + j * w := hq'
      conv => whnf
      by_cases hgo : j < K
      · have hs := upK_succ (c := c) (w := w) (t := t) (b := b) (k := j) (a := a) (by omega) hc
        have hl1 := upK_len (c := c) (w := w) (t := t) (b := b) (k := j + 1) (a := a) (by omega) hc
        generalize hy2 : keepB y1 (((upK c w t b j a).drop (0 * w)).take w) w = y2
        have hy2l : y2.length ≤ bk.length + (j + 1) * w := by
          have hr0 : (((upK c w t b j a).drop (0 * w)).take w).length ≤ w := by rw [List.length_take]; omega
          have := keepB_len y1 (((upK c w t b j a).drop (0 * w)).take w) w
          rw [← hy2]; omega
        have hcall := l3ScrollUp0 (upK c w t b j a) y1 gr w t b a hw (by rw [hl]; exact hc) (by rw [hl]; exact hc') hb6 htb (by omega) (0 < n) hn ht0 y2 hy2.symm
        rw [hs] at hcall
        repeat' (first|refine Seal.mk ?_|(refine wS ?_;(conv=>whnf);fail_if_success show False)|((first|refine opsA_step ?_|apply wL (hcall));conv=>whnf)|(intro _;first|omega|conv=>whnf)|(apply And.intro<;>intro _<;>first|omega|conv=>whnf)|((first|refine aLQ ?_|refine oLQ ?_|refine ⟨_,rfl,?_⟩|refine ⟨_,⟨rfl,rfl⟩,?_⟩|refine ⟨_,⟨rfl,rfl,leafQ⟩,?_⟩);conv=>whnf)|with_reducible assumption|exact lfQ|fail)
        all_goals
          refine ⟨(j + 1, .b z1 y2), ⟨⟨by show j + 1 ≤ K; omega, hp, by show z1.length ≤ bk.length + (j + 1) * w; omega, by show y2.length ≤ bk.length + (j + 1) * w; omega⟩, by show K - (j + 1) < K - j; omega⟩, ?_⟩
          ((try dsimp only);exact fzQ)
      · have hke : j = K := by omega
        subst hke
        repeat' (first|refine Seal.mk ?_|(refine wS ?_;(conv=>whnf);fail_if_success show False)|((first|refine opsA_step ?_);conv=>whnf)|(intro _;first|omega|conv=>whnf)|(apply And.intro<;>intro _<;>first|omega|conv=>whnf)|((first|refine aLQ ?_|refine oLQ ?_|refine ⟨_,rfl,?_⟩|refine ⟨_,⟨rfl,rfl⟩,?_⟩|refine ⟨_,⟨rfl,rfl,leafQ⟩,?_⟩);conv=>whnf)|with_reducible assumption|exact lfQ|fail)
        all_goals (refine ⟨.b z1 y1, ⟨hp, by omega, by omega⟩, ?_⟩; exact fzQ)
end Go.Mu
