/- Grids, as the reference turns them: a row kept, a row put. -/
import Derived.Test.YtfjodggmmokaaaaGreatDAK
import Derived.Test.YtfjodggmmokaaaaGreatDAR
set_option linter.unusedSimpArgs false
set_option linter.unusedVariables false
set_option linter.constructorNameAsVariable false
namespace Go.Mu
open Go Go.Vm Go.RowKit Go.Proofs
attribute [local irreducible] wpA opsA stillA drawA drawS
set_option maxRecDepth 20000
set_option maxHeartbeats 40000000
theorem minS (a b : Int) : CallA S 217 [.int .i64 a, .int .i64 b] ⟨[], 0⟩ (Ret1 (.int .i64 (min a b)) ⟨[], 0⟩) := by
  refine .ofC hS _ _ _ Tryz.func217 ?_
  conv => whnf
  repeat' (first|refine Seal.mk ?_|(refine wS ?_;(conv=>whnf);fail_if_success show False)|((first|refine opsA_step ?_);conv=>whnf)|(intro _;first|omega|conv=>whnf)|(apply And.intro<;>intro _<;>first|omega|conv=>whnf)|((first|refine aLQ ?_|refine ⟨_,rfl,?_⟩|refine ⟨_,⟨rfl,rfl⟩,?_⟩|refine ⟨_,⟨rfl,rfl,leafQ⟩,?_⟩);conv=>whnf)|with_reducible assumption|exact lfQ|fail)
  all_goals (refine ⟨(),⟨⟩,?_⟩;exact fzQ)
theorem l3RowOf (c b : List (Int × Int)) (gr : Int) (gw y : Nat) (hyb : y ≤ 6) (hy : (y + 1) * gw ≤ c.length) (hc : c.length ≤ 4096) : CallA S 305 [.ptr (.loc 0) 4 none 0, .int .i64 y] ⟨[⟨.loc 0, false, .raw [.int .i64 gr, .int .i64 gw, .sl (.loc 1) 2 none c.length, .sl (.loc 2) 2 none b.length]⟩, ⟨.loc 1, false, .arr pairE c⟩], 3⟩
    (Ret1 (.sl (.loc 3) 2 none gw) ⟨[⟨.loc 3, true, .arr pairE ((c.drop (y * gw)).take gw)⟩], 4⟩) := by
  have hyw : (y + 1) * gw = y * gw + gw := Nat.succ_mul y gw
  have hi : (y : Int) * gw = ((y * gw : Nat) : Int) := (Int.natCast_mul _ _).symm
  have hi1 : ((y : Int) + 1) * gw = ((y * gw : Nat) : Int) + gw := by rw [Int.add_mul, Int.one_mul, hi]
  have hrl : ((c.drop (y * gw)).take gw).length = gw := by simp; omega
  have e : [] ++ List.take (((y : Int) + 1) * gw - (y : Int) * gw).toNat (List.drop ((y : Int) * gw).toNat c) = (c.drop (y * gw)).take gw := by
    rw [List.nil_append, hi1, hi, show (((y * gw : Nat) : Int) + gw - ((y * gw : Nat) : Int)).toNat = gw by omega, Int.toNat_natCast]
  have el : ([] : List (Int × Int)).length + (List.take (((y : Int) + 1) * gw - (y : Int) * gw).toNat (List.drop ((y : Int) * gw).toNat c)).length = gw := by rw [← List.length_append, e, hrl]
  refine .ofC hS _ _ _ Tryz.func305 ?_
  conv => whnf
  repeat' (first|refine Seal.mk ?_|(refine wS ?_;(conv=>whnf);fail_if_success show False)|((first|refine opsA_step ?_|refine drawS_go ?_|refine wD (id:=1) (.quick 1 (.quick 2 (.quick 3 (.quick 5 (.quick 6 (.quick 7 (.quick 8 (.quick 11 (.quick 12 (.quick 13 (.quick 14 (.quick 15 (.stable 4 (.stable 9 (.quick 10 (.stable 16 (.quick 17 (.quick 18 (.all (.step 0 (.all (.step 19 (.quick 20 .done))))))))))))))))))))))) [0, 19] (by kernel_rfl) rfl ?_);conv=>whnf)|(intro _;first|omega|conv=>whnf)|(apply And.intro<;>intro _<;>first|omega|conv=>whnf)|((first|refine aLQ ?_|refine oLQ ?_|apply Roads.one|refine ⟨_,rfl,?_⟩|refine ⟨_,⟨rfl,rfl⟩,?_⟩|refine ⟨_,⟨rfl,rfl,leafQ⟩,?_⟩);conv=>whnf)|with_reducible assumption|exact lfQ|fail)
  all_goals (refine ⟨(),⟨⟩,?_⟩;exact fzQ)
theorem l3RowG (out row bk : Cs) (r : Int) (w y : Nat) (hyb : y ≤ 6) (hr : row.length = w) (hy : (y + 1) * w ≤ out.length) (hc : out.length ≤ 4096) : CallA S 306 [.ptr (.loc 0) 4 none 0, .int .i64 y, .sl (.loc 3) 2 none row.length] ⟨[⟨.loc 0, false, .raw [.int .i64 r, .int .i64 w, .sl (.loc 1) 2 none out.length, .sl (.loc 2) 2 none bk.length]⟩, ⟨.loc 1, true, .arr pairE out⟩, ⟨.loc 3, false, .arr pairE row⟩], 4⟩ (Ret1 (.tup []) ⟨[⟨.loc 1, true, .arr pairE (over out (y * w) row)⟩], 4⟩) := by
  have hyw : (y + 1) * w = y * w + w := Nat.succ_mul y w
  have hi : (y : Int) * w = ((y * w : Nat) : Int) := (Int.natCast_mul _ _).symm
  have hi1 : ((y : Int) + 1) * w = ((y * w : Nat) : Int) + w := by rw [Int.add_mul, Int.one_mul, hi]
  refine .ofC hS _ _ _ Tryz.func306 ?_
  conv => whnf
  repeat' (first|refine Seal.mk ?_|(refine wS ?_;(conv=>whnf);fail_if_success show False)|((first|refine opsA_step ?_|refine drawS_go ?_|refine wD (id:=0) (.quick 0 (.quick 1 (.quick 2 (.quick 4 (.quick 5 (.quick 6 (.quick 7 (.quick 10 (.quick 11 (.quick 12 (.quick 13 (.quick 14 (.quick 18 (.stable 3 (.stable 8 (.quick 9 (.stable 15 (.quick 16 (.quick 17 (.all (.step 19 .done))))))))))))))))))))) [19] (by kernel_rfl) rfl ?_);conv=>whnf)|(intro _;first|omega|conv=>whnf)|(apply And.intro<;>intro _<;>first|omega|conv=>whnf)|((first|refine aLQ ?_|refine oLQ ?_|refine ⟨_,rfl,?_⟩|refine ⟨_,⟨rfl,rfl⟩,?_⟩|refine ⟨_,⟨rfl,rfl,leafQ⟩,?_⟩);conv=>whnf)|with_reducible assumption|exact lfQ|fail)
  have e : over out ((y : Int) * w).toNat (List.take (((y : Int) + 1) * w - (y : Int) * w).toNat (List.take (row.length : Int).toNat row)) = over out (y * w) row := by
    rw [hi1, hi, Int.toNat_natCast, Int.toNat_natCast, show (((y * w : Nat) : Int) + w - ((y * w : Nat) : Int)).toNat = row.length by omega, List.take_length, List.take_length]
  all_goals (refine ⟨(),⟨⟩,?_⟩;exact fzQ)
theorem l3Keep (c bk row : Cs) (r : Int) (w : Nat) (hw : 1 ≤ w ∧ w ≤ 12) (hb : bk.length ≤ 4096) (hr : row.length = w) : CallA S 372 [.ptr (.loc 0) 4 none 0, .sl (.loc 3) 2 none row.length] ⟨[⟨.loc 0, true, .raw [.int .i64 r, .int .i64 w, .sl (.loc 1) 2 none c.length, .sl (.loc 2) 2 none bk.length]⟩, ⟨.loc 2, true, .arr pairE bk⟩, ⟨.loc 3, false, .arr pairE row⟩], 4⟩ (Ret1 (.tup []) ⟨[⟨.loc 0, true, .raw [.int .i64 r, .int .i64 w, .sl (.loc 1) 2 none c.length, .sl (.loc 4) 2 none (keepB bk row w).length]⟩, ⟨.loc 4, true, .arr pairE (keepB bk row w)⟩], 5⟩) := by
  have hl : (bk ++ row).length = bk.length + row.length := List.length_append
  have ht : List.take (row.length : Int).toNat row = row := by rw [Int.toNat_natCast, List.take_length]
  have htl : (List.take (row.length : Int).toNat row).length = row.length := by rw [ht]
  have ht' : bk ++ List.take (row.length : Int).toNat row = bk ++ row := by rw [ht]
  by_cases hg : 5 * w < (bk ++ row).length
  · have hk := keepB_gt hg
    have hkl : (keepB bk row w).length = bk.length + row.length - w := by rw [hk, List.length_drop, hl]
    have hct : [] ++ List.take (((bk.length + (List.take (row.length : Int).toNat row).length : Nat) : Int) - (w : Int)).toNat (List.drop (w : Int).toNat (bk ++ List.take (row.length : Int).toNat row)) = keepB bk row w := by
      rw [ht, hk, List.nil_append, Int.toNat_natCast, List.take_of_length_le (by rw [List.length_drop, hl]; omega)]
    have hcl : ([] : Cs).length + (List.take (((bk.length + (List.take (row.length : Int).toNat row).length : Nat) : Int) - (w : Int)).toNat (List.drop (w : Int).toNat (bk ++ List.take (row.length : Int).toNat row))).length = (keepB bk row w).length := by rw [← hct, List.length_append]
    refine .ofC hS _ _ _ Tryz.func372 ?_
    conv => whnf
    repeat' (first|refine Seal.mk ?_|(refine wS ?_;(conv=>whnf);fail_if_success show False)|((first|refine opsA_step ?_|refine drawS_go ?_|refine wD (id:=1) (.quick 0 (.quick 1 (.quick 2 (.quick 5 (.quick 6 (.quick 7 (.read 3 (.quick 4 (.read 8 (.quick 9 (.quick 10 .done))))))))))) [] (by kernel_rfl) rfl ?_|refine wD (id:=2) (.quick 0 (.quick 2 (.quick 3 (.quick 4 (.quick 6 (.quick 7 (.quick 8 (.all (.fork (.fork (.step 1 (.all (.fork (.step 5 (.all (.step 9 (.quick 10 (.all (.step 11 (.quick 12 (.quick 13 (.all (.step 14 .done)))))))))) (.step 9 (.all (.step 5 (.quick 10 (.all (.step 11 (.quick 12 (.quick 13 (.all (.step 14 .done))))))))))))) (.step 5 (.all (.fork (.step 1 (.all (.step 9 (.quick 10 (.all (.step 11 (.quick 12 (.quick 13 (.all (.step 14 .done)))))))))) (.step 9 (.quick 10 (.all (.step 1 (.all (.step 11 (.quick 12 (.quick 13 (.all (.step 14 .done)))))))))))))) (.step 9 (.all (.fork (.step 1 (.all (.step 5 (.quick 10 (.all (.step 11 (.quick 12 (.quick 13 (.all (.step 14 .done)))))))))) (.step 5 (.quick 10 (.all (.step 1 (.all (.step 11 (.quick 12 (.quick 13 (.all (.step 14 .done)))))))))))))))))))))) [1, 5, 9, 11, 14] (by kernel_rfl) rfl ?_);conv=>whnf)|(intro _;first|omega|conv=>whnf)|(apply And.intro<;>intro _<;>first|omega|conv=>whnf)|refine sM ?_ ?_|((first|refine aLQ ?_|refine oLQ ?_|apply Roads.one|refine ⟨_,rfl,?_⟩|refine ⟨_,⟨rfl,rfl⟩,?_⟩|refine ⟨_,⟨rfl,rfl,leafQ⟩,?_⟩);conv=>whnf)|with_reducible assumption|exact lfQ|fail)
    all_goals (first | (exfalso; omega) | (refine ⟨(),⟨⟩,?_⟩;exact fzQ))
  · have hk := keepB_le hg
    have hkl : (keepB bk row w).length = bk.length + row.length := by rw [hk, hl]
    have hct : bk ++ List.take (row.length : Int).toNat row = keepB bk row w := by rw [ht', hk]
    refine .ofC hS _ _ _ Tryz.func372 ?_
    conv => whnf
    repeat' (first|refine Seal.mk ?_|(refine wS ?_;(conv=>whnf);fail_if_success show False)|((first|refine opsA_step ?_|refine drawS_go ?_|refine wD (id:=1) (.quick 0 (.quick 1 (.quick 2 (.quick 5 (.quick 6 (.quick 7 (.read 3 (.quick 4 (.read 8 (.quick 9 (.quick 10 .done))))))))))) [] (by kernel_rfl) rfl ?_|refine wD (id:=2) (.quick 0 (.quick 2 (.quick 3 (.quick 4 (.quick 6 (.quick 7 (.quick 8 (.all (.fork (.fork (.step 1 (.all (.fork (.step 5 (.all (.step 9 (.quick 10 (.all (.step 11 (.quick 12 (.quick 13 (.all (.step 14 .done)))))))))) (.step 9 (.all (.step 5 (.quick 10 (.all (.step 11 (.quick 12 (.quick 13 (.all (.step 14 .done))))))))))))) (.step 5 (.all (.fork (.step 1 (.all (.step 9 (.quick 10 (.all (.step 11 (.quick 12 (.quick 13 (.all (.step 14 .done)))))))))) (.step 9 (.quick 10 (.all (.step 1 (.all (.step 11 (.quick 12 (.quick 13 (.all (.step 14 .done)))))))))))))) (.step 9 (.all (.fork (.step 1 (.all (.step 5 (.quick 10 (.all (.step 11 (.quick 12 (.quick 13 (.all (.step 14 .done)))))))))) (.step 5 (.quick 10 (.all (.step 1 (.all (.step 11 (.quick 12 (.quick 13 (.all (.step 14 .done)))))))))))))))))))))) [1, 5, 9, 11, 14] (by kernel_rfl) rfl ?_);conv=>whnf)|(intro _;first|omega|conv=>whnf)|(apply And.intro<;>intro _<;>first|omega|conv=>whnf)|refine sM ?_ ?_|((first|refine aLQ ?_|refine oLQ ?_|apply Roads.one|refine ⟨_,rfl,?_⟩|refine ⟨_,⟨rfl,rfl⟩,?_⟩|refine ⟨_,⟨rfl,rfl,leafQ⟩,?_⟩);conv=>whnf)|with_reducible assumption|exact lfQ|fail)
    all_goals (first | (exfalso; omega) | (refine ⟨(),⟨⟩,?_⟩;exact fzQ))
end Go.Mu

namespace Go.Mu
open Go Go.Vm Go.RowKit Go.Proofs
attribute [local irreducible] wpA opsA stillA drawA drawS
set_option maxRecDepth 20000
set_option maxHeartbeats 40000000
theorem l3ScrollUpT (c bk : Cs) (gr : Int) (w t b : Nat) (a : Int) (hw : 1 ≤ w ∧ w ≤ 12) (hc : (b + 1) * w ≤ c.length) (hc' : c.length ≤ 4096) (hb6 : b ≤ 5) (htb : t ≤ b) (hbk : bk.length ≤ 3000) (p : Prop) (hp : p) (ht : ¬ t = 0) (bk' : Cs) (hbk' : bk' = bk) : CallA S 350 [.ptr (.loc 0) 4 none 0, .int .i64 t, .int .i64 b, .prop p, .int .i64 a] ⟨[⟨.loc 0, true, .raw [.int .i64 gr, .int .i64 w, .sl (.loc 1) 2 none c.length, .sl (.loc 2) 2 none bk.length]⟩, ⟨.loc 1, true, .arr pairE c⟩, ⟨.loc 2, true, .arr pairE bk⟩], 3⟩ (Ret1 (.tup []) ⟨[⟨.loc 0, true, .raw [.int .i64 gr, .int .i64 w, .sl (.loc 1) 2 none c.length, .sl (.loc 3) 2 none bk'.length]⟩, ⟨.loc 1, true, .arr pairE (upK c w t b 1 a)⟩, ⟨.loc 3, true, .arr pairE bk'⟩], 4⟩) := by
  subst hbk'
  have e1 := Nat.add_mul b 1 w
  have hup : (upK c w t b 1 a).length = c.length := upK_len (by omega) hc
  refine .ofC hS _ _ _ Tryz.func350 ?_
  conv => whnf
  repeat' (first|refine Seal.mk ?_|(refine wS ?_;(conv=>whnf);fail_if_success show False)|((first|refine opsA_step ?_);conv=>whnf)|(intro _;first|omega|conv=>whnf)|(apply And.intro<;>intro _<;>first|omega|conv=>whnf)|((first|refine aLQ ?_|refine oLQ ?_|refine ⟨_,rfl,?_⟩|refine ⟨_,⟨rfl,rfl⟩,?_⟩|refine ⟨_,⟨rfl,rfl,leafQ⟩,?_⟩);conv=>whnf)|with_reducible assumption|exact lfQ|fail)
  all_goals (try contradiction)
  refine .loop hS (γ := Nat) (fun k => ⟨[(0, .ptr (.loc 0) 4 none 0), (1, .int .i64 t), (2, .int .i64 b), (4, .int .i64 a), (10, .int .i64 ((t : Int) + k))], ⟨[⟨.loc 0, true, .raw [.int .i64 gr, .int .i64 w, .sl (.loc 1) 2 none c.length, .sl (.loc 2) 2 none bk'.length]⟩, ⟨.loc 1, true, .arr pairE (upL c w t k)⟩, ⟨.loc 2, true, .arr pairE bk'⟩], 3⟩, 63, 3⟩) (fun k => k ≤ b - t) (fun k => b - t - k) 0 (by omega) ?_ ?_
  · have h0 := upL_zero c w t
    ((try dsimp only);exact fzQ)
  · intro k hk
    have hyl := mul_lt_le (w := w) (show t + k + 1 ≤ b + 1 by omega)
    have hll := upL_len (c := c) (w := w) (t := t) (k := k) (by omega)
    conv => whnf
    by_cases hgo : k < b - t
    · have hyl2 := mul_lt_le (w := w) (show t + k + 2 ≤ b + 1 by omega)
      have hst := upL_step (c := c) (w := w) (t := t) (k := k) (by omega)
      have hrw := upL_row (c := c) (w := w) (t := t) (k := k) (by omega)
      have hrl : (((upL c w t k).drop ((t + k + 1) * w)).take w).length = w := by
        have := Nat.add_mul (t + k) 2 w; have := Nat.add_mul (t + k) 1 w
        rw [hrw]; simp only [List.length_take, List.length_drop]; omega
      have hll' := upL_len (c := c) (w := w) (t := t) (k := k + 1) (by rw [show t + (k + 1) + 1 = t + k + 2 by omega]; omega)
      rw [← hrw] at hst
      have hc1 := l3RowOf (upL c w t k) bk' gr w (t + k + 1) (by omega) (by rw [hll]; show (t + k + 2) * w ≤ _; omega) (by rw [hll]; omega)
      have hc2 := l3RowG (upL c w t k) (((upL c w t k).drop ((t + k + 1) * w)).take w) bk' gr w (t + k) (by omega) hrl (by rw [hll]; omega) (by rw [hll]; omega)
      rw [hst] at hc2
      repeat' (first|refine Seal.mk ?_|(refine wS ?_;(conv=>whnf);fail_if_success show False)|((first|refine opsA_step ?_|apply wL (hc1)|apply wL (hc2));conv=>whnf)|(intro _;first|omega|conv=>whnf)|(apply And.intro<;>intro _<;>first|omega|conv=>whnf)|((first|refine aLQ ?_|refine oLQ ?_|refine ⟨_,rfl,?_⟩|refine ⟨_,⟨rfl,rfl⟩,?_⟩|refine ⟨_,⟨rfl,rfl,leafQ⟩,?_⟩);conv=>whnf)|with_reducible assumption|exact lfQ|fail)
      refine ⟨k + 1, ⟨by omega, by omega⟩, ?_⟩
      ((try dsimp only);exact fzQ)
    · have hke : k = b - t := by omega
      subst hke
      have hbl : (List.replicate (w : Int).toNat (bl a)).length = w := by simp
      have hen := upL_end (a := a) htb hc
      have hc3 := l3Blanks (w : Int) a (by omega)
      have hc2 := l3RowG (upL c w t (b - t)) (List.replicate w (bl a)) bk' gr w b (by omega) (by simp) (by rw [hll]; omega) (by rw [hll]; omega)
      rw [hen] at hc2
      rw [Int.toNat_natCast] at hc3
      repeat' (first|refine Seal.mk ?_|(refine wS ?_;(conv=>whnf);fail_if_success show False)|((first|refine opsA_step ?_|apply wL (hc3)|apply wL (hc2));conv=>whnf)|(intro _;first|omega|conv=>whnf)|(apply And.intro<;>intro _<;>first|omega|conv=>whnf)|((first|refine aLQ ?_|refine oLQ ?_|refine ⟨_,rfl,?_⟩|refine ⟨_,⟨rfl,rfl⟩,?_⟩|refine ⟨_,⟨rfl,rfl,leafQ⟩,?_⟩);conv=>whnf)|with_reducible assumption|exact lfQ|fail)
      all_goals (refine ⟨(),⟨⟩,?_⟩;exact fzQ)
theorem l3ScrollUp0 (c bk : Cs) (gr : Int) (w t b : Nat) (a : Int) (hw : 1 ≤ w ∧ w ≤ 12) (hc : (b + 1) * w ≤ c.length) (hc' : c.length ≤ 4096) (hb6 : b ≤ 5) (htb : t ≤ b) (hbk : bk.length ≤ 3000) (p : Prop) (hp : p) (ht : t = 0) (bk' : Cs) (hbk' : bk' = keepB bk ((c.drop (0 * w)).take w) w) : CallA S 350 [.ptr (.loc 0) 4 none 0, .int .i64 t, .int .i64 b, .prop p, .int .i64 a] ⟨[⟨.loc 0, true, .raw [.int .i64 gr, .int .i64 w, .sl (.loc 1) 2 none c.length, .sl (.loc 2) 2 none bk.length]⟩, ⟨.loc 1, true, .arr pairE c⟩, ⟨.loc 2, true, .arr pairE bk⟩], 3⟩ (Ret1 (.tup []) ⟨[⟨.loc 0, true, .raw [.int .i64 gr, .int .i64 w, .sl (.loc 1) 2 none c.length, .sl (.loc 3) 2 none bk'.length]⟩, ⟨.loc 1, true, .arr pairE (upK c w t b 1 a)⟩, ⟨.loc 3, true, .arr pairE bk'⟩], 4⟩) := by
  have e1 := Nat.add_mul b 1 w
  have hup : (upK c w t b 1 a).length = c.length := upK_len (by omega) hc
  have hr0 : ((c.drop (0 * w)).take w).length = w := by have := mul_lt_le (w := w) (show 1 ≤ b + 1 by omega); simp only [Nat.zero_mul, List.drop_zero, List.length_take]; omega
  have hk0 := l3RowOf c bk gr w 0 (by omega) (by have := mul_lt_le (w := w) (show 0 + 1 ≤ b + 1 by omega); omega) hc'
  have hk1 := l3Keep c bk ((c.drop (0 * w)).take w) gr w hw (by omega) hr0
  rw [← hbk'] at hk1
  refine .ofC hS _ _ _ Tryz.func350 ?_
  conv => whnf
  repeat' (first|refine Seal.mk ?_|(refine wS ?_;(conv=>whnf);fail_if_success show False)|((first|refine opsA_step ?_|apply wL (hk0)|apply wL (hk1));conv=>whnf)|(intro _;first|omega|conv=>whnf)|(apply And.intro<;>intro _<;>first|omega|conv=>whnf)|((first|refine aLQ ?_|refine oLQ ?_|refine ⟨_,rfl,?_⟩|refine ⟨_,⟨rfl,rfl⟩,?_⟩|refine ⟨_,⟨rfl,rfl,leafQ⟩,?_⟩);conv=>whnf)|with_reducible assumption|exact lfQ|fail)
  all_goals (try contradiction)
  refine .loop hS (γ := Nat) (fun k => ⟨[(0, .ptr (.loc 0) 4 none 0), (1, .int .i64 t), (2, .int .i64 b), (4, .int .i64 a), (10, .int .i64 ((t : Int) + k))], ⟨[⟨.loc 0, true, .raw [.int .i64 gr, .int .i64 w, .sl (.loc 1) 2 none c.length, .sl (.loc 3) 2 none bk'.length]⟩, ⟨.loc 1, true, .arr pairE (upL c w t k)⟩, ⟨.loc 3, true, .arr pairE bk'⟩], 4⟩, 63, 3⟩) (fun k => k ≤ b - t) (fun k => b - t - k) 0 (by omega) ?_ ?_
  · have h0 := upL_zero c w t
    ((try dsimp only);exact fzQ)
  · intro k hk
    have hyl := mul_lt_le (w := w) (show t + k + 1 ≤ b + 1 by omega)
    have hll := upL_len (c := c) (w := w) (t := t) (k := k) (by omega)
    conv => whnf
    by_cases hgo : k < b - t
    · have hyl2 := mul_lt_le (w := w) (show t + k + 2 ≤ b + 1 by omega)
      have hst := upL_step (c := c) (w := w) (t := t) (k := k) (by omega)
      have hrw := upL_row (c := c) (w := w) (t := t) (k := k) (by omega)
      have hrl : (((upL c w t k).drop ((t + k + 1) * w)).take w).length = w := by
        have := Nat.add_mul (t + k) 2 w; have := Nat.add_mul (t + k) 1 w
        rw [hrw]; simp only [List.length_take, List.length_drop]; omega
      have hll' := upL_len (c := c) (w := w) (t := t) (k := k + 1) (by rw [show t + (k + 1) + 1 = t + k + 2 by omega]; omega)
      rw [← hrw] at hst
      have hc1 := l3RowOf (upL c w t k) bk' gr w (t + k + 1) (by omega) (by rw [hll]; show (t + k + 2) * w ≤ _; omega) (by rw [hll]; omega)
      have hc2 := l3RowG (upL c w t k) (((upL c w t k).drop ((t + k + 1) * w)).take w) bk' gr w (t + k) (by omega) hrl (by rw [hll]; omega) (by rw [hll]; omega)
      rw [hst] at hc2
      repeat' (first|refine Seal.mk ?_|(refine wS ?_;(conv=>whnf);fail_if_success show False)|((first|refine opsA_step ?_|apply wL (hc1)|apply wL (hc2));conv=>whnf)|(intro _;first|omega|conv=>whnf)|(apply And.intro<;>intro _<;>first|omega|conv=>whnf)|((first|refine aLQ ?_|refine oLQ ?_|refine ⟨_,rfl,?_⟩|refine ⟨_,⟨rfl,rfl⟩,?_⟩|refine ⟨_,⟨rfl,rfl,leafQ⟩,?_⟩);conv=>whnf)|with_reducible assumption|exact lfQ|fail)
      refine ⟨k + 1, ⟨by omega, by omega⟩, ?_⟩
      ((try dsimp only);exact fzQ)
    · have hke : k = b - t := by omega
      subst hke
      have hbl : (List.replicate (w : Int).toNat (bl a)).length = w := by simp
      have hen := upL_end (a := a) htb hc
      have hc3 := l3Blanks (w : Int) a (by omega)
      have hc2 := l3RowG (upL c w t (b - t)) (List.replicate w (bl a)) bk' gr w b (by omega) (by simp) (by rw [hll]; omega) (by rw [hll]; omega)
      rw [hen] at hc2
      rw [Int.toNat_natCast] at hc3
      repeat' (first|refine Seal.mk ?_|(refine wS ?_;(conv=>whnf);fail_if_success show False)|((first|refine opsA_step ?_|apply wL (hc3)|apply wL (hc2));conv=>whnf)|(intro _;first|omega|conv=>whnf)|(apply And.intro<;>intro _<;>first|omega|conv=>whnf)|((first|refine aLQ ?_|refine oLQ ?_|refine ⟨_,rfl,?_⟩|refine ⟨_,⟨rfl,rfl⟩,?_⟩|refine ⟨_,⟨rfl,rfl,leafQ⟩,?_⟩);conv=>whnf)|with_reducible assumption|exact lfQ|fail)
      all_goals (refine ⟨(),⟨⟩,?_⟩;exact fzQ)
end Go.Mu

namespace Go.Mu
open Go Go.Vm Go.RowKit Go.Proofs
attribute [local irreducible] wpA opsA stillA drawA drawS
set_option maxRecDepth 20000
set_option maxHeartbeats 40000000
theorem l3ScrollDn (c bk : Cs) (gr : Int) (w t b : Nat) (a : Int) (hw : 1 ≤ w ∧ w ≤ 12) (hc : (b + 1) * w ≤ c.length) (hc' : c.length ≤ 4096) (hb6 : b ≤ 5) (htb : t ≤ b) (hbk : bk.length ≤ 3000) (p : Prop) (hp : ¬ p) : CallA S 350 [.ptr (.loc 0) 4 none 0, .int .i64 t, .int .i64 b, .prop p, .int .i64 a] ⟨[⟨.loc 0, true, .raw [.int .i64 gr, .int .i64 w, .sl (.loc 1) 2 none c.length, .sl (.loc 2) 2 none bk.length]⟩, ⟨.loc 1, true, .arr pairE c⟩], 3⟩ (Ret1 (.tup []) ⟨[⟨.loc 0, true, .raw [.int .i64 gr, .int .i64 w, .sl (.loc 1) 2 none c.length, .sl (.loc 2) 2 none bk.length]⟩, ⟨.loc 1, true, .arr pairE (dnK c w t b 1 a)⟩], 3⟩) := by
  have e1 := Nat.add_mul b 1 w
  have hdn : (dnK c w t b 1 a).length = c.length := dnK_len (by omega) hc
  refine .ofC hS _ _ _ Tryz.func350 ?_
  conv => whnf
  repeat' (first|refine Seal.mk ?_|(refine wS ?_;(conv=>whnf);fail_if_success show False)|((first|refine opsA_step ?_);conv=>whnf)|(intro _;first|omega|conv=>whnf)|(apply And.intro<;>intro _<;>first|omega|conv=>whnf)|((first|refine aLQ ?_|refine oLQ ?_|refine ⟨_,rfl,?_⟩|refine ⟨_,⟨rfl,rfl⟩,?_⟩|refine ⟨_,⟨rfl,rfl,leafQ⟩,?_⟩);conv=>whnf)|with_reducible assumption|exact lfQ|fail)
  all_goals (try contradiction)
  refine .loop hS (γ := Nat) (fun k => ⟨[(0, .ptr (.loc 0) 4 none 0), (1, .int .i64 t), (2, .int .i64 b), (4, .int .i64 a), (11, .int .i64 ((b : Int) - k))], ⟨[⟨.loc 0, true, .raw [.int .i64 gr, .int .i64 w, .sl (.loc 1) 2 none c.length, .sl (.loc 2) 2 none bk.length]⟩, ⟨.loc 1, true, .arr pairE (dnL c w b k)⟩], 3⟩, 63, 3⟩) (fun k => k ≤ b - t) (fun k => b - t - k) 0 (by omega) ?_ ?_
  · have h0 := dnL_zero c w b
    ((try dsimp only);exact fzQ)
  · intro k hk
    have hll := dnL_len (c := c) (w := w) (b := b) (k := k) (by omega) hc
    conv => whnf
    by_cases hgo : k < b - t
    · have hyl := mul_lt_le (w := w) (show b - k + 1 ≤ b + 1 by omega)
      have hyl2 := mul_lt_le (w := w) (show b - k - 1 + 1 ≤ b + 1 by omega)
      have hst := dnL_step (c := c) (w := w) (b := b) (k := k) (by omega) hc
      have hrw := dnL_row (c := c) (w := w) (b := b) (k := k) (by omega) hc
      have hrl : (((dnL c w b k).drop ((b - k - 1) * w)).take w).length = w := by
        have := Nat.add_mul (b - k - 1) 1 w
        simp only [List.length_take, List.length_drop]; omega
      have hll' := dnL_len (c := c) (w := w) (b := b) (k := k + 1) (by omega) hc
      rw [← hrw] at hst
      have hc1 := l3RowOf (dnL c w b k) bk gr w (b - k - 1) (by omega) (by rw [hll]; omega) (by rw [hll]; omega)
      have hc2 := l3RowG (dnL c w b k) (((dnL c w b k).drop ((b - k - 1) * w)).take w) bk gr w (b - k) (by omega) hrl (by rw [hll]; omega) (by rw [hll]; omega)
      rw [hst] at hc2
      repeat' (first|refine Seal.mk ?_|(refine wS ?_;(conv=>whnf);fail_if_success show False)|((first|refine opsA_step ?_|apply wL (hc1)|apply wL (hc2));conv=>whnf)|(intro _;first|omega|conv=>whnf)|(apply And.intro<;>intro _<;>first|omega|conv=>whnf)|((first|refine aLQ ?_|refine oLQ ?_|refine ⟨_,rfl,?_⟩|refine ⟨_,⟨rfl,rfl⟩,?_⟩|refine ⟨_,⟨rfl,rfl,leafQ⟩,?_⟩);conv=>whnf)|with_reducible assumption|exact lfQ|fail)
      refine ⟨k + 1, ⟨by omega, by omega⟩, ?_⟩
      ((try dsimp only);exact fzQ)
    · have hke : k = b - t := by omega
      subst hke
      have hyl := mul_lt_le (w := w) (show t + 1 ≤ b + 1 by omega)
      have hen := dnL_end (a := a) htb hc
      have hc3 := l3Blanks (w : Int) a (by omega)
      have hc2 := l3RowG (dnL c w b (b - t)) (List.replicate w (bl a)) bk gr w t (by omega) (by simp) (by rw [hll]; omega) (by rw [hll]; omega)
      rw [hen] at hc2
      rw [Int.toNat_natCast] at hc3
      repeat' (first|refine Seal.mk ?_|(refine wS ?_;(conv=>whnf);fail_if_success show False)|((first|refine opsA_step ?_|apply wL (hc3)|apply wL (hc2));conv=>whnf)|(intro _;first|omega|conv=>whnf)|(apply And.intro<;>intro _<;>first|omega|conv=>whnf)|((first|refine aLQ ?_|refine oLQ ?_|refine ⟨_,rfl,?_⟩|refine ⟨_,⟨rfl,rfl⟩,?_⟩|refine ⟨_,⟨rfl,rfl,leafQ⟩,?_⟩);conv=>whnf)|with_reducible assumption|exact lfQ|fail)
      all_goals (refine ⟨(),⟨⟩,?_⟩;exact fzQ)
end Go.Mu
