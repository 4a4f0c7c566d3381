/- Grids, as the program scrolls, erases and shifts them. -/
import Derived.Test.YtfjodggmmokaaaaGreatDAV
set_option linter.unusedSimpArgs false
set_option linter.unusedVariables false
set_option linter.constructorNameAsVariable false
namespace Go.Mu
open Go Go.Vm Go.RowKit Go.Proofs
attribute [local irreducible] wpA opsA stillA drawA drawS
set_option maxRecDepth 20000
set_option maxHeartbeats 40000000
theorem leafI3 {P : Prop} (h : P := by
  first
  | exact leaf
  | exact PreC.of_eq rfl
  | rfl
  | exact ⟨_, [], rfl, by omega, by omega, (List.append_nil _).symm⟩
  | exact Bool.false_ne_true
  | exact ⟨rfl, rfl⟩
  | fail) : P := h
theorem aLI3 {a b : Prop} (k : b) (h : a := by exact leafI3) : a ∧ b := ⟨h, k⟩
theorem oLI3 {a b c : Prop} (k : b) (h : a := by exact leafI3) : (a ∧ b) ∨ c := .inl ⟨h, k⟩
theorem fzI3 {P : Prop} (h : P := by
  (try refine wF ?_)
  repeat' (first|exact ⟨⟩|(apply And.intro;focus exact leafI3)|((conv=>whnf);first|exact ⟨⟩|(apply And.intro;focus exact leafI3))|fail)) : P := h
theorem gridAt (c bk : Cs) (gr : Int) (w : Nat) (a : Int) (hc' : c.length ≤ 3000) (y x : Nat) (hy6 : y ≤ 6) (hw : 1 ≤ w ∧ w ≤ 12) (hi : y * w + x < c.length) : CallA S 249 [.ptr (.loc 0) 4 none 0, .int .i64 y, .int .i64 x] ⟨[⟨.loc 0, false, .raw [.int .i64 gr, .int .i64 w, .sl (.loc 1) 2 none c.length, .sl (.loc 2) 2 none bk.length]⟩], 5⟩ (Ret1 (.ptr (.loc 1) 2 (some ((y * w + x : Nat) : Int)) 0) ⟨[], 5⟩) := by
  have e : (y : Int) * w + x = ((y * w + x : Nat) : Int) := by rw [Int.natCast_add, Int.natCast_mul]
  have hl := mul_lt_le (w := w) hy6
  refine .ofC hS _ _ _ Tryz.func249 ?_
  conv => whnf
  repeat' (first|refine Seal.mk ?_|(refine wS ?_;(conv=>whnf);fail_if_success show False)|((first|refine opsA_step ?_|refine drawS_go ?_|refine wD (id:=1) (.quick 0 (.quick 1 (.quick 2 (.quick 4 (.quick 5 (.quick 6 (.quick 7 (.quick 10 (.stable 3 (.stable 8 (.quick 9 (.quick 11 (.quick 12 (.quick 13 .done)))))))))))))) [] (by kernel_rfl) rfl ?_);conv=>whnf)|(intro _;first|omega|conv=>whnf)|(apply And.intro<;>intro _<;>first|omega|conv=>whnf)|((first|refine aLI3 ?_|refine oLI3 ?_|refine ⟨_,rfl,?_⟩|refine ⟨_,⟨rfl,rfl⟩,?_⟩|refine ⟨_,⟨rfl,rfl,leafI3⟩,?_⟩);conv=>whnf)|with_reducible assumption|exact lfI3|fail)
  all_goals (refine ⟨(),⟨⟩,?_⟩;exact fzI3)
theorem gridErase (c bk : Cs) (gr : Int) (w : Nat) (a : Int) (hc' : c.length ≤ 3000) (f t : Nat) (hf : f ≤ t) (ht : t ≤ c.length) : CallA S 328 [.ptr (.loc 0) 4 none 0, .int .i64 f, .int .i64 t, .int .i64 a] ⟨[⟨.loc 0, false, .raw [.int .i64 gr, .int .i64 w, .sl (.loc 1) 2 none c.length, .sl (.loc 2) 2 none bk.length]⟩, ⟨.loc 1, true, .arr pairE c⟩], 3⟩ (Ret1 (.tup []) ⟨[⟨.loc 1, true, .arr pairE (erC c f t a)⟩], 3⟩) := by
  have hb := blanks ((t : Int) - f) a (by omega) (by omega)
  have e : ((t : Int) - f).toNat = t - f := by omega
  have e' : ((t - f : Nat) : Int) = (t : Int) - f := by omega
  have e2 : ((f : Int) - 0).toNat = f := by omega
  rw [e] at hb
  have hrl : (List.replicate (t - f) (bl a)).length = t - f := List.length_replicate
  have ho : erC c f t a = over c f (List.replicate (t - f) (bl a)) := by
    unfold erC over
    rw [hrl, show f + (t - f) = t by omega]
  rw [ho]
  generalize List.replicate (t - f) (bl a) = bs at *
  have eo : over c (f : Int).toNat (List.take ((t : Int) - f).toNat (List.take ((t - f : Nat) : Int).toNat bs)) = over c f bs := by
    rw [Int.toNat_natCast, Int.toNat_natCast, e, List.take_take, Nat.min_self, List.take_of_length_le (by omega)]
  refine .ofC hS _ _ _ Tryz.func328 ?_
  conv => whnf
  repeat' (first|refine Seal.mk ?_|(refine wS ?_;(conv=>whnf);fail_if_success show False)|((first|refine opsA_step ?_|refine drawS_go ?_|refine wD (id:=0) (.quick 0 (.quick 1 (.quick 2 (.quick 4 (.quick 5 (.quick 7 (.quick 8 (.quick 9 (.quick 10 (.stable 3 (.quick 6 (.all (.step 11 (.all (.step 12 .done))))))))))))))) [11, 12] (by kernel_rfl) rfl ?_|apply wL (hb));conv=>whnf)|(intro _;first|omega|conv=>whnf)|(apply And.intro<;>intro _<;>first|omega|conv=>whnf)|((first|refine aLI3 ?_|refine oLI3 ?_|refine ⟨_,rfl,?_⟩|refine ⟨_,⟨rfl,rfl⟩,?_⟩|refine ⟨_,⟨rfl,rfl,leafI3⟩,?_⟩);conv=>whnf)|with_reducible assumption|exact lfI3|fail)
  all_goals (refine ⟨(),⟨⟩,?_⟩;exact fzI3)
theorem gridShift (c bk : Cs) (gr : Int) (w : Nat) (a : Int) (hc' : c.length ≤ 3000) (y x : Nat) (n : Int) (hw : 1 ≤ w ∧ w ≤ 12) (hyb : y ≤ 5) (hy : (y + 1) * w ≤ c.length) (hx : x < w) (hn : -100000 ≤ n ∧ n ≤ 100000) : CallA S 247 [.ptr (.loc 0) 4 none 0, .int .i64 y, .int .i64 x, .int .i64 n, .int .i64 a] ⟨[⟨.loc 0, false, .raw [.int .i64 gr, .int .i64 w, .sl (.loc 1) 2 none c.length, .sl (.loc 2) 2 none bk.length]⟩, ⟨.loc 1, true, .arr pairE c⟩], 3⟩ (Ret1 (.tup []) ⟨[⟨.loc 1, true, .arr pairE (over c (y * w) (shR ((c.drop (y * w)).take w) x w n a))⟩], 3⟩) := by
  have hyw : (y + 1) * w = y * w + w := Nat.succ_mul y w
  have hm := movedC c (y * w + x) (w - x) n a (by omega) (by omega) hn
  rw [mv_shift hx hy] at hm
  have e : (y : Int) * w + x = ((y * w + x : Nat) : Int) := by rw [Int.natCast_add, Int.natCast_mul]
  have e1 : ((y : Int) + 1) * w = ((y * w + x : Nat) : Int) + ((w - x : Nat) : Int) := by rw [Int.add_mul, Int.one_mul, ← Int.natCast_mul]; omega
  have e0 : (y : Int) * w = ((y * w : Nat) : Int) := (Int.natCast_mul _ _).symm
  generalize over c (y * w) (shR ((c.drop (y * w)).take w) x w n a) = c2 at *
  refine .ofC hS _ _ _ Tryz.func247 ?_
  conv => whnf
  repeat' (first|refine Seal.mk ?_|(refine wS ?_;(conv=>whnf);fail_if_success show False)|((first|refine opsA_step ?_|refine drawS_go ?_|refine wD (id:=0) (.quick 0 (.quick 1 (.quick 2 (.quick 4 (.quick 5 (.quick 6 (.quick 7 (.quick 10 (.quick 12 (.quick 13 (.quick 14 (.quick 15 (.quick 16 (.quick 20 (.quick 21 (.stable 3 (.stable 8 (.quick 9 (.quick 11 (.stable 17 (.quick 18 (.quick 19 (.all (.step 22 .done)))))))))))))))))))))))) [22] (by kernel_rfl) rfl ?_|apply wL (hm));conv=>whnf)|(intro _;first|omega|conv=>whnf)|(apply And.intro<;>intro _<;>first|omega|conv=>whnf)|((first|refine aLI3 ?_|refine oLI3 ?_|refine ⟨_,rfl,?_⟩|refine ⟨_,⟨rfl,rfl⟩,?_⟩|refine ⟨_,⟨rfl,rfl,leafI3⟩,?_⟩);conv=>whnf)|with_reducible assumption|exact lfI3|fail)
  all_goals (refine ⟨(),⟨⟩,?_⟩;exact fzI3)
theorem gridScroll0 (c bk : Cs) (gr : Int) (w t b m : Nat) (a n : Int) (hw : 1 ≤ w ∧ w ≤ 12) (hc : (b + 1) * w ≤ c.length) (hc' : c.length ≤ 3000) (hb6 : b ≤ 5) (htb : t ≤ b) (hbk : bk.length = m * w) (hm5 : m ≤ 5) (hn : -5000 ≤ n ∧ n ≤ 5000) (h0 : ¬ (t = 0 ∧ 0 < n)) : CallA S 320 [.ptr (.loc 0) 4 none 0, .int .i64 t, .int .i64 b, .int .i64 n, .int .i64 a] ⟨[⟨.loc 0, true, .raw [.int .i64 gr, .int .i64 w, .sl (.loc 1) 2 none c.length, .sl (.loc 2) 2 none bk.length]⟩, ⟨.loc 1, true, .arr pairE c⟩, ⟨.loc 2, true, .arr pairE bk⟩], 3⟩ (Ret1 (.tup []) ⟨[⟨.loc 0, true, .raw [.int .i64 gr, .int .i64 w, .sl (.loc 1) 2 none c.length, .sl (.loc 3) 2 none (scB bk c w t b n).length]⟩, ⟨.loc 1, true, .arr pairE (scC c w t b n a)⟩, ⟨.loc 3, true, .arr pairE (scB bk c w t b n)⟩], 4⟩) := by
  have hmw : m * w ≤ 5 * 12 := Nat.mul_le_mul hm5 hw.2
  have htw := mul_lt_le (w := w) (show t ≤ b by omega)
  have hbw := Nat.add_mul b 1 w
  have e1 : (t : Int) * w = ((t * w : Nat) : Int) := (Int.natCast_mul _ _).symm
  have e2 : ((b : Int) + 1) * w = (((b + 1) * w : Nat) : Int) := by rw [Int.natCast_mul, Int.natCast_add]; rfl
  have hrw : (b + 1 - t) * w + t * w = (b + 1) * w := by rw [← Nat.add_mul]; congr 1; omega
  have hnw : -n * (w : Int) ≤ 60000 ∧ -60000 ≤ -n * (w : Int) := by
    constructor
    · exact Int.le_trans (Int.mul_le_mul_of_nonneg_right (show -n ≤ 5000 by omega) (by omega)) (by omega)
    · exact Int.le_trans (by omega) (Int.mul_le_mul_of_nonneg_right (show -5000 ≤ -n by omega) (by omega))
  have hm := movedC c (t * w) ((b + 1 - t) * w) (-n * w) a (by omega) (by omega) (by omega)
  rw [mv_scC htb hc hw.1] at hm
  have hsl := scC_len (n := n) (a := a) htb hc
  have hsb : scB bk c w t b n = bk := by
    unfold scB
    split
    · unfold bkM
      rw [if_neg (fun q => h0 ⟨q, by omega⟩)]
    · rfl
  rw [hsb]
  generalize scC c w t b n a = c2 at *
  refine .ofC hS _ _ _ Tryz.func320 ?_
  conv => whnf
  repeat' (first|refine Seal.mk ?_|(refine wS ?_;(conv=>whnf);fail_if_success show False)|((first|refine opsA_step ?_|refine drawS_go ?_|refine wD (id:=0) (.quick 0 (.quick 1 (.quick 2 (.quick 4 (.quick 5 (.quick 6 (.quick 7 (.quick 10 (.quick 11 (.quick 12 (.quick 13 (.quick 14 (.read 3 (.read 8 (.quick 9 (.read 15 (.quick 16 (.quick 17 (.quick 18 .done))))))))))))))))))) [] (by kernel_rfl) rfl ?_|apply wL (hm));conv=>whnf)|(intro _;first|omega|conv=>whnf)|(apply And.intro<;>intro _<;>first|omega|conv=>whnf)|((first|refine aLI3 ?_|refine oLI3 ?_|refine ⟨_,rfl,?_⟩|refine ⟨_,⟨rfl,rfl⟩,?_⟩|refine ⟨_,⟨rfl,rfl,leafI3⟩,?_⟩);conv=>whnf)|with_reducible assumption|exact lfI3|fail)
  all_goals (first | (exfalso; omega) | (refine ⟨(),⟨⟩,?_⟩;exact fzI3))
theorem gridScroll1 (c bk : Cs) (gr : Int) (w t b m : Nat) (a n : Int) (hw : 1 ≤ w ∧ w ≤ 12) (hc : (b + 1) * w ≤ c.length) (hc' : c.length ≤ 3000) (hb6 : b ≤ 5) (htb : t ≤ b) (hbk : bk.length = m * w) (hm5 : m ≤ 5) (hn : -5000 ≤ n ∧ n ≤ 5000) (h0 : t = 0) (h1 : 0 < n) : CallA S 320 [.ptr (.loc 0) 4 none 0, .int .i64 t, .int .i64 b, .int .i64 n, .int .i64 a] ⟨[⟨.loc 0, true, .raw [.int .i64 gr, .int .i64 w, .sl (.loc 1) 2 none c.length, .sl (.loc 2) 2 none bk.length]⟩, ⟨.loc 1, true, .arr pairE c⟩, ⟨.loc 2, true, .arr pairE bk⟩], 3⟩ (Ret1 (.tup []) ⟨[⟨.loc 0, true, .raw [.int .i64 gr, .int .i64 w, .sl (.loc 1) 2 none c.length, .sl (.loc 3) 2 none (scB bk c w t b n).length]⟩, ⟨.loc 1, true, .arr pairE (scC c w t b n a)⟩, ⟨.loc 3, true, .arr pairE (scB bk c w t b n)⟩], 4⟩) := by
  have hmw : m * w ≤ 5 * 12 := Nat.mul_le_mul hm5 hw.2
  have htw := mul_lt_le (w := w) (show t ≤ b by omega)
  have hbw := Nat.add_mul b 1 w
  have e1 : (t : Int) * w = ((t * w : Nat) : Int) := (Int.natCast_mul _ _).symm
  have e2 : ((b : Int) + 1) * w = (((b + 1) * w : Nat) : Int) := by rw [Int.natCast_mul, Int.natCast_add]; rfl
  have hrw : (b + 1 - t) * w + t * w = (b + 1) * w := by rw [← Nat.add_mul]; congr 1; omega
  have hnw : -n * (w : Int) ≤ 60000 ∧ -60000 ≤ -n * (w : Int) := by
    constructor
    · exact Int.le_trans (Int.mul_le_mul_of_nonneg_right (show -n ≤ 5000 by omega) (by omega)) (by omega)
    · exact Int.le_trans (by omega) (Int.mul_le_mul_of_nonneg_right (show -5000 ≤ -n by omega) (by omega))
  have hm := movedC c (t * w) ((b + 1 - t) * w) (-n * w) a (by omega) (by omega) (by omega)
  rw [mv_scC htb hc hw.1] at hm
  have hsl := scC_len (n := n) (a := a) htb hc
  subst h0
  obtain ⟨g, hg⟩ : ∃ g : Nat, g = min n.toNat (b + 1) := ⟨_, rfl⟩
  have hgb := mul_lt_le (w := w) (show g ≤ b + 1 by omega)
  have e3 : (min n ((b : Int) + 1 - ((0 : Nat) : Int))) * w = ((g * w : Nat) : Int) := by rw [Int.natCast_mul]; congr 1; omega
  have e4 : 5 * (w : Int) = ((5 * w : Nat) : Int) := by omega
  have hcc := concatD c bk (0 * w) (g * w) (by omega) (by omega) (by omega)
  have hkp := kp_scB (bk := bk) hbk hm5 h1 hc hg
  have e5 : ((c.drop (0 * w)).take ((b + 1 - 0) * w)).take (g * w) = (c.drop (0 * w)).take (g * w) := by rw [List.take_take, Nat.sub_zero, Nat.min_eq_left hgb]
  rw [e5] at hkp
  have hcl : (bk ++ (c.drop (0 * w)).take (g * w)).length = bk.length + g * w := by simp only [List.length_append, List.length_take, List.length_drop]; omega
  generalize bk ++ (c.drop (0 * w)).take (g * w) = cat at *
  obtain ⟨k, hk⟩ : ∃ k : Nat, k = cat.length - 5 * w := ⟨_, rfl⟩
  rw [← hk] at hkp
  rw [← hkp]
  have hdl : (cat.drop k).length = cat.length - k := List.length_drop
  generalize scC c w 0 b n a = c2 at *
  refine .ofC hS _ _ _ Tryz.func320 ?_
  conv => whnf
  repeat' (first|refine Seal.mk ?_|(refine wS ?_;(conv=>whnf);fail_if_success show False)|((first|refine opsA_step ?_|refine drawS_go ?_|refine wD (id:=0) (.quick 0 (.quick 1 (.quick 2 (.quick 4 (.quick 5 (.quick 6 (.quick 7 (.quick 10 (.quick 11 (.quick 12 (.quick 13 (.quick 14 (.read 3 (.read 8 (.quick 9 (.read 15 (.quick 16 (.quick 17 (.quick 18 .done))))))))))))))))))) [] (by kernel_rfl) rfl ?_|refine wD (id:=3) (.quick 0 (.quick 1 (.quick 2 (.quick 3 (.quick 5 (.quick 6 (.quick 7 (.quick 8 (.quick 9 (.read 4 (.read 10 (.quick 11 (.quick 12 (.all (.step 13 (.all (.step 14 (.quick 15 (.quick 16 (.all (.step 17 .done))))))))))))))))))))) [13, 14, 17] (by kernel_rfl) rfl ?_|refine wD (id:=4) (.quick 0 (.quick 1 (.quick 2 (.quick 3 (.quick 5 (.quick 6 (.quick 7 (.quick 10 (.quick 11 (.quick 12 (.read 4 (.read 8 (.quick 9 (.read 13 (.quick 14 (.quick 15 (.quick 16 (.quick 17 (.quick 18 (.quick 19 (.all (.step 20 .done)))))))))))))))))))))) [20] (by kernel_rfl) rfl ?_|apply wL (hm)|apply wL (hcc));conv=>whnf)|(intro _;first|omega|conv=>whnf)|(apply And.intro<;>intro _<;>first|omega|conv=>whnf)|((first|refine aLI3 ?_|refine oLI3 ?_|refine ⟨_,rfl,?_⟩|refine ⟨_,⟨rfl,rfl⟩,?_⟩|refine ⟨_,⟨rfl,rfl,leafI3⟩,?_⟩);conv=>whnf)|with_reducible assumption|exact lfI3|fail)
  all_goals (first | (exfalso; omega) | (refine ⟨(), trivial, FitsT.told hS [(3, some (.trim (.loc 4) k 2))] ?_⟩; (conv => whnf); repeat' (first|exact ⟨⟩|(apply And.intro;focus exact leafI3)|((conv=>whnf);first|exact ⟨⟩|(apply And.intro;focus exact leafI3))|fail)))
theorem gridScroll (c bk : Cs) (gr : Int) (w t b m : Nat) (a n : Int) (hw : 1 ≤ w ∧ w ≤ 12) (hc : (b + 1) * w ≤ c.length) (hc' : c.length ≤ 3000) (hb6 : b ≤ 5) (htb : t ≤ b) (hbk : bk.length = m * w) (hm5 : m ≤ 5) (hn : -5000 ≤ n ∧ n ≤ 5000)  : CallA S 320 [.ptr (.loc 0) 4 none 0, .int .i64 t, .int .i64 b, .int .i64 n, .int .i64 a] ⟨[⟨.loc 0, true, .raw [.int .i64 gr, .int .i64 w, .sl (.loc 1) 2 none c.length, .sl (.loc 2) 2 none bk.length]⟩, ⟨.loc 1, true, .arr pairE c⟩, ⟨.loc 2, true, .arr pairE bk⟩], 3⟩ (Ret1 (.tup []) ⟨[⟨.loc 0, true, .raw [.int .i64 gr, .int .i64 w, .sl (.loc 1) 2 none c.length, .sl (.loc 3) 2 none (scB bk c w t b n).length]⟩, ⟨.loc 1, true, .arr pairE (scC c w t b n a)⟩, ⟨.loc 3, true, .arr pairE (scB bk c w t b n)⟩], 4⟩) := by
  by_cases h0 : t = 0 ∧ 0 < n
  · exact gridScroll1 c bk gr w t b m a n hw hc hc' hb6 htb hbk hm5 hn h0.1 h0.2
  · exact gridScroll0 c bk gr w t b m a n hw hc hc' hb6 htb hbk hm5 hn h0
end Go.Mu
