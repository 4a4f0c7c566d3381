/- Screens, as the program scrolls and keeps the old header of what is kept; as it clears them. -/
import Derived.Test.YtfjodggmmokaaaaGreatDBR
set_option linter.unusedSimpArgs false
set_option linter.unusedVariables false
set_option linter.constructorNameAsVariable false
namespace Go.Mu
open Go Go.Vm Go.RowKit Go.Proofs
attribute [local irreducible] wpA opsA stillA drawA drawS
set_option maxRecDepth 20000
set_option maxHeartbeats 40000000
theorem leafI13 {P : Prop} (h : P := by
  first
  | exact leaf
  | exact PreC.of_eq rfl
  | rfl
  | exact Bool.false_ne_true
  | exact ⟨rfl, rfl⟩
  | exact ⟨_, [], rfl, by omega, by omega, (List.append_nil _).symm⟩
  | fail) : P := h
theorem aLI13 {a b : Prop} (k : b) (h : a := by exact leafI13) : a ∧ b := ⟨h, k⟩
theorem oLI13 {a b c : Prop} (k : b) (h : a := by exact leafI13) : (a ∧ b) ∨ c := .inl ⟨h, k⟩
theorem fzI13 {P : Prop} (h : P := by
  (try refine wF ?_)
  repeat' (first|exact ⟨⟩|(apply And.intro;focus exact leafI13)|((conv=>whnf);first|exact ⟨⟩|(apply And.intro;focus exact leafI13))|fail)
  (first | done | fail)) : P := h
theorem gridScrollP0 (c bk : Cs) (gr : Int) (w t b m : Nat) (a n : Int) (hw : 1 ≤ w ∧ w ≤ 12) (hc : (b + 1) * w ≤ c.length) (hc' : c.length ≤ 3000) (hb6 : b ≤ 5) (htb : t ≤ b) (hbk : bk.length = m * w) (hm5 : m ≤ 5) (hn : -5000 ≤ n ∧ n ≤ 5000) (h0 : ¬ (t = 0 ∧ 0 < n)) : CallA S 320 [.ptr (.loc 0) 4 none 0, .int .i64 t, .int .i64 b, .int .i64 n, .int .i64 a] ⟨[⟨.loc 0, true, .raw [.int .i64 gr, .int .i64 w, .sl (.loc 1) 2 none c.length, .sl (.loc 2) 2 none bk.length]⟩, ⟨.loc 1, true, .arr pairE c⟩, ⟨.loc 2, false, .arr pairE bk⟩], 3⟩ (Ret1 (.tup []) ⟨[⟨.loc 0, true, .raw [.int .i64 gr, .int .i64 w, .sl (.loc 1) 2 none c.length, .sl (.loc 3) 2 none (scB bk c w t b n).length]⟩, ⟨.loc 1, true, .arr pairE (scC c w t b n a)⟩], 4⟩) := by
  have hmw : m * w ≤ 5 * 12 := Nat.mul_le_mul hm5 hw.2
  have htw := mul_lt_le (w := w) (show t ≤ b by omega)
  have hbw := Nat.add_mul b 1 w
  have e1 : (t : Int) * w = ((t * w : Nat) : Int) := (Int.natCast_mul _ _).symm
  have e2 : ((b : Int) + 1) * w = (((b + 1) * w : Nat) : Int) := by rw [Int.natCast_mul, Int.natCast_add]; rfl
  have hrw : (b + 1 - t) * w + t * w = (b + 1) * w := by rw [← Nat.add_mul]; congr 1; omega
  have hnw : -n * (w : Int) ≤ 60000 ∧ -60000 ≤ -n * (w : Int) := by
    constructor
    · exact Int.le_trans (Int.mul_le_mul_of_nonneg_right (show -n ≤ 5000 by omega) (by omega)) (by omega)
    · exact Int.le_trans (by omega) (Int.mul_le_mul_of_nonneg_right (show -5000 ≤ -n by omega) (by omega))
  have hm := movedC c (t * w) ((b + 1 - t) * w) (-n * w) a (by omega) (by omega) (by omega)
  rw [mv_scC htb hc hw.1] at hm
  have hsl := scC_len (n := n) (a := a) htb hc
  have hsb : scB bk c w t b n = bk := by
    unfold scB
    split
    · unfold bkM
      rw [if_neg (fun q => h0 ⟨q, by omega⟩)]
    · rfl
  rw [hsb]
  generalize scC c w t b n a = c2 at *
  refine .ofC hS _ _ _ Tryz.func320 ?_
  conv => whnf
  repeat' (first|refine Seal.mk ?_|(refine wS ?_;(conv=>whnf);fail_if_success show False)|((first|refine opsA_step ?_|refine drawS_go ?_|refine wD (id:=0) (.quick 0 (.quick 1 (.quick 2 (.quick 4 (.quick 5 (.quick 6 (.quick 7 (.quick 10 (.quick 11 (.quick 12 (.quick 13 (.quick 14 (.read 3 (.read 8 (.quick 9 (.read 15 (.quick 16 (.quick 17 (.quick 18 .done))))))))))))))))))) [] (by kernel_rfl) rfl ?_|apply wL (hm));conv=>whnf)|(intro _;first|omega|conv=>whnf)|(apply And.intro<;>intro _<;>first|omega|conv=>whnf)|((first|refine aLI13 ?_|refine oLI13 ?_|refine ⟨_,rfl,?_⟩|refine ⟨_,⟨rfl,rfl⟩,?_⟩|refine ⟨_,⟨rfl,rfl,leafI13⟩,?_⟩);conv=>whnf)|with_reducible assumption|exact lfI13|fail)
  all_goals (first | (exfalso; omega) | (refine ⟨(),⟨⟩,?_⟩;exact fzI13))
theorem gridScrollP1 (c bk : Cs) (gr : Int) (w t b m : Nat) (a n : Int) (hw : 1 ≤ w ∧ w ≤ 12) (hc : (b + 1) * w ≤ c.length) (hc' : c.length ≤ 3000) (hb6 : b ≤ 5) (htb : t ≤ b) (hbk : bk.length = m * w) (hm5 : m ≤ 5) (hn : -5000 ≤ n ∧ n ≤ 5000) (h0 : t = 0) (h1 : 0 < n) : CallA S 320 [.ptr (.loc 0) 4 none 0, .int .i64 t, .int .i64 b, .int .i64 n, .int .i64 a] ⟨[⟨.loc 0, true, .raw [.int .i64 gr, .int .i64 w, .sl (.loc 1) 2 none c.length, .sl (.loc 2) 2 none bk.length]⟩, ⟨.loc 1, true, .arr pairE c⟩, ⟨.loc 2, false, .arr pairE bk⟩], 3⟩ (Ret1 (.tup []) ⟨[⟨.loc 0, true, .raw [.int .i64 gr, .int .i64 w, .sl (.loc 1) 2 none c.length, .sl (.loc 3) 2 none (scB bk c w t b n).length]⟩, ⟨.loc 1, true, .arr pairE (scC c w t b n a)⟩], 4⟩) := by
  have hmw : m * w ≤ 5 * 12 := Nat.mul_le_mul hm5 hw.2
  have htw := mul_lt_le (w := w) (show t ≤ b by omega)
  have hbw := Nat.add_mul b 1 w
  have e1 : (t : Int) * w = ((t * w : Nat) : Int) := (Int.natCast_mul _ _).symm
  have e2 : ((b : Int) + 1) * w = (((b + 1) * w : Nat) : Int) := by rw [Int.natCast_mul, Int.natCast_add]; rfl
  have hrw : (b + 1 - t) * w + t * w = (b + 1) * w := by rw [← Nat.add_mul]; congr 1; omega
  have hnw : -n * (w : Int) ≤ 60000 ∧ -60000 ≤ -n * (w : Int) := by
    constructor
    · exact Int.le_trans (Int.mul_le_mul_of_nonneg_right (show -n ≤ 5000 by omega) (by omega)) (by omega)
    · exact Int.le_trans (by omega) (Int.mul_le_mul_of_nonneg_right (show -5000 ≤ -n by omega) (by omega))
  have hm := movedC c (t * w) ((b + 1 - t) * w) (-n * w) a (by omega) (by omega) (by omega)
  rw [mv_scC htb hc hw.1] at hm
  have hsl := scC_len (n := n) (a := a) htb hc
  subst h0
  obtain ⟨g, hg⟩ : ∃ g : Nat, g = min n.toNat (b + 1) := ⟨_, rfl⟩
  have hgb := mul_lt_le (w := w) (show g ≤ b + 1 by omega)
  have e3 : (min n ((b : Int) + 1 - ((0 : Nat) : Int))) * w = ((g * w : Nat) : Int) := by rw [Int.natCast_mul]; congr 1; omega
  have e4 : 5 * (w : Int) = ((5 * w : Nat) : Int) := by omega
  have hcc := concatD c bk (0 * w) (g * w) (by omega) (by omega) (by omega)
  have hkp := kp_scB (bk := bk) hbk hm5 h1 hc hg
  have e5 : ((c.drop (0 * w)).take ((b + 1 - 0) * w)).take (g * w) = (c.drop (0 * w)).take (g * w) := by rw [List.take_take, Nat.sub_zero, Nat.min_eq_left hgb]
  rw [e5] at hkp
  have hcl : (bk ++ (c.drop (0 * w)).take (g * w)).length = bk.length + g * w := by simp only [List.length_append, List.length_take, List.length_drop]; omega
  generalize bk ++ (c.drop (0 * w)).take (g * w) = cat at *
  obtain ⟨k, hk⟩ : ∃ k : Nat, k = cat.length - 5 * w := ⟨_, rfl⟩
  rw [← hk] at hkp
  rw [← hkp]
  have hdl : (cat.drop k).length = cat.length - k := List.length_drop
  generalize scC c w 0 b n a = c2 at *
  refine .ofC hS _ _ _ Tryz.func320 ?_
  conv => whnf
  repeat' (first|refine Seal.mk ?_|(refine wS ?_;(conv=>whnf);fail_if_success show False)|((first|refine opsA_step ?_|refine drawS_go ?_|refine wD (id:=0) (.quick 0 (.quick 1 (.quick 2 (.quick 4 (.quick 5 (.quick 6 (.quick 7 (.quick 10 (.quick 11 (.quick 12 (.quick 13 (.quick 14 (.read 3 (.read 8 (.quick 9 (.read 15 (.quick 16 (.quick 17 (.quick 18 .done))))))))))))))))))) [] (by kernel_rfl) rfl ?_|refine wD (id:=3) (.quick 0 (.quick 1 (.quick 2 (.quick 3 (.quick 5 (.quick 6 (.quick 7 (.quick 8 (.quick 9 (.read 4 (.read 10 (.quick 11 (.quick 12 (.all (.step 13 (.all (.step 14 (.quick 15 (.quick 16 (.all (.step 17 .done))))))))))))))))))))) [13, 14, 17] (by kernel_rfl) rfl ?_|refine wD (id:=4) (.quick 0 (.quick 1 (.quick 2 (.quick 3 (.quick 5 (.quick 6 (.quick 7 (.quick 10 (.quick 11 (.quick 12 (.read 4 (.read 8 (.quick 9 (.read 13 (.quick 14 (.quick 15 (.quick 16 (.quick 17 (.quick 18 (.quick 19 (.all (.step 20 .done)))))))))))))))))))))) [20] (by kernel_rfl) rfl ?_|apply wL (hm)|apply wL (hcc));conv=>whnf)|(intro _;first|omega|conv=>whnf)|(apply And.intro<;>intro _<;>first|omega|conv=>whnf)|((first|refine aLI13 ?_|refine oLI13 ?_|refine ⟨_,rfl,?_⟩|refine ⟨_,⟨rfl,rfl⟩,?_⟩|refine ⟨_,⟨rfl,rfl,leafI13⟩,?_⟩);conv=>whnf)|with_reducible assumption|exact lfI13|fail)
  all_goals (first | (exfalso; omega) | (refine ⟨(), trivial, FitsT.told hS [(3, some (.trim (.loc 4) k 2))] ?_⟩; (conv => whnf); repeat' (first|exact ⟨⟩|(apply And.intro;focus exact leafI13)|((conv=>whnf);first|exact ⟨⟩|(apply And.intro;focus exact leafI13))|fail)))
theorem gridScrollP (c bk : Cs) (gr : Int) (w t b m : Nat) (a n : Int) (hw : 1 ≤ w ∧ w ≤ 12) (hc : (b + 1) * w ≤ c.length) (hc' : c.length ≤ 3000) (hb6 : b ≤ 5) (htb : t ≤ b) (hbk : bk.length = m * w) (hm5 : m ≤ 5) (hn : -5000 ≤ n ∧ n ≤ 5000)  : CallA S 320 [.ptr (.loc 0) 4 none 0, .int .i64 t, .int .i64 b, .int .i64 n, .int .i64 a] ⟨[⟨.loc 0, true, .raw [.int .i64 gr, .int .i64 w, .sl (.loc 1) 2 none c.length, .sl (.loc 2) 2 none bk.length]⟩, ⟨.loc 1, true, .arr pairE c⟩, ⟨.loc 2, false, .arr pairE bk⟩], 3⟩ (Ret1 (.tup []) ⟨[⟨.loc 0, true, .raw [.int .i64 gr, .int .i64 w, .sl (.loc 1) 2 none c.length, .sl (.loc 3) 2 none (scB bk c w t b n).length]⟩, ⟨.loc 1, true, .arr pairE (scC c w t b n a)⟩], 4⟩) := by
  by_cases h0 : t = 0 ∧ 0 < n
  · exact gridScrollP1 c bk gr w t b m a n hw hc hc' hb6 htb hbk hm5 hn h0.1 h0.2
  · exact gridScrollP0 c bk gr w t b m a n hw hc hc' hb6 htb hbk hm5 hn h0
theorem sIn (s : Scr) : CallA S 241 [.ptr (.loc 0) 20 none 0] ⟨[⟨.loc 0, false, .raw (scrC (.loc 1) (.loc 2) (.loc 3) (.loc 4) s)⟩], 5⟩ (Ret1 (.prop (s.top ≤ s.y ∧ s.y ≤ s.bottom)) ⟨[], 5⟩) := by
  refine .ofC hS _ _ _ Tryz.func241 ?_
  conv => whnf
  repeat' (first|refine Seal.mk ?_|(refine wS ?_;(conv=>whnf);fail_if_success show False)|((first|refine opsA_step ?_|refine drawS_go ?_|refine wD (id:=1) (.quick 0 (.quick 1 (.quick 2 (.quick 4 (.quick 5 (.quick 6 (.quick 8 (.quick 9 (.quick 10 (.stable 3 (.stable 7 (.stable 11 (.all (.step 12 (.quick 13 .done))))))))))))))) [12] (by kernel_rfl) rfl ?_|apply wL (inF _ _ _));conv=>whnf)|(intro _;first|omega|conv=>whnf)|(apply And.intro<;>intro _<;>first|omega|conv=>whnf)|((first|refine aLI13 ?_|refine ⟨_,rfl,?_⟩|refine ⟨_,⟨rfl,rfl⟩,?_⟩|refine ⟨_,⟨rfl,rfl,leafI13⟩,?_⟩);conv=>whnf)|with_reducible assumption|exact lfI13|fail)
  all_goals (refine ⟨(),⟨⟩,?_⟩;exact fzI13)
theorem sClear0 (s : Scr) (r w : Nat) (h : OkS s r w) (c first n : Int) (hn : 1 ≤ n ∧ n ≤ 99999) (hc : c = 74) : CallA S 258 [.ptr (.loc 0) 20 none 0, .int .i64 c, .int .i64 n, .int .i64 first] ⟨[⟨.loc 0, true, .raw (scrC (.loc 1) (.loc 2) (.loc 3) (.loc 4) s)⟩, ⟨.loc 1, true, .arr pairE s.grid.cells⟩, ⟨.loc 2, true, .arr pairE s.grid.back⟩], 5⟩ (Ret1 (.tup []) ⟨[⟨.loc 0, true, .raw (scrC (.loc 1) (.loc 5) (.loc 3) (.loc 4) (wipeM s first 0 s.grid.cells.length : Scr))⟩, ⟨.loc 1, true, .arr pairE (wipeM s first 0 s.grid.cells.length : Scr).grid.cells⟩, ⟨.loc 5, true, .arr pairE (wipeM s first 0 s.grid.cells.length : Scr).grid.back⟩], 6⟩) := by
  have hh := h
  obtain ⟨h1, h2, h3, h4, h5, h6, h7, h8, h9, h10, h11, _⟩ := hh
  obtain ⟨y, hy⟩ := Int.eq_ofNat_of_zero_le (show 0 ≤ s.y by omega)
  obtain ⟨x, hx⟩ := Int.eq_ofNat_of_zero_le (show 0 ≤ s.x by omega)
  obtain ⟨t, ht⟩ := Int.eq_ofNat_of_zero_le (show 0 ≤ s.top by omega)
  obtain ⟨b, hb⟩ := Int.eq_ofNat_of_zero_le (show 0 ≤ s.bottom by omega)
  have e1 : s.y.toNat = y := by omega
  have e2 : s.x.toNat = x := by omega
  have e3 : s.grid.width.toNat = w := by omega
  have e4 : s.top.toNat = t := by omega
  have e5 : s.bottom.toNat = b := by omega
  have hrw : r * w ≤ 6 * 12 := Nat.mul_le_mul h1.2 h2.2
  have hi : s.y * s.grid.width = ((y * w : Nat) : Int) := by rw [hy, h4]; exact (Int.natCast_mul _ _).symm
  have hyw : (y + 1) * w = y * w + w := Nat.succ_mul y w
  have hi1 : (s.y + 1) * s.grid.width = ((y * w : Nat) : Int) + w := by rw [Int.add_mul, Int.one_mul, hi, h4]
  have hle := mul_lt_le (w := w) (show y + 1 ≤ r by omega)
  have hle2 := mul_lt_le (w := w) (show b + 1 ≤ r by omega)
  obtain ⟨mm, hm5, hbm⟩ := h.mult
  have hwp := sErased s r w h first 0 s.grid.cells.length (by rw [e1, e2]; omega) (by rw [e1, e2]; omega) (by omega)
  have hcl : (wipeM s first 0 s.grid.cells.length).grid.cells.length = s.grid.cells.length := (wipeM_ok h first 0 s.grid.cells.length (by rw [e1, e2]; omega) (by rw [e1, e2]; omega) (by omega)).cells.trans h.cells.symm
  have hbk : (wipeM s first 0 s.grid.cells.length).grid.back = s.grid.back := by unfold wipeM; split; rfl; split; rfl; split; rfl; rfl
  refine .ofC hS _ _ _ Tryz.func258 ?_
  conv => whnf
  repeat' (first|refine Seal.mk ?_|(refine wS ?_;(conv=>whnf);fail_if_success show False)|((first|refine opsA_step ?_|apply wL (hwp));conv=>whnf)|(intro _;first|omega|conv=>whnf)|(apply And.intro<;>intro _<;>first|omega|conv=>whnf)|((first|refine aLI13 ?_|refine oLI13 ?_|refine ⟨_,rfl,?_⟩|refine ⟨_,⟨rfl,rfl⟩,?_⟩|refine ⟨_,⟨rfl,rfl,leafI13⟩,?_⟩);conv=>whnf)|with_reducible assumption|exact lfI13|fail)
  all_goals (first | contradiction | (exfalso; omega) | (refine ⟨(),⟨⟩,?_⟩;exact fzI13))
theorem sClear1 (s : Scr) (r w : Nat) (h : OkS s r w) (c first n : Int) (hn : 1 ≤ n ∧ n ≤ 99999) (hc : c = 75) : CallA S 258 [.ptr (.loc 0) 20 none 0, .int .i64 c, .int .i64 n, .int .i64 first] ⟨[⟨.loc 0, true, .raw (scrC (.loc 1) (.loc 2) (.loc 3) (.loc 4) s)⟩, ⟨.loc 1, true, .arr pairE s.grid.cells⟩, ⟨.loc 2, true, .arr pairE s.grid.back⟩], 5⟩ (Ret1 (.tup []) ⟨[⟨.loc 0, true, .raw (scrC (.loc 1) (.loc 5) (.loc 3) (.loc 4) (wipeM s first (s.y.toNat * s.grid.width.toNat) ((s.y.toNat * s.grid.width.toNat) + s.grid.width.toNat) : Scr))⟩, ⟨.loc 1, true, .arr pairE (wipeM s first (s.y.toNat * s.grid.width.toNat) ((s.y.toNat * s.grid.width.toNat) + s.grid.width.toNat) : Scr).grid.cells⟩, ⟨.loc 5, true, .arr pairE (wipeM s first (s.y.toNat * s.grid.width.toNat) ((s.y.toNat * s.grid.width.toNat) + s.grid.width.toNat) : Scr).grid.back⟩], 6⟩) := by
  have hh := h
  obtain ⟨h1, h2, h3, h4, h5, h6, h7, h8, h9, h10, h11, _⟩ := hh
  obtain ⟨y, hy⟩ := Int.eq_ofNat_of_zero_le (show 0 ≤ s.y by omega)
  obtain ⟨x, hx⟩ := Int.eq_ofNat_of_zero_le (show 0 ≤ s.x by omega)
  obtain ⟨t, ht⟩ := Int.eq_ofNat_of_zero_le (show 0 ≤ s.top by omega)
  obtain ⟨b, hb⟩ := Int.eq_ofNat_of_zero_le (show 0 ≤ s.bottom by omega)
  have e1 : s.y.toNat = y := by omega
  have e2 : s.x.toNat = x := by omega
  have e3 : s.grid.width.toNat = w := by omega
  have e4 : s.top.toNat = t := by omega
  have e5 : s.bottom.toNat = b := by omega
  have hrw : r * w ≤ 6 * 12 := Nat.mul_le_mul h1.2 h2.2
  have hi : s.y * s.grid.width = ((y * w : Nat) : Int) := by rw [hy, h4]; exact (Int.natCast_mul _ _).symm
  have hyw : (y + 1) * w = y * w + w := Nat.succ_mul y w
  have hi1 : (s.y + 1) * s.grid.width = ((y * w : Nat) : Int) + w := by rw [Int.add_mul, Int.one_mul, hi, h4]
  have hle := mul_lt_le (w := w) (show y + 1 ≤ r by omega)
  have hle2 := mul_lt_le (w := w) (show b + 1 ≤ r by omega)
  obtain ⟨mm, hm5, hbm⟩ := h.mult
  have hwp := sErased s r w h first (y * w) (y * w + w) (by rw [e1, e2]; omega) (by rw [e1, e2]; omega) (by omega)
  have hcl : (wipeM s first (y * w) (y * w + w)).grid.cells.length = s.grid.cells.length := (wipeM_ok h first (y * w) (y * w + w) (by rw [e1, e2]; omega) (by rw [e1, e2]; omega) (by omega)).cells.trans h.cells.symm
  have hbk : (wipeM s first (y * w) (y * w + w)).grid.back = s.grid.back := by unfold wipeM; split; rfl; split; rfl; split; rfl; rfl
  rw [e1, e3]
  refine .ofC hS _ _ _ Tryz.func258 ?_
  conv => whnf
  repeat' (first|refine Seal.mk ?_|(refine wS ?_;(conv=>whnf);fail_if_success show False)|((first|refine opsA_step ?_|apply wL (hwp));conv=>whnf)|(intro _;first|omega|conv=>whnf)|(apply And.intro<;>intro _<;>first|omega|conv=>whnf)|((first|refine aLI13 ?_|refine oLI13 ?_|refine ⟨_,rfl,?_⟩|refine ⟨_,⟨rfl,rfl⟩,?_⟩|refine ⟨_,⟨rfl,rfl,leafI13⟩,?_⟩);conv=>whnf)|with_reducible assumption|exact lfI13|fail)
  all_goals (first | contradiction | (exfalso; omega) | (refine ⟨(),⟨⟩,?_⟩;exact fzI13))
theorem sClear2 (s : Scr) (r w : Nat) (h : OkS s r w) (c first n : Int) (hn : 1 ≤ n ∧ n ≤ 99999) (hc : c = 88) : CallA S 258 [.ptr (.loc 0) 20 none 0, .int .i64 c, .int .i64 n, .int .i64 first] ⟨[⟨.loc 0, true, .raw (scrC (.loc 1) (.loc 2) (.loc 3) (.loc 4) s)⟩, ⟨.loc 1, true, .arr pairE s.grid.cells⟩, ⟨.loc 2, true, .arr pairE s.grid.back⟩], 5⟩ (Ret1 (.tup []) ⟨[⟨.loc 0, true, .raw (scrC (.loc 1) (.loc 5) (.loc 3) (.loc 4) ({ s with grid := { s.grid with cells := erC s.grid.cells ((s.y.toNat * s.grid.width.toNat) + s.x.toNat) ((s.y.toNat * s.grid.width.toNat) + min s.grid.width.toNat (s.x.toNat + n.toNat)) s.attr } } : Scr))⟩, ⟨.loc 1, true, .arr pairE ({ s with grid := { s.grid with cells := erC s.grid.cells ((s.y.toNat * s.grid.width.toNat) + s.x.toNat) ((s.y.toNat * s.grid.width.toNat) + min s.grid.width.toNat (s.x.toNat + n.toNat)) s.attr } } : Scr).grid.cells⟩, ⟨.loc 5, true, .arr pairE ({ s with grid := { s.grid with cells := erC s.grid.cells ((s.y.toNat * s.grid.width.toNat) + s.x.toNat) ((s.y.toNat * s.grid.width.toNat) + min s.grid.width.toNat (s.x.toNat + n.toNat)) s.attr } } : Scr).grid.back⟩], 6⟩) := by
  have hh := h
  obtain ⟨h1, h2, h3, h4, h5, h6, h7, h8, h9, h10, h11, _⟩ := hh
  obtain ⟨y, hy⟩ := Int.eq_ofNat_of_zero_le (show 0 ≤ s.y by omega)
  obtain ⟨x, hx⟩ := Int.eq_ofNat_of_zero_le (show 0 ≤ s.x by omega)
  obtain ⟨t, ht⟩ := Int.eq_ofNat_of_zero_le (show 0 ≤ s.top by omega)
  obtain ⟨b, hb⟩ := Int.eq_ofNat_of_zero_le (show 0 ≤ s.bottom by omega)
  have e1 : s.y.toNat = y := by omega
  have e2 : s.x.toNat = x := by omega
  have e3 : s.grid.width.toNat = w := by omega
  have e4 : s.top.toNat = t := by omega
  have e5 : s.bottom.toNat = b := by omega
  have hrw : r * w ≤ 6 * 12 := Nat.mul_le_mul h1.2 h2.2
  have hi : s.y * s.grid.width = ((y * w : Nat) : Int) := by rw [hy, h4]; exact (Int.natCast_mul _ _).symm
  have hyw : (y + 1) * w = y * w + w := Nat.succ_mul y w
  have hi1 : (s.y + 1) * s.grid.width = ((y * w : Nat) : Int) + w := by rw [Int.add_mul, Int.one_mul, hi, h4]
  have hle := mul_lt_le (w := w) (show y + 1 ≤ r by omega)
  have hle2 := mul_lt_le (w := w) (show b + 1 ≤ r by omega)
  obtain ⟨mm, hm5, hbm⟩ := h.mult
  obtain ⟨k, hk⟩ := Int.eq_ofNat_of_zero_le (show 0 ≤ n by omega)
  have e6 : n.toNat = k := by omega
  rw [e1, e2, e3, e6]
  have q1 : ((y * w + x : Nat) : Int) = s.y * s.grid.width + s.x := by rw [hi]; omega
  have q2 : ((y * w + min w (x + k) : Nat) : Int) = s.y * s.grid.width + min (s.x + n) s.grid.width := by rw [hi, h4, hx, hk]; omega
  have q1' := q1.symm
  have q2' := q2.symm
  have hm := gridErase s.grid.cells s.grid.back s.grid.rows w s.attr (by omega) (y * w + x) (y * w + min w (x + k)) (by omega) (by omega)
  have hl := erC_len (c := s.grid.cells) (a := s.attr) (show y * w + x ≤ y * w + min w (x + k) by omega) (by omega)
  refine .ofC hS _ _ _ Tryz.func258 ?_
  conv => whnf
  repeat' (first|refine Seal.mk ?_|(refine wS ?_;(conv=>whnf);fail_if_success show False)|((first|refine opsA_step ?_|refine drawS_go ?_|refine wD (id:=8) (.quick 0 (.quick 1 (.quick 2 (.quick 3 (.quick 4 (.quick 5 (.quick 6 (.quick 9 (.quick 10 (.quick 11 (.quick 12 (.quick 14 (.quick 16 (.quick 19 (.quick 20 (.quick 21 (.read 7 (.quick 8 (.read 13 (.quick 15 (.quick 17 (.quick 18 (.read 22 (.all (.step 23 .done))))))))))))))))))))))))) [23] (by kernel_rfl) rfl ?_|apply wL (hm));conv=>whnf)|(intro _;first|omega|conv=>whnf)|(apply And.intro<;>intro _<;>first|omega|conv=>whnf)|((first|refine aLI13 ?_|refine oLI13 ?_|refine ⟨_,rfl,?_⟩|refine ⟨_,⟨rfl,rfl⟩,?_⟩|refine ⟨_,⟨rfl,rfl,leafI13⟩,?_⟩);conv=>whnf)|with_reducible assumption|exact lfI13|fail)
  all_goals (first | contradiction | (exfalso; omega) | (refine ⟨(),⟨⟩,?_⟩;exact fzI13))
theorem sClear3 (s : Scr) (r w : Nat) (h : OkS s r w) (c first n : Int) (hn : 1 ≤ n ∧ n ≤ 99999) (hc : c = 83) : CallA S 258 [.ptr (.loc 0) 20 none 0, .int .i64 c, .int .i64 n, .int .i64 first] ⟨[⟨.loc 0, true, .raw (scrC (.loc 1) (.loc 2) (.loc 3) (.loc 4) s)⟩, ⟨.loc 1, true, .arr pairE s.grid.cells⟩, ⟨.loc 2, true, .arr pairE s.grid.back⟩], 5⟩ (Ret1 (.tup []) ⟨[⟨.loc 0, true, .raw (scrC (.loc 1) (.loc 5) (.loc 3) (.loc 4) ({ s with grid := gridM s s.top.toNat s.bottom.toNat n } : Scr))⟩, ⟨.loc 1, true, .arr pairE ({ s with grid := gridM s s.top.toNat s.bottom.toNat n } : Scr).grid.cells⟩, ⟨.loc 5, true, .arr pairE ({ s with grid := gridM s s.top.toNat s.bottom.toNat n } : Scr).grid.back⟩], 6⟩) := by
  have hh := h
  obtain ⟨h1, h2, h3, h4, h5, h6, h7, h8, h9, h10, h11, _⟩ := hh
  obtain ⟨y, hy⟩ := Int.eq_ofNat_of_zero_le (show 0 ≤ s.y by omega)
  obtain ⟨x, hx⟩ := Int.eq_ofNat_of_zero_le (show 0 ≤ s.x by omega)
  obtain ⟨t, ht⟩ := Int.eq_ofNat_of_zero_le (show 0 ≤ s.top by omega)
  obtain ⟨b, hb⟩ := Int.eq_ofNat_of_zero_le (show 0 ≤ s.bottom by omega)
  have e1 : s.y.toNat = y := by omega
  have e2 : s.x.toNat = x := by omega
  have e3 : s.grid.width.toNat = w := by omega
  have e4 : s.top.toNat = t := by omega
  have e5 : s.bottom.toNat = b := by omega
  have hrw : r * w ≤ 6 * 12 := Nat.mul_le_mul h1.2 h2.2
  have hi : s.y * s.grid.width = ((y * w : Nat) : Int) := by rw [hy, h4]; exact (Int.natCast_mul _ _).symm
  have hyw : (y + 1) * w = y * w + w := Nat.succ_mul y w
  have hi1 : (s.y + 1) * s.grid.width = ((y * w : Nat) : Int) + w := by rw [Int.add_mul, Int.one_mul, hi, h4]
  have hle := mul_lt_le (w := w) (show y + 1 ≤ r by omega)
  have hle2 := mul_lt_le (w := w) (show b + 1 ≤ r by omega)
  obtain ⟨mm, hm5, hbm⟩ := h.mult
  have hm := gridScroll s.grid.cells s.grid.back s.grid.rows w t b mm s.attr (min n 9) (by omega) (by omega) (by omega) (by omega) (by omega) hbm hm5 (by omega)
  have k1 := scC_cap (c := s.grid.cells) (w := w) (t := t) (b := b) (n := n) (a := s.attr) (q := 9) (by omega) (by omega)
  have k2 := scB_cap (bk := s.grid.back) (c := s.grid.cells) (w := w) (t := t) (b := b) (n := n) (q := 9) (by omega) (by omega) (by omega)
  rw [show ((9 : Nat) : Int) = 9 from rfl] at k1 k2
  rw [k1.1, k2.1] at hm
  have hl := scC_len (c := s.grid.cells) (w := w) (t := t) (b := b) (n := n) (a := s.attr) (by omega) (by omega)
  unfold gridM
  rw [e3, e4, e5]
  clear k1 k2
  refine .ofC hS _ _ _ Tryz.func258 ?_
  conv => whnf
  repeat' (first|refine Seal.mk ?_|(refine wS ?_;(conv=>whnf);fail_if_success show False)|((first|refine opsA_step ?_|refine drawS_go ?_|refine wD (id:=18) (.quick 0 (.quick 1 (.quick 2 (.quick 3 (.quick 4 (.quick 5 (.quick 7 (.quick 8 (.quick 9 (.quick 11 (.quick 12 (.quick 13 (.quick 14 (.read 6 (.read 10 (.read 15 (.all (.step 16 .done)))))))))))))))))) [16] (by kernel_rfl) rfl ?_|apply wL (hm));conv=>whnf)|(intro _;first|omega|conv=>whnf)|(apply And.intro<;>intro _<;>first|omega|conv=>whnf)|((first|refine aLI13 ?_|refine oLI13 ?_|refine ⟨_,rfl,?_⟩|refine ⟨_,⟨rfl,rfl⟩,?_⟩|refine ⟨_,⟨rfl,rfl,leafI13⟩,?_⟩);conv=>whnf)|with_reducible assumption|exact lfI13|fail)
  all_goals (first | contradiction | (exfalso; omega) | (refine ⟨(),⟨⟩,?_⟩;exact fzI13))
theorem sClear4 (s : Scr) (r w : Nat) (h : OkS s r w) (c first n : Int) (hn : 1 ≤ n ∧ n ≤ 99999) (hc : c = 84) : CallA S 258 [.ptr (.loc 0) 20 none 0, .int .i64 c, .int .i64 n, .int .i64 first] ⟨[⟨.loc 0, true, .raw (scrC (.loc 1) (.loc 2) (.loc 3) (.loc 4) s)⟩, ⟨.loc 1, true, .arr pairE s.grid.cells⟩, ⟨.loc 2, true, .arr pairE s.grid.back⟩], 5⟩ (Ret1 (.tup []) ⟨[⟨.loc 0, true, .raw (scrC (.loc 1) (.loc 5) (.loc 3) (.loc 4) ({ s with grid := gridM s s.top.toNat s.bottom.toNat (-n) } : Scr))⟩, ⟨.loc 1, true, .arr pairE ({ s with grid := gridM s s.top.toNat s.bottom.toNat (-n) } : Scr).grid.cells⟩, ⟨.loc 5, true, .arr pairE ({ s with grid := gridM s s.top.toNat s.bottom.toNat (-n) } : Scr).grid.back⟩], 6⟩) := by
  have hh := h
  obtain ⟨h1, h2, h3, h4, h5, h6, h7, h8, h9, h10, h11, _⟩ := hh
  obtain ⟨y, hy⟩ := Int.eq_ofNat_of_zero_le (show 0 ≤ s.y by omega)
  obtain ⟨x, hx⟩ := Int.eq_ofNat_of_zero_le (show 0 ≤ s.x by omega)
  obtain ⟨t, ht⟩ := Int.eq_ofNat_of_zero_le (show 0 ≤ s.top by omega)
  obtain ⟨b, hb⟩ := Int.eq_ofNat_of_zero_le (show 0 ≤ s.bottom by omega)
  have e1 : s.y.toNat = y := by omega
  have e2 : s.x.toNat = x := by omega
  have e3 : s.grid.width.toNat = w := by omega
  have e4 : s.top.toNat = t := by omega
  have e5 : s.bottom.toNat = b := by omega
  have hrw : r * w ≤ 6 * 12 := Nat.mul_le_mul h1.2 h2.2
  have hi : s.y * s.grid.width = ((y * w : Nat) : Int) := by rw [hy, h4]; exact (Int.natCast_mul _ _).symm
  have hyw : (y + 1) * w = y * w + w := Nat.succ_mul y w
  have hi1 : (s.y + 1) * s.grid.width = ((y * w : Nat) : Int) + w := by rw [Int.add_mul, Int.one_mul, hi, h4]
  have hle := mul_lt_le (w := w) (show y + 1 ≤ r by omega)
  have hle2 := mul_lt_le (w := w) (show b + 1 ≤ r by omega)
  obtain ⟨mm, hm5, hbm⟩ := h.mult
  have hm := gridScroll s.grid.cells s.grid.back s.grid.rows w t b mm s.attr (-(min n 9)) (by omega) (by omega) (by omega) (by omega) (by omega) hbm hm5 (by omega)
  have k1 := scC_cap (c := s.grid.cells) (w := w) (t := t) (b := b) (n := n) (a := s.attr) (q := 9) (by omega) (by omega)
  have k2 := scB_cap (bk := s.grid.back) (c := s.grid.cells) (w := w) (t := t) (b := b) (n := n) (q := 9) (by omega) (by omega) (by omega)
  rw [show ((9 : Nat) : Int) = 9 from rfl] at k1 k2
  rw [k1.2, k2.2] at hm
  have hl := scC_len (c := s.grid.cells) (w := w) (t := t) (b := b) (n := (-n)) (a := s.attr) (by omega) (by omega)
  unfold gridM
  rw [e3, e4, e5]
  clear k1 k2
  refine .ofC hS _ _ _ Tryz.func258 ?_
  conv => whnf
  repeat' (first|refine Seal.mk ?_|(refine wS ?_;(conv=>whnf);fail_if_success show False)|((first|refine opsA_step ?_|refine drawS_go ?_|refine wD (id:=20) (.quick 0 (.quick 1 (.quick 2 (.quick 3 (.quick 4 (.quick 5 (.quick 7 (.quick 8 (.quick 9 (.quick 11 (.quick 12 (.quick 13 (.quick 14 (.quick 15 (.read 6 (.read 10 (.read 16 (.all (.step 17 .done))))))))))))))))))) [17] (by kernel_rfl) rfl ?_|apply wL (hm));conv=>whnf)|(intro _;first|omega|conv=>whnf)|(apply And.intro<;>intro _<;>first|omega|conv=>whnf)|((first|refine aLI13 ?_|refine oLI13 ?_|refine ⟨_,rfl,?_⟩|refine ⟨_,⟨rfl,rfl⟩,?_⟩|refine ⟨_,⟨rfl,rfl,leafI13⟩,?_⟩);conv=>whnf)|with_reducible assumption|exact lfI13|fail)
  all_goals (first | contradiction | (exfalso; omega) | (refine ⟨(),⟨⟩,?_⟩;exact fzI13))
theorem sClear5 (s : Scr) (r w : Nat) (h : OkS s r w) (c first n : Int) (hn : 1 ≤ n ∧ n ≤ 99999) (hc : c = 64) : CallA S 258 [.ptr (.loc 0) 20 none 0, .int .i64 c, .int .i64 n, .int .i64 first] ⟨[⟨.loc 0, true, .raw (scrC (.loc 1) (.loc 2) (.loc 3) (.loc 4) s)⟩, ⟨.loc 1, true, .arr pairE s.grid.cells⟩, ⟨.loc 2, true, .arr pairE s.grid.back⟩], 5⟩ (Ret1 (.tup []) ⟨[⟨.loc 0, true, .raw (scrC (.loc 1) (.loc 5) (.loc 3) (.loc 4) ({ s with grid := { s.grid with cells := shC s n } } : Scr))⟩, ⟨.loc 1, true, .arr pairE ({ s with grid := { s.grid with cells := shC s n } } : Scr).grid.cells⟩, ⟨.loc 5, true, .arr pairE ({ s with grid := { s.grid with cells := shC s n } } : Scr).grid.back⟩], 6⟩) := by
  have hh := h
  obtain ⟨h1, h2, h3, h4, h5, h6, h7, h8, h9, h10, h11, _⟩ := hh
  obtain ⟨y, hy⟩ := Int.eq_ofNat_of_zero_le (show 0 ≤ s.y by omega)
  obtain ⟨x, hx⟩ := Int.eq_ofNat_of_zero_le (show 0 ≤ s.x by omega)
  obtain ⟨t, ht⟩ := Int.eq_ofNat_of_zero_le (show 0 ≤ s.top by omega)
  obtain ⟨b, hb⟩ := Int.eq_ofNat_of_zero_le (show 0 ≤ s.bottom by omega)
  have e1 : s.y.toNat = y := by omega
  have e2 : s.x.toNat = x := by omega
  have e3 : s.grid.width.toNat = w := by omega
  have e4 : s.top.toNat = t := by omega
  have e5 : s.bottom.toNat = b := by omega
  have hrw : r * w ≤ 6 * 12 := Nat.mul_le_mul h1.2 h2.2
  have hi : s.y * s.grid.width = ((y * w : Nat) : Int) := by rw [hy, h4]; exact (Int.natCast_mul _ _).symm
  have hyw : (y + 1) * w = y * w + w := Nat.succ_mul y w
  have hi1 : (s.y + 1) * s.grid.width = ((y * w : Nat) : Int) + w := by rw [Int.add_mul, Int.one_mul, hi, h4]
  have hle := mul_lt_le (w := w) (show y + 1 ≤ r by omega)
  have hle2 := mul_lt_le (w := w) (show b + 1 ≤ r by omega)
  obtain ⟨mm, hm5, hbm⟩ := h.mult
  have hm := gridShift s.grid.cells s.grid.back s.grid.rows w s.attr (by omega) y x (min n 12) (by omega) (by omega) (by omega) (by omega) (by omega)
  have k1 := mvL_cap (l := (s.grid.cells.drop (y * w + x)).take (w - x)) (n := n) (a := s.attr) (q := 12) (by simp only [List.length_take]; omega) (by omega) (by omega)
  rw [show ((12 : Nat) : Int) = 12 from rfl] at k1
  rw [← mv_shift (by omega) (by omega), k1.1, mv_shift (by omega) (by omega)] at hm
  have hl : (over s.grid.cells (y * w) (shR ((s.grid.cells.drop (y * w)).take w) x w n s.attr)).length = s.grid.cells.length := by
    unfold over
    simp only [List.length_append, List.length_take, List.length_drop, shR_len]; omega
  clear k1
  unfold shC
  rw [e1, e2, e3]
  refine .ofC hS _ _ _ Tryz.func258 ?_
  conv => whnf
  repeat' (first|refine Seal.mk ?_|(refine wS ?_;(conv=>whnf);fail_if_success show False)|((first|refine opsA_step ?_|refine drawS_go ?_|refine wD (id:=22) (.quick 0 (.quick 1 (.quick 2 (.quick 3 (.quick 4 (.quick 5 (.quick 7 (.quick 8 (.quick 9 (.quick 11 (.quick 12 (.quick 13 (.quick 14 (.quick 15 (.read 6 (.read 10 (.read 16 (.all (.step 17 .done))))))))))))))))))) [17] (by kernel_rfl) rfl ?_|apply wL (hm));conv=>whnf)|(intro _;first|omega|conv=>whnf)|(apply And.intro<;>intro _<;>first|omega|conv=>whnf)|((first|refine aLI13 ?_|refine oLI13 ?_|refine ⟨_,rfl,?_⟩|refine ⟨_,⟨rfl,rfl⟩,?_⟩|refine ⟨_,⟨rfl,rfl,leafI13⟩,?_⟩);conv=>whnf)|with_reducible assumption|exact lfI13|fail)
  all_goals (first | contradiction | (exfalso; omega) | (refine ⟨(),⟨⟩,?_⟩;exact fzI13))
theorem sClear6 (s : Scr) (r w : Nat) (h : OkS s r w) (c first n : Int) (hn : 1 ≤ n ∧ n ≤ 99999) (hc : c = 80) : CallA S 258 [.ptr (.loc 0) 20 none 0, .int .i64 c, .int .i64 n, .int .i64 first] ⟨[⟨.loc 0, true, .raw (scrC (.loc 1) (.loc 2) (.loc 3) (.loc 4) s)⟩, ⟨.loc 1, true, .arr pairE s.grid.cells⟩, ⟨.loc 2, true, .arr pairE s.grid.back⟩], 5⟩ (Ret1 (.tup []) ⟨[⟨.loc 0, true, .raw (scrC (.loc 1) (.loc 5) (.loc 3) (.loc 4) ({ s with grid := { s.grid with cells := shC s (-n) } } : Scr))⟩, ⟨.loc 1, true, .arr pairE ({ s with grid := { s.grid with cells := shC s (-n) } } : Scr).grid.cells⟩, ⟨.loc 5, true, .arr pairE ({ s with grid := { s.grid with cells := shC s (-n) } } : Scr).grid.back⟩], 6⟩) := by
  have hh := h
  obtain ⟨h1, h2, h3, h4, h5, h6, h7, h8, h9, h10, h11, _⟩ := hh
  obtain ⟨y, hy⟩ := Int.eq_ofNat_of_zero_le (show 0 ≤ s.y by omega)
  obtain ⟨x, hx⟩ := Int.eq_ofNat_of_zero_le (show 0 ≤ s.x by omega)
  obtain ⟨t, ht⟩ := Int.eq_ofNat_of_zero_le (show 0 ≤ s.top by omega)
  obtain ⟨b, hb⟩ := Int.eq_ofNat_of_zero_le (show 0 ≤ s.bottom by omega)
  have e1 : s.y.toNat = y := by omega
  have e2 : s.x.toNat = x := by omega
  have e3 : s.grid.width.toNat = w := by omega
  have e4 : s.top.toNat = t := by omega
  have e5 : s.bottom.toNat = b := by omega
  have hrw : r * w ≤ 6 * 12 := Nat.mul_le_mul h1.2 h2.2
  have hi : s.y * s.grid.width = ((y * w : Nat) : Int) := by rw [hy, h4]; exact (Int.natCast_mul _ _).symm
  have hyw : (y + 1) * w = y * w + w := Nat.succ_mul y w
  have hi1 : (s.y + 1) * s.grid.width = ((y * w : Nat) : Int) + w := by rw [Int.add_mul, Int.one_mul, hi, h4]
  have hle := mul_lt_le (w := w) (show y + 1 ≤ r by omega)
  have hle2 := mul_lt_le (w := w) (show b + 1 ≤ r by omega)
  obtain ⟨mm, hm5, hbm⟩ := h.mult
  have hm := gridShift s.grid.cells s.grid.back s.grid.rows w s.attr (by omega) y x (-(min n 12)) (by omega) (by omega) (by omega) (by omega) (by omega)
  have k1 := mvL_cap (l := (s.grid.cells.drop (y * w + x)).take (w - x)) (n := n) (a := s.attr) (q := 12) (by simp only [List.length_take]; omega) (by omega) (by omega)
  rw [show ((12 : Nat) : Int) = 12 from rfl] at k1
  rw [← mv_shift (by omega) (by omega), k1.2, mv_shift (by omega) (by omega)] at hm
  have hl : (over s.grid.cells (y * w) (shR ((s.grid.cells.drop (y * w)).take w) x w (-n) s.attr)).length = s.grid.cells.length := by
    unfold over
    simp only [List.length_append, List.length_take, List.length_drop, shR_len]; omega
  clear k1
  unfold shC
  rw [e1, e2, e3]
  refine .ofC hS _ _ _ Tryz.func258 ?_
  conv => whnf
  repeat' (first|refine Seal.mk ?_|(refine wS ?_;(conv=>whnf);fail_if_success show False)|((first|refine opsA_step ?_|refine drawS_go ?_|refine wD (id:=24) (.quick 0 (.quick 1 (.quick 2 (.quick 3 (.quick 4 (.quick 5 (.quick 7 (.quick 8 (.quick 9 (.quick 11 (.quick 12 (.quick 13 (.quick 14 (.quick 15 (.quick 16 (.read 6 (.read 10 (.read 17 (.all (.step 18 .done)))))))))))))))))))) [18] (by kernel_rfl) rfl ?_|apply wL (hm));conv=>whnf)|(intro _;first|omega|conv=>whnf)|(apply And.intro<;>intro _<;>first|omega|conv=>whnf)|((first|refine aLI13 ?_|refine oLI13 ?_|refine ⟨_,rfl,?_⟩|refine ⟨_,⟨rfl,rfl⟩,?_⟩|refine ⟨_,⟨rfl,rfl,leafI13⟩,?_⟩);conv=>whnf)|with_reducible assumption|exact lfI13|fail)
  all_goals (first | contradiction | (exfalso; omega) | (refine ⟨(),⟨⟩,?_⟩;exact fzI13))
theorem sClearL0 (s : Scr) (r w : Nat) (h : OkS s r w) (c first n : Int) (hn : 1 ≤ n ∧ n ≤ 99999) (hc : c = 76) (hr0 : ¬ (s.top ≤ s.y ∧ s.y ≤ s.bottom)) : CallA S 258 [.ptr (.loc 0) 20 none 0, .int .i64 c, .int .i64 n, .int .i64 first] ⟨[⟨.loc 0, true, .raw (scrC (.loc 1) (.loc 2) (.loc 3) (.loc 4) s)⟩, ⟨.loc 1, true, .arr pairE s.grid.cells⟩, ⟨.loc 2, true, .arr pairE s.grid.back⟩], 5⟩ (Ret1 (.tup []) ⟨[⟨.loc 0, true, .raw (scrC (.loc 1) (.loc 5) (.loc 3) (.loc 4) (linesM s (-n) : Scr))⟩, ⟨.loc 1, true, .arr pairE (linesM s (-n) : Scr).grid.cells⟩, ⟨.loc 5, true, .arr pairE (linesM s (-n) : Scr).grid.back⟩], 6⟩) := by
  have hh := h
  obtain ⟨h1, h2, h3, h4, h5, h6, h7, h8, h9, h10, h11, _⟩ := hh
  obtain ⟨y, hy⟩ := Int.eq_ofNat_of_zero_le (show 0 ≤ s.y by omega)
  obtain ⟨x, hx⟩ := Int.eq_ofNat_of_zero_le (show 0 ≤ s.x by omega)
  obtain ⟨t, ht⟩ := Int.eq_ofNat_of_zero_le (show 0 ≤ s.top by omega)
  obtain ⟨b, hb⟩ := Int.eq_ofNat_of_zero_le (show 0 ≤ s.bottom by omega)
  have e1 : s.y.toNat = y := by omega
  have e2 : s.x.toNat = x := by omega
  have e3 : s.grid.width.toNat = w := by omega
  have e4 : s.top.toNat = t := by omega
  have e5 : s.bottom.toNat = b := by omega
  have hrw : r * w ≤ 6 * 12 := Nat.mul_le_mul h1.2 h2.2
  have hi : s.y * s.grid.width = ((y * w : Nat) : Int) := by rw [hy, h4]; exact (Int.natCast_mul _ _).symm
  have hyw : (y + 1) * w = y * w + w := Nat.succ_mul y w
  have hi1 : (s.y + 1) * s.grid.width = ((y * w : Nat) : Int) + w := by rw [Int.add_mul, Int.one_mul, hi, h4]
  have hle := mul_lt_le (w := w) (show y + 1 ≤ r by omega)
  have hle2 := mul_lt_le (w := w) (show b + 1 ≤ r by omega)
  obtain ⟨mm, hm5, hbm⟩ := h.mult
  have hin := sIn s
  have e : linesM s (-n) = s := by unfold linesM; rw [if_neg hr0]
  rw [e]
  refine .ofC hS _ _ _ Tryz.func258 ?_
  conv => whnf
  repeat' (first|refine Seal.mk ?_|(refine wS ?_;(conv=>whnf);fail_if_success show False)|((first|refine opsA_step ?_|apply wL (hin));conv=>whnf)|(intro _;first|omega|conv=>whnf)|(apply And.intro<;>intro _<;>first|omega|conv=>whnf)|((first|refine aLI13 ?_|refine oLI13 ?_|refine ⟨_,rfl,?_⟩|refine ⟨_,⟨rfl,rfl⟩,?_⟩|refine ⟨_,⟨rfl,rfl,leafI13⟩,?_⟩);conv=>whnf)|with_reducible assumption|exact lfI13|fail)
  all_goals (first | contradiction | (exfalso; omega) | (refine ⟨(),⟨⟩,?_⟩;exact fzI13))
theorem sClearL1 (s : Scr) (r w : Nat) (h : OkS s r w) (c first n : Int) (hn : 1 ≤ n ∧ n ≤ 99999) (hc : c = 76) (hr0 : s.top ≤ s.y) (hr1 : s.y ≤ s.bottom) : CallA S 258 [.ptr (.loc 0) 20 none 0, .int .i64 c, .int .i64 n, .int .i64 first] ⟨[⟨.loc 0, true, .raw (scrC (.loc 1) (.loc 2) (.loc 3) (.loc 4) s)⟩, ⟨.loc 1, true, .arr pairE s.grid.cells⟩, ⟨.loc 2, true, .arr pairE s.grid.back⟩], 5⟩ (Ret1 (.tup []) ⟨[⟨.loc 0, true, .raw (scrC (.loc 1) (.loc 5) (.loc 3) (.loc 4) (linesM s (-n) : Scr))⟩, ⟨.loc 1, true, .arr pairE (linesM s (-n) : Scr).grid.cells⟩, ⟨.loc 5, true, .arr pairE (linesM s (-n) : Scr).grid.back⟩], 6⟩) := by
  have hh := h
  obtain ⟨h1, h2, h3, h4, h5, h6, h7, h8, h9, h10, h11, _⟩ := hh
  obtain ⟨y, hy⟩ := Int.eq_ofNat_of_zero_le (show 0 ≤ s.y by omega)
  obtain ⟨x, hx⟩ := Int.eq_ofNat_of_zero_le (show 0 ≤ s.x by omega)
  obtain ⟨t, ht⟩ := Int.eq_ofNat_of_zero_le (show 0 ≤ s.top by omega)
  obtain ⟨b, hb⟩ := Int.eq_ofNat_of_zero_le (show 0 ≤ s.bottom by omega)
  have e1 : s.y.toNat = y := by omega
  have e2 : s.x.toNat = x := by omega
  have e3 : s.grid.width.toNat = w := by omega
  have e4 : s.top.toNat = t := by omega
  have e5 : s.bottom.toNat = b := by omega
  have hrw : r * w ≤ 6 * 12 := Nat.mul_le_mul h1.2 h2.2
  have hi : s.y * s.grid.width = ((y * w : Nat) : Int) := by rw [hy, h4]; exact (Int.natCast_mul _ _).symm
  have hyw : (y + 1) * w = y * w + w := Nat.succ_mul y w
  have hi1 : (s.y + 1) * s.grid.width = ((y * w : Nat) : Int) + w := by rw [Int.add_mul, Int.one_mul, hi, h4]
  have hle := mul_lt_le (w := w) (show y + 1 ≤ r by omega)
  have hle2 := mul_lt_le (w := w) (show b + 1 ≤ r by omega)
  obtain ⟨mm, hm5, hbm⟩ := h.mult
  have hin := sIn s
  have e : linesM s (-n) = { s with grid := { s.grid with cells := scC s.grid.cells w y b (-n) s.attr } } := by unfold linesM; rw [if_pos ⟨hr0, hr1⟩, e1, e3, e5]
  rw [e]
  have hm := gridScrollP s.grid.cells s.grid.back s.grid.rows w y b mm s.attr (-(min n 9)) (by omega) (by omega) (by omega) (by omega) (by omega) hbm hm5 (by omega)
  have k1 := scC_cap (c := s.grid.cells) (w := w) (t := y) (b := b) (n := n) (a := s.attr) (q := 9) (by omega) (by omega)
  rw [show ((9 : Nat) : Int) = 9 from rfl] at k1
  rw [k1.2] at hm
  have hl := scC_len (c := s.grid.cells) (w := w) (t := y) (b := b) (n := (-n)) (a := s.attr) (by omega) (by omega)
  clear k1
  refine .ofC hS _ _ _ Tryz.func258 ?_
  conv => whnf
  repeat' (first|refine Seal.mk ?_|(refine wS ?_;(conv=>whnf);fail_if_success show False)|((first|refine opsA_step ?_|refine drawS_go ?_|refine wD (id:=15) (.quick 0 (.quick 1 (.quick 2 (.quick 3 (.quick 4 (.quick 5 (.quick 7 (.quick 8 (.quick 9 (.quick 11 (.quick 12 (.quick 13 (.quick 14 (.read 6 (.read 10 (.read 15 (.all (.step 16 .done)))))))))))))))))) [16] (by kernel_rfl) rfl ?_|apply wL (hm)|apply wL (hin));conv=>whnf)|(intro _;first|omega|conv=>whnf)|(apply And.intro<;>intro _<;>first|omega|conv=>whnf)|((first|refine aLI13 ?_|refine oLI13 ?_|refine ⟨_,rfl,?_⟩|refine ⟨_,⟨rfl,rfl⟩,?_⟩|refine ⟨_,⟨rfl,rfl,leafI13⟩,?_⟩);conv=>whnf)|with_reducible assumption|exact lfI13|fail)
  all_goals (first | contradiction | (exfalso; omega) | (refine ⟨(),⟨⟩,?_⟩;exact fzI13))
theorem sClearM0 (s : Scr) (r w : Nat) (h : OkS s r w) (c first n : Int) (hn : 1 ≤ n ∧ n ≤ 99999) (hc : c = 77) (hr0 : ¬ (s.top ≤ s.y ∧ s.y ≤ s.bottom)) : CallA S 258 [.ptr (.loc 0) 20 none 0, .int .i64 c, .int .i64 n, .int .i64 first] ⟨[⟨.loc 0, true, .raw (scrC (.loc 1) (.loc 2) (.loc 3) (.loc 4) s)⟩, ⟨.loc 1, true, .arr pairE s.grid.cells⟩, ⟨.loc 2, true, .arr pairE s.grid.back⟩], 5⟩ (Ret1 (.tup []) ⟨[⟨.loc 0, true, .raw (scrC (.loc 1) (.loc 5) (.loc 3) (.loc 4) (linesM s n : Scr))⟩, ⟨.loc 1, true, .arr pairE (linesM s n : Scr).grid.cells⟩, ⟨.loc 5, true, .arr pairE (linesM s n : Scr).grid.back⟩], 6⟩) := by
  have hh := h
  obtain ⟨h1, h2, h3, h4, h5, h6, h7, h8, h9, h10, h11, _⟩ := hh
  obtain ⟨y, hy⟩ := Int.eq_ofNat_of_zero_le (show 0 ≤ s.y by omega)
  obtain ⟨x, hx⟩ := Int.eq_ofNat_of_zero_le (show 0 ≤ s.x by omega)
  obtain ⟨t, ht⟩ := Int.eq_ofNat_of_zero_le (show 0 ≤ s.top by omega)
  obtain ⟨b, hb⟩ := Int.eq_ofNat_of_zero_le (show 0 ≤ s.bottom by omega)
  have e1 : s.y.toNat = y := by omega
  have e2 : s.x.toNat = x := by omega
  have e3 : s.grid.width.toNat = w := by omega
  have e4 : s.top.toNat = t := by omega
  have e5 : s.bottom.toNat = b := by omega
  have hrw : r * w ≤ 6 * 12 := Nat.mul_le_mul h1.2 h2.2
  have hi : s.y * s.grid.width = ((y * w : Nat) : Int) := by rw [hy, h4]; exact (Int.natCast_mul _ _).symm
  have hyw : (y + 1) * w = y * w + w := Nat.succ_mul y w
  have hi1 : (s.y + 1) * s.grid.width = ((y * w : Nat) : Int) + w := by rw [Int.add_mul, Int.one_mul, hi, h4]
  have hle := mul_lt_le (w := w) (show y + 1 ≤ r by omega)
  have hle2 := mul_lt_le (w := w) (show b + 1 ≤ r by omega)
  obtain ⟨mm, hm5, hbm⟩ := h.mult
  have hin := sIn s
  have e : linesM s n = s := by unfold linesM; rw [if_neg hr0]
  rw [e]
  refine .ofC hS _ _ _ Tryz.func258 ?_
  conv => whnf
  repeat' (first|refine Seal.mk ?_|(refine wS ?_;(conv=>whnf);fail_if_success show False)|((first|refine opsA_step ?_|apply wL (hin));conv=>whnf)|(intro _;first|omega|conv=>whnf)|(apply And.intro<;>intro _<;>first|omega|conv=>whnf)|((first|refine aLI13 ?_|refine oLI13 ?_|refine ⟨_,rfl,?_⟩|refine ⟨_,⟨rfl,rfl⟩,?_⟩|refine ⟨_,⟨rfl,rfl,leafI13⟩,?_⟩);conv=>whnf)|with_reducible assumption|exact lfI13|fail)
  all_goals (first | contradiction | (exfalso; omega) | (refine ⟨(),⟨⟩,?_⟩;exact fzI13))
theorem sClearM1 (s : Scr) (r w : Nat) (h : OkS s r w) (c first n : Int) (hn : 1 ≤ n ∧ n ≤ 99999) (hc : c = 77) (hr0 : s.top ≤ s.y) (hr1 : s.y ≤ s.bottom) : CallA S 258 [.ptr (.loc 0) 20 none 0, .int .i64 c, .int .i64 n, .int .i64 first] ⟨[⟨.loc 0, true, .raw (scrC (.loc 1) (.loc 2) (.loc 3) (.loc 4) s)⟩, ⟨.loc 1, true, .arr pairE s.grid.cells⟩, ⟨.loc 2, true, .arr pairE s.grid.back⟩], 5⟩ (Ret1 (.tup []) ⟨[⟨.loc 0, true, .raw (scrC (.loc 1) (.loc 5) (.loc 3) (.loc 4) (linesM s n : Scr))⟩, ⟨.loc 1, true, .arr pairE (linesM s n : Scr).grid.cells⟩, ⟨.loc 5, true, .arr pairE (linesM s n : Scr).grid.back⟩], 6⟩) := by
  have hh := h
  obtain ⟨h1, h2, h3, h4, h5, h6, h7, h8, h9, h10, h11, _⟩ := hh
  obtain ⟨y, hy⟩ := Int.eq_ofNat_of_zero_le (show 0 ≤ s.y by omega)
  obtain ⟨x, hx⟩ := Int.eq_ofNat_of_zero_le (show 0 ≤ s.x by omega)
  obtain ⟨t, ht⟩ := Int.eq_ofNat_of_zero_le (show 0 ≤ s.top by omega)
  obtain ⟨b, hb⟩ := Int.eq_ofNat_of_zero_le (show 0 ≤ s.bottom by omega)
  have e1 : s.y.toNat = y := by omega
  have e2 : s.x.toNat = x := by omega
  have e3 : s.grid.width.toNat = w := by omega
  have e4 : s.top.toNat = t := by omega
  have e5 : s.bottom.toNat = b := by omega
  have hrw : r * w ≤ 6 * 12 := Nat.mul_le_mul h1.2 h2.2
  have hi : s.y * s.grid.width = ((y * w : Nat) : Int) := by rw [hy, h4]; exact (Int.natCast_mul _ _).symm
  have hyw : (y + 1) * w = y * w + w := Nat.succ_mul y w
  have hi1 : (s.y + 1) * s.grid.width = ((y * w : Nat) : Int) + w := by rw [Int.add_mul, Int.one_mul, hi, h4]
  have hle := mul_lt_le (w := w) (show y + 1 ≤ r by omega)
  have hle2 := mul_lt_le (w := w) (show b + 1 ≤ r by omega)
  obtain ⟨mm, hm5, hbm⟩ := h.mult
  have hin := sIn s
  have e : linesM s n = { s with grid := { s.grid with cells := scC s.grid.cells w y b n s.attr } } := by unfold linesM; rw [if_pos ⟨hr0, hr1⟩, e1, e3, e5]
  rw [e]
  have hm := gridScrollP s.grid.cells s.grid.back s.grid.rows w y b mm s.attr (min n 9) (by omega) (by omega) (by omega) (by omega) (by omega) hbm hm5 (by omega)
  have k1 := scC_cap (c := s.grid.cells) (w := w) (t := y) (b := b) (n := n) (a := s.attr) (q := 9) (by omega) (by omega)
  rw [show ((9 : Nat) : Int) = 9 from rfl] at k1
  rw [k1.1] at hm
  have hl := scC_len (c := s.grid.cells) (w := w) (t := y) (b := b) (n := n) (a := s.attr) (by omega) (by omega)
  clear k1
  refine .ofC hS _ _ _ Tryz.func258 ?_
  conv => whnf
  repeat' (first|refine Seal.mk ?_|(refine wS ?_;(conv=>whnf);fail_if_success show False)|((first|refine opsA_step ?_|refine drawS_go ?_|refine wD (id:=15) (.quick 0 (.quick 1 (.quick 2 (.quick 3 (.quick 4 (.quick 5 (.quick 7 (.quick 8 (.quick 9 (.quick 11 (.quick 12 (.quick 13 (.quick 14 (.read 6 (.read 10 (.read 15 (.all (.step 16 .done)))))))))))))))))) [16] (by kernel_rfl) rfl ?_|apply wL (hm)|apply wL (hin));conv=>whnf)|(intro _;first|omega|conv=>whnf)|(apply And.intro<;>intro _<;>first|omega|conv=>whnf)|((first|refine aLI13 ?_|refine oLI13 ?_|refine ⟨_,rfl,?_⟩|refine ⟨_,⟨rfl,rfl⟩,?_⟩|refine ⟨_,⟨rfl,rfl,leafI13⟩,?_⟩);conv=>whnf)|with_reducible assumption|exact lfI13|fail)
  all_goals (first | contradiction | (exfalso; omega) | (refine ⟨(),⟨⟩,?_⟩;exact fzI13))
theorem sCleared (s : Scr) (r w : Nat) (h : OkS s r w) (c first n : Int) (hn : 1 ≤ n ∧ n ≤ 99999) (hcc : c = 74 ∨ c = 75 ∨ c = 88 ∨ c = 76 ∨ c = 77 ∨ c = 83 ∨ c = 84 ∨ c = 64 ∨ c = 80) : CallA S 258 [.ptr (.loc 0) 20 none 0, .int .i64 c, .int .i64 n, .int .i64 first] ⟨[⟨.loc 0, true, .raw (scrC (.loc 1) (.loc 2) (.loc 3) (.loc 4) s)⟩, ⟨.loc 1, true, .arr pairE s.grid.cells⟩, ⟨.loc 2, true, .arr pairE s.grid.back⟩], 5⟩ (Ret1 (.tup []) ⟨[⟨.loc 0, true, .raw (scrC (.loc 1) (.loc 5) (.loc 3) (.loc 4) (editsM s c first n : Scr))⟩, ⟨.loc 1, true, .arr pairE (editsM s c first n : Scr).grid.cells⟩, ⟨.loc 5, true, .arr pairE (editsM s c first n : Scr).grid.back⟩], 6⟩) := by
  by_cases c0 : c = 74
  · have e : editsM s c first n = wipeM s first 0 s.grid.cells.length := by unfold editsM; rw [if_pos c0]
    rw [e]
    exact sClear0 s r w h c first n hn c0
  by_cases c1 : c = 75
  · have e : editsM s c first n = wipeM s first (s.y.toNat * s.grid.width.toNat) ((s.y.toNat * s.grid.width.toNat) + s.grid.width.toNat) := by unfold editsM; rw [if_neg c0, if_pos c1]
    rw [e]
    exact sClear1 s r w h c first n hn c1
  by_cases c2 : c = 88
  · have e : editsM s c first n = { s with grid := { s.grid with cells := erC s.grid.cells ((s.y.toNat * s.grid.width.toNat) + s.x.toNat) ((s.y.toNat * s.grid.width.toNat) + min s.grid.width.toNat (s.x.toNat + n.toNat)) s.attr } } := by unfold editsM; rw [if_neg c0, if_neg c1, if_pos c2]
    rw [e]
    exact sClear2 s r w h c first n hn c2
  by_cases c3 : c = 76
  · have e : editsM s c first n = linesM s (-n) := by unfold editsM; rw [if_neg c0, if_neg c1, if_neg c2, if_pos c3]
    rw [e]
    by_cases hr0 : s.top ≤ s.y ∧ s.y ≤ s.bottom
    · exact sClearL1 s r w h c first n hn c3 hr0.1 hr0.2
    · exact sClearL0 s r w h c first n hn c3 hr0
  by_cases c4 : c = 77
  · have e : editsM s c first n = linesM s n := by unfold editsM; rw [if_neg c0, if_neg c1, if_neg c2, if_neg c3, if_pos c4]
    rw [e]
    by_cases hr0 : s.top ≤ s.y ∧ s.y ≤ s.bottom
    · exact sClearM1 s r w h c first n hn c4 hr0.1 hr0.2
    · exact sClearM0 s r w h c first n hn c4 hr0
  by_cases c5 : c = 83
  · have e : editsM s c first n = { s with grid := gridM s s.top.toNat s.bottom.toNat n } := by unfold editsM; rw [if_neg c0, if_neg c1, if_neg c2, if_neg c3, if_neg c4, if_pos c5]
    rw [e]
    exact sClear3 s r w h c first n hn c5
  by_cases c6 : c = 84
  · have e : editsM s c first n = { s with grid := gridM s s.top.toNat s.bottom.toNat (-n) } := by unfold editsM; rw [if_neg c0, if_neg c1, if_neg c2, if_neg c3, if_neg c4, if_neg c5, if_pos c6]
    rw [e]
    exact sClear4 s r w h c first n hn c6
  by_cases c7 : c = 64
  · have e : editsM s c first n = { s with grid := { s.grid with cells := shC s n } } := by unfold editsM; rw [if_neg c0, if_neg c1, if_neg c2, if_neg c3, if_neg c4, if_neg c5, if_neg c6, if_pos c7]
    rw [e]
    exact sClear5 s r w h c first n hn c7
  by_cases c8 : c = 80
  · have e : editsM s c first n = { s with grid := { s.grid with cells := shC s (-n) } } := by unfold editsM; rw [if_neg c0, if_neg c1, if_neg c2, if_neg c3, if_neg c4, if_neg c5, if_neg c6, if_neg c7, if_pos c8]
    rw [e]
    exact sClear6 s r w h c first n hn c8
  exfalso; omega
end Go.Mu
