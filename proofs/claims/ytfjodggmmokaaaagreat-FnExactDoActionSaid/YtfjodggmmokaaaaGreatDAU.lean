/- Grids, as the reference erases and shifts them. -/
import Derived.Test.YtfjodggmmokaaaaGreatDAK
import Derived.Test.YtfjodggmmokaaaaGreatDAT
set_option linter.unusedSimpArgs false
set_option linter.unusedVariables false
set_option linter.constructorNameAsVariable false
namespace Go.Mu
open Go Go.Vm Go.RowKit Go.Proofs
attribute [local irreducible] wpA opsA stillA drawA drawS
set_option maxRecDepth 20000
set_option maxHeartbeats 40000000
def erC (c : Cs) (f t : Nat) (a : Int) : Cs := c.take f ++ (List.replicate (t - f) (bl a) ++ c.drop t)
theorem erC_zero (c : Cs) (f : Nat) (a : Int) : erC c f (f + 0) a = c := by unfold erC; simp
theorem erC_len {c : Cs} {f t : Nat} {a : Int} (h : f ≤ t) (ht : t ≤ c.length) : (erC c f t a).length = c.length := by
  unfold erC
  simp only [List.length_append, List.length_take, List.length_replicate, List.length_drop]; omega
theorem erC_step {c : Cs} {f k : Nat} {a : Int} (ht : f + k < c.length) : (erC c f (f + k) a).set ((f : Int) + k).toNat (32, a) = erC c f (f + (k + 1)) a := by
  have e : ((f : Int) + k).toNat = f + k := by omega
  rw [e]
  unfold erC
  rw [show f + k - f = k by omega, show f + (k + 1) - f = k + 1 by omega, ← List.append_assoc, List.set_append, if_neg (by simp only [List.length_append, List.length_take, List.length_replicate]; omega)]
  rw [show f + k - (c.take f ++ List.replicate k (bl a)).length = 0 by simp only [List.length_append, List.length_take, List.length_replicate]; omega, List.drop_eq_getElem_cons ht, List.set_cons_zero, List.replicate_succ', List.append_assoc, List.append_assoc]
  rfl
def shF (row : Cs) (x w : Nat) (n a : Int) (i : Nat) : Int × Int := if i < x then row.getD i pairE.d else if (x : Int) ≤ (i : Int) - n ∧ (i : Int) - n ≤ (w : Int) - 1 then row.getD ((i : Int) - n).toNat pairE.d else bl a
def shR (row : Cs) (x w : Nat) (n a : Int) : Cs := mks (shF row x w n a) w
theorem shF_lt {row : Cs} {x w : Nat} {n a : Int} {i : Nat} (h : i < x) : shF row x w n a i = row.getD i pairE.d := by unfold shF; rw [if_pos h]
theorem shF_in {row : Cs} {x w : Nat} {n a : Int} {i : Nat} (h : ¬ i < x) (h2 : (x : Int) ≤ (i : Int) - n ∧ (i : Int) - n ≤ (w : Int) - 1) : shF row x w n a i = row.getD ((i : Int) - n).toNat pairE.d := by unfold shF; rw [if_neg h, if_pos h2]
theorem shF_out {row : Cs} {x w : Nat} {n a : Int} {i : Nat} (h : ¬ i < x) (h2 : ¬ ((x : Int) ≤ (i : Int) - n ∧ (i : Int) - n ≤ (w : Int) - 1)) : shF row x w n a i = bl a := by unfold shF; rw [if_neg h, if_neg h2]
theorem shR_len (row : Cs) (x w : Nat) (n a : Int) : (shR row x w n a).length = w := mks_len _ _
def shL (row : Cs) (x w : Nat) (n a : Int) (i : Nat) : Cs := mks (shF row x w n a) i ++ row.drop i
theorem shL_zero {row : Cs} {x w : Nat} {n a : Int} (h : x ≤ row.length) : shL row x w n a x = row := by
  have e : mks (shF row x w n a) x = row.take x := by
    apply List.ext_getElem
    · rw [mks_len, List.length_take]; omega
    · intro i h1 h2
      rw [mks_len] at h1
      simp only [mks, List.getElem_map, List.getElem_range, List.getElem_take]
      rw [shF_lt h1]
      simp [List.getD_eq_getElem?_getD, show i < row.length by omega]
  unfold shL
  rw [e, List.take_append_drop]
theorem shL_len {row : Cs} {x w : Nat} {n a : Int} {i : Nat} (h : i ≤ row.length) : (shL row x w n a i).length = row.length := by
  unfold shL
  rw [List.length_append, mks_len, List.length_drop]; omega
theorem shL_step {row : Cs} {x w : Nat} {n a : Int} {i : Nat} {v : Int × Int} (h : i < row.length) (hv : v = shF row x w n a i) : (shL row x w n a i).set (i : Int).toNat v = shL row x w n a (i + 1) := by
  subst hv
  exact mks_set h
theorem shL_end {row : Cs} {x w : Nat} {n a : Int} (h : row.length = w) : shL row x w n a w = shR row x w n a := by
  unfold shL shR
  rw [List.drop_eq_nil_of_le (by omega), List.append_nil]
theorem l3Erase (c bk : Cs) (gr : Int) (w : Nat) (a : Int) (hc' : c.length ≤ 4096) (f t : Nat) (hf : f ≤ t) (ht : t ≤ c.length) : CallA S 313 [.ptr (.loc 0) 4 none 0, .int .i64 f, .int .i64 t, .int .i64 a] ⟨[⟨.loc 0, false, .raw [.int .i64 gr, .int .i64 w, .sl (.loc 1) 2 none c.length, .sl (.loc 2) 2 none bk.length]⟩, ⟨.loc 1, true, .arr pairE c⟩], 3⟩ (Ret1 (.tup []) ⟨[⟨.loc 1, true, .arr pairE (erC c f t a)⟩], 3⟩) := by
  refine .ofC hS _ _ _ Tryz.func313 ?_
  conv => whnf
  repeat' (first|refine Seal.mk ?_|(refine wS ?_;(conv=>whnf);fail_if_success show False)|((first|refine opsA_step ?_);conv=>whnf)|(intro _;first|omega|conv=>whnf)|(apply And.intro<;>intro _<;>first|omega|conv=>whnf)|((first|refine aLQ ?_|refine oLQ ?_|refine ⟨_,rfl,?_⟩|refine ⟨_,⟨rfl,rfl⟩,?_⟩|refine ⟨_,⟨rfl,rfl,leafQ⟩,?_⟩);conv=>whnf)|with_reducible assumption|exact lfQ|fail)
  refine .loop hS (γ := Nat) (fun k => ⟨[(0, .ptr (.loc 0) 4 none 0), (2, .int .i64 t), (3, .int .i64 a), (8, .int .i64 ((f : Int) + k))], ⟨[⟨.loc 0, false, .raw [.int .i64 gr, .int .i64 w, .sl (.loc 1) 2 none c.length, .sl (.loc 2) 2 none bk.length]⟩, ⟨.loc 1, true, .arr pairE (erC c f (f + k) a)⟩], 3⟩, 23, 3⟩) (fun k => k ≤ t - f) (fun k => t - f - k) 0 (by omega) ?_ ?_
  · have h0 := erC_zero c f a
    have h0' := h0.symm
    have h1 : (erC c f (f + 0) a).length = c.length := by rw [h0]
    ((try dsimp only);exact fzQ)
  · intro k hk
    have hl := erC_len (c := c) (f := f) (t := f + k) (a := a) (by omega) (by omega)
    conv => whnf
    by_cases hgo : k < t - f
    · have hst := erC_step (c := c) (f := f) (k := k) (a := a) (by omega)
      have hl1 := erC_len (c := c) (f := f) (t := f + (k + 1)) (a := a) (by omega) (by omega)
      repeat' (first|refine Seal.mk ?_|(refine wS ?_;(conv=>whnf);fail_if_success show False)|((first|refine opsA_step ?_);conv=>whnf)|(intro _;first|omega|conv=>whnf)|(apply And.intro<;>intro _<;>first|omega|conv=>whnf)|((first|refine aLQ ?_|refine oLQ ?_|refine ⟨_,rfl,?_⟩|refine ⟨_,⟨rfl,rfl⟩,?_⟩|refine ⟨_,⟨rfl,rfl,leafQ⟩,?_⟩);conv=>whnf)|with_reducible assumption|exact lfQ|fail)
      refine ⟨k + 1, ⟨by omega, by omega⟩, ?_⟩
      ((try dsimp only);exact fzQ)
    · have hke : f + k = t := by omega
      rw [hke]
      repeat' (first|refine Seal.mk ?_|(refine wS ?_;(conv=>whnf);fail_if_success show False)|((first|refine opsA_step ?_);conv=>whnf)|(intro _;first|omega|conv=>whnf)|(apply And.intro<;>intro _<;>first|omega|conv=>whnf)|((first|refine aLQ ?_|refine oLQ ?_|refine ⟨_,rfl,?_⟩|refine ⟨_,⟨rfl,rfl⟩,?_⟩|refine ⟨_,⟨rfl,rfl,leafQ⟩,?_⟩);conv=>whnf)|with_reducible assumption|exact lfQ|fail)
      (refine ⟨(),⟨⟩,?_⟩;exact fzQ)
theorem l3Shift (c bk : Cs) (gr : Int) (w : Nat) (a : Int) (hc' : c.length ≤ 4096) (y x : Nat) (n : Int) (hw : 1 ≤ w ∧ w ≤ 12) (hyb : y ≤ 5) (hy : (y + 1) * w ≤ c.length) (hx : x ≤ w) (hn : -100000 ≤ n ∧ n ≤ 100000) : CallA S 216 [.ptr (.loc 0) 4 none 0, .int .i64 y, .int .i64 x, .int .i64 n, .int .i64 a] ⟨[⟨.loc 0, false, .raw [.int .i64 gr, .int .i64 w, .sl (.loc 1) 2 none c.length, .sl (.loc 2) 2 none bk.length]⟩, ⟨.loc 1, true, .arr pairE c⟩], 3⟩ (Ret1 (.tup []) ⟨[⟨.loc 1, true, .arr pairE (over c (y * w) (shR ((c.drop (y * w)).take w) x w n a))⟩], 3⟩) := by
  have hyw : (y + 1) * w = y * w + w := Nat.succ_mul y w
  have hrl : ((c.drop (y * w)).take w).length = w := by simp only [List.length_take, List.length_drop]; omega
  have hc1 := l3RowOf c bk gr w y (by omega) hy hc'
  have hc2 := l3RowG c (shR ((c.drop (y * w)).take w) x w n a) bk gr w y (by omega) (shR_len _ _ _ _ _) hy hc'
  have hol : (over c (y * w) (shR ((c.drop (y * w)).take w) x w n a)).length = c.length := by
    unfold over
    simp only [List.length_append, List.length_take, List.length_drop, shR_len]; omega
  generalize ((c.drop (y * w)).take w) = row at *
  have hsl := shR_len row x w n a
  refine .ofC hS _ _ _ Tryz.func216 ?_
  conv => whnf
  repeat' (first|refine Seal.mk ?_|(refine wS ?_;(conv=>whnf);fail_if_success show False)|((first|refine opsA_step ?_|apply wL (hc1));conv=>whnf)|(intro _;first|omega|conv=>whnf)|(apply And.intro<;>intro _<;>first|omega|conv=>whnf)|((first|refine aLQ ?_|refine oLQ ?_|apply Roads.one|refine ⟨_,rfl,?_⟩|refine ⟨_,⟨rfl,rfl⟩,?_⟩|refine ⟨_,⟨rfl,rfl,leafQ⟩,?_⟩);conv=>whnf)|with_reducible assumption|exact lfQ|fail)
  refine .loop hS (γ := Nat) (fun i => ⟨[(0, .ptr (.loc 0) 4 none 0), (1, .int .i64 y), (2, .int .i64 x), (3, .int .i64 n), (4, .int .i64 a), (10, .sl (.loc 3) 2 none w), (11, .sl (.loc 4) 2 none w), (12, .int .i64 i)], ⟨[⟨.loc 0, false, .raw [.int .i64 gr, .int .i64 w, .sl (.loc 1) 2 none c.length, .sl (.loc 2) 2 none bk.length]⟩, ⟨.loc 1, true, .arr pairE c⟩, ⟨.loc 3, true, .arr pairE row⟩, ⟨.loc 4, true, .arr pairE (shL row x w n a i)⟩], 5⟩, 56, 3⟩) (fun i => x ≤ i ∧ i ≤ w) (fun i => w - i) x ⟨by omega, hx⟩ ?_ ?_
  · have h0 := shL_zero (row := row) (x := x) (w := w) (n := n) (a := a) (by omega)
    have h1 : [] ++ List.take (w : Int).toNat row = shL row x w n a x := by rw [h0, Int.toNat_natCast, List.nil_append, List.take_of_length_le (by omega)]
    have h2 : ([] : Cs).length + (List.take (w : Int).toNat row).length = w := by rw [Int.toNat_natCast, List.take_of_length_le (by omega)]; simp; omega
    ((try dsimp only);exact fzQ)
  · intro i hi
    obtain ⟨hi, hi'⟩ := hi
    have hl := shL_len (row := row) (x := x) (w := w) (n := n) (a := a) (i := i) (by omega)
    conv => whnf
    by_cases hgo : i < w
    · have hl1 := shL_len (row := row) (x := x) (w := w) (n := n) (a := a) (i := i + 1) (by omega)
      by_cases hin : (x : Int) ≤ (i : Int) - n ∧ (i : Int) - n ≤ (w : Int) - 1
      · have hv := shF_in (row := row) (a := a) (by omega : ¬ i < x) hin
        have hst := shL_step (row := row) (x := x) (w := w) (n := n) (a := a) (i := i) (by omega) hv.symm
        repeat' (first|refine Seal.mk ?_|(refine wS ?_;(conv=>whnf);fail_if_success show False)|((first|refine opsA_step ?_|apply wL (l1In _ _ _));conv=>whnf)|(intro _;first|omega|conv=>whnf)|(apply And.intro<;>intro _<;>first|omega|conv=>whnf)|((first|refine aLQ ?_|refine oLQ ?_|apply Roads.one|refine ⟨_,rfl,?_⟩|refine ⟨_,⟨rfl,rfl⟩,?_⟩|refine ⟨_,⟨rfl,rfl,leafQ⟩,?_⟩);conv=>whnf)|with_reducible assumption|exact lfQ|fail)
        all_goals (first | (exfalso; omega) | (refine ⟨i + 1, ⟨by omega, by omega⟩, ?_⟩; ((try dsimp only);exact fzQ)))
      · have hv := shF_out (row := row) (a := a) (by omega : ¬ i < x) hin
        have hst := shL_step (row := row) (x := x) (w := w) (n := n) (a := a) (i := i) (v := (32, a)) (by omega) hv.symm
        repeat' (first|refine Seal.mk ?_|(refine wS ?_;(conv=>whnf);fail_if_success show False)|((first|refine opsA_step ?_|apply wL (l1In _ _ _));conv=>whnf)|(intro _;first|omega|conv=>whnf)|(apply And.intro<;>intro _<;>first|omega|conv=>whnf)|((first|refine aLQ ?_|refine oLQ ?_|apply Roads.one|refine ⟨_,rfl,?_⟩|refine ⟨_,⟨rfl,rfl⟩,?_⟩|refine ⟨_,⟨rfl,rfl,leafQ⟩,?_⟩);conv=>whnf)|with_reducible assumption|exact lfQ|fail)
        all_goals (first | (exfalso; omega) | (refine ⟨i + 1, ⟨by omega, by omega⟩, ?_⟩; ((try dsimp only);exact fzQ)))
    · have hie : i = w := by omega
      subst hie
      have hen := shL_end (row := row) (x := x) (n := n) (a := a) hrl
      rw [hen]
      repeat' (first|refine Seal.mk ?_|(refine wS ?_;(conv=>whnf);fail_if_success show False)|((first|refine opsA_step ?_|apply wL (hc2));conv=>whnf)|(intro _;first|omega|conv=>whnf)|(apply And.intro<;>intro _<;>first|omega|conv=>whnf)|((first|refine aLQ ?_|refine oLQ ?_|apply Roads.one|refine ⟨_,rfl,?_⟩|refine ⟨_,⟨rfl,rfl⟩,?_⟩|refine ⟨_,⟨rfl,rfl,leafQ⟩,?_⟩);conv=>whnf)|with_reducible assumption|exact lfQ|fail)
      all_goals (refine ⟨(),⟨⟩,?_⟩;exact fzQ)
end Go.Mu

namespace Go.Mu
open Go Go.Vm Go.RowKit Go.Proofs
set_option maxRecDepth 20000
set_option maxHeartbeats 4000000
def mvL (l : Cs) (n a : Int) : Cs := if 0 < n then (List.replicate (min n.toNat l.length) (bl a) ++ l).take l.length else (l ++ List.replicate (min (-n).toNat l.length) (bl a)).drop (min (-n).toNat l.length)
theorem mvL_len (l : Cs) (n a : Int) : (mvL l n a).length = l.length := by
  unfold mvL
  split
  · simp only [List.length_take, List.length_append, List.length_replicate]; omega
  · simp only [List.length_drop, List.length_append, List.length_replicate]; omega
theorem mvL_up {l : Cs} {k : Nat} {n a : Int} (hn : ¬ 0 < n) (hk : min (-n).toNat l.length = k) : mvL l n a = l.drop k ++ List.replicate k (bl a) := by
  unfold mvL
  rw [if_neg hn, hk, List.drop_append_of_le_length (by omega)]
theorem mvL_dn {l : Cs} {k : Nat} {n a : Int} (hn : 0 < n) (hk : min n.toNat l.length = k) : mvL l n a = List.replicate k (bl a) ++ l.take (l.length - k) := by
  unfold mvL
  rw [if_pos hn, hk, List.take_append, List.take_of_length_le (by rw [List.length_replicate]; omega), List.length_replicate]
theorem min_mul {n m w : Nat} : min (n * w) (m * w) = min n m * w := (Nat.mul_min_mul_right n m w)
theorem rows_len {c : Cs} {w t b : Nat} (htb : t ≤ b) (hc : (b + 1) * w ≤ c.length) : ((c.drop (t * w)).take ((b + 1 - t) * w)).length = (b + 1 - t) * w := by
  have h1 : (b + 1 - t) * w + t * w = (b + 1) * w := by rw [← Nat.add_mul]; congr 1; omega
  simp only [List.length_take, List.length_drop]; omega
theorem mv_up {c : Cs} {w t b k : Nat} {n a : Int} (htb : t ≤ b) (hc : (b + 1) * w ≤ c.length) (hn : 0 ≤ n) (hk : k = min n.toNat (b + 1 - t)) :
    over c (t * w) (mvL ((c.drop (t * w)).take ((b + 1 - t) * w)) (-n * w) a) = upK c w t b k a := by
  have hl := rows_len htb hc
  obtain ⟨m, rfl⟩ := Int.eq_ofNat_of_zero_le hn
  rw [Int.toNat_natCast] at hk
  have e1 : -(m : Int) * w = -((m * w : Nat) : Int) := by rw [Int.neg_mul, Int.natCast_mul]
  have h1 : (b + 1 - t) * w + t * w = (b + 1) * w := by rw [← Nat.add_mul]; congr 1; omega
  have h2 : (b + 1 - t - k) * w + k * w = (b + 1 - t) * w := by rw [← Nat.add_mul]; congr 1; omega
  have h3 : (t + k) * w = t * w + k * w := Nat.add_mul t k w
  rw [e1, mvL_up (k := k * w) (by omega) (by rw [hl, Int.neg_neg, Int.toNat_natCast, min_mul, hk])]
  unfold over upK
  have e2 : (((c.drop (t * w)).take ((b + 1 - t) * w)).drop (k * w)) = (c.drop ((t + k) * w)).take ((b + 1 - t - k) * w) := by
    rw [List.drop_take, List.drop_drop, show (b + 1 - t) * w - k * w = (b + 1 - t - k) * w by omega, h3]
  rw [e2, List.append_assoc]
  congr 4
  simp only [List.length_append, List.length_take, List.length_drop, List.length_replicate]
  rw [show t * w + (min ((b + 1 - t - k) * w) (c.length - (t + k) * w) + k * w) = (b + 1) * w by omega]
theorem mv_dn {c : Cs} {w t b k : Nat} {n a : Int} (htb : t ≤ b) (hc : (b + 1) * w ≤ c.length) (hn : n ≤ 0) (hk : k = min (-n).toNat (b + 1 - t)) (hw : 1 ≤ w) :
    over c (t * w) (mvL ((c.drop (t * w)).take ((b + 1 - t) * w)) (-n * w) a) = dnK c w t b k a := by
  have hl := rows_len htb hc
  obtain ⟨m, hm⟩ := Int.eq_ofNat_of_zero_le (show 0 ≤ -n by omega)
  have hm' : (-n).toNat = m := by omega
  rw [hm'] at hk
  have e1 : -n * (w : Int) = ((m * w : Nat) : Int) := by rw [hm, Int.natCast_mul]
  have h1 : (b + 1 - t) * w + t * w = (b + 1) * w := by rw [← Nat.add_mul]; congr 1; omega
  have h2 : (b + 1 - t - k) * w + k * w = (b + 1 - t) * w := by rw [← Nat.add_mul]; congr 1; omega
  have hX : mvL ((c.drop (t * w)).take ((b + 1 - t) * w)) (-n * w) a = List.replicate (k * w) (bl a) ++ (c.drop (t * w)).take ((b + 1 - t - k) * w) := by
    rw [e1]
    by_cases h0 : m = 0
    · subst h0
      have hk0 : k = 0 := by omega
      subst hk0
      rw [mvL_up (k := 0) (by omega) (by omega)]
      simp
    · have hp : 1 ≤ m * w := Nat.mul_le_mul (show 1 ≤ m by omega) hw
      rw [mvL_dn (k := k * w) (by omega) (by rw [hl, Int.toNat_natCast, min_mul, hk]), hl, List.take_take, show min ((b + 1 - t) * w - k * w) ((b + 1 - t) * w) = (b + 1 - t - k) * w by omega]
  rw [hX]
  unfold over dnK
  rw [List.append_assoc]
  congr 4
  simp only [List.length_append, List.length_take, List.length_drop, List.length_replicate]
  rw [show t * w + (k * w + min ((b + 1 - t - k) * w) (c.length - t * w)) = (b + 1) * w by omega]
theorem mv_scC {c : Cs} {w t b : Nat} {n a : Int} (htb : t ≤ b) (hc : (b + 1) * w ≤ c.length) (hw : 1 ≤ w) : over c (t * w) (mvL ((c.drop (t * w)).take ((b + 1 - t) * w)) (-n * w) a) = scC c w t b n a := by
  unfold scC
  split
  · exact mv_up htb hc (by omega) rfl
  · exact mv_dn htb hc (by omega) rfl hw
theorem kp_scB {bk c : Cs} {w b m : Nat} {n : Int} (hm : bk.length = m * w) (hm5 : m ≤ 5) (hn : 0 < n) (hc : (b + 1) * w ≤ c.length) {g : Nat} (hg : g = min n.toNat (b + 1)) :
    (bk ++ ((c.drop (0 * w)).take ((b + 1 - 0) * w)).take (g * w)).drop ((bk ++ ((c.drop (0 * w)).take ((b + 1 - 0) * w)).take (g * w)).length - 5 * w) = scB bk c w 0 b n := by
  have hgw := mul_lt_le (w := w) (show g ≤ b + 1 by omega)
  have e : ((c.drop (0 * w)).take ((b + 1 - 0) * w)).take (g * w) = c.take (g * w) := by
    rw [Nat.zero_mul, List.drop_zero, List.take_take, Nat.sub_zero, Nat.min_eq_left hgw]
  have hl : (bk ++ c.take (g * w)).length = (m + g) * w := by
    rw [List.length_append, List.length_take, hm, Nat.add_mul]; omega
  rw [e, hl]
  unfold scB bkM
  rw [if_pos hn, if_pos rfl, Nat.sub_zero, ← hg, bkJ_eq m hm hm5 (by omega), Nat.sub_mul]
theorem scC_cap {c : Cs} {w t b : Nat} {n a : Int} {q : Nat} (hb : b + 1 - t ≤ q) (hn : 0 < n) : scC c w t b (min n q) a = scC c w t b n a ∧ scC c w t b (-(min n q)) a = scC c w t b (-n) a := by
  unfold scC
  constructor
  · by_cases hq : 0 < min n (q : Int)
    · rw [if_pos hq, if_pos hn]; congr 1; omega
    · rw [if_neg hq, if_pos hn]
      have : b + 1 - t = 0 := by omega
      rw [this, Nat.min_zero, Nat.min_zero]
      unfold upK dnK
      simp
  · rw [if_neg (by omega), if_neg (by omega)]; congr 1; omega
theorem scB_cap {bk c : Cs} {w t b : Nat} {n : Int} {q : Nat} (hb : b + 1 - t ≤ q) (hq : 0 < q) (hn : 0 < n) : scB bk c w t b (min n q) = scB bk c w t b n ∧ scB bk c w t b (-(min n q)) = scB bk c w t b (-n) := by
  unfold scB
  constructor
  · rw [if_pos (by omega), if_pos hn]; congr 1; omega
  · rw [if_neg (by omega), if_neg (by omega)]
theorem mvL_cap {l : Cs} {n a : Int} {q : Nat} (hb : l.length ≤ q) (hq : 0 < q) (hn : 0 < n) : mvL l (min n q) a = mvL l n a ∧ mvL l (-(min n q)) a = mvL l (-n) a := by
  constructor
  · rw [mvL_dn (k := min n.toNat l.length) (by omega) (by omega), mvL_dn (k := min n.toNat l.length) hn rfl]
  · rw [mvL_up (k := min n.toNat l.length) (by omega) (by omega), mvL_up (k := min n.toNat l.length) (by omega) (by omega)]
theorem getD_lt {l : Cs} {i : Nat} (h : i < l.length) : l.getD i pairE.d = l[i] := by simp [List.getD_eq_getElem?_getD, h]
theorem map_get {f : Nat → Int × Int} {w i : Nat} (h : i < ((List.range w).map f).length) : ((List.range w).map f)[i] = f i := by simp
theorem shR_get {row : Cs} {x w : Nat} {n a : Int} {i : Nat} (h : i < (shR row x w n a).length) : (shR row x w n a)[i] = shF row x w n a i := map_get h
theorem mv_shift {c : Cs} {w y x : Nat} {n a : Int} (hx : x < w) (hy : (y + 1) * w ≤ c.length) :
    over c (y * w + x) (mvL ((c.drop (y * w + x)).take (w - x)) n a) = over c (y * w) (shR ((c.drop (y * w)).take w) x w n a) := by
  have h1 := Nat.add_mul y 1 w
  have hrl : ((c.drop (y * w)).take w).length = w := by simp only [List.length_take, List.length_drop]; omega
  have hll : ((c.drop (y * w + x)).take (w - x)).length = w - x := by simp only [List.length_take, List.length_drop]; omega
  have hsl := shR_len ((c.drop (y * w)).take w) x w n a
  have key : shR ((c.drop (y * w)).take w) x w n a = (c.drop (y * w)).take x ++ mvL ((c.drop (y * w + x)).take (w - x)) n a := by
    apply List.ext_getElem
    · rw [hsl, List.length_append, mvL_len, hll, List.length_take, List.length_drop]; omega
    · intro i q1 q2
      have hiw : i < w := by rw [hsl] at q1; exact q1
      rw [shR_get]
      by_cases hix : i < x
      · rw [shF_lt hix, getD_lt (by omega), List.getElem_append_left (by simp only [List.length_take, List.length_drop]; omega)]
        simp only [List.getElem_take, List.getElem_drop]
      · rw [List.getElem_append_right (by simp only [List.length_take, List.length_drop]; omega)]
        have hxl : ((c.drop (y * w)).take x).length = x := by simp only [List.length_take, List.length_drop]; omega
        simp only [hxl]
        by_cases hn : 0 < n
        · simp only [mvL_dn (a := a) hn rfl, hll]
          by_cases hin : (x : Int) ≤ (i : Int) - n ∧ (i : Int) - n ≤ (w : Int) - 1
          · rw [shF_in hix hin, getD_lt (by omega), List.getElem_append_right (by rw [List.length_replicate]; omega)]
            simp only [List.length_replicate, List.getElem_take, List.getElem_drop]
            congr 1; omega
          · rw [shF_out hix hin, List.getElem_append_left (by rw [List.length_replicate]; omega), List.getElem_replicate]
        · simp only [mvL_up (a := a) hn rfl, hll]
          by_cases hin : (x : Int) ≤ (i : Int) - n ∧ (i : Int) - n ≤ (w : Int) - 1
          · rw [shF_in hix hin, getD_lt (by omega), List.getElem_append_left (by rw [List.length_drop, hll]; omega)]
            simp only [List.getElem_take, List.getElem_drop]
            congr 1; omega
          · rw [shF_out hix hin, List.getElem_append_right (by rw [List.length_drop, hll]; omega), List.getElem_replicate]
  rw [key]
  unfold over
  rw [List.take_add, List.append_assoc, List.append_assoc]
  congr 4
  simp only [List.length_append, mvL_len, List.length_take, List.length_drop]; omega
end Go.Mu
