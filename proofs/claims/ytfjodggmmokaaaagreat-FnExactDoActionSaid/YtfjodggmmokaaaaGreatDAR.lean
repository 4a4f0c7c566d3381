/- Grids: what is said of lists of cells. -/
import Derived.Test.YtfjodggmmokaaaaGreatDAQ
import Derived.Test.YtfjodggmmokaaaaGreatDAP
set_option linter.unusedSimpArgs false
set_option linter.unusedVariables false
set_option linter.constructorNameAsVariable false
namespace Go.Mu
open Go Go.Vm Go.RowKit Go.Proofs
set_option maxRecDepth 20000
set_option maxHeartbeats 4000000
abbrev Cs := List (Int × Int)
def keepB (b row : Cs) (w : Nat) : Cs := if 5 * w < (b ++ row).length then (b ++ row).drop w else b ++ row
theorem keepB_gt {b row : Cs} {w : Nat} (h : 5 * w < (b ++ row).length) : keepB b row w = (b ++ row).drop w := by unfold keepB; rw [if_pos h]
theorem keepB_le {b row : Cs} {w : Nat} (h : ¬ 5 * w < (b ++ row).length) : keepB b row w = b ++ row := by unfold keepB; rw [if_neg h]
def upK (c : Cs) (w t b k : Nat) (a : Int) : Cs := c.take (t * w) ++ ((c.drop ((t + k) * w)).take ((b + 1 - t - k) * w) ++ (List.replicate (k * w) (bl a) ++ c.drop ((b + 1) * w)))
def dnK (c : Cs) (w t b k : Nat) (a : Int) : Cs := c.take (t * w) ++ (List.replicate (k * w) (bl a) ++ ((c.drop (t * w)).take ((b + 1 - t - k) * w) ++ c.drop ((b + 1) * w)))
def bkJ (bk c : Cs) (w : Nat) : Nat → Cs
  | 0 => bk
  | j + 1 => keepB (bkJ bk c w j) ((c.drop (j * w)).take w) w
theorem mul_lt_le {a b w : Nat} (h : a ≤ b) : a * w ≤ b * w := Nat.mul_le_mul_right _ h
theorem take_app {α : Type} {x y : List α} {n : Nat} (h : x.length = n) : (x ++ y).take n = x := by rw [List.take_append_of_le_length (by omega), List.take_of_length_le (by omega)]
theorem drop_app {α : Type} {x y : List α} {n m : Nat} (h : x.length = n) : (x ++ y).drop (n + m) = y.drop m := by
  rw [List.drop_append, List.drop_eq_nil_of_le (by omega), List.nil_append, h, show n + m - n = m by omega]
theorem drop_app0 {α : Type} {x y : List α} {n : Nat} (h : x.length = n) : (x ++ y).drop n = y := by have := drop_app (y := y) (m := 0) h; simpa using this
theorem over_app {α : Type} {x y r : List α} {n : Nat} (h : x.length = n) : over (x ++ y) n r = x ++ (r ++ y.drop r.length) := by
  unfold over
  rw [take_app h, drop_app h]
def upL (c : Cs) (w t k : Nat) : Cs := c.take (t * w) ++ ((c.drop ((t + 1) * w)).take (k * w) ++ c.drop ((t + k) * w))
theorem upL_zero (c : Cs) (w t : Nat) : upL c w t 0 = c := by unfold upL; simp
theorem upL_len {c : Cs} {w t k : Nat} (h : (t + k + 1) * w ≤ c.length) : (upL c w t k).length = c.length := by
  have h1 := Nat.add_mul t k w; have h2 := Nat.add_mul (t + k) 1 w; have h3 := Nat.add_mul t 1 w
  unfold upL
  simp only [List.length_append, List.length_take, List.length_drop]; omega
theorem upL_row {c : Cs} {w t k : Nat} (h : (t + k + 2) * w ≤ c.length) : ((upL c w t k).drop ((t + k + 1) * w)).take w = (c.drop ((t + k + 1) * w)).take w := by
  have h1 := Nat.add_mul t k w; have h2 := Nat.add_mul (t + k) 1 w; have h3 := Nat.add_mul t 1 w; have h4 := Nat.add_mul (t + k) 2 w
  unfold upL
  rw [← List.append_assoc, h2, drop_app (n := (t + k) * w) (by simp only [List.length_append, List.length_take, List.length_drop]; omega), List.drop_drop]
theorem upL_step {c : Cs} {w t k : Nat} (h : (t + k + 2) * w ≤ c.length) : over (upL c w t k) ((t + k) * w) ((c.drop ((t + k + 1) * w)).take w) = upL c w t (k + 1) := by
  have h1 := Nat.add_mul t k w; have h2 := Nat.add_mul (t + k) 1 w; have h3 := Nat.add_mul t 1 w; have h4 := Nat.add_mul (t + k) 2 w; have h5 := Nat.add_mul k 1 w
  have hr : ((c.drop ((t + k + 1) * w)).take w).length = w := by simp only [List.length_take, List.length_drop]; omega
  unfold upL
  rw [← List.append_assoc, over_app (by simp only [List.length_append, List.length_take, List.length_drop]; omega), hr, List.drop_drop, List.append_assoc]
  congr 1
  rw [h5, Nat.one_mul, List.take_add, List.drop_drop, List.append_assoc]
  congr 1
  rw [show (t + 1) * w + k * w = (t + k + 1) * w by omega, show (t + k) * w + w = (t + (k + 1)) * w by rw [← Nat.add_assoc]; omega]
theorem upL_end {c : Cs} {w t b : Nat} {a : Int} (htb : t ≤ b) (h : (b + 1) * w ≤ c.length) : over (upL c w t (b - t)) (b * w) (List.replicate w (bl a)) = upK c w t b 1 a := by
  obtain ⟨k, rfl⟩ := Nat.exists_eq_add_of_le htb
  rw [Nat.add_sub_cancel_left]
  have h1 := Nat.add_mul t k w; have h2 := Nat.add_mul (t + k) 1 w; have h3 := Nat.add_mul t 1 w
  unfold upL upK
  rw [← List.append_assoc, over_app (by simp only [List.length_append, List.length_take, List.length_drop]; omega), List.length_replicate, List.drop_drop, List.append_assoc]
  congr 1
  rw [show t + k + 1 - t - 1 = k by omega, Nat.one_mul, show (t + k) * w + w = (t + k + 1) * w by omega]
def dnL (c : Cs) (w b k : Nat) : Cs := c.take ((b + 1 - k) * w) ++ ((c.drop ((b - k) * w)).take (k * w) ++ c.drop ((b + 1) * w))
theorem dnL_zero (c : Cs) (w b : Nat) : dnL c w b 0 = c := by unfold dnL; simp
theorem dnL_len {c : Cs} {w b k : Nat} (hk : k ≤ b) (h : (b + 1) * w ≤ c.length) : (dnL c w b k).length = c.length := by
  obtain ⟨j, rfl⟩ := Nat.exists_eq_add_of_le hk
  have h1 := Nat.add_mul k j w; have h2 := Nat.add_mul (k + j) 1 w; have h3 := Nat.add_mul j 1 w
  unfold dnL
  rw [show k + j + 1 - k = j + 1 by omega, Nat.add_sub_cancel_left]
  simp only [List.length_append, List.length_take, List.length_drop]; omega
theorem dnL_row {c : Cs} {w b k : Nat} (hk : k + 1 ≤ b) (h : (b + 1) * w ≤ c.length) : ((dnL c w b k).drop ((b - k - 1) * w)).take w = (c.drop ((b - k - 1) * w)).take w := by
  obtain ⟨j, rfl⟩ := Nat.exists_eq_add_of_le hk
  have h1 := Nat.add_mul (k + 1) j w; have h2 := Nat.add_mul (k + 1 + j) 1 w; have h3 := Nat.add_mul j 1 w; have h4 := Nat.add_mul k 1 w; have h5 := Nat.add_mul j 2 w
  unfold dnL
  rw [show k + 1 + j + 1 - k = j + 2 by omega, show k + 1 + j - k - 1 = j by omega, List.drop_append_of_le_length (by simp only [List.length_take]; omega), List.take_append_of_le_length (by simp only [List.length_drop, List.length_take]; omega), List.drop_take, List.take_take, show min w ((j + 2) * w - j * w) = w by omega]
theorem dnL_step {c : Cs} {w b k : Nat} (hk : k + 1 ≤ b) (h : (b + 1) * w ≤ c.length) : over (dnL c w b k) ((b - k) * w) ((c.drop ((b - k - 1) * w)).take w) = dnL c w b (k + 1) := by
  obtain ⟨j, rfl⟩ := Nat.exists_eq_add_of_le hk
  have h1 := Nat.add_mul (k + 1) j w; have h2 := Nat.add_mul (k + 1 + j) 1 w; have h3 := Nat.add_mul j 1 w; have h4 := Nat.add_mul k 1 w; have h5 := Nat.add_mul j 2 w
  have hr : ((c.drop (j * w)).take w).length = w := by simp only [List.length_take, List.length_drop]; omega
  unfold dnL over
  rw [show k + 1 + j + 1 - k = j + 2 by omega, show k + 1 + j - k - 1 = j by omega, show k + 1 + j - k = j + 1 by omega, show k + 1 + j + 1 - (k + 1) = j + 1 by omega, show k + 1 + j - (k + 1) = j by omega, hr,
    show (j + 1) * w + w = (j + 2) * w by omega, drop_app0 (by simp only [List.length_take]; omega), List.take_append_of_le_length (by simp only [List.length_take]; omega), List.take_take, show min ((j + 1) * w) ((j + 2) * w) = (j + 1) * w by omega]
  congr 1
  rw [show (k + 1) * w = w + k * w by omega, List.take_add, List.drop_drop, List.append_assoc, show j * w + w = (j + 1) * w by omega]
theorem dnL_end {c : Cs} {w t b : Nat} {a : Int} (htb : t ≤ b) (h : (b + 1) * w ≤ c.length) : over (dnL c w b (b - t)) (t * w) (List.replicate w (bl a)) = dnK c w t b 1 a := by
  obtain ⟨k, rfl⟩ := Nat.exists_eq_add_of_le htb
  rw [Nat.add_sub_cancel_left]
  have h1 := Nat.add_mul t k w; have h2 := Nat.add_mul (t + k) 1 w; have h3 := Nat.add_mul t 1 w
  unfold dnL dnK over
  rw [List.length_replicate, show t + k + 1 - k = t + 1 by omega, show t + k - k = t by omega, show t * w + w = (t + 1) * w by omega, drop_app0 (by simp only [List.length_take]; omega), List.take_append_of_le_length (by simp only [List.length_take]; omega), List.take_take, show min (t * w) ((t + 1) * w) = t * w by omega, Nat.one_mul, show t + k + 1 - t - 1 = k by omega]
theorem upK_zero {c : Cs} {w t b : Nat} {a : Int} (htb : t ≤ b + 1) : upK c w t b 0 a = c := by
  obtain ⟨k, hk⟩ := Nat.exists_eq_add_of_le htb
  have e : (t + k) * w = t * w + k * w := Nat.add_mul t k w
  unfold upK
  simp only [Nat.zero_mul, List.replicate_zero, List.nil_append, Nat.add_zero, Nat.sub_zero]
  rw [hk, Nat.add_sub_cancel_left, e, ← List.drop_drop, List.take_append_drop, List.take_append_drop]
theorem dnK_zero {c : Cs} {w t b : Nat} {a : Int} (htb : t ≤ b + 1) : dnK c w t b 0 a = c := by
  obtain ⟨k, hk⟩ := Nat.exists_eq_add_of_le htb
  have e : (t + k) * w = t * w + k * w := Nat.add_mul t k w
  unfold dnK
  simp only [Nat.zero_mul, List.replicate_zero, List.nil_append, Nat.add_zero, Nat.sub_zero]
  rw [hk, Nat.add_sub_cancel_left, e, ← List.drop_drop, List.take_append_drop, List.take_append_drop]
theorem upK_len {c : Cs} {w t b k : Nat} {a : Int} (hk : t + k ≤ b + 1) (h : (b + 1) * w ≤ c.length) : (upK c w t b k a).length = c.length := by
  obtain ⟨j, hj⟩ := Nat.exists_eq_add_of_le hk
  have h1 := Nat.add_mul (t + k) j w; have h2 := Nat.add_mul t k w
  unfold upK
  rw [hj] at h ⊢
  rw [show t + k + j - t - k = j by omega]
  simp only [List.length_append, List.length_take, List.length_drop, List.length_replicate]; omega
theorem dnK_len {c : Cs} {w t b k : Nat} {a : Int} (hk : t + k ≤ b + 1) (h : (b + 1) * w ≤ c.length) : (dnK c w t b k a).length = c.length := by
  obtain ⟨j, hj⟩ := Nat.exists_eq_add_of_le hk
  have h1 := Nat.add_mul (t + k) j w; have h2 := Nat.add_mul t k w
  unfold dnK
  rw [hj] at h ⊢
  rw [show t + k + j - t - k = j by omega]
  simp only [List.length_append, List.length_take, List.length_drop, List.length_replicate]; omega
theorem upK_succ {c : Cs} {w t b k : Nat} {a : Int} (hk : t + k + 1 ≤ b + 1) (h : (b + 1) * w ≤ c.length) : upK (upK c w t b k a) w t b 1 a = upK c w t b (k + 1) a := by
  obtain ⟨j, hj⟩ := Nat.exists_eq_add_of_le hk
  have h1 := Nat.add_mul (t + k + 1) j w; have h2 := Nat.add_mul t k w; have h3 := Nat.add_mul (t + k) 1 w; have h4 := Nat.add_mul t 1 w; have h5 := Nat.add_mul k 1 w; have h6 := Nat.add_mul j 1 w; have h7 := Nat.add_mul j k w
  rw [hj] at h
  have hT : (c.take (t * w)).length = t * w := by simp only [List.length_take]; omega
  have hM : ((c.drop ((t + k) * w)).take ((j + 1) * w)).length = (j + 1) * w := by simp only [List.length_take, List.length_drop]; omega
  have e0 : upK c w t b k a = c.take (t * w) ++ ((c.drop ((t + k) * w)).take ((j + 1) * w) ++ (List.replicate (k * w) (bl a) ++ c.drop ((b + 1) * w))) := by
    unfold upK; rw [show b + 1 - t - k = j + 1 by omega]
  rw [e0]
  unfold upK
  rw [take_app hT]
  congr 1
  rw [show (t + 1) * w = t * w + w by omega, drop_app hT, show b + 1 - t - 1 = j + k by omega, show b + 1 - t - (k + 1) = j by omega]
  rw [List.drop_append_of_le_length (by omega), List.drop_take, List.drop_drop, show (j + 1) * w - w = j * w by omega, show (t + k) * w + w = (t + (k + 1)) * w by rw [← Nat.add_assoc]; omega]
  have hM2 : ((c.drop ((t + (k + 1)) * w)).take (j * w)).length = j * w := by rw [← Nat.add_assoc]; simp only [List.length_take, List.length_drop]; omega
  rw [show (j + k) * w = j * w + k * w by omega, List.take_append, hM2, List.take_of_length_le (by omega), show j * w + k * w - j * w = k * w by omega, take_app (by simp), List.append_assoc]
  congr 1
  rw [← List.append_assoc, List.replicate_append_replicate, show k * w + 1 * w = (k + 1) * w by omega]
  congr 1
  rw [show (b + 1) * w = t * w + ((j + 1) * w + k * w) by rw [hj]; omega, drop_app hT, drop_app hM]
  have e1 : (List.replicate (k * w) (bl a) ++ c.drop (t * w + ((j + 1) * w + k * w))).drop (k * w) = c.drop (t * w + ((j + 1) * w + k * w)) := drop_app0 (by simp)
  rw [e1]
theorem dnK_succ {c : Cs} {w t b k : Nat} {a : Int} (hk : t + k + 1 ≤ b + 1) (h : (b + 1) * w ≤ c.length) : dnK (dnK c w t b k a) w t b 1 a = dnK c w t b (k + 1) a := by
  obtain ⟨j, hj⟩ := Nat.exists_eq_add_of_le hk
  have h1 := Nat.add_mul (t + k + 1) j w; have h2 := Nat.add_mul t k w; have h3 := Nat.add_mul (t + k) 1 w; have h4 := Nat.add_mul t 1 w; have h5 := Nat.add_mul k 1 w; have h6 := Nat.add_mul j 1 w; have h7 := Nat.add_mul k j w
  rw [hj] at h
  have hT : (c.take (t * w)).length = t * w := by simp only [List.length_take]; omega
  have e0 : dnK c w t b k a = c.take (t * w) ++ (List.replicate (k * w) (bl a) ++ ((c.drop (t * w)).take ((j + 1) * w) ++ c.drop ((b + 1) * w))) := by
    unfold dnK; rw [show b + 1 - t - k = j + 1 by omega]
  have hM : ((c.drop (t * w)).take ((j + 1) * w)).length = (j + 1) * w := by simp only [List.length_take, List.length_drop]; omega
  rw [e0]
  unfold dnK
  rw [take_app hT]
  congr 1
  rw [drop_app0 hT, show b + 1 - t - 1 = k + j by omega, show b + 1 - t - (k + 1) = j by omega]
  have hR : (List.replicate (k * w) (bl a)).length = k * w := by simp
  rw [show (k + j) * w = k * w + j * w by omega, List.take_append, List.take_of_length_le (by omega), hR, show k * w + j * w - k * w = j * w by omega, List.take_append_of_le_length (by omega), List.take_take, show min (j * w) ((j + 1) * w) = j * w by omega]
  rw [show (b + 1) * w = t * w + (k * w + (j + 1) * w) by rw [hj]; omega, drop_app hT, drop_app hR, drop_app0 hM, ← List.append_assoc, ← List.append_assoc, List.replicate_append_replicate, show 1 * w + k * w = (k + 1) * w by omega, List.append_assoc]
theorem upK_row0 {c : Cs} {w b k : Nat} {a : Int} (hk : k + 1 ≤ b + 1) (h : (b + 1) * w ≤ c.length) : ((upK c w 0 b k a).drop (0 * w)).take w = (c.drop (k * w)).take w := by
  obtain ⟨j, hj⟩ := Nat.exists_eq_add_of_le hk
  have h1 := Nat.add_mul (k + 1) j w; have h2 := Nat.add_mul k 1 w; have h3 := Nat.add_mul j 1 w
  rw [hj] at h
  unfold upK
  rw [Nat.zero_mul, List.take_zero, List.nil_append, List.drop_zero, Nat.zero_add, show b + 1 - 0 - k = j + 1 by omega, List.take_append_of_le_length (by simp only [List.length_take, List.length_drop]; omega), List.take_take, show min w ((j + 1) * w) = w by omega]
theorem bkJ_eq {bk c : Cs} {w : Nat} (m : Nat) (hm : bk.length = m * w) (hm5 : m ≤ 5) : ∀ {k : Nat}, k * w ≤ c.length → bkJ bk c w k = (bk ++ c.take (k * w)).drop ((m + k - 5) * w)
  | 0, _ => by
    rw [Nat.zero_mul, List.take_zero, List.append_nil, show m + 0 - 5 = 0 by omega, Nat.zero_mul, List.drop_zero]; rfl
  | k + 1, h => by
    have h5 := Nat.add_mul k 1 w
    have ih := bkJ_eq (bk := bk) (c := c) (w := w) m hm hm5 (k := k) (by omega)
    show keepB (bkJ bk c w k) _ w = _
    rw [ih]
    have hr : ((c.drop (k * w)).take w).length = w := by simp only [List.length_take, List.length_drop]; omega
    have hl : ((bk ++ c.take (k * w)).drop ((m + k - 5) * w)).length = (m + k - (m + k - 5)) * w := by
      have e1 : (m + k - (m + k - 5)) * w = (m * w + k * w) - (m + k - 5) * w := by rw [Nat.sub_mul (m + k), Nat.add_mul]
      rw [e1]
      simp only [List.length_append, List.length_drop, List.length_take, hm]; omega
    have ea : (bk ++ c.take (k * w)).drop ((m + k - 5) * w) ++ (c.drop (k * w)).take w = (bk ++ c.take ((k + 1) * w)).drop ((m + k - 5) * w) := by
      have hle : (m + k - 5) * w ≤ (bk ++ c.take (k * w)).length := by
        have := mul_lt_le (w := w) (show m + k - 5 ≤ m + k by omega)
        rw [Nat.add_mul] at this
        simp only [List.length_append, List.length_take, hm]; omega
      rw [h5, Nat.one_mul, List.take_add, ← List.append_assoc]
      exact (List.drop_append_of_le_length hle).symm
    have el : ((bk ++ c.take ((k + 1) * w)).drop ((m + k - 5) * w)).length = (m + k - (m + k - 5)) * w + w := by rw [← ea, List.length_append, hl, hr]
    by_cases hw : w = 0
    · subst hw
      unfold keepB
      simp only [Nat.mul_zero, List.drop_zero, ite_self]
      simp
    by_cases hg : m + k < 5
    · rw [keepB_le (by rw [ea, el, show m + k - (m + k - 5) = m + k by omega]; have := mul_lt_le (w := w) (show m + k + 1 ≤ 5 by omega); rw [Nat.add_mul (m + k) 1 w] at this; omega), ea, show m + k - 5 = 0 by omega, show m + (k + 1) - 5 = 0 by omega]
    · rw [keepB_gt (by rw [ea, el, show m + k - (m + k - 5) = 5 by omega]; omega), ea, List.drop_drop]
      congr 1
      rw [show m + (k + 1) - 5 = (m + k - 5) + 1 by omega, Nat.add_mul, Nat.one_mul]
theorem keepB_len (b row : Cs) (w : Nat) : (keepB b row w).length ≤ b.length + row.length := by
  unfold keepB
  split
  · rw [List.length_drop, List.length_append]; omega
  · rw [List.length_append]; omega
theorem bkJ_len (bk c : Cs) (w : Nat) : ∀ k, (bkJ bk c w k).length ≤ bk.length + k * w
  | 0 => by simp [bkJ]
  | k + 1 => by
    have h1 := bkJ_len bk c w k
    have h2 := keepB_len (bkJ bk c w k) ((c.drop (k * w)).take w) w
    have h3 : ((c.drop (k * w)).take w).length ≤ w := by simp only [List.length_take]; omega
    have h4 := Nat.add_mul k 1 w
    show (keepB (bkJ bk c w k) ((c.drop (k * w)).take w) w).length ≤ _
    omega
def bkM (bk c : Cs) (w t k : Nat) : Cs := if t = 0 then bkJ bk c w k else bk
theorem bkM_len (bk c : Cs) (w t k : Nat) : (bkM bk c w t k).length ≤ bk.length + k * w := by
  unfold bkM
  split
  · exact bkJ_len _ _ _ _
  · omega
theorem bkM_zero (bk c : Cs) (w t : Nat) : bkM bk c w t 0 = bk := by unfold bkM bkJ; simp
theorem bkM_step (bk : Cs) {c : Cs} {w t b k : Nat} {a : Int} (hk : k + 1 ≤ b + 1) (h : (b + 1) * w ≤ c.length) :
    (t = 0 → bkM bk c w t (k + 1) = keepB (bkM bk c w t k) (((upK c w t b k a).drop (0 * w)).take w) w) ∧ (¬ t = 0 → bkM bk c w t (k + 1) = bkM bk c w t k) := by
  refine ⟨fun q => ?_, fun q => by unfold bkM; rw [if_neg q, if_neg q]⟩
  subst q
  rw [upK_row0 hk h]
  unfold bkM
  rw [if_pos rfl, if_pos rfl]
  rfl
end Go.Mu

namespace Go.Vm
open Go.RowKit
section
variable {S : Seat} {σ τ : St} {c : Code} {kn : St → Prop} {ke : Nat → St → Prop} {kr : St → Prop}
def rawP (p : Ent → Bool) (e : Ent) : Ent := match p e with
  | true => rawE e
  | false => e
theorem rawP_b (p : Ent → Bool) (e : Ent) : (rawP p e).b = e.b := by unfold rawP; split; exact rawE_b e; rfl
theorem rawP_rw (p : Ent → Bool) (e : Ent) (h : (rawP p e).rw = true) : e.rw = true := by
  unfold rawP at h
  split at h
  · exact rawE_rw e h
  · exact h
theorem rawP_c (p : Ent → Bool) (e : Ent) : (rawP p e).c = e.c := by unfold rawP; split; exact rawE_c e; rfl
def rawPL (p : Ent → Bool) : List Ent → List Ent
  | [] => []
  | e :: r => rawP p e :: rawPL p r
theorem rawPL_mem {p : Ent → Bool} : ∀ {l : List Ent} {e : Ent}, e ∈ rawPL p l → ∃ x, x ∈ l ∧ e = rawP p x
  | x :: r, e, h => by
    rcases List.mem_cons.1 h with rfl | h
    · exact ⟨x, List.mem_cons_self, rfl⟩
    · obtain ⟨y, h1, h2⟩ := rawPL_mem h
      exact ⟨y, List.mem_cons_of_mem _ h1, h2⟩
theorem rawPL_keys {p : Ent → Bool} : ∀ {l : List Ent}, l.Pairwise (fun e e' => e.b ≠ e'.b) → (rawPL p l).Pairwise fun e e' => e.b ≠ e'.b
  | [], _ => .nil
  | x :: r, h => by
    obtain ⟨h1, h2⟩ := List.pairwise_cons.1 h
    refine List.pairwise_cons.2 ⟨fun e he => ?_, rawPL_keys h2⟩
    obtain ⟨y, hy, rfl⟩ := rawPL_mem he
    rw [rawP_b, rawP_b]
    exact h1 y hy
theorem HRel.roP {p : Ent → Bool} {ρ : Lay} {l : List Ent} {N : Nat} {w : World} (h : HRel S ρ ⟨l, N⟩ w) : HRel S ρ ⟨rawPL p l, N⟩ w where
  holds := fun e he => by
    obtain ⟨x, hx, rfl⟩ := rawPL_mem he
    have hh := h.holds x hx
    rw [rawP_b, rawP_c]
    unfold rawP
    split
    · obtain ⟨b, rw, c⟩ := x
      cases c with
      | raw vs =>
        obtain ⟨h1, h2⟩ := hh
        refine ⟨?_, h2⟩
        simp only [rawE]
        unfold Lies at h1 ⊢
        simp only at h1 ⊢
        split at h1
        · exact h1
        · obtain ⟨arr, T, fz, g1, g2, g3, g4⟩ := h1
          exact ⟨arr, T, fz, g1, g2, (fun q => by cases q), g4⟩
      | arr E xs => exact hh
      | nest m d g s f xs o => exact hh
    · exact hh
  key := fun e he => by
    obtain ⟨x, hx, rfl⟩ := rawPL_mem he
    rw [rawP_b]
    exact h.key x hx
  sep := fun e he e' he' hor hne => by
    obtain ⟨x, hx, rfl⟩ := rawPL_mem he
    obtain ⟨x', hx', rfl⟩ := rawPL_mem he'
    rw [rawP_b, rawP_b] at hne ⊢
    exact h.sep x hx x' hx' (hor.imp (rawP_rw p x) (rawP_rw p x')) hne
  keys := rawPL_keys h.keys
  glob := h.glob
  enc := fun e he => by
    obtain ⟨x, hx, rfl⟩ := rawPL_mem he
    rw [rawP_c]
    exact h.enc x hx
  low := fun e he => by
    obtain ⟨x, hx, rfl⟩ := rawPL_mem he
    rw [rawP_b]
    exact h.low x hx
  root := fun e he hr => by
    obtain ⟨x, hx, rfl⟩ := rawPL_mem he
    rw [rawP_b]
    exact h.root x hx (rawP_rw p x hr)
theorem Turn.roP (p : Ent → Bool) {env : List (Nat × AV)} {l : List Ent} {N n lo : Nat} : Turn S ⟨env, ⟨l, N⟩, n, lo⟩ ⟨env, ⟨rawPL p l, N⟩, n, lo⟩ := fun ρ0 H0 w0 ρ a w hi => by
  refine ⟨ρ, hi.env, hi.size, hi.defers, hi.lo, hi.after.next, hi.after.agree, hi.after.heap.roP, hi.after.size, hi.after.frame, fun k c hk => ?_, hi.after.os, hi.after.tape, hi.after.output⟩
  obtain ⟨e, he, hr, hf⟩ := hk
  obtain ⟨x, hx, rfl⟩ := rawPL_mem he
  rw [rawP_b] at hf
  exact hi.after.own k c ⟨x, hx, rawP_rw p x hr, hf⟩
def plainX (ns : List Nat) (e : Ent) : Bool := match e.b with
  | .loc n => match memN ns n with
    | true => false
    | false => true
  | _ => false
def rawX (ns : List Nat) : List Ent → (List Ent → Prop) → Prop
  | [], K => K []
  | e :: r, K => match e with
    | ⟨b, rw, c⟩ => match b with
      | .loc n => match memN ns n with
        | true => rawX ns r fun l => K (⟨.loc n, rw, c⟩ :: l)
        | false => match c with
          | .raw vs => rawX ns r fun l => K (⟨.loc n, false, .raw vs⟩ :: l)
          | .arr E xs => rawX ns r fun l => K (⟨.loc n, rw, .arr E xs⟩ :: l)
          | .nest m d g s f xs o => rawX ns r fun l => K (⟨.loc n, rw, .nest m d g s f xs o⟩ :: l)
      | .glob n => rawX ns r fun l => K (⟨.glob n, rw, c⟩ :: l)
      | .sub b i j => rawX ns r fun l => K (⟨.sub b i j, rw, c⟩ :: l)
theorem rawX_out {ns : List Nat} : ∀ {l : List Ent} {K : List Ent → Prop}, rawX ns l K → K (rawPL (plainX ns) l)
  | [], _, h => h
  | ⟨b, rw, c⟩ :: r, K, h => by
    cases b with
    | loc n =>
      unfold rawX at h
      simp only at h
      split at h
      · rename_i hm
        have e : rawP (plainX ns) ⟨.loc n, rw, c⟩ = ⟨.loc n, rw, c⟩ := by simp [rawP, plainX, hm]
        unfold rawPL; rw [e]
        exact rawX_out (l := r) (K := fun l => K (⟨.loc n, rw, c⟩ :: l)) h
      · rename_i hm
        have e : rawP (plainX ns) ⟨.loc n, rw, c⟩ = rawE ⟨.loc n, rw, c⟩ := by simp [rawP, plainX, hm]
        unfold rawPL; rw [e]
        cases c with
        | raw vs => exact rawX_out (l := r) (K := fun l => K (⟨.loc n, false, .raw vs⟩ :: l)) h
        | arr E xs => exact rawX_out (l := r) (K := fun l => K (⟨.loc n, rw, .arr E xs⟩ :: l)) h
        | nest m d g s f xs o => exact rawX_out (l := r) (K := fun l => K (⟨.loc n, rw, .nest m d g s f xs o⟩ :: l)) h
    | glob n => exact rawX_out (l := r) (K := fun l => K (⟨.glob n, rw, c⟩ :: l)) h
    | sub b i j => exact rawX_out (l := r) (K := fun l => K (⟨.sub b i j, rw, c⟩ :: l)) h
def resN : List Nat → List (Nat × AV) → List Nat
  | [], _ => []
  | t :: r, env => avN (look env t) (resN r env)
theorem Wp.keepX (rs ks : List Nat) {env : List (Nat × AV)} {l : List Ent} {N n lo : Nat} (k : keepK ks ⟨env, ⟨l, N⟩, n, lo⟩ fun σ' => match σ' with | ⟨env, H, n, lo⟩ => match H with | ⟨l, N⟩ => forceN (resN rs env) fun ns => rawX ns l fun l => Wp S c ⟨env, ⟨l, N⟩, n, lo⟩ kn ke kr) : Wp S c ⟨env, ⟨l, N⟩, n, lo⟩ kn ke kr := by
  unfold keepK at k
  simp only at k
  have k := pickK_out (K := fun env => forceN (envN env) fun ns => forceN (rawN ns l ns) fun ns => heapK ns l fun l => forceN (resN rs env) fun ns => rawX ns l fun l => Wp S c ⟨env, ⟨l, N⟩, n, lo⟩ kn ke kr) k
  have k := forceN_out k
  have k := forceN_out (K := fun ns => heapK ns l fun l => forceN (resN rs (pickE ks env)) fun ns => rawX ns l fun l => Wp S c ⟨pickE ks env, ⟨l, N⟩, n, lo⟩ kn ke kr) k
  obtain ⟨l', h1, h2⟩ := heapK_out k
  have h2 := forceN_out (K := fun ns => rawX ns l' fun l => Wp S c ⟨pickE ks env, ⟨l, N⟩, n, lo⟩ kn ke kr) h2
  have h2 := rawX_out h2
  exact Wp.turn (Turn.less ks h1) (Wp.turn (Turn.roP _) h2)
end
end Go.Vm
