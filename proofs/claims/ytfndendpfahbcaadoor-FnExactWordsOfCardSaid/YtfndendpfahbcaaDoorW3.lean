/- The walks of the law on words: the implementation's function. -/
import Derived.Test.YtfndendpfahbcaaDoorW2
set_option linter.unusedSimpArgs false
set_option linter.unusedVariables false
namespace Go.Words
open Go Go.Vm Go.RowKit Go.Proofs
attribute [local irreducible] wpA opsA stillA drawA
set_option maxRecDepth 20000

/-- those that are not empty -/
def fl : List (List Int) → List (List Int)
  | [] => []
  | w :: r => if w = [] then fl r else w :: fl r
/-- the place of the first that is empty -/
def firstE : List (List Int) → Int
  | [] => -1
  | w :: r => if w = [] then 0 else if firstE r < 0 then -1 else firstE r + 1
theorem fl_cons (w : List Int) (r : List (List Int)) : fl (w :: r) = if w = [] then fl r else w :: fl r := rfl
theorem firstE_cons (w : List Int) (r : List (List Int)) : firstE (w :: r) = if w = [] then 0 else if firstE r < 0 then -1 else firstE r + 1 := rfl
theorem fl_append (a b : List (List Int)) : fl (a ++ b) = fl a ++ fl b := by
  induction a with
  | nil => rfl
  | cons w r ih => rw [List.cons_append, fl_cons, fl_cons]; split <;> simp [ih]
theorem fl_len (a : List (List Int)) : (fl a).length ≤ a.length := by
  induction a with
  | nil => simp [fl]
  | cons w r ih => rw [fl_cons]; split <;> simp <;> omega
theorem firstE_none {a : List (List Int)} (h : firstE a < 0) : fl a = a ∧ firstE a = -1 := by
  induction a with
  | nil => exact ⟨rfl, rfl⟩
  | cons w r ih =>
    rw [firstE_cons] at h
    rw [firstE_cons, fl_cons]
    by_cases hw : w = []
    · rw [if_pos hw] at h; omega
    · rw [if_neg hw] at h ⊢
      rw [if_neg hw]
      by_cases hr : firstE r < 0
      · rw [if_pos hr, (ih hr).1]; simp
      · rw [if_neg hr] at h; omega
theorem firstE_some {a : List (List Int)} {i : Nat} (h : firstE a = i) : i < a.length ∧ a.getD i [] = [] ∧ fl (a.take (i + 1)) = a.take i := by
  induction a generalizing i with
  | nil => simp [firstE] at h
  | cons w r ih =>
    rw [firstE_cons] at h
    by_cases hw : w = []
    · rw [if_pos hw] at h
      have : i = 0 := by omega
      subst this
      simp [hw, fl]
    · rw [if_neg hw] at h
      by_cases hr : firstE r < 0
      · rw [if_pos hr] at h; omega
      · rw [if_neg hr] at h
        obtain ⟨j, rfl⟩ : ∃ j, i = j + 1 := ⟨i - 1, by omega⟩
        obtain ⟨h1, h2, h3⟩ := ih (i := j) (by omega)
        refine ⟨by simp; omega, by simpa using h2, ?_⟩
        rw [List.take_succ_cons, fl_cons, if_neg hw, h3, List.take_succ_cons]
/-- up to a place none is empty -/
theorem firstE_from {a : List (List Int)} {i : Nat} (hi : i < a.length) (h : ∀ k, k < i → a.getD k [] ≠ []) (he : a.getD i [] = []) : firstE a = i := by
  induction a generalizing i with
  | nil => simp at hi
  | cons w r ih =>
    rw [firstE_cons]
    cases i with
    | zero =>
      have : w = [] := by simpa using he
      rw [if_pos this]; rfl
    | succ i =>
      have hw : w ≠ [] := by simpa using h 0 (by omega)
      have := ih (i := i) (by simpa using hi) (fun k hk => by simpa using h (k + 1) (by omega)) (by simpa using he)
      rw [if_neg hw, this, if_neg (by omega)]; omega
theorem firstE_no {a : List (List Int)} (h : ∀ k, k < a.length → a.getD k [] ≠ []) : firstE a = -1 := by
  induction a with
  | nil => rfl
  | cons w r ih =>
    rw [firstE_cons]
    have hw : w ≠ [] := by simpa using h 0 (by simp)
    have := ih (fun k hk => by simpa using h (k + 1) (by simpa using hk))
    rw [if_neg hw, this]; rfl

theorem isEmpty (s : List Int) : CallA S 59 [.str s] ⟨[], 0⟩ fun v H' =>
    ∃ _ : Unit, True ∧ v = .prop (s = []) ∧ H' = ⟨[], 0⟩ := by
  refine .ofC hS (fun _ => True) (fun _ => .prop (s = [])) (fun _ => ⟨[], 0⟩) Tryd.func59 ?_
  have hb : bytesL { data := #[] } = [] := rfl
  have hi : (s = bytesL { data := #[] }) ↔ (s = []) := by rw [hb]
  conv => whnf
  repeat' (first | (refine Seal.mk ?_) | (refine wpA_seq ?_) | (refine wpA_region rfl ?_) | (refine wpA_block ?_) | (refine wpA_loop ?_) | (refine wpA_draw ?_) | (refine drawA_all ?_) | (refine drawA_fork2 ?_ ?_) | (refine opsA_cons ?_; (conv => whnf)) | (refine opsA_nil ?_; (conv => whnf)) | (refine wpA_cond ?_; (conv => whnf)) | (refine wpA_skip ?_; (conv => whnf)) | (refine wpA_exit ?_; (conv => whnf)) | (refine wpA_ret ?_; (conv => whnf)) | (refine stillA_cons ?_; (conv => whnf)) | (refine stillA_nil ?_; (conv => whnf)) | (refine drawA_done ?_; (conv => whnf)) | (refine drawA_quick rfl ?_; (conv => whnf)) | (refine drawA_read rfl ?_; (conv => whnf)) | (refine drawA_step rfl ?_; (conv => whnf)) | (intro _; omega) | (intro _; (conv => whnf)) | (apply And.intro <;> intro _ <;> first | omega | (conv => whnf)) | (apply And.intro; (case left => (first | omega | exact rfl | exact PreC.self _ _ | with_reducible assumption | (simp only [inR, IntKind.bits, Int.reduceToNat, Int.reducePow]; omega) | (simp; done) | (simp; omega))); (conv => whnf)) | (apply Or.inl; apply And.intro; (case left => (first | omega | exact rfl | exact PreC.self _ _ | with_reducible assumption | (simp only [inR, IntKind.bits, Int.reduceToNat, Int.reducePow]; omega) | (simp; done) | (simp; omega))); (conv => whnf)) | (apply Or.inr; (conv => whnf)) | (refine Exists.intro _ (And.intro rfl ?_); (conv => whnf)) | (refine Exists.intro _ (And.intro (And.intro rfl rfl) ?_); (conv => whnf)) | (refine Exists.intro (intE .u8) (And.intro ⟨rfl, fun _ => rfl⟩ ?_); (conv => whnf)) | (refine Exists.intro _ (And.intro (And.intro rfl (And.intro rfl ?leaf)) ?_); (case leaf => (first | exact rfl | omega | (simp; done) | (simp; omega))); (conv => whnf)))
  (refine ⟨(), trivial, ?_⟩; repeat' (first | trivial | (apply And.intro; (case left => (first | omega | exact rfl | with_reducible assumption | exact PreC.self _ _ | exact PreC.of_eq (by with_reducible assumption) | exact PreC.of_eq' (by with_reducible assumption) | exact PreC.self' _ _ _ | exact PreC.pre (by with_reducible assumption) | exact ⟨5, rfl⟩ | exact ⟨9, rfl⟩ |  (simp; done) | (simp; omega)))) | ((conv => whnf); apply And.intro; (case left => (first | omega | exact rfl | with_reducible assumption | exact PreC.self _ _ | exact PreC.of_eq (by with_reducible assumption) | exact PreC.of_eq' (by with_reducible assumption) | exact PreC.self' _ _ _ | exact PreC.pre (by with_reducible assumption) | exact ⟨5, rfl⟩ | exact ⟨9, rfl⟩ |  (simp; done) | (simp; omega)))) | ((conv => whnf); trivial)))

theorem indexFunc (ws : List (List Int)) (hx : ws.length ≤ 1048577) : CallA S 82 [.sl (.loc 0) 1 none ws.length, .fn 59 []] ⟨[⟨.loc 0, false, .arr strE ws⟩], 1⟩ fun v H' =>
    ∃ _ : Unit, True ∧ v = .int .i64 (firstE ws) ∧ H' = ⟨[], 1⟩ := by
  refine .ofC hS (fun _ => True) (fun _ => .int .i64 (firstE ws)) (fun _ => ⟨[], 1⟩) Tryd.func82 ?_
  conv => whnf
  repeat' (first | (refine Seal.mk ?_) | (refine wpA_seq ?_) | (refine wpA_region rfl ?_) | (refine wpA_block ?_) | (refine wpA_loop ?_) | (refine wpA_draw ?_) | (refine drawA_all ?_) | (refine drawA_fork2 ?_ ?_) | (refine opsA_cons ?_; (conv => whnf)) | (refine opsA_nil ?_; (conv => whnf)) | (refine wpA_cond ?_; (conv => whnf)) | (refine wpA_skip ?_; (conv => whnf)) | (refine wpA_exit ?_; (conv => whnf)) | (refine wpA_ret ?_; (conv => whnf)) | (refine stillA_cons ?_; (conv => whnf)) | (refine stillA_nil ?_; (conv => whnf)) | (refine drawA_done ?_; (conv => whnf)) | (refine drawA_quick rfl ?_; (conv => whnf)) | (refine drawA_read rfl ?_; (conv => whnf)) | (refine drawA_step rfl ?_; (conv => whnf)) | (intro _; omega) | (intro _; (conv => whnf)) | (apply And.intro <;> intro _ <;> first | omega | (conv => whnf)) | (apply And.intro; (case left => (first | omega | exact rfl | exact PreC.self _ _ | with_reducible assumption | (simp only [inR, IntKind.bits, Int.reduceToNat, Int.reducePow]; omega) | (simp; done) | (simp; omega))); (conv => whnf)) | (apply Or.inl; apply And.intro; (case left => (first | omega | exact rfl | exact PreC.self _ _ | with_reducible assumption | (simp only [inR, IntKind.bits, Int.reduceToNat, Int.reducePow]; omega) | (simp; done) | (simp; omega))); (conv => whnf)) | (apply Or.inr; (conv => whnf)) | (refine Exists.intro _ (And.intro rfl ?_); (conv => whnf)) | (refine Exists.intro _ (And.intro (And.intro rfl rfl) ?_); (conv => whnf)) | (refine Exists.intro (intE .u8) (And.intro ⟨rfl, fun _ => rfl⟩ ?_); (conv => whnf)) | (refine Exists.intro _ (And.intro (And.intro rfl (And.intro rfl ?leaf)) ?_); (case leaf => (first | exact rfl | omega | (simp; done) | (simp; omega))); (conv => whnf)))
  refine .loop hS (γ := Nat) (fun i => ⟨[(0, .sl (.loc 0) 1 none ws.length), (1, .fn 59 []), (7, .int .i64 ws.length), (8, .int .i64 i)],
      ⟨[⟨.loc 0, false, .arr strE ws⟩], 1⟩, 19, 1⟩) (fun i => i ≤ ws.length ∧ ∀ k, k < i → ws.getD k [] ≠ []) (fun i => ws.length - i) 0 ⟨by omega, by omega⟩ ?_ ?_
  · repeat' (first | trivial | (apply And.intro; (case left => (first | omega | exact rfl | with_reducible assumption | exact PreC.self _ _ | exact PreC.of_eq (by with_reducible assumption) | exact PreC.of_eq' (by with_reducible assumption) | exact PreC.self' _ _ _ | exact PreC.pre (by with_reducible assumption) | exact ⟨5, rfl⟩ | exact ⟨9, rfl⟩ |  (simp; done) | (simp; omega)))) | ((conv => whnf); apply And.intro; (case left => (first | omega | exact rfl | with_reducible assumption | exact PreC.self _ _ | exact PreC.of_eq (by with_reducible assumption) | exact PreC.of_eq' (by with_reducible assumption) | exact PreC.self' _ _ _ | exact PreC.pre (by with_reducible assumption) | exact ⟨5, rfl⟩ | exact ⟨9, rfl⟩ |  (simp; done) | (simp; omega)))) | ((conv => whnf); trivial))
  · intro i hi
    obtain ⟨hi, hk⟩ := hi
    conv => whnf
    repeat' (first | (refine Seal.mk ?_) | (refine wpA_seq ?_) | (refine wpA_region rfl ?_) | (refine wpA_block ?_) | (refine wpA_loop ?_) | (refine wpA_draw ?_) | (refine drawA_all ?_) | (refine drawA_fork2 ?_ ?_) | (refine opsA_cons ?_; (conv => whnf)) | (refine opsA_nil ?_; (conv => whnf)) | (refine wpA_cond ?_; (conv => whnf)) | (refine wpA_skip ?_; (conv => whnf)) | (refine wpA_exit ?_; (conv => whnf)) | (refine wpA_ret ?_; (conv => whnf)) | (refine stillA_cons ?_; (conv => whnf)) | (refine stillA_nil ?_; (conv => whnf)) | (refine drawA_done ?_; (conv => whnf)) | (refine drawA_quick rfl ?_; (conv => whnf)) | (refine drawA_read rfl ?_; (conv => whnf)) | (refine drawA_step rfl ?_; (conv => whnf)) | (apply CallA.liftC hS (isEmpty _); (conv => whnf)) | (intro _; omega) | (intro _; (conv => whnf)) | (apply And.intro <;> intro _ <;> first | omega | (conv => whnf)) | (apply And.intro; (case left => (first | omega | exact rfl | exact PreC.self _ _ | with_reducible assumption | (simp only [inR, IntKind.bits, Int.reduceToNat, Int.reducePow]; omega) | (simp; done) | (simp; omega))); (conv => whnf)) | (apply Or.inl; apply And.intro; (case left => (first | omega | exact rfl | exact PreC.self _ _ | with_reducible assumption | (simp only [inR, IntKind.bits, Int.reduceToNat, Int.reducePow]; omega) | (simp; done) | (simp; omega))); (conv => whnf)) | (apply Or.inr; (conv => whnf)) | (refine Exists.intro _ (And.intro rfl ?_); (conv => whnf)) | (refine Exists.intro _ (And.intro (And.intro rfl rfl) ?_); (conv => whnf)) | (refine Exists.intro (intE .u8) (And.intro ⟨rfl, fun _ => rfl⟩ ?_); (conv => whnf)) | (refine Exists.intro _ (And.intro (And.intro rfl (And.intro rfl ?leaf)) ?_); (case leaf => (first | exact rfl | omega | (simp; done) | (simp; omega))); (conv => whnf)))
    · have he := firstE_from (by omega) hk ‹_›
      (refine ⟨(), trivial, ?_⟩; repeat' (first | trivial | (apply And.intro; (case left => (first | omega | exact rfl | with_reducible assumption | exact PreC.self _ _ | exact PreC.of_eq (by with_reducible assumption) | exact PreC.of_eq' (by with_reducible assumption) | exact PreC.self' _ _ _ | exact PreC.pre (by with_reducible assumption) | exact ⟨5, rfl⟩ | exact ⟨9, rfl⟩ |  (simp; done) | (simp; omega)))) | ((conv => whnf); apply And.intro; (case left => (first | omega | exact rfl | with_reducible assumption | exact PreC.self _ _ | exact PreC.of_eq (by with_reducible assumption) | exact PreC.of_eq' (by with_reducible assumption) | exact PreC.self' _ _ _ | exact PreC.pre (by with_reducible assumption) | exact ⟨5, rfl⟩ | exact ⟨9, rfl⟩ |  (simp; done) | (simp; omega)))) | ((conv => whnf); trivial)))
    · refine ⟨i + 1, ⟨⟨by omega, fun k hk' => ?_⟩, by omega⟩, ?_⟩
      · rcases Nat.lt_or_eq_of_le (Nat.le_of_lt_succ hk') with q | q
        · exact hk k q
        · subst q; assumption
      · repeat' (first | trivial | (apply And.intro; (case left => (first | omega | exact rfl | with_reducible assumption | exact PreC.self _ _ | exact PreC.of_eq (by with_reducible assumption) | exact PreC.of_eq' (by with_reducible assumption) | exact PreC.self' _ _ _ | exact PreC.pre (by with_reducible assumption) | exact ⟨5, rfl⟩ | exact ⟨9, rfl⟩ |  (simp; done) | (simp; omega)))) | ((conv => whnf); apply And.intro; (case left => (first | omega | exact rfl | with_reducible assumption | exact PreC.self _ _ | exact PreC.of_eq (by with_reducible assumption) | exact PreC.of_eq' (by with_reducible assumption) | exact PreC.self' _ _ _ | exact PreC.pre (by with_reducible assumption) | exact ⟨5, rfl⟩ | exact ⟨9, rfl⟩ |  (simp; done) | (simp; omega)))) | ((conv => whnf); trivial))
    · have he := firstE_no (a := ws) (fun k hk' => hk k (by omega))
      (refine ⟨(), trivial, ?_⟩; repeat' (first | trivial | (apply And.intro; (case left => (first | omega | exact rfl | with_reducible assumption | exact PreC.self _ _ | exact PreC.of_eq (by with_reducible assumption) | exact PreC.of_eq' (by with_reducible assumption) | exact PreC.self' _ _ _ | exact PreC.pre (by with_reducible assumption) | exact ⟨5, rfl⟩ | exact ⟨9, rfl⟩ |  (simp; done) | (simp; omega)))) | ((conv => whnf); apply And.intro; (case left => (first | omega | exact rfl | with_reducible assumption | exact PreC.self _ _ | exact PreC.of_eq (by with_reducible assumption) | exact PreC.of_eq' (by with_reducible assumption) | exact PreC.self' _ _ _ | exact PreC.pre (by with_reducible assumption) | exact ⟨5, rfl⟩ | exact ⟨9, rfl⟩ |  (simp; done) | (simp; omega)))) | ((conv => whnf); trivial)))

theorem getD_take_succ {α : Type} {ws : List α} {j : Nat} (h : j < ws.length) (d : α) : ws.take (j + 1) = ws.take j ++ [ws.getD j d] := by
  rw [List.take_succ_eq_append_getElem h, List.getD_eq_getElem?_getD, List.getElem?_eq_getElem h]; rfl
theorem getD_of_drop {α : Type} {a b : List α} {j : Nat} (h : a.drop j = b.drop j) (d : α) : a.getD j d = b.getD j d := by
  have := congrArg (fun l => l.getD 0 d) h
  simpa using this
theorem fl_keep {ws c : List (List Int)} {j : Nat} (hj : j < ws.length) (h2 : c.length = ws.length) (h3 : c.take (fl (ws.take j)).length = fl (ws.take j)) (h4 : c.drop j = ws.drop j) (hc : ¬ c.getD (j : Int).toNat strE.d = []) :
    fl (ws.take (j + 1)) = fl (ws.take j) ++ [c.getD (j : Int).toNat strE.d] ∧
    (c.set ((fl (ws.take j)).length : Int).toNat (c.getD (j : Int).toNat strE.d)).take (fl (ws.take (j + 1))).length = fl (ws.take (j + 1)) ∧
    (c.set ((fl (ws.take j)).length : Int).toNat (c.getD (j : Int).toNat strE.d)).drop (j + 1) = ws.drop (j + 1) := by
  simp only [Int.toNat_natCast] at hc ⊢
  have e : c.getD j strE.d = ws.getD j [] := getD_of_drop h4 _
  rw [e] at hc ⊢
  have h5 := fl_len (ws.take j)
  have h6 : (ws.take j).length = j := by simp; omega
  have k1 : fl (ws.take (j + 1)) = fl (ws.take j) ++ [ws.getD j []] := by
    rw [getD_take_succ hj [], fl_append]
    congr 1
    rw [fl_cons, if_neg hc]; rfl
  refine ⟨k1, ?_, ?_⟩
  · rw [k1, List.length_append, List.length_singleton, getD_take_succ (by rw [List.length_set]; omega) [], List.take_set_of_le (Nat.le_refl _), h3]
    congr 2
    simp only [List.getD_eq_getElem?_getD, List.getElem?_set]
    rw [if_pos trivial, if_pos (by omega)]; rfl
  · rw [List.drop_set_of_lt (by omega)]
    have := congrArg (List.drop 1) h4
    simpa using this
theorem fl_drop {ws c : List (List Int)} {j : Nat} (hj : j < ws.length) (h4 : c.drop j = ws.drop j) (hc : c.getD (j : Int).toNat strE.d = []) :
    fl (ws.take (j + 1)) = fl (ws.take j) ∧ c.drop (j + 1) = ws.drop (j + 1) := by
  simp only [Int.toNat_natCast] at hc
  have e : c.getD j strE.d = ws.getD j [] := getD_of_drop h4 _
  rw [e] at hc
  refine ⟨?_, ?_⟩
  · rw [getD_take_succ hj [], fl_append, hc]
    simp [fl]
  · have := congrArg (List.drop 1) h4
    simpa using this

theorem deleteFunc (ws : List (List Int)) (hx : ws.length ≤ 1048577) : CallA S 57 [.sl (.loc 0) 1 none ws.length, .fn 59 []] ⟨[⟨.loc 0, true, .arr strE ws⟩], 1⟩ fun v H' =>
    ∃ _ : Unit, True ∧ v = .sl (.loc 0) 1 none (fl ws).length ∧ H' = ⟨[⟨.loc 0, true, .arr strE (fl ws)⟩], 1⟩ := by
  refine .ofC hS (fun _ => True) (fun _ => .sl (.loc 0) 1 none (fl ws).length) (fun _ => ⟨[⟨.loc 0, true, .arr strE (fl ws)⟩], 1⟩) Tryd.func57 ?_
  have hf : -1 ≤ firstE ws ∧ firstE ws ≤ ws.length := by
    rcases Int.lt_or_le (firstE ws) 0 with q | q
    · have := (firstE_none q).2; omega
    · obtain ⟨i0, hi0⟩ := Int.eq_ofNat_of_zero_le q
      have := (firstE_some hi0).1; omega
  conv => whnf
  repeat' (first | (refine Seal.mk ?_) | (refine wpA_seq ?_) | (refine wpA_region rfl ?_) | (refine wpA_block ?_) | (refine wpA_loop ?_) | (refine wpA_draw ?_) | (refine drawA_all ?_) | (refine drawA_fork2 ?_ ?_) | (refine opsA_cons ?_; (conv => whnf)) | (refine opsA_nil ?_; (conv => whnf)) | (refine wpA_cond ?_; (conv => whnf)) | (refine wpA_skip ?_; (conv => whnf)) | (refine wpA_exit ?_; (conv => whnf)) | (refine wpA_ret ?_; (conv => whnf)) | (refine stillA_cons ?_; (conv => whnf)) | (refine stillA_nil ?_; (conv => whnf)) | (refine drawA_done ?_; (conv => whnf)) | (refine drawA_quick rfl ?_; (conv => whnf)) | (refine drawA_read rfl ?_; (conv => whnf)) | (refine drawA_step rfl ?_; (conv => whnf)) | (apply CallA.liftC hS (indexFunc ws hx); (conv => whnf)) | (intro _; omega) | (intro _; (conv => whnf)) | (apply And.intro <;> intro _ <;> first | omega | (conv => whnf)) | (apply And.intro; (case left => (first | omega | exact rfl | exact PreC.self _ _ | with_reducible assumption | (simp only [inR, IntKind.bits, Int.reduceToNat, Int.reducePow]; omega) | (simp; done) | (simp; omega))); (conv => whnf)) | (apply Or.inl; apply And.intro; (case left => (first | omega | exact rfl | exact PreC.self _ _ | with_reducible assumption | (simp only [inR, IntKind.bits, Int.reduceToNat, Int.reducePow]; omega) | (simp; done) | (simp; omega))); (conv => whnf)) | (apply Or.inr; (conv => whnf)) | (refine Exists.intro _ (And.intro rfl ?_); (conv => whnf)) | (refine Exists.intro _ (And.intro (And.intro rfl rfl) ?_); (conv => whnf)) | (refine Exists.intro (intE .u8) (And.intro ⟨rfl, fun _ => rfl⟩ ?_); (conv => whnf)) | (refine Exists.intro _ (And.intro (And.intro rfl (And.intro rfl ?leaf)) ?_); (case leaf => (first | exact rfl | omega | (simp; done) | (simp; omega))); (conv => whnf)))
  · obtain ⟨h1, h2⟩ := firstE_none (a := ws) (by omega)
    simp only [h1]
    (refine ⟨(), trivial, ?_⟩; repeat' (first | trivial | (apply And.intro; (case left => (first | omega | exact rfl | with_reducible assumption | exact PreC.self _ _ | exact PreC.of_eq (by with_reducible assumption) | exact PreC.of_eq' (by with_reducible assumption) | exact PreC.self' _ _ _ | exact PreC.pre (by with_reducible assumption) | exact ⟨5, rfl⟩ | exact ⟨9, rfl⟩ |  (simp; done) | (simp; omega)))) | ((conv => whnf); apply And.intro; (case left => (first | omega | exact rfl | with_reducible assumption | exact PreC.self _ _ | exact PreC.of_eq (by with_reducible assumption) | exact PreC.of_eq' (by with_reducible assumption) | exact PreC.self' _ _ _ | exact PreC.pre (by with_reducible assumption) | exact ⟨5, rfl⟩ | exact ⟨9, rfl⟩ |  (simp; done) | (simp; omega)))) | ((conv => whnf); trivial)))
  obtain ⟨i0, hi0⟩ := Int.eq_ofNat_of_zero_le (show 0 ≤ firstE ws by omega)
  obtain ⟨h1, h2, h3⟩ := firstE_some hi0
  have h4 : (ws.take i0).length = i0 := by simp; omega
  refine .loop hS (γ := Nat × List (List Int)) (fun p => ⟨[(0, .sl (.loc 0) 1 none ws.length), (1, .fn 59 []), (5, .int .i64 (fl (ws.take p.1)).length), (6, .int .i64 p.1)],
      ⟨[⟨.loc 0, true, .arr strE p.2⟩], 1⟩, 42, 1⟩) (fun p => p.1 ≤ ws.length ∧ p.2.length = ws.length ∧ p.2.take (fl (ws.take p.1)).length = fl (ws.take p.1) ∧ p.2.drop p.1 = ws.drop p.1)
      (fun p => ws.length - p.1) (i0 + 1, ws) ⟨by dsimp only; omega, rfl, by dsimp only; rw [h3, h4], rfl⟩ ?_ ?_
  · dsimp only
    rw [h3, h4]
    repeat' (first | trivial | (apply And.intro; (case left => (first | omega | exact rfl | with_reducible assumption | exact PreC.self _ _ | exact PreC.of_eq (by with_reducible assumption) | exact PreC.of_eq' (by with_reducible assumption) | exact PreC.self' _ _ _ | exact PreC.pre (by with_reducible assumption) | exact ⟨5, rfl⟩ | exact ⟨9, rfl⟩ |  (simp; done) | (simp; omega)))) | ((conv => whnf); apply And.intro; (case left => (first | omega | exact rfl | with_reducible assumption | exact PreC.self _ _ | exact PreC.of_eq (by with_reducible assumption) | exact PreC.of_eq' (by with_reducible assumption) | exact PreC.self' _ _ _ | exact PreC.pre (by with_reducible assumption) | exact ⟨5, rfl⟩ | exact ⟨9, rfl⟩ |  (simp; done) | (simp; omega)))) | ((conv => whnf); trivial))
  · intro g hg
    obtain ⟨g1, g2, g3, g4⟩ := hg
    have g5 := fl_len (ws.take g.1)
    have g6 : (ws.take g.1).length = g.1 := by simp; omega
    conv => whnf
    repeat' (first | (refine Seal.mk ?_) | (refine wpA_seq ?_) | (refine wpA_region rfl ?_) | (refine wpA_block ?_) | (refine wpA_loop ?_) | (refine wpA_draw ?_) | (refine drawA_all ?_) | (refine drawA_fork2 ?_ ?_) | (refine opsA_cons ?_; (conv => whnf)) | (refine opsA_nil ?_; (conv => whnf)) | (refine wpA_cond ?_; (conv => whnf)) | (refine wpA_skip ?_; (conv => whnf)) | (refine wpA_exit ?_; (conv => whnf)) | (refine wpA_ret ?_; (conv => whnf)) | (refine stillA_cons ?_; (conv => whnf)) | (refine stillA_nil ?_; (conv => whnf)) | (refine drawA_done ?_; (conv => whnf)) | (refine drawA_quick rfl ?_; (conv => whnf)) | (refine drawA_read rfl ?_; (conv => whnf)) | (refine drawA_step rfl ?_; (conv => whnf)) | (apply CallA.liftC hS (isEmpty _); (conv => whnf)) | (intro _; omega) | (intro _; (conv => whnf)) | (apply And.intro <;> intro _ <;> first | omega | (conv => whnf)) | (apply And.intro; (case left => (first | omega | exact rfl | exact PreC.self _ _ | with_reducible assumption | (simp only [inR, IntKind.bits, Int.reduceToNat, Int.reducePow]; omega) | (simp; done) | (simp; omega))); (conv => whnf)) | (apply Or.inl; apply And.intro; (case left => (first | omega | exact rfl | exact PreC.self _ _ | with_reducible assumption | (simp only [inR, IntKind.bits, Int.reduceToNat, Int.reducePow]; omega) | (simp; done) | (simp; omega))); (conv => whnf)) | (apply Or.inr; (conv => whnf)) | (refine Exists.intro _ (And.intro rfl ?_); (conv => whnf)) | (refine Exists.intro _ (And.intro (And.intro rfl rfl) ?_); (conv => whnf)) | (refine Exists.intro (intE .u8) (And.intro ⟨rfl, fun _ => rfl⟩ ?_); (conv => whnf)) | (refine Exists.intro _ (And.intro (And.intro rfl (And.intro rfl ?leaf)) ?_); (case leaf => (first | exact rfl | omega | (simp; done) | (simp; omega))); (conv => whnf)))
    · obtain ⟨k1, k2, k3⟩ := fl_keep (by omega) g2 g3 g4 ‹_›
      have k4 := congrArg List.length k1
      simp only [List.length_append, List.length_singleton] at k4
      refine ⟨(g.1 + 1, _), ⟨⟨by dsimp only; omega, ?_, k2, k3⟩, by dsimp only; omega⟩, ?_⟩
      · dsimp only; rw [List.length_set]; exact g2
      · ((try dsimp only); repeat' (first | trivial | (apply And.intro; (case left => (first | omega | exact rfl | with_reducible assumption | exact PreC.self _ _ | exact PreC.of_eq (by with_reducible assumption) | exact PreC.of_eq' (by with_reducible assumption) | exact PreC.self' _ _ _ | exact PreC.pre (by with_reducible assumption) | exact ⟨5, rfl⟩ | exact ⟨9, rfl⟩ |  (simp; done) | (simp; omega)))) | ((conv => whnf); apply And.intro; (case left => (first | omega | exact rfl | with_reducible assumption | exact PreC.self _ _ | exact PreC.of_eq (by with_reducible assumption) | exact PreC.of_eq' (by with_reducible assumption) | exact PreC.self' _ _ _ | exact PreC.pre (by with_reducible assumption) | exact ⟨5, rfl⟩ | exact ⟨9, rfl⟩ |  (simp; done) | (simp; omega)))) | ((conv => whnf); trivial)))
    · obtain ⟨k1, k2⟩ := fl_drop (by omega) g4 (Classical.not_not.1 ‹_›)
      refine ⟨(g.1 + 1, g.2), ⟨⟨by dsimp only; omega, g2, by dsimp only; rw [k1]; exact g3, k2⟩, by dsimp only; omega⟩, ?_⟩
      dsimp only
      rw [k1]
      repeat' (first | trivial | (apply And.intro; (case left => (first | omega | exact rfl | with_reducible assumption | exact PreC.self _ _ | exact PreC.of_eq (by with_reducible assumption) | exact PreC.of_eq' (by with_reducible assumption) | exact PreC.self' _ _ _ | exact PreC.pre (by with_reducible assumption) | exact ⟨5, rfl⟩ | exact ⟨9, rfl⟩ |  (simp; done) | (simp; omega)))) | ((conv => whnf); apply And.intro; (case left => (first | omega | exact rfl | with_reducible assumption | exact PreC.self _ _ | exact PreC.of_eq (by with_reducible assumption) | exact PreC.of_eq' (by with_reducible assumption) | exact PreC.self' _ _ _ | exact PreC.pre (by with_reducible assumption) | exact ⟨5, rfl⟩ | exact ⟨9, rfl⟩ |  (simp; done) | (simp; omega)))) | ((conv => whnf); trivial))
    · have e1 : ws.take g.1 = ws := List.take_of_length_le (by omega)
      rw [e1] at g3
      have e2 : over g.2 ((fl ws).length : Int).toNat (List.replicate ((ws.length : Int) - ((fl ws).length : Int)).toNat strE.d) = fl ws ++ (List.replicate ((ws.length : Int) - ((fl ws).length : Int)).toNat strE.d ++ g.2.drop ((fl ws).length + (List.replicate ((ws.length : Int) - ((fl ws).length : Int)).toNat strE.d).length)) := by
        unfold over
        rw [Int.toNat_natCast, g3]
      simp only [e1]
      (refine ⟨(), trivial, ?_⟩; repeat' (first | trivial | (apply And.intro; (case left => (first | omega | exact rfl | with_reducible assumption | exact PreC.self _ _ | exact PreC.of_eq (by with_reducible assumption) | exact PreC.of_eq' (by with_reducible assumption) | exact PreC.self' _ _ _ | exact PreC.pre (by with_reducible assumption) | exact ⟨5, rfl⟩ | exact ⟨9, rfl⟩ |  (simp; done) | (simp; omega)))) | ((conv => whnf); apply And.intro; (case left => (first | omega | exact rfl | with_reducible assumption | exact PreC.self _ _ | exact PreC.of_eq (by with_reducible assumption) | exact PreC.of_eq' (by with_reducible assumption) | exact PreC.self' _ _ _ | exact PreC.pre (by with_reducible assumption) | exact ⟨5, rfl⟩ | exact ⟨9, rfl⟩ |  (simp; done) | (simp; omega)))) | ((conv => whnf); trivial)))
theorem split (xs : List Int) (hx : xs.length ≤ 1048576) : CallA S 28 [.str xs] ⟨[], 0⟩ fun v H' =>
    ∃ _ : Unit, True ∧ v = .sl (.loc 0) 1 none (fl (cut xs)).length ∧ H' = ⟨[⟨.loc 0, true, .arr strE (fl (cut xs))⟩], 1⟩ := by
  refine .ofC hS (fun _ => True) (fun _ => .sl (.loc 0) 1 none (fl (cut xs)).length) (fun _ => ⟨[⟨.loc 0, true, .arr strE (fl (cut xs))⟩], 1⟩) Tryd.func28 ?_
  have hc := cut_len xs
  have h1 := cntOf_le xs 32
  conv => whnf
  repeat' (first | (refine Seal.mk ?_) | (refine wpA_seq ?_) | (refine wpA_region rfl ?_) | (refine wpA_block ?_) | (refine wpA_loop ?_) | (refine wpA_draw ?_) | (refine drawA_all ?_) | (refine drawA_fork2 ?_ ?_) | (refine opsA_cons ?_; (conv => whnf)) | (refine opsA_nil ?_; (conv => whnf)) | (refine wpA_cond ?_; (conv => whnf)) | (refine wpA_skip ?_; (conv => whnf)) | (refine wpA_exit ?_; (conv => whnf)) | (refine wpA_ret ?_; (conv => whnf)) | (refine stillA_cons ?_; (conv => whnf)) | (refine stillA_nil ?_; (conv => whnf)) | (refine drawA_done ?_; (conv => whnf)) | (refine drawA_quick rfl ?_; (conv => whnf)) | (refine drawA_read rfl ?_; (conv => whnf)) | (refine drawA_step rfl ?_; (conv => whnf)) | (apply CallA.liftC hS (splitBlank xs hx); (conv => whnf)) | (apply CallA.liftC hS (deleteFunc (cut xs) (by omega)); (conv => whnf)) | (intro _; omega) | (intro _; (conv => whnf)) | (apply And.intro <;> intro _ <;> first | omega | (conv => whnf)) | (apply And.intro; (case left => (first | omega | exact rfl | exact PreC.self _ _ | with_reducible assumption | (simp only [inR, IntKind.bits, Int.reduceToNat, Int.reducePow]; omega) | (simp; done) | (simp; omega))); (conv => whnf)) | (apply Or.inl; apply And.intro; (case left => (first | omega | exact rfl | exact PreC.self _ _ | with_reducible assumption | (simp only [inR, IntKind.bits, Int.reduceToNat, Int.reducePow]; omega) | (simp; done) | (simp; omega))); (conv => whnf)) | (apply Or.inr; (conv => whnf)) | (refine Exists.intro _ (And.intro rfl ?_); (conv => whnf)) | (refine Exists.intro _ (And.intro (And.intro rfl rfl) ?_); (conv => whnf)) | (refine Exists.intro (intE .u8) (And.intro ⟨rfl, fun _ => rfl⟩ ?_); (conv => whnf)) | (refine Exists.intro _ (And.intro (And.intro rfl (And.intro rfl ?leaf)) ?_); (case leaf => (first | exact rfl | omega | (simp; done) | (simp; omega))); (conv => whnf)))
  (refine ⟨(), trivial, ?_⟩; repeat' (first | trivial | (apply And.intro; (case left => (first | omega | exact rfl | with_reducible assumption | exact PreC.self _ _ | exact PreC.of_eq (by with_reducible assumption) | exact PreC.of_eq' (by with_reducible assumption) | exact PreC.self' _ _ _ | exact PreC.pre (by with_reducible assumption) | exact ⟨5, rfl⟩ | exact ⟨9, rfl⟩ |  (simp; done) | (simp; omega)))) | ((conv => whnf); apply And.intro; (case left => (first | omega | exact rfl | with_reducible assumption | exact PreC.self _ _ | exact PreC.of_eq (by with_reducible assumption) | exact PreC.of_eq' (by with_reducible assumption) | exact PreC.self' _ _ _ | exact PreC.pre (by with_reducible assumption) | exact ⟨5, rfl⟩ | exact ⟨9, rfl⟩ |  (simp; done) | (simp; omega)))) | ((conv => whnf); trivial)))
theorem wordsOf (xs : List Int) (hx : xs.length ≤ 1048576) : CallA S 6 [.str xs] ⟨[], 0⟩ fun v H' =>
    ∃ _ : Unit, True ∧ v = .agg [.int .i64 0, .sl (.loc 0) 1 none (fl (cut xs)).length] ∧ H' = ⟨[⟨.loc 0, true, .arr strE (fl (cut xs))⟩], 1⟩ := by
  refine .ofC hS (fun _ => True) (fun _ => .agg [.int .i64 0, .sl (.loc 0) 1 none (fl (cut xs)).length]) (fun _ => ⟨[⟨.loc 0, true, .arr strE (fl (cut xs))⟩], 1⟩) Tryd.func6 ?_
  conv => whnf
  repeat' (first | (refine Seal.mk ?_) | (refine wpA_seq ?_) | (refine wpA_region rfl ?_) | (refine wpA_block ?_) | (refine wpA_loop ?_) | (refine wpA_draw ?_) | (refine drawA_all ?_) | (refine drawA_fork2 ?_ ?_) | (refine opsA_cons ?_; (conv => whnf)) | (refine opsA_nil ?_; (conv => whnf)) | (refine wpA_cond ?_; (conv => whnf)) | (refine wpA_skip ?_; (conv => whnf)) | (refine wpA_exit ?_; (conv => whnf)) | (refine wpA_ret ?_; (conv => whnf)) | (refine stillA_cons ?_; (conv => whnf)) | (refine stillA_nil ?_; (conv => whnf)) | (refine drawA_done ?_; (conv => whnf)) | (refine drawA_quick rfl ?_; (conv => whnf)) | (refine drawA_read rfl ?_; (conv => whnf)) | (refine drawA_step rfl ?_; (conv => whnf)) | (apply CallA.liftC hS (split xs hx); (conv => whnf)) | (intro _; omega) | (intro _; (conv => whnf)) | (apply And.intro <;> intro _ <;> first | omega | (conv => whnf)) | (apply And.intro; (case left => (first | omega | exact rfl | exact PreC.self _ _ | with_reducible assumption | (simp only [inR, IntKind.bits, Int.reduceToNat, Int.reducePow]; omega) | (simp; done) | (simp; omega))); (conv => whnf)) | (apply Or.inl; apply And.intro; (case left => (first | omega | exact rfl | exact PreC.self _ _ | with_reducible assumption | (simp only [inR, IntKind.bits, Int.reduceToNat, Int.reducePow]; omega) | (simp; done) | (simp; omega))); (conv => whnf)) | (apply Or.inr; (conv => whnf)) | (refine Exists.intro _ (And.intro rfl ?_); (conv => whnf)) | (refine Exists.intro _ (And.intro (And.intro rfl rfl) ?_); (conv => whnf)) | (refine Exists.intro (intE .u8) (And.intro ⟨rfl, fun _ => rfl⟩ ?_); (conv => whnf)) | (refine Exists.intro _ (And.intro (And.intro rfl (And.intro rfl ?leaf)) ?_); (case leaf => (first | exact rfl | omega | (simp; done) | (simp; omega))); (conv => whnf)))
  (refine ⟨(), trivial, ?_⟩; repeat' (first | trivial | (apply And.intro; (case left => (first | omega | exact rfl | with_reducible assumption | exact PreC.self _ _ | exact PreC.of_eq (by with_reducible assumption) | exact PreC.of_eq' (by with_reducible assumption) | exact PreC.self' _ _ _ | exact PreC.pre (by with_reducible assumption) | exact ⟨5, rfl⟩ | exact ⟨9, rfl⟩ |  (simp; done) | (simp; omega)))) | ((conv => whnf); apply And.intro; (case left => (first | omega | exact rfl | with_reducible assumption | exact PreC.self _ _ | exact PreC.of_eq (by with_reducible assumption) | exact PreC.of_eq' (by with_reducible assumption) | exact PreC.self' _ _ _ | exact PreC.pre (by with_reducible assumption) | exact ⟨5, rfl⟩ | exact ⟨9, rfl⟩ |  (simp; done) | (simp; omega)))) | ((conv => whnf); trivial)))
end Go.Words
