/- Reading a line: what is read, and what is left. -/
import Derived.Test.YtcimmkokkmbhpaaGreatN1
set_option linter.unusedSimpArgs false
set_option linter.unusedVariables false
set_option linter.constructorNameAsVariable false
namespace Go.Mu
open Go Go.Vm Go.RowKit Go.Proofs
/-- pieces taken as long as there is room -/
def gr : List (List Int) → Nat → List Int × List (List Int)
  | [], _ => ([], [])
  | p :: ps, n => if n = 0 then ([], p :: ps) else if n < p.length then (p.take n, p.drop n :: ps) else (p ++ (gr ps (n - p.length)).1, (gr ps (n - p.length)).2)
/-- what follows the first piece -/
noncomputable def tl (c : Prop) (ps : List (List Int)) (n : Nat) : List Int × List (List Int) :=
  open Classical in if c then ([], ps) else gr ps n
/-- what is read of pieces, and what is left -/
noncomputable def rd (c : Prop) (ps : List (List Int)) (n : Nat) : List Int × List (List Int) := match ps with
  | [] => ([], [])
  | p :: r => if n < p.length then (p.take n, p.drop n :: r) else (p ++ (tl c r (n - p.length)).1, (tl c r (n - p.length)).2)
theorem gr_zero : ∀ ps, gr ps 0 = ([], ps)
  | [] => rfl
  | _ :: _ => by simp [gr]
theorem tl_end {c : Prop} {ps : List (List Int)} {n : Nat} (h : c ∨ ps = [] ∨ n = 0) : tl c ps n = ([], ps) := by
  unfold tl
  split
  · rfl
  · rename_i hc
    rcases h with h | rfl | rfl
    · exact absurd h hc
    · rfl
    · exact gr_zero ps
theorem tl_rd {c : Prop} {ps : List (List Int)} {n : Nat} (hc : ¬ c) (hn : 0 < n) : tl c ps n = rd c ps n := by
  unfold tl
  rw [if_neg hc]
  cases ps with
  | nil => rfl
  | cons p r =>
    simp only [gr, rd]
    rw [if_neg (by omega)]
    unfold tl
    rw [if_neg hc]
/-- so far -/
def Sofar (c : Prop) (ps : List (List Int)) (n : Nat) (X : List (List Int)) (k : Nat) (out : List Int) : Prop :=
  out.length ≤ n ∧ rd c ps n = (out ++ (tl c (X.drop k) (n - out.length)).1, (tl c (X.drop k) (n - out.length)).2)
/-- .. at the beginning, or ahead of one more piece -/
def Ahead (c : Prop) (ps : List (List Int)) (n : Nat) (X : List (List Int)) (k : Nat) (out : List Int) : Prop :=
  out.length < n ∧ rd c ps n = (out ++ (rd c (X.drop k) (n - out.length)).1, (rd c (X.drop k) (n - out.length)).2)
theorem Ahead.first (c : Prop) (ps : List (List Int)) {n : Nat} (h : 0 < n) : Ahead c ps n ps 0 [] := ⟨h, by simp⟩
theorem Sofar.more {c : Prop} {ps : List (List Int)} {n : Nat} {X : List (List Int)} {k : Nat} {out : List Int} (h : Sofar c ps n X k out) (hc : ¬ c) (hl : out.length < n) : Ahead c ps n X k out :=
  ⟨hl, by rw [h.2, tl_rd hc (by omega)]⟩
theorem Sofar.done {c : Prop} {ps : List (List Int)} {n : Nat} {X : List (List Int)} {k : Nat} {out : List Int} (h : Sofar c ps n X k out) (he : c ∨ X.length ≤ k ∨ n ≤ out.length) : rd c ps n = (out, X.drop k) := by
  rw [h.2, tl_end (by
    rcases he with h | h | h
    · exact .inl h
    · exact .inr (.inl (List.drop_eq_nil_of_le h))
    · exact .inr (.inr (by omega)))]
  simp
theorem drop_get {X : List (List Int)} {k : Nat} (h : k < X.length) : X.drop k = X.getD k [] :: X.drop (k + 1) := by
  rw [List.drop_eq_getElem_cons h]; simp [h]
theorem Ahead.some {c : Prop} {ps : List (List Int)} {n : Nat} {X : List (List Int)} {k : Nat} {out : List Int} (h : Ahead c ps n X k out) (hk : k < X.length) (hp : n - out.length < (X.getD k []).length) :
    Sofar c ps n (X.set k ((X.getD k []).drop (n - out.length))) k (out ++ (X.getD k []).take (n - out.length)) := by
  have h1 := h.1
  have hl : (out ++ (X.getD k []).take (n - out.length)).length = n := by
    rw [List.length_append, List.length_take, Nat.min_eq_left (by omega)]; omega
  refine ⟨by omega, ?_⟩
  rw [h.2, drop_get hk]
  simp only [rd]
  rw [if_pos hp, hl, Nat.sub_self, tl_end (.inr (.inr rfl)), List.append_nil, List.drop_set, if_neg (by omega), Nat.sub_self, drop_get hk, List.set_cons_zero]
theorem Ahead.all {c : Prop} {ps : List (List Int)} {n : Nat} {X : List (List Int)} {k : Nat} {out : List Int} (h : Ahead c ps n X k out) (hk : k < X.length) (hp : ¬ n - out.length < (X.getD k []).length) :
    Sofar c ps n (X.set k []) (k + 1) (out ++ X.getD k []) := by
  have h1 := h.1
  have hl : (out ++ X.getD k []).length = out.length + (X.getD k []).length := List.length_append
  refine ⟨by omega, ?_⟩
  rw [h.2, drop_get hk]
  simp only [rd]
  rw [if_neg hp, hl, List.drop_set, if_pos (by omega), show n - (out.length + (X.getD k []).length) = n - out.length - (X.getD k []).length by omega, List.append_assoc]
/-- the reference leaves the pieces that are gone as they were -/
theorem Ahead.all' {c : Prop} {ps : List (List Int)} {n : Nat} {X : List (List Int)} {k : Nat} {out : List Int} (h : Ahead c ps n X k out) (hk : k < X.length) (hp : ¬ n - out.length < (X.getD k []).length) :
    Sofar c ps n X (k + 1) (out ++ X.getD k []) := by
  have := h.all hk hp
  unfold Sofar at *
  rw [List.drop_set, if_pos (by omega)] at this
  exact this
theorem Ahead.step {c : Prop} {ps : List (List Int)} {n : Nat} {X : List (List Int)} {k : Nat} {out : List Int} (h : Ahead c ps n X k out) (hk : k < X.length) {m k' : Nat} (hm : m = min (n - out.length) (X.getD k []).length)
    (hk' : (n - out.length < (X.getD k []).length → k' = k) ∧ (¬ n - out.length < (X.getD k []).length → k' = k + 1)) : Sofar c ps n (X.set k ((X.getD k []).drop m)) k' (out ++ (X.getD k []).take m) := by
  by_cases hp : n - out.length < (X.getD k []).length
  · rw [hk'.1 hp, show m = n - out.length by omega]
    exact h.some hk hp
  · rw [hk'.2 hp, show m = (X.getD k []).length by omega, List.drop_length, List.take_length]
    exact h.all hk hp
theorem sumC_drop (k : Nat) (X : List (List Int)) : sumC List.length (X.drop k) ≤ sumC List.length X := by
  have h : sumC List.length (X.take k ++ X.drop k) = sumC List.length (X.take k) + sumC List.length (X.drop k) := sumC_append _ _
  rw [List.take_append_drop] at h
  omega
theorem sumC_set : ∀ (X : List (List Int)) (k m : Nat), sumC List.length (X.set k ((X.getD k []).drop m)) ≤ sumC List.length X
  | [], k, m => by simp
  | x :: r, 0, m => by simp [sumC]
  | x :: r, k + 1, m => by
    have := sumC_set r k m
    simp only [List.set_cons_succ, sumC]
    have e : (x :: r).getD (k + 1) [] = r.getD k [] := by simp
    rw [e]
    omega
end Go.Mu
