/- An abstract machine over the loaded code: a state told anew, roads that meet. -/
import Derived.Test.YtcimmkokkmbhpaaGreatVmH
set_option linter.unusedSimpArgs false
set_option linter.unusedVariables false
set_option linter.constructorNameAsVariable false
namespace Go.Vm
open Go.RowKit
section
variable {S : Seat} {σ τ : St} {c : Code} {kn : St → Prop} {ke : Nat → St → Prop} {kr : St → Prop}
/-- the state is told anew, here -/
theorem Wp.see (τ : St) (h : FitsT S σ τ) (k : Wp S c τ kn ke kr) : Wp S c σ kn ke kr :=
  Wp.turn (by unfold FitsT at h; exact h) k
theorem FitsT.refl (σ : St) : FitsT S σ σ := by unfold FitsT; exact .refl σ
/-- all roads of a piece of code meet in one state -/
theorem Wp.meet (h : Wp S c σ (fun σ' => FitsT S σ' τ) ke kr) (k : kn τ) : Wp S c σ kn ke kr := by
  unfold Wp
  intro ρ0 H0 w0 ρ a w hi
  refine wp_mono (h.run hi) fun e a w hq => ?_
  cases e with
  | normal =>
    obtain ⟨σ', ρ', q3, q4⟩ := hq
    unfold FitsT at q3
    obtain ⟨ρ'', h⟩ := q3 _ _ _ _ _ _ q4
    exact ⟨τ, ρ'', k, h⟩
  | exit i => exact hq
  | ret => exact hq
  | _ => exact hq.elim

/-- an entry of plain values that is only read from here on -/
def rawE (e : Ent) : Ent := match e.c with
  | .raw vs => ⟨e.b, false, .raw vs⟩
  | .arr E xs => ⟨e.b, e.rw, .arr E xs⟩
  | .nest m d g s f xs o => ⟨e.b, e.rw, .nest m d g s f xs o⟩
def rawL : List Ent → List Ent
  | [] => []
  | e :: r => rawE e :: rawL r
def rawA (σ : St) : St := match σ with
  | ⟨env, H, n, lo⟩ => match H with
    | ⟨l, N⟩ => ⟨env, ⟨rawL l, N⟩, n, lo⟩
theorem rawE_b (e : Ent) : (rawE e).b = e.b := by unfold rawE; split <;> rfl
theorem rawE_rw (e : Ent) (h : (rawE e).rw = true) : e.rw = true := by
  unfold rawE at h
  split at h
  · cases h
  · exact h
  · exact h
theorem rawE_c (e : Ent) : (rawE e).c = e.c := by
  obtain ⟨b, rw, c⟩ := e
  unfold rawE
  cases c <;> rfl
theorem rawL_mem : ∀ {l : List Ent} {e : Ent}, e ∈ rawL l → ∃ x, x ∈ l ∧ e = rawE x
  | x :: r, e, h => by
    rcases List.mem_cons.1 h with rfl | h
    · exact ⟨x, List.mem_cons_self, rfl⟩
    · obtain ⟨y, h1, h2⟩ := rawL_mem h
      exact ⟨y, List.mem_cons_of_mem _ h1, h2⟩
theorem rawL_keys : ∀ {l : List Ent}, l.Pairwise (fun e e' => e.b ≠ e'.b) → (rawL l).Pairwise fun e e' => e.b ≠ e'.b
  | [], _ => .nil
  | x :: r, h => by
    obtain ⟨h1, h2⟩ := List.pairwise_cons.1 h
    refine List.pairwise_cons.2 ⟨fun e he => ?_, rawL_keys h2⟩
    obtain ⟨y, hy, rfl⟩ := rawL_mem he
    rw [rawE_b, rawE_b]
    exact h1 y hy
theorem HRel.ro {ρ : Lay} {l : List Ent} {N : Nat} {w : World} (h : HRel S ρ ⟨l, N⟩ w) : HRel S ρ ⟨rawL l, N⟩ w where
  holds := fun e he => by
    obtain ⟨x, hx, rfl⟩ := rawL_mem he
    have := h.holds x hx
    rw [rawE_b, rawE_c]
    obtain ⟨b, rw, c⟩ := x
    cases c with
    | raw vs =>
      obtain ⟨h1, h2⟩ := this
      refine ⟨?_, h2⟩
      simp only [rawE]
      unfold Lies at h1 ⊢
      simp only at h1 ⊢
      split at h1
      · exact h1
      · obtain ⟨arr, T, fz, g1, g2, g3, g4⟩ := h1
        exact ⟨arr, T, fz, g1, g2, (fun q => by cases q), g4⟩
    | arr E xs => exact this
    | nest m d g s f xs o => exact this
  key := fun e he => by
    obtain ⟨x, hx, rfl⟩ := rawL_mem he
    rw [rawE_b]
    exact h.key x hx
  sep := fun e he e' he' hor hne => by
    obtain ⟨x, hx, rfl⟩ := rawL_mem he
    obtain ⟨x', hx', rfl⟩ := rawL_mem he'
    rw [rawE_b, rawE_b] at hne ⊢
    exact h.sep x hx x' hx' (hor.imp (rawE_rw x) (rawE_rw x')) hne
  keys := rawL_keys h.keys
  glob := h.glob
  enc := fun e he => by
    obtain ⟨x, hx, rfl⟩ := rawL_mem he
    rw [rawE_c]
    exact h.enc x hx
  low := fun e he => by
    obtain ⟨x, hx, rfl⟩ := rawL_mem he
    rw [rawE_b]
    exact h.low x hx
  root := fun e he hr => by
    obtain ⟨x, hx, rfl⟩ := rawL_mem he
    rw [rawE_b]
    exact h.root x hx (rawE_rw x hr)
theorem Turn.ro (σ : St) : Turn S σ (rawA σ) := fun ρ0 H0 w0 ρ a w hi => by
  obtain ⟨env, ⟨l, N⟩, n, lo⟩ := σ
  refine ⟨ρ, hi.env, hi.size, hi.defers, hi.lo, hi.after.next, hi.after.agree, hi.after.heap.ro, hi.after.size, hi.after.frame, fun k c hk => ?_, hi.after.os, hi.after.tape, hi.after.output⟩
  obtain ⟨e, he, hr, hf⟩ := hk
  obtain ⟨x, hx, rfl⟩ := rawL_mem he
  rw [rawE_b] at hf
  exact hi.after.own k c ⟨x, hx, rawE_rw x hr, hf⟩
def rawK : List Ent → (List Ent → Prop) → Prop
  | [], K => K []
  | e :: r, K => match e with
    | ⟨b, rw, c⟩ => match c with
      | .raw vs => rawK r fun l => K (⟨b, false, .raw vs⟩ :: l)
      | .arr E xs => rawK r fun l => K (⟨b, rw, .arr E xs⟩ :: l)
      | .nest m d g s f xs o => rawK r fun l => K (⟨b, rw, .nest m d g s f xs o⟩ :: l)
theorem rawK_out : ∀ {l : List Ent} {K : List Ent → Prop}, rawK l K → K (rawL l)
  | [], _, h => h
  | ⟨b, rw, c⟩ :: r, K, h => by
    cases c with
    | raw vs => exact rawK_out (l := r) (K := fun l => K (⟨b, false, .raw vs⟩ :: l)) h
    | arr E xs => exact rawK_out (l := r) (K := fun l => K (⟨b, rw, .arr E xs⟩ :: l)) h
    | nest m d g s f xs o => exact rawK_out (l := r) (K := fun l => K (⟨b, rw, .nest m d g s f xs o⟩ :: l)) h
/-- plain values are only read from here on -/
theorem Wp.ro {env : List (Nat × AV)} {l : List Ent} {N n lo : Nat} (k : rawK l fun l' => Wp S c ⟨env, ⟨l', N⟩, n, lo⟩ kn ke kr) : Wp S c ⟨env, ⟨l, N⟩, n, lo⟩ kn ke kr :=
  Wp.turn (Turn.ro _) (rawK_out k)

def memN : List Nat → Nat → Bool
  | [], _ => false
  | a :: r, t => match Nat.beq a t with
    | true => true
    | false => memN r t
/-- what is shadowed is dropped -/
def cleanK : List Nat → List (Nat × AV) → (List (Nat × AV) → Prop) → Prop
  | _, [], K => K []
  | seen, p :: r, K => match p with
    | (t, v) => match memN seen t with
      | true => cleanK seen r K
      | false => cleanK (t :: seen) r fun l => K ((t, v) :: l)
def cleanE : List Nat → List (Nat × AV) → List (Nat × AV)
  | _, [] => []
  | seen, (t, v) :: r => match memN seen t with
    | true => cleanE seen r
    | false => (t, v) :: cleanE (t :: seen) r
theorem cleanK_out : ∀ {env : List (Nat × AV)} {seen : List Nat} {K : List (Nat × AV) → Prop}, cleanK seen env K → K (cleanE seen env)
  | [], _, _, h => h
  | (t, v) :: r, seen, K, h => by
    unfold cleanK at h
    simp only at h
    unfold cleanE
    split at h
    · rename_i hm
      exact cleanK_out (env := r) h
    · rename_i hm
      exact cleanK_out (env := r) (K := fun l => K ((t, v) :: l)) h
theorem cleanE_look : ∀ {env : List (Nat × AV)} {seen : List Nat} {t : Nat}, memN seen t = false → look (cleanE seen env) t = look env t
  | [], _, _, _ => rfl
  | (a, v) :: r, seen, t, h => by
    unfold cleanE
    split
    · rename_i hm
      rw [cleanE_look h]
      have hne : Nat.beq a t = false := by
        cases hb : Nat.beq a t
        · rfl
        · rw [Nat.eq_of_beq_eq_true hb, h] at hm; cases hm
      simp only [look, hne]
    · cases hb : Nat.beq a t
      · simp only [look, hb]
        exact cleanE_look (env := r) (by simp only [memN, hb]; exact h)
      · simp only [look, hb]
theorem FitsT.clean {env : List (Nat × AV)} {H : Heap} {n lo : Nat} (h : cleanK [] env fun e => (⟨e, H, n, lo⟩ : St) = τ) : FitsT S ⟨env, H, n, lo⟩ τ := by
  have h := cleanK_out h
  subst h
  unfold FitsT
  intro ρ0 H0 w0 ρ a w hi
  refine ⟨ρ, fun t => ?_, hi.size, hi.defers, hi.lo, hi.after⟩
  show VRel ρ (look (cleanE [] env) t) _ ∧ (look (cleanE [] env) t).lt _
  rw [cleanE_look rfl]
  exact hi.env t
end
end Go.Vm
