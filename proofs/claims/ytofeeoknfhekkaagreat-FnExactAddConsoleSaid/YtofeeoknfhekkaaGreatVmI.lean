/- An abstract machine over the loaded code: a state told anew, roads that meet. -/
import Derived.Test.YtofeeoknfhekkaaGreatVmH
set_option linter.unusedSimpArgs false
set_option linter.unusedVariables false
set_option linter.constructorNameAsVariable false
namespace Go.Vm
open Go.RowKit
section
variable {S : Seat} {σ τ : St} {c : Code} {kn : St → Prop} {ke : Nat → St → Prop} {kr : St → Prop}
/-- the state is told anew, here -/
theorem Wp.see (τ : St) (h : FitsT S σ τ) (k : Wp S c τ kn ke kr) : Wp S c σ kn ke kr :=
  Wp.turn (by unfold FitsT at h; exact h) k
theorem FitsT.refl (σ : St) : FitsT S σ σ := by unfold FitsT; exact .refl σ
/-- all roads of a piece of code meet in one state -/
theorem Wp.meet (h : Wp S c σ (fun σ' => FitsT S σ' τ) ke kr) (k : kn τ) : Wp S c σ kn ke kr := by
  unfold Wp
  intro ρ0 H0 w0 ρ a w hi
  refine wp_mono (h.run hi) fun e a w hq => ?_
  cases e with
  | normal =>
    obtain ⟨σ', ρ', q3, q4⟩ := hq
    unfold FitsT at q3
    obtain ⟨ρ'', h⟩ := q3 _ _ _ _ _ _ q4
    exact ⟨τ, ρ'', k, h⟩
  | exit i => exact hq
  | ret => exact hq
  | _ => exact hq.elim

/-- an entry of plain values that is only read from here on -/
def rawE (e : Ent) : Ent := match e.c with
  | .raw vs => ⟨e.b, false, .raw vs⟩
  | .arr E xs => ⟨e.b, e.rw, .arr E xs⟩
  | .nest m d g s f xs o => ⟨e.b, e.rw, .nest m d g s f xs o⟩
def rawL : List Ent → List Ent
  | [] => []
  | e :: r => rawE e :: rawL r
def rawA (σ : St) : St := match σ with
  | ⟨env, H, n, lo⟩ => match H with
    | ⟨l, N⟩ => ⟨env, ⟨rawL l, N⟩, n, lo⟩
theorem rawE_b (e : Ent) : (rawE e).b = e.b := by unfold rawE; split <;> rfl
theorem rawE_rw (e : Ent) (h : (rawE e).rw = true) : e.rw = true := by
  unfold rawE at h
  split at h
  · cases h
  · exact h
  · exact h
theorem rawE_c (e : Ent) : (rawE e).c = e.c := by
  obtain ⟨b, rw, c⟩ := e
  unfold rawE
  cases c <;> rfl
theorem rawL_mem : ∀ {l : List Ent} {e : Ent}, e ∈ rawL l → ∃ x, x ∈ l ∧ e = rawE x
  | x :: r, e, h => by
    rcases List.mem_cons.1 h with rfl | h
    · exact ⟨x, List.mem_cons_self, rfl⟩
    · obtain ⟨y, h1, h2⟩ := rawL_mem h
      exact ⟨y, List.mem_cons_of_mem _ h1, h2⟩
theorem rawL_keys : ∀ {l : List Ent}, l.Pairwise (fun e e' => e.b ≠ e'.b) → (rawL l).Pairwise fun e e' => e.b ≠ e'.b
  | [], _ => .nil
  | x :: r, h => by
    obtain ⟨h1, h2⟩ := List.pairwise_cons.1 h
    refine List.pairwise_cons.2 ⟨fun e he => ?_, rawL_keys h2⟩
    obtain ⟨y, hy, rfl⟩ := rawL_mem he
    rw [rawE_b, rawE_b]
    exact h1 y hy
theorem HRel.ro {ρ : Lay} {l : List Ent} {N : Nat} {w : World} (h : HRel S ρ ⟨l, N⟩ w) : HRel S ρ ⟨rawL l, N⟩ w where
  holds := fun e he => by
    obtain ⟨x, hx, rfl⟩ := rawL_mem he
    have := h.holds x hx
    rw [rawE_b, rawE_c]
    obtain ⟨b, rw, c⟩ := x
    cases c with
    | raw vs =>
      obtain ⟨h1, h2⟩ := this
      refine ⟨?_, h2⟩
      simp only [rawE]
      unfold Lies at h1 ⊢
      simp only at h1 ⊢
      split at h1
      · exact h1
      · obtain ⟨arr, T, fz, g1, g2, g3, g4⟩ := h1
        exact ⟨arr, T, fz, g1, g2, (fun q => by cases q), g4⟩
    | arr E xs => exact this
    | nest m d g s f xs o => exact this
  key := fun e he => by
    obtain ⟨x, hx, rfl⟩ := rawL_mem he
    rw [rawE_b]
    exact h.key x hx
  sep := fun e he e' he' hor hne => by
    obtain ⟨x, hx, rfl⟩ := rawL_mem he
    obtain ⟨x', hx', rfl⟩ := rawL_mem he'
    rw [rawE_b, rawE_b] at hne ⊢
    exact h.sep x hx x' hx' (hor.imp (rawE_rw x) (rawE_rw x')) hne
  keys := rawL_keys h.keys
  glob := h.glob
  enc := fun e he => by
    obtain ⟨x, hx, rfl⟩ := rawL_mem he
    rw [rawE_c]
    exact h.enc x hx
  low := fun e he => by
    obtain ⟨x, hx, rfl⟩ := rawL_mem he
    rw [rawE_b]
    exact h.low x hx
  root := fun e he hr => by
    obtain ⟨x, hx, rfl⟩ := rawL_mem he
    rw [rawE_b]
    exact h.root x hx (rawE_rw x hr)
theorem Turn.ro (σ : St) : Turn S σ (rawA σ) := fun ρ0 H0 w0 ρ a w hi => by
  obtain ⟨env, ⟨l, N⟩, n, lo⟩ := σ
  refine ⟨ρ, hi.env, hi.size, hi.defers, hi.lo, hi.after.next, hi.after.agree, hi.after.heap.ro, hi.after.size, hi.after.frame, fun k c hk => ?_, hi.after.os, hi.after.tape, hi.after.output⟩
  obtain ⟨e, he, hr, hf⟩ := hk
  obtain ⟨x, hx, rfl⟩ := rawL_mem he
  rw [rawE_b] at hf
  exact hi.after.own k c ⟨x, hx, rawE_rw x hr, hf⟩
def rawK : List Ent → (List Ent → Prop) → Prop
  | [], K => K []
  | e :: r, K => match e with
    | ⟨b, rw, c⟩ => match c with
      | .raw vs => rawK r fun l => K (⟨b, false, .raw vs⟩ :: l)
      | .arr E xs => rawK r fun l => K (⟨b, rw, .arr E xs⟩ :: l)
      | .nest m d g s f xs o => rawK r fun l => K (⟨b, rw, .nest m d g s f xs o⟩ :: l)
theorem rawK_out : ∀ {l : List Ent} {K : List Ent → Prop}, rawK l K → K (rawL l)
  | [], _, h => h
  | ⟨b, rw, c⟩ :: r, K, h => by
    cases c with
    | raw vs => exact rawK_out (l := r) (K := fun l => K (⟨b, false, .raw vs⟩ :: l)) h
    | arr E xs => exact rawK_out (l := r) (K := fun l => K (⟨b, rw, .arr E xs⟩ :: l)) h
    | nest m d g s f xs o => exact rawK_out (l := r) (K := fun l => K (⟨b, rw, .nest m d g s f xs o⟩ :: l)) h
/-- plain values are only read from here on -/
theorem Wp.ro {env : List (Nat × AV)} {l : List Ent} {N n lo : Nat} (k : rawK l fun l' => Wp S c ⟨env, ⟨l', N⟩, n, lo⟩ kn ke kr) : Wp S c ⟨env, ⟨l, N⟩, n, lo⟩ kn ke kr :=
  Wp.turn (Turn.ro _) (rawK_out k)

def memN : List Nat → Nat → Bool
  | [], _ => false
  | a :: r, t => match Nat.beq a t with
    | true => true
    | false => memN r t
/-- what is shadowed is dropped -/
def cleanK : List Nat → List (Nat × AV) → (List (Nat × AV) → Prop) → Prop
  | _, [], K => K []
  | seen, p :: r, K => match p with
    | (t, v) => match memN seen t with
      | true => cleanK seen r K
      | false => cleanK (t :: seen) r fun l => K ((t, v) :: l)
def cleanE : List Nat → List (Nat × AV) → List (Nat × AV)
  | _, [] => []
  | seen, (t, v) :: r => match memN seen t with
    | true => cleanE seen r
    | false => (t, v) :: cleanE (t :: seen) r
theorem cleanK_out : ∀ {env : List (Nat × AV)} {seen : List Nat} {K : List (Nat × AV) → Prop}, cleanK seen env K → K (cleanE seen env)
  | [], _, _, h => h
  | (t, v) :: r, seen, K, h => by
    unfold cleanK at h
    simp only at h
    unfold cleanE
    split at h
    · rename_i hm
      exact cleanK_out (env := r) h
    · rename_i hm
      exact cleanK_out (env := r) (K := fun l => K ((t, v) :: l)) h
theorem cleanE_look : ∀ {env : List (Nat × AV)} {seen : List Nat} {t : Nat}, memN seen t = false → look (cleanE seen env) t = look env t
  | [], _, _, _ => rfl
  | (a, v) :: r, seen, t, h => by
    unfold cleanE
    split
    · rename_i hm
      rw [cleanE_look h]
      have hne : Nat.beq a t = false := by
        cases hb : Nat.beq a t
        · rfl
        · rw [Nat.eq_of_beq_eq_true hb, h] at hm; cases hm
      simp only [look, hne]
    · cases hb : Nat.beq a t
      · simp only [look, hb]
        exact cleanE_look (env := r) (by simp only [memN, hb]; exact h)
      · simp only [look, hb]
theorem FitsT.clean {env : List (Nat × AV)} {H : Heap} {n lo : Nat} (h : cleanK [] env fun e => (⟨e, H, n, lo⟩ : St) = τ) : FitsT S ⟨env, H, n, lo⟩ τ := by
  have h := cleanK_out h
  subst h
  unfold FitsT
  intro ρ0 H0 w0 ρ a w hi
  refine ⟨ρ, fun t => ?_, hi.size, hi.defers, hi.lo, hi.after⟩
  show VRel ρ (look (cleanE [] env) t) _ ∧ (look (cleanE [] env) t).lt _
  rw [cleanE_look rfl]
  exact hi.env t
end
end Go.Vm

namespace Go.Vm
open Go.RowKit
section
variable {S : Seat} {σ τ : St} {c : Code} {kn : St → Prop} {ke : Nat → St → Prop} {kr : St → Prop}
def blkN : Blk → List Nat → List Nat
  | .loc n, r => n :: r
  | .glob _, r => r
  | .sub b _ _, r => blkN b r
mutual
/-- the blocks that a value names -/
def avN : AV → List Nat → List Nat
  | .ptr b _ _ _, r => blkN b r
  | .sl b _ _ _, r => blkN b r
  | .fn _ c, r => avsN c r
  | .agg c, r => avsN c r
  | .tup c, r => avsN c r
  | _, r => r
def avsN : List AV → List Nat → List Nat
  | [], r => r
  | v :: vs, r => avN v (avsN vs r)
end
def envN : List (Nat × AV) → List Nat
  | [] => []
  | p :: r => avN p.2 (envN r)
def remN : List Nat → Nat → List Nat
  | [], _ => []
  | a :: r, t => match Nat.beq a t with
    | true => remN r t
    | false => a :: remN r t
theorem remN_ne {a t : Nat} (h : Nat.beq a t = false) : ∀ ks : List Nat, memN (remN ks a) t = memN ks t
  | [] => rfl
  | b :: r => by
    unfold remN
    split
    · rename_i hb
      have := Nat.eq_of_beq_eq_true hb
      subst this
      simp only [memN, h]
      exact remN_ne h r
    · simp only [memN]
      split
      · rfl
      · exact remN_ne h r
def pickK : List Nat → List (Nat × AV) → (List (Nat × AV) → Prop) → Prop
  | _, [], K => K []
  | ks, p :: r, K => match p with
    | (t, v) => match memN ks t with
      | true => pickK (remN ks t) r fun l => K ((t, v) :: l)
      | false => pickK ks r K
def pickE : List Nat → List (Nat × AV) → List (Nat × AV)
  | _, [] => []
  | ks, (t, v) :: r => match memN ks t with
    | true => (t, v) :: pickE (remN ks t) r
    | false => pickE ks r
theorem pickK_out : ∀ {ks : List Nat} {env : List (Nat × AV)} {K : List (Nat × AV) → Prop}, pickK ks env K → K (pickE ks env)
  | _, [], _, h => h
  | ks, (t, v) :: r, K, h => by
    unfold pickK at h
    simp only at h
    unfold pickE
    split at h
    · exact pickK_out (env := r) (K := fun l => K ((t, v) :: l)) h
    · exact pickK_out (env := r) h
theorem pickE_look {t : Nat} : ∀ {env : List (Nat × AV)} {ks : List Nat}, look (pickE ks env) t = if memN ks t = true then look env t else .undef
  | [], ks => by simp [pickE, look]
  | (a, v) :: r, ks => by
    unfold pickE
    split
    · rename_i hm
      simp only [look]
      cases hb : Nat.beq a t
      · rw [← remN_ne hb ks]
        exact pickE_look (env := r)
      · have := Nat.eq_of_beq_eq_true hb
        subst this
        simp [hm]
    · rename_i hm
      rw [pickE_look (env := r)]
      simp only [look]
      cases hb : Nat.beq a t
      · rfl
      · have := Nat.eq_of_beq_eq_true hb
        subst this
        simp [hm]
/-- entries of these blocks -/
def heapK (ns : List Nat) : List Ent → (List Ent → Prop) → Prop
  | [], K => K []
  | e :: r, K => match e with
    | ⟨b, rw, c⟩ => match b with
      | .loc n => match memN ns n with
        | true => heapK ns r fun l => K (⟨.loc n, rw, c⟩ :: l)
        | false => heapK ns r K
      | .glob n => heapK ns r fun l => K (⟨.glob n, rw, c⟩ :: l)
      | .sub b i j => heapK ns r fun l => K (⟨.sub b i j, rw, c⟩ :: l)
theorem heapK_out {ns : List Nat} : ∀ {l : List Ent} {K : List Ent → Prop}, heapK ns l K → ∃ l', l'.Sublist l ∧ K l'
  | [], _, h => ⟨[], .slnil, h⟩
  | ⟨b, rw, c⟩ :: r, K, h => by
    cases b with
    | loc n =>
      unfold heapK at h
      simp only at h
      split at h
      · obtain ⟨l', h1, h2⟩ := heapK_out (l := r) (K := fun l => K (⟨.loc n, rw, c⟩ :: l)) h
        exact ⟨_, h1.cons_cons _, h2⟩
      · obtain ⟨l', h1, h2⟩ := heapK_out (l := r) h
        exact ⟨_, h1.cons _, h2⟩
    | glob n =>
      obtain ⟨l', h1, h2⟩ := heapK_out (l := r) (K := fun l => K (⟨.glob n, rw, c⟩ :: l)) h
      exact ⟨_, h1.cons_cons _, h2⟩
    | sub b i j =>
      obtain ⟨l', h1, h2⟩ := heapK_out (l := r) (K := fun l => K (⟨.sub b i j, rw, c⟩ :: l)) h
      exact ⟨_, h1.cons_cons _, h2⟩
/-- the blocks that entries of plain values name, of these blocks -/
def rawN (ns : List Nat) : List Ent → List Nat → List Nat
  | [], r => r
  | e :: l, r => match e with
    | ⟨b, _, c⟩ => match b with
      | .loc n => match memN ns n with
        | true => match c with
          | .raw vs => avsN vs (rawN ns l r)
          | .nest _ _ _ _ _ _ o => match o with
            | some p => avsN p.2 (rawN ns l r)
            | none => rawN ns l r
          | _ => rawN ns l r
        | false => rawN ns l r
      | _ => rawN ns l r
def forceN : List Nat → (List Nat → Prop) → Prop
  | [], K => K []
  | n :: r, K => forceN r fun l => K (n :: l)
theorem forceN_out : ∀ {l : List Nat} {K : List Nat → Prop}, forceN l K → K l
  | [], _, h => h
  | n :: r, K, h => forceN_out (l := r) (K := fun l => K (n :: l)) h
theorem Turn.less {env : List (Nat × AV)} {l l' : List Ent} {N n lo : Nat} (ks : List Nat) (h : l'.Sublist l) : Turn S ⟨env, ⟨l, N⟩, n, lo⟩ ⟨pickE ks env, ⟨l', N⟩, n, lo⟩ := fun ρ0 H0 w0 ρ a w hi => by
  have hs := h.subset
  have hr := hi.after.heap
  refine ⟨ρ, fun t => ?_, hi.size, hi.defers, hi.lo, hi.after.next, hi.after.agree, ?_, hi.after.size, hi.after.frame, fun k c hk => ?_, hi.after.os, hi.after.tape, hi.after.output⟩
  · show VRel ρ (look (pickE ks env) t) _ ∧ (look (pickE ks env) t).lt _
    rw [pickE_look]
    split
    · exact hi.env t
    · exact ⟨trivial, trivial⟩
  · exact ⟨fun e he => hr.holds e (hs he), fun e he => hr.key e (hs he), fun e he e' he' => hr.sep e (hs he) e' (hs he'), hr.keys.sublist h, hr.glob, fun e he => hr.enc e (hs he), fun e he => hr.low e (hs he), fun e he => hr.root e (hs he)⟩
  · obtain ⟨e, he, h1, h2⟩ := hk
    exact hi.after.own k c ⟨e, hs he, h1, h2⟩
/-- only these values, and the blocks they name -/
def keepK (ks : List Nat) (σ : St) (K : St → Prop) : Prop := match σ with
  | ⟨env, H, n, lo⟩ => match H with
    | ⟨l, N⟩ => pickK ks env fun env => forceN (envN env) fun ns => forceN (rawN ns l ns) fun ns => heapK ns l fun l => K ⟨env, ⟨l, N⟩, n, lo⟩
theorem Turn.keep {ks : List Nat} {σ τ : St} (h : keepK ks σ fun σ' => σ' = τ) : Turn S σ τ := by
  obtain ⟨env, ⟨l, N⟩, n, lo⟩ := σ
  unfold keepK at h
  simp only at h
  have h := pickK_out (K := fun env => forceN (envN env) fun ns => forceN (rawN ns l ns) fun ns => heapK ns l fun l => (⟨env, ⟨l, N⟩, n, lo⟩ : St) = τ) h
  have h := forceN_out h
  have h := forceN_out (K := fun ns => heapK ns l fun l => (⟨pickE ks env, ⟨l, N⟩, n, lo⟩ : St) = τ) h
  obtain ⟨l', h1, h2⟩ := heapK_out h
  subst h2
  exact Turn.less ks h1
theorem FitsT.keep (ks : List Nat) {σ τ : St} (h : keepK ks σ fun σ' => σ' = τ) : FitsT S σ τ := by unfold FitsT; exact Turn.keep h
/-- only these values, and the blocks they name; plain values are only read from here on -/
theorem Wp.keep (ks : List Nat) {env : List (Nat × AV)} {l : List Ent} {N n lo : Nat} (k : keepK ks ⟨env, ⟨l, N⟩, n, lo⟩ fun σ' => match σ' with | ⟨env, H, n, lo⟩ => match H with | ⟨l, N⟩ => rawK l fun l => Wp S c ⟨env, ⟨l, N⟩, n, lo⟩ kn ke kr) : Wp S c ⟨env, ⟨l, N⟩, n, lo⟩ kn ke kr := by
  unfold keepK at k
  simp only at k
  have k := pickK_out (K := fun env => forceN (envN env) fun ns => forceN (rawN ns l ns) fun ns => heapK ns l fun l => rawK l fun l => Wp S c ⟨env, ⟨l, N⟩, n, lo⟩ kn ke kr) k
  have k := forceN_out k
  have k := forceN_out (K := fun ns => heapK ns l fun l => rawK l fun l => Wp S c ⟨pickE ks env, ⟨l, N⟩, n, lo⟩ kn ke kr) k
  obtain ⟨l', h1, h2⟩ := heapK_out k
  exact Wp.turn (Turn.less ks h1) (Wp.ro h2)
/-- only these values, and the blocks they name -/
theorem Wp.prune (ks : List Nat) {env : List (Nat × AV)} {H : Heap} {n lo : Nat} (k : keepK ks ⟨env, H, n, lo⟩ fun σ' => Wp S c σ' kn ke kr) : Wp S c ⟨env, H, n, lo⟩ kn ke kr := by
  obtain ⟨l, N⟩ := H
  unfold keepK at k
  simp only at k
  have k := pickK_out (K := fun env => forceN (envN env) fun ns => forceN (rawN ns l ns) fun ns => heapK ns l fun l => Wp S c ⟨env, ⟨l, N⟩, n, lo⟩ kn ke kr) k
  have k := forceN_out k
  have k := forceN_out (K := fun ns => heapK ns l fun l => Wp S c ⟨pickE ks env, ⟨l, N⟩, n, lo⟩ kn ke kr) k
  obtain ⟨l', h1, h2⟩ := heapK_out k
  exact Wp.turn (Turn.less ks h1) h2
/-- only these values -/
theorem Wp.pick (ks : List Nat) {env : List (Nat × AV)} {H : Heap} {n lo : Nat} (k : pickK ks env fun env => Wp S c ⟨env, H, n, lo⟩ kn ke kr) : Wp S c ⟨env, H, n, lo⟩ kn ke kr := by
  obtain ⟨l, N⟩ := H
  have k := pickK_out (K := fun env => Wp S c ⟨env, ⟨l, N⟩, n, lo⟩ kn ke kr) k
  exact Wp.turn (Turn.less ks (List.Sublist.refl _)) k
theorem wP8 (ks : List Nat) {p0 p1 p2 p3 p4 p5 p6 p7 : Nat × AV} {env : List (Nat × AV)} {H : Heap} {n lo id : Nat} {ops : Array Oper} {d : Bool} (k : pickK ks (p0 :: p1 :: p2 :: p3 :: p4 :: p5 :: p6 :: p7 :: env) fun env => Wp S (.region id ops d) ⟨env, H, n, lo⟩ kn ke kr) : Wp S (.region id ops d) ⟨p0 :: p1 :: p2 :: p3 :: p4 :: p5 :: p6 :: p7 :: env, H, n, lo⟩ kn ke kr := .pick ks k
theorem wK8 (ks : List Nat) {p0 p1 p2 p3 p4 p5 p6 p7 : Nat × AV} {env : List (Nat × AV)} {H : Heap} {n lo id : Nat} {ops : Array Oper} {d : Bool} (k : keepK ks ⟨p0 :: p1 :: p2 :: p3 :: p4 :: p5 :: p6 :: p7 :: env, H, n, lo⟩ fun σ' => Wp S (.region id ops d) σ' kn ke kr) : Wp S (.region id ops d) ⟨p0 :: p1 :: p2 :: p3 :: p4 :: p5 :: p6 :: p7 :: env, H, n, lo⟩ kn ke kr := .prune ks k
theorem wP16 (ks : List Nat) {p0 p1 p2 p3 p4 p5 p6 p7 p8 p9 p10 p11 p12 p13 p14 p15 : Nat × AV} {env : List (Nat × AV)} {H : Heap} {n lo id : Nat} {ops : Array Oper} {d : Bool} (k : pickK ks (p0 :: p1 :: p2 :: p3 :: p4 :: p5 :: p6 :: p7 :: p8 :: p9 :: p10 :: p11 :: p12 :: p13 :: p14 :: p15 :: env) fun env => Wp S (.region id ops d) ⟨env, H, n, lo⟩ kn ke kr) : Wp S (.region id ops d) ⟨p0 :: p1 :: p2 :: p3 :: p4 :: p5 :: p6 :: p7 :: p8 :: p9 :: p10 :: p11 :: p12 :: p13 :: p14 :: p15 :: env, H, n, lo⟩ kn ke kr := .pick ks k
theorem wK16 (ks : List Nat) {p0 p1 p2 p3 p4 p5 p6 p7 p8 p9 p10 p11 p12 p13 p14 p15 : Nat × AV} {env : List (Nat × AV)} {H : Heap} {n lo id : Nat} {ops : Array Oper} {d : Bool} (k : keepK ks ⟨p0 :: p1 :: p2 :: p3 :: p4 :: p5 :: p6 :: p7 :: p8 :: p9 :: p10 :: p11 :: p12 :: p13 :: p14 :: p15 :: env, H, n, lo⟩ fun σ' => Wp S (.region id ops d) σ' kn ke kr) : Wp S (.region id ops d) ⟨p0 :: p1 :: p2 :: p3 :: p4 :: p5 :: p6 :: p7 :: p8 :: p9 :: p10 :: p11 :: p12 :: p13 :: p14 :: p15 :: env, H, n, lo⟩ kn ke kr := .prune ks k
theorem wP24 (ks : List Nat) {p0 p1 p2 p3 p4 p5 p6 p7 p8 p9 p10 p11 p12 p13 p14 p15 p16 p17 p18 p19 p20 p21 p22 p23 : Nat × AV} {env : List (Nat × AV)} {H : Heap} {n lo id : Nat} {ops : Array Oper} {d : Bool} (k : pickK ks (p0 :: p1 :: p2 :: p3 :: p4 :: p5 :: p6 :: p7 :: p8 :: p9 :: p10 :: p11 :: p12 :: p13 :: p14 :: p15 :: p16 :: p17 :: p18 :: p19 :: p20 :: p21 :: p22 :: p23 :: env) fun env => Wp S (.region id ops d) ⟨env, H, n, lo⟩ kn ke kr) : Wp S (.region id ops d) ⟨p0 :: p1 :: p2 :: p3 :: p4 :: p5 :: p6 :: p7 :: p8 :: p9 :: p10 :: p11 :: p12 :: p13 :: p14 :: p15 :: p16 :: p17 :: p18 :: p19 :: p20 :: p21 :: p22 :: p23 :: env, H, n, lo⟩ kn ke kr := .pick ks k
theorem wK24 (ks : List Nat) {p0 p1 p2 p3 p4 p5 p6 p7 p8 p9 p10 p11 p12 p13 p14 p15 p16 p17 p18 p19 p20 p21 p22 p23 : Nat × AV} {env : List (Nat × AV)} {H : Heap} {n lo id : Nat} {ops : Array Oper} {d : Bool} (k : keepK ks ⟨p0 :: p1 :: p2 :: p3 :: p4 :: p5 :: p6 :: p7 :: p8 :: p9 :: p10 :: p11 :: p12 :: p13 :: p14 :: p15 :: p16 :: p17 :: p18 :: p19 :: p20 :: p21 :: p22 :: p23 :: env, H, n, lo⟩ fun σ' => Wp S (.region id ops d) σ' kn ke kr) : Wp S (.region id ops d) ⟨p0 :: p1 :: p2 :: p3 :: p4 :: p5 :: p6 :: p7 :: p8 :: p9 :: p10 :: p11 :: p12 :: p13 :: p14 :: p15 :: p16 :: p17 :: p18 :: p19 :: p20 :: p21 :: p22 :: p23 :: env, H, n, lo⟩ kn ke kr := .prune ks k
theorem wP32 (ks : List Nat) {p0 p1 p2 p3 p4 p5 p6 p7 p8 p9 p10 p11 p12 p13 p14 p15 p16 p17 p18 p19 p20 p21 p22 p23 p24 p25 p26 p27 p28 p29 p30 p31 : Nat × AV} {env : List (Nat × AV)} {H : Heap} {n lo id : Nat} {ops : Array Oper} {d : Bool} (k : pickK ks (p0 :: p1 :: p2 :: p3 :: p4 :: p5 :: p6 :: p7 :: p8 :: p9 :: p10 :: p11 :: p12 :: p13 :: p14 :: p15 :: p16 :: p17 :: p18 :: p19 :: p20 :: p21 :: p22 :: p23 :: p24 :: p25 :: p26 :: p27 :: p28 :: p29 :: p30 :: p31 :: env) fun env => Wp S (.region id ops d) ⟨env, H, n, lo⟩ kn ke kr) : Wp S (.region id ops d) ⟨p0 :: p1 :: p2 :: p3 :: p4 :: p5 :: p6 :: p7 :: p8 :: p9 :: p10 :: p11 :: p12 :: p13 :: p14 :: p15 :: p16 :: p17 :: p18 :: p19 :: p20 :: p21 :: p22 :: p23 :: p24 :: p25 :: p26 :: p27 :: p28 :: p29 :: p30 :: p31 :: env, H, n, lo⟩ kn ke kr := .pick ks k
theorem wK32 (ks : List Nat) {p0 p1 p2 p3 p4 p5 p6 p7 p8 p9 p10 p11 p12 p13 p14 p15 p16 p17 p18 p19 p20 p21 p22 p23 p24 p25 p26 p27 p28 p29 p30 p31 : Nat × AV} {env : List (Nat × AV)} {H : Heap} {n lo id : Nat} {ops : Array Oper} {d : Bool} (k : keepK ks ⟨p0 :: p1 :: p2 :: p3 :: p4 :: p5 :: p6 :: p7 :: p8 :: p9 :: p10 :: p11 :: p12 :: p13 :: p14 :: p15 :: p16 :: p17 :: p18 :: p19 :: p20 :: p21 :: p22 :: p23 :: p24 :: p25 :: p26 :: p27 :: p28 :: p29 :: p30 :: p31 :: env, H, n, lo⟩ fun σ' => Wp S (.region id ops d) σ' kn ke kr) : Wp S (.region id ops d) ⟨p0 :: p1 :: p2 :: p3 :: p4 :: p5 :: p6 :: p7 :: p8 :: p9 :: p10 :: p11 :: p12 :: p13 :: p14 :: p15 :: p16 :: p17 :: p18 :: p19 :: p20 :: p21 :: p22 :: p23 :: p24 :: p25 :: p26 :: p27 :: p28 :: p29 :: p30 :: p31 :: env, H, n, lo⟩ kn ke kr := .prune ks k
end
end Go.Vm

namespace Go.Vm
open Go.RowKit
section
variable {S : Seat} {σ τ : St} {c : Code} {kn : St → Prop} {ke : Nat → St → Prop} {kr : St → Prop}
def rawP (p : Ent → Bool) (e : Ent) : Ent := match p e with
  | true => rawE e
  | false => e
theorem rawP_b (p : Ent → Bool) (e : Ent) : (rawP p e).b = e.b := by unfold rawP; split; exact rawE_b e; rfl
theorem rawP_rw (p : Ent → Bool) (e : Ent) (h : (rawP p e).rw = true) : e.rw = true := by
  unfold rawP at h
  split at h
  · exact rawE_rw e h
  · exact h
theorem rawP_c (p : Ent → Bool) (e : Ent) : (rawP p e).c = e.c := by unfold rawP; split; exact rawE_c e; rfl
def rawPL (p : Ent → Bool) : List Ent → List Ent
  | [] => []
  | e :: r => rawP p e :: rawPL p r
theorem rawPL_mem {p : Ent → Bool} : ∀ {l : List Ent} {e : Ent}, e ∈ rawPL p l → ∃ x, x ∈ l ∧ e = rawP p x
  | x :: r, e, h => by
    rcases List.mem_cons.1 h with rfl | h
    · exact ⟨x, List.mem_cons_self, rfl⟩
    · obtain ⟨y, h1, h2⟩ := rawPL_mem h
      exact ⟨y, List.mem_cons_of_mem _ h1, h2⟩
theorem rawPL_keys {p : Ent → Bool} : ∀ {l : List Ent}, l.Pairwise (fun e e' => e.b ≠ e'.b) → (rawPL p l).Pairwise fun e e' => e.b ≠ e'.b
  | [], _ => .nil
  | x :: r, h => by
    obtain ⟨h1, h2⟩ := List.pairwise_cons.1 h
    refine List.pairwise_cons.2 ⟨fun e he => ?_, rawPL_keys h2⟩
    obtain ⟨y, hy, rfl⟩ := rawPL_mem he
    rw [rawP_b, rawP_b]
    exact h1 y hy
theorem HRel.roP {p : Ent → Bool} {ρ : Lay} {l : List Ent} {N : Nat} {w : World} (h : HRel S ρ ⟨l, N⟩ w) : HRel S ρ ⟨rawPL p l, N⟩ w where
  holds := fun e he => by
    obtain ⟨x, hx, rfl⟩ := rawPL_mem he
    have hh := h.holds x hx
    rw [rawP_b, rawP_c]
    unfold rawP
    split
    · obtain ⟨b, rw, c⟩ := x
      cases c with
      | raw vs =>
        obtain ⟨h1, h2⟩ := hh
        refine ⟨?_, h2⟩
        simp only [rawE]
        unfold Lies at h1 ⊢
        simp only at h1 ⊢
        split at h1
        · exact h1
        · obtain ⟨arr, T, fz, g1, g2, g3, g4⟩ := h1
          exact ⟨arr, T, fz, g1, g2, (fun q => by cases q), g4⟩
      | arr E xs => exact hh
      | nest m d g s f xs o => exact hh
    · exact hh
  key := fun e he => by
    obtain ⟨x, hx, rfl⟩ := rawPL_mem he
    rw [rawP_b]
    exact h.key x hx
  sep := fun e he e' he' hor hne => by
    obtain ⟨x, hx, rfl⟩ := rawPL_mem he
    obtain ⟨x', hx', rfl⟩ := rawPL_mem he'
    rw [rawP_b, rawP_b] at hne ⊢
    exact h.sep x hx x' hx' (hor.imp (rawP_rw p x) (rawP_rw p x')) hne
  keys := rawPL_keys h.keys
  glob := h.glob
  enc := fun e he => by
    obtain ⟨x, hx, rfl⟩ := rawPL_mem he
    rw [rawP_c]
    exact h.enc x hx
  low := fun e he => by
    obtain ⟨x, hx, rfl⟩ := rawPL_mem he
    rw [rawP_b]
    exact h.low x hx
  root := fun e he hr => by
    obtain ⟨x, hx, rfl⟩ := rawPL_mem he
    rw [rawP_b]
    exact h.root x hx (rawP_rw p x hr)
theorem Turn.roP (p : Ent → Bool) {env : List (Nat × AV)} {l : List Ent} {N n lo : Nat} : Turn S ⟨env, ⟨l, N⟩, n, lo⟩ ⟨env, ⟨rawPL p l, N⟩, n, lo⟩ := fun ρ0 H0 w0 ρ a w hi => by
  refine ⟨ρ, hi.env, hi.size, hi.defers, hi.lo, hi.after.next, hi.after.agree, hi.after.heap.roP, hi.after.size, hi.after.frame, fun k c hk => ?_, hi.after.os, hi.after.tape, hi.after.output⟩
  obtain ⟨e, he, hr, hf⟩ := hk
  obtain ⟨x, hx, rfl⟩ := rawPL_mem he
  rw [rawP_b] at hf
  exact hi.after.own k c ⟨x, hx, rawP_rw p x hr, hf⟩
/-- a plain entry that is not of these blocks -/
def plainX (ns : List Nat) (e : Ent) : Bool := match e.b with
  | .loc n => match memN ns n with
    | true => false
    | false => true
  | _ => false
def rawX (ns : List Nat) : List Ent → (List Ent → Prop) → Prop
  | [], K => K []
  | e :: r, K => match e with
    | ⟨b, rw, c⟩ => match b with
      | .loc n => match memN ns n with
        | true => rawX ns r fun l => K (⟨.loc n, rw, c⟩ :: l)
        | false => match c with
          | .raw vs => rawX ns r fun l => K (⟨.loc n, false, .raw vs⟩ :: l)
          | .arr E xs => rawX ns r fun l => K (⟨.loc n, rw, .arr E xs⟩ :: l)
          | .nest m d g s f xs o => rawX ns r fun l => K (⟨.loc n, rw, .nest m d g s f xs o⟩ :: l)
      | .glob n => rawX ns r fun l => K (⟨.glob n, rw, c⟩ :: l)
      | .sub b i j => rawX ns r fun l => K (⟨.sub b i j, rw, c⟩ :: l)
theorem rawX_out {ns : List Nat} : ∀ {l : List Ent} {K : List Ent → Prop}, rawX ns l K → K (rawPL (plainX ns) l)
  | [], _, h => h
  | ⟨b, rw, c⟩ :: r, K, h => by
    cases b with
    | loc n =>
      unfold rawX at h
      simp only at h
      split at h
      · rename_i hm
        have e : rawP (plainX ns) ⟨.loc n, rw, c⟩ = ⟨.loc n, rw, c⟩ := by simp [rawP, plainX, hm]
        unfold rawPL; rw [e]
        exact rawX_out (l := r) (K := fun l => K (⟨.loc n, rw, c⟩ :: l)) h
      · rename_i hm
        have e : rawP (plainX ns) ⟨.loc n, rw, c⟩ = rawE ⟨.loc n, rw, c⟩ := by simp [rawP, plainX, hm]
        unfold rawPL; rw [e]
        cases c with
        | raw vs => exact rawX_out (l := r) (K := fun l => K (⟨.loc n, false, .raw vs⟩ :: l)) h
        | arr E xs => exact rawX_out (l := r) (K := fun l => K (⟨.loc n, rw, .arr E xs⟩ :: l)) h
        | nest m d g s f xs o => exact rawX_out (l := r) (K := fun l => K (⟨.loc n, rw, .nest m d g s f xs o⟩ :: l)) h
    | glob n => exact rawX_out (l := r) (K := fun l => K (⟨.glob n, rw, c⟩ :: l)) h
    | sub b i j => exact rawX_out (l := r) (K := fun l => K (⟨.sub b i j, rw, c⟩ :: l)) h
/-- the blocks that these values point to -/
def resN : List Nat → List (Nat × AV) → List Nat
  | [], _ => []
  | t :: r, env => avN (look env t) (resN r env)
/-- only these values, and the blocks they name; plain values are only read from here on, but those that `rs` point to -/
theorem Wp.keepX (rs ks : List Nat) {env : List (Nat × AV)} {l : List Ent} {N n lo : Nat} (k : keepK ks ⟨env, ⟨l, N⟩, n, lo⟩ fun σ' => match σ' with | ⟨env, H, n, lo⟩ => match H with | ⟨l, N⟩ => forceN (resN rs env) fun ns => rawX ns l fun l => Wp S c ⟨env, ⟨l, N⟩, n, lo⟩ kn ke kr) : Wp S c ⟨env, ⟨l, N⟩, n, lo⟩ kn ke kr := by
  unfold keepK at k
  simp only at k
  have k := pickK_out (K := fun env => forceN (envN env) fun ns => forceN (rawN ns l ns) fun ns => heapK ns l fun l => forceN (resN rs env) fun ns => rawX ns l fun l => Wp S c ⟨env, ⟨l, N⟩, n, lo⟩ kn ke kr) k
  have k := forceN_out k
  have k := forceN_out (K := fun ns => heapK ns l fun l => forceN (resN rs (pickE ks env)) fun ns => rawX ns l fun l => Wp S c ⟨pickE ks env, ⟨l, N⟩, n, lo⟩ kn ke kr) k
  obtain ⟨l', h1, h2⟩ := heapK_out k
  have h2 := forceN_out (K := fun ns => rawX ns l' fun l => Wp S c ⟨pickE ks env, ⟨l, N⟩, n, lo⟩ kn ke kr) h2
  have h2 := rawX_out h2
  exact Wp.turn (Turn.less ks h1) (Wp.turn (Turn.roP _) h2)
end
end Go.Vm
