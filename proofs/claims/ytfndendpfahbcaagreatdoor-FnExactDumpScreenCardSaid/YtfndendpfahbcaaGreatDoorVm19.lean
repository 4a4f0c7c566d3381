/- An abstract machine over the loaded code: loops. -/
import Derived.Test.YtfndendpfahbcaaGreatDoorVm18
import Derived.Deep.LoopGhost
set_option linter.unusedSimpArgs false
set_option linter.unusedVariables false
namespace Go.Vm
open Go.RowKit

section
variable (S : Seat) (f : Nat → Option Blk) (N : Nat) (H : Heap)

def hintK (c : Cont) (K : Prop) : Prop :=
  match c with
  | .arr E _ => (∃ T, S.hint T = some ⟨_, E⟩) ∧ K
  | _ => K

def emptyC (c : Cont) (K : Prop) : Prop :=
  match c with
  | .raw vs => match vs with
    | [] => K
    | _ => False
  | .arr E xs => xs = [] ∧ hintK S (.arr E xs) K
  | .nest _ _ _ _ _ _ => False

/-- these elements, at least -/
def PreC {α : Type} (E : Enc α) (xs : List α) (c : Cont) : Prop := ∃ zs, c = .arr E (xs ++ zs)
theorem PreC.self {α : Type} (E : Enc α) (xs : List α) : PreC E xs (.arr E xs) := ⟨[], by rw [List.append_nil]⟩
theorem PreC.of_eq {α : Type} {E : Enc α} {xs ys : List α} (h : ys = xs) : PreC E xs (.arr E ys) := h ▸ .self E ys
theorem PreC.of_eq' {α : Type} {E : Enc α} {xs ys : List α} (h : xs = ys) : PreC E xs (.arr E ys) := h ▸ .self E xs
theorem PreC.pre {α : Type} {E : Enc α} {xs ys zs : List α} (h : ys = xs ++ zs) : PreC E xs (.arr E ys) := ⟨zs, by rw [h]⟩
theorem PreC.self' {α : Type} (E : Enc α) (xs zs : List α) : PreC E xs (.arr E (xs ++ zs)) := ⟨zs, rfl⟩

def fitC (c c' : Cont) (K : Prop) : Prop :=
  match c with
  | .raw vs => match c' with
    | .raw vs' => fitVs f vs vs' (ltVs N vs K)
    | _ => False
  | .arr E xs => PreC E xs c' ∧ K
  | .nest m d g s f xs => c' = .nest m d g s f xs ∧ (s = [] ∧ (∀ b b' i x, g b i x = g b' i x) ∧ ∀ b i x N, AV.lts N (g b i x)) ∧ K

def fitEnt (e : Ent) (K : Prop) : Prop :=
  match renB f e.b with
  | none => emptyC S e.c K
  | some B => match e.rw with
    | true => match getE H.ents B with
      | some ⟨_, true, c⟩ => fitC f N e.c c K
      | _ => False
    | false => match B with
      | .sub b i j => atA H.ents (.sub b i j) fun c => fitC f N e.c c (hintK S e.c K)
      | .loc n => match getE H.ents (.loc n) with
        | some ⟨_, _, c⟩ => fitC f N e.c c K
        | _ => False
      | .glob n => match getE H.ents (.glob n) with
        | some ⟨_, _, c⟩ => fitC f N e.c c K
        | _ => False

def keyK (b : Blk) (K : Prop) : Prop :=
  match b with
  | .loc n => match Nat.blt n N with
    | true => K
    | false => False
  | .glob _ => K
  | .sub _ _ _ => False

def fitEnts : List Ent → Prop → Prop
  | [], K => K
  | e :: r, K => keyK N e.b (fitEnt S f N H e (fitEnts r K))

def neB (b b' : Blk) (K : Prop) : Prop :=
  match b, b' with
  | .loc n, .loc m => match Nat.beq n m with
    | true => False
    | false => K
  | .glob n, .glob m => match Nat.beq n m with
    | true => False
    | false => K
  | .sub _ _ _, .sub _ _ _ => False
  | _, _ => K

def pairK (e e' : Ent) (K : Prop) : Prop :=
  match Blk.beq e.b e'.b with
  | true => False
  | false => match (e.rw || e'.rw) with
    | false => K
    | true => match renB f e.b with
      | none => K
      | some B => match renB f e'.b with
        | none => K
        | some B' => neB B B' K
def pairsOne (e : Ent) : List Ent → Prop → Prop
  | [], K => K
  | e' :: r, K => pairK f e e' (pairsOne e r K)
def pairsK : List Ent → Prop → Prop
  | [], K => K
  | e :: r, K => pairsOne f e r (pairsK r K)

def fitEnv (env : List (Nat × AV)) : List (Nat × AV) → Prop → Prop
  | [], K => K
  | (t, v) :: r, K => fitV f v (look env t) (ltV N v (fitEnv env r K))
end

/-- what is known fits what is thought: first what is known -/
def fitsA (S : Seat) (σ τ : St) (K : Prop) : Prop :=
  match σ with
  | ⟨env, H, n, lo⟩ => match τ with
    | ⟨env', ⟨l, N⟩, n', lo'⟩ => match Nat.beq n n', Nat.beq lo lo', Nat.ble lo N with
      | true, true, true => learnEnv env env' (idR lo []) fun m => learnH H.ents l m fun m => match idOk lo m with
        | true => fitEnv (lookR m) N env env' (fitEnts S (lookR m) N H l (pairsK (lookR m) l K))
        | false => False
      | _, _, _ => False

section
variable {S : Seat} {ρ : Loc} {f : Nat → Option Blk} {N : Nat} {H : Heap} {w : World}

theorem neB_out {b b' : Blk} {K : Prop} (h : neB b b' K) : b ≠ b' ∧ K := by
  unfold neB at h
  split at h
  · split at h
    · exact h.elim
    · rename_i e; exact ⟨fun q => (by cases q; rw [Nat.beq_refl] at e; cases e), h⟩
  · split at h
    · exact h.elim
    · rename_i e; exact ⟨fun q => (by cases q; rw [Nat.beq_refl] at e; cases e), h⟩
  · exact h.elim
  · rename_i h1 h2 h3
    refine ⟨fun q => ?_, h⟩
    subst q
    cases b with
    | loc n => exact h1 n n rfl rfl
    | glob n => exact h2 n n rfl rfl
    | sub b i j => exact h3 _ _ _ _ _ _ rfl rfl

theorem keyK_out {b : Blk} {K : Prop} (h : keyK N b K) : (b.lt N ∧ b.isKey) ∧ K := by
  unfold keyK at h
  split at h
  · rename_i n
    split at h
    · rename_i e
      have e : n < N := by simpa [Nat.blt_eq] using e
      exact ⟨⟨fun k hk => by simp [Blk.root] at hk; omega, trivial⟩, h⟩
    · exact h.elim
  · exact ⟨⟨fun k hk => by simp [Blk.root] at hk, trivial⟩, h⟩
  · exact h.elim

theorem pairK_out {e e' : Ent} {K : Prop} (hk : e.b.isKey) (h : pairK f e e' K) : (e.b ≠ e'.b ∧ ((e.rw = true ∨ e'.rw = true) → ∀ B, renB f e.b = some B → renB f e'.b ≠ some B)) ∧ K := by
  unfold pairK at h
  split at h
  · exact h.elim
  · rename_i hb
    have hne : e.b ≠ e'.b := fun q => by rw [← q, Blk.beq_self hk] at hb; cases hb
    split at h
    · rename_i hr
      simp at hr
      exact ⟨⟨hne, fun q => by rw [hr.1, hr.2] at q; simp at q⟩, h⟩
    · split at h
      · rename_i e1
        exact ⟨⟨hne, fun _ B q => by rw [e1] at q; simp at q⟩, h⟩
      · rename_i B1 e1
        split at h
        · rename_i e2
          exact ⟨⟨hne, fun _ B _ q => by rw [e2] at q; simp at q⟩, h⟩
        · rename_i B2 e2
          obtain ⟨h1, h2⟩ := neB_out h
          refine ⟨⟨hne, fun _ B q q' => ?_⟩, h2⟩
          rw [e1] at q; rw [e2] at q'
          simp at q q'
          exact h1 (q.trans q'.symm)

theorem pairsOne_out {e : Ent} (hk : e.b.isKey) : ∀ {l : List Ent} {K : Prop}, pairsOne f e l K →
    (∀ e' ∈ l, e.b ≠ e'.b ∧ ((e.rw = true ∨ e'.rw = true) → ∀ B, renB f e.b = some B → renB f e'.b ≠ some B)) ∧ K
  | [], _, h => ⟨by simp, h⟩
  | e' :: r, _, h => by
    obtain ⟨h1, h⟩ := pairK_out hk h
    obtain ⟨h2, h⟩ := pairsOne_out hk h
    refine ⟨fun x hx => ?_, h⟩
    rcases List.mem_cons.1 hx with rfl | hx
    · exact h1
    · exact h2 x hx
theorem pairsK_out : ∀ {l : List Ent} {K : Prop}, (∀ e ∈ l, e.b.isKey) → pairsK f l K →
    (l.Pairwise (fun e e' => e.b ≠ e'.b ∧ ((e.rw = true ∨ e'.rw = true) → ∀ B, renB f e.b = some B → renB f e'.b ≠ some B))) ∧ K
  | [], _, _, h => ⟨.nil, h⟩
  | e :: r, _, hk, h => by
    obtain ⟨h1, h⟩ := pairsOne_out (hk e List.mem_cons_self) h
    obtain ⟨h2, h⟩ := pairsK_out (fun x hx => hk x (List.mem_cons_of_mem _ hx)) h
    exact ⟨List.pairwise_cons.2 ⟨h1, h2⟩, h⟩

theorem pairwise_sep : ∀ {l : List Ent}, (l.Pairwise (fun e e' => e.b ≠ e'.b ∧ ((e.rw = true ∨ e'.rw = true) → ∀ B, renB f e.b = some B → renB f e'.b ≠ some B))) →
    ∀ e ∈ l, ∀ e' ∈ l, e.b ≠ e'.b → (e.rw = true ∨ e'.rw = true) → ∀ B, renB f e.b = some B → renB f e'.b ≠ some B
  | [], _, e, he, _, _, _, _ => by simp at he
  | x :: r, hp, e, he, e', he', hne, hor => by
    rw [List.pairwise_cons] at hp
    rcases List.mem_cons.1 he with rfl | he1
    · rcases List.mem_cons.1 he' with rfl | he2
      · exact absurd rfl hne
      · exact (hp.1 e' he2).2 hor
    · rcases List.mem_cons.1 he' with rfl | he2
      · intro B q q'
        exact (hp.1 e he1).2 (hor.symm) B q' q
      · exact pairwise_sep hp.2 e he1 e' he2 hne hor

theorem fitC_out {c c' : Cont} {K : Prop} {b B : Blk} {N0 : Nat} {rw rw' : Bool} (hb : renB f b = some B) (h : fitC f N c c' K) (hr : rw = true → rw' = true) (hl : Lies ρ N0 w rw' B c')
    (ho : ContOk S c) : (c.flat ∧ Lies (pull f ρ) N w rw b c) ∧ K := by
  have key : ∀ {P : Prop}, c.flat → (∀ arr, CellsLie ρ N0 arr B c' → CellsLie (pull f ρ) N arr b c) → (c'.empty → c.empty) → P → (c.flat ∧ Lies (pull f ρ) N w rw b c) ∧ P := by
    intro P h1 h2 h3 hK
    refine ⟨⟨h1, ?_⟩, hK⟩
    unfold Lies at hl ⊢
    rw [pull_some hb]
    split at hl
    · exact h3 hl
    · obtain ⟨arr, T, fz, g1, g2, g3, g4⟩ := hl
      exact ⟨arr, T, fz, g1, g2, fun q => g3 (hr q), h2 _ g4⟩
  unfold fitC at h
  split at h
  · rename_i vs
    split at h
    · rename_i vs'
      have hlen : ∀ {vs vs' : List AV} {K : Prop}, fitVs f vs vs' K → vs.length = vs'.length := by
        intro vs
        induction vs with
        | nil => intro vs' K h; cases vs' with
          | nil => rfl
          | cons _ _ => exact h.elim
        | cons v vs ih =>
          intro vs' K h
          cases vs' with
          | nil => exact h.elim
          | cons v' vs' =>
            unfold fitVs at h
            simp [ih (fitV_out (ρ := ρ) h).2]
      have hlen := hlen h
      obtain ⟨h1, h2⟩ := fitVs_out (ρ := ρ) h
      obtain ⟨h3, h4⟩ := ltVs_out h2
      refine key trivial (fun arr q => ?_) (fun q => ?_) h4
      · obtain ⟨q1, q2, q3⟩ := q
        exact ⟨by rw [hlen]; exact q1, h1 _ (by rw [hlen]; exact q2), h3⟩
      · have q : vs' = [] := q
        rw [q] at hlen
        exact List.eq_nil_of_length_eq_zero hlen
    · exact h.elim
  · rename_i α E xs
    obtain ⟨⟨zs, h1⟩, h2⟩ := h
    subst h1
    obtain ⟨T, hE⟩ := ho
    refine key trivial (fun arr q => ⟨?_, fun i hi => ⟨?_, hE.plain _ _⟩⟩) (fun q => (List.append_eq_nil_iff.1 q).1) h2
    · have := q.1
      have hm : xs.length * E.m ≤ (xs ++ zs).length * E.m := Nat.mul_le_mul_right _ (by simp)
      omega
    · have := (q.2 i (by simp; omega)).1
      have : VRels ρ (E.cells ((xs ++ zs).getD i E.d)) _ := this
      have e : (xs ++ zs).getD i E.d = xs.getD i E.d := by simp only [List.getD_eq_getElem?_getD, List.getElem?_append_left hi]
      rw [e] at this
      exact VRels.agree (pull_agree0 (ρ := ρ)) (hE.plain _ 0) this
  · rename_i α m d g s sub xs
    obtain ⟨h1, ⟨h3, h4, h5⟩, h2⟩ := h
    subst h1
    refine key h3 (fun arr q => ⟨q.1, fun i hi => ⟨?_, h5 _ _ _ _⟩⟩) id h2
    show VRels (pull f ρ) (g b i (xs.getD i d)) _
    rw [h4 b B]
    exact VRels.agree (pull_agree0 (ρ := ρ)) (h5 _ _ _ 0) (q.2 i hi).1

theorem hintK_out (hS : SeatOk S) {c : Cont} {K : Prop} (h : hintK S c K) : ContOk S c ∧ K := by
  unfold hintK at h
  split at h
  · obtain ⟨⟨T, h1⟩, h2⟩ := h
    exact ⟨⟨T, hS.hint T _ h1⟩, h2⟩
  · rename_i hc
    cases c with
    | raw vs => exact ⟨trivial, h⟩
    | arr E xs => exact absurd rfl (hc _ E xs)
    | nest m d g s f xs => exact ⟨trivial, h⟩

theorem emptyC_out (hS : SeatOk S) {c : Cont} {K : Prop} (h : emptyC S c K) : (c.flat ∧ ContOk S c ∧ c.empty) ∧ K := by
  unfold emptyC at h
  split at h
  · split at h
    · exact ⟨⟨trivial, trivial, rfl⟩, h⟩
    · exact h.elim
  · obtain ⟨h1, h2⟩ := h
    obtain ⟨h3, h4⟩ := hintK_out hS h2
    exact ⟨⟨trivial, h3, h1⟩, h4⟩
  · exact h.elim

theorem fitC_k {c c' : Cont} {K : Prop} (h : fitC f N c c' K) : K := by
  unfold fitC at h
  split at h
  · split at h
    · exact (ltVs_out (fitVs_out (ρ := fun _ => none) h).2).2
    · exact h.elim
  · exact h.2
  · exact h.2.2
theorem fitC_ok {c c' : Cont} {K : Prop} (h : fitC f N c c' K) (ho : ContOk S c') : ContOk S c := by
  unfold fitC at h
  split at h
  · exact trivial
  · obtain ⟨⟨zs, rfl⟩, _⟩ := h; exact ho
  · exact trivial

theorem fitEnt_out (hS : SeatOk S) (hH : HRel S ρ H w) {e : Ent} {K : Prop} (h : fitEnt S f N H e K) : EntFit S f ρ H w N e ∧ K := by
  unfold fitEnt at h
  split at h
  · rename_i hb
    obtain ⟨⟨h1, h2, h3⟩, h4⟩ := emptyC_out hS h
    exact ⟨⟨h1, h2, .inl ⟨hb, h3⟩⟩, h4⟩
  · rename_i B hb
    have one : ∀ {x : Ent}, getE H.ents B = some x → (e.rw = true → x.rw = true) → fitC f N e.c x.c K → EntFit S f ρ H w N e ∧ K := by
      intro x hx hr h
      obtain ⟨h1, h2⟩ := getE_mem hx
      have ho := fitC_ok h (hH.enc x h1)
      obtain ⟨⟨g1, g2⟩, g3⟩ := fitC_out hb h hr (h2 ▸ (hH.holds x h1).lies) ho
      exact ⟨⟨g1, ho, .inr ⟨B, x, hb, h1, h2 ▸ InC.self _ _, fun q => ⟨hr q, h2⟩, g2⟩⟩, g3⟩
    split at h
    · split at h
      · rename_i hx
        exact one hx (fun _ => rfl) h
      · exact h.elim
    · rename_i hrw
      have hno : ∀ {b : Bool}, e.rw = true → b = true := fun q => by rw [hrw] at q; simp at q
      split at h
      · rename_i b i j
        obtain ⟨c, x, hc, hx, hh, hin, _⟩ := at_sound hH h
        obtain ⟨ho, _⟩ := hintK_out hS (fitC_k hc)
        obtain ⟨⟨g1, g2⟩, g3⟩ := fitC_out (rw := e.rw) hb hc hno hh.lies ho
        exact ⟨⟨g1, ho, .inr ⟨_, x, hb, hx, hin, fun q => by rw [hrw] at q; simp at q, g2⟩⟩, (hintK_out hS g3).2⟩
      · split at h
        · rename_i hx
          exact one hx hno h
        · exact h.elim
      · split at h
        · rename_i hx
          exact one hx hno h
        · exact h.elim

theorem fitEnts_out (hS : SeatOk S) (hH : HRel S ρ H w) : ∀ {l : List Ent} {K : Prop}, fitEnts S f N H l K → (∀ e ∈ l, (e.b.lt N ∧ e.b.isKey) ∧ EntFit S f ρ H w N e) ∧ K
  | [], _, h => ⟨by simp, h⟩
  | e :: r, _, h => by
    unfold fitEnts at h
    obtain ⟨h1, h⟩ := keyK_out h
    obtain ⟨h2, h⟩ := fitEnt_out hS hH h
    obtain ⟨h3, h⟩ := fitEnts_out hS hH h
    refine ⟨fun x hx => ?_, h⟩
    rcases List.mem_cons.1 hx with rfl | hx
    · exact ⟨h1, h2⟩
    · exact h3 x hx

theorem fitEnv_out {env : List (Nat × AV)} : ∀ {l : List (Nat × AV)} {K : Prop}, fitEnv f N env l K → (∀ t, (∀ r, VRel ρ (look env t) r → VRel (pull f ρ) (look l t) r) ∧ (look l t).lt N) ∧ K
  | [], _, h => ⟨fun _ => ⟨fun _ _ => trivial, trivial⟩, h⟩
  | (t, v) :: r, _, h => by
    unfold fitEnv at h
    obtain ⟨h1, h⟩ := fitV_out (ρ := ρ) h
    obtain ⟨h2, h⟩ := ltV_out h
    obtain ⟨h3, h⟩ := fitEnv_out h
    refine ⟨fun s => ?_, h⟩
    have hlook : look ((t, v) :: r) s = match Nat.beq t s with | true => v | false => look r s := rfl
    rw [hlook]
    split
    · rename_i e
      have e := Nat.eq_of_beq_eq_true e
      subst e
      exact ⟨h1, h2⟩
    · exact h3 s

theorem idOk_out {m : Ren} : ∀ {lo : Nat}, idOk lo m = true → ∀ n, n < lo → lookR m n = some (.loc n)
  | 0, _, n, hn => by omega
  | k + 1, h, n, hn => by
    unfold idOk at h
    split at h
    · rename_i j hj
      split at h
      · rename_i e
        have e := Nat.eq_of_beq_eq_true e
        subst e
        rcases Nat.lt_or_ge n j with q | q
        · exact idOk_out h n q
        · have : n = j := by omega
          subst this; exact hj
      · simp at h
    · simp at h

theorem fits_out (hS : SeatOk S) {σ τ : St} {K : Prop} (h : fitsA S σ τ K) {ρ0 : Loc} {H0 : Heap} {w0 : World} {a : Act} {w : World} (hi : Inv S ρ0 H0 w0 σ ρ a w) :
    (∃ ρ', Inv S ρ0 H0 w0 τ ρ' a w) ∧ K := by
  obtain ⟨env, H, n, lo⟩ := σ
  obtain ⟨env', ⟨l, N⟩, n', lo'⟩ := τ
  simp only [fitsA] at h
  split at h
  · rename_i e1 e2 e3
    have e1 := Nat.eq_of_beq_eq_true e1
    have e2 := Nat.eq_of_beq_eq_true e2
    have e3 := Nat.le_of_ble_eq_true e3
    subst e1; subst e2
    obtain ⟨m0, h⟩ := learnEnv_out h
    obtain ⟨m, h⟩ := learnH_out h
    split at h
    · rename_i hid
      have hid := idOk_out hid
      obtain ⟨h1, h⟩ := fitEnv_out (ρ := ρ) h
      obtain ⟨h2, h⟩ := fitEnts_out hS hi.after.heap h
      obtain ⟨h3, h⟩ := pairsK_out (fun e he => (h2 e he).1.2) h
      have hlo : H0.next = lo := hi.lo
      refine ⟨⟨pull (lookR m) ρ, fun t => ⟨(h1 t).1 _ (hi.env t).1, (h1 t).2⟩, hi.size, hi.defers, hi.lo, ?_⟩, h⟩
      have hheap : HRel S (pull (lookR m) ρ) ⟨l, N⟩ w := by
        refine HRel.pull hi.after.heap (fun e he => (h2 e he).2) (fun e he => (h2 e he).1) (h3.imp fun q => q.1) ?_
        exact fun e he e' he' hne hor => pairwise_sep h3 e he e' he' hne hor
      refine ⟨by rw [hlo]; exact e3, fun b hb => ?_, hheap, hi.after.size, hi.after.frame, fun k hk => ?_, hi.after.os, hi.after.tape, hi.after.output⟩
      · rw [pull_agree hid b (hlo ▸ hb)]
        exact hi.after.agree b hb
      · obtain ⟨e, he, hr, b, z, hin, hb⟩ := hk
        obtain ⟨g1, g2, g3⟩ := (h2 e he).2
        have := InC.flat g1 hin
        subst this
        rcases g3 with ⟨g3, _⟩ | ⟨B, x, q1, q2, q3, q4, _⟩
        · rw [pull_none g3] at hb; simp at hb
        · rw [pull_some q1] at hb
          exact hi.after.own k ⟨x, q2, (q4 hr).1, B, z, q3, hb⟩
    · exact h.elim
  · exact h.elim

/-- a loop -/
theorem Wp.loop (hS : SeatOk S) {γ : Type} (I : γ → St) (R : γ → Prop) (μ : γ → Nat) {c : Code} {σ : St} {kn : St → Prop} {ke : Nat → St → Prop} {kr : St → Prop} (g0 : γ) (hR : R g0) (h0 : fitsA S σ (I g0) True)
    (round : ∀ g, R g → wpA S c (I g) (fun σ' => ∃ g', (R g' ∧ μ g' < μ g) ∧ fitsA S σ' (I g') True) ke kr) : Wp S (.loop c) σ kn ke kr := by
  unfold Wp
  intro ρ0 H0 w0 ρ a w hi
  refine wp_loop_ghost (fun n a w => ∃ g ρ, R g ∧ μ g = n ∧ Inv S ρ0 H0 w0 (I g) ρ a w) (μ g0) ?_ ?_
  · obtain ⟨⟨ρ', h⟩, _⟩ := fits_out hS h0 hi
    exact ⟨g0, ρ', hR, rfl, h⟩
  · rintro n a w ⟨g, ρ, h1, rfl, h2⟩
    refine wp_mono (wpA_sound hS (round g h1) h2) fun e a w hq => ?_
    cases e with
    | normal =>
      obtain ⟨σ, ρ, ⟨g', ⟨q1, q2⟩, q3⟩, q4⟩ := hq
      obtain ⟨⟨ρ', h⟩, _⟩ := fits_out hS q3 q4
      exact ⟨μ g', q2, g', ρ', q1, rfl, h⟩
    | exit i => exact hq
    | ret => exact hq
    | _ => exact hq.elim

/-- two roads that meet -/
theorem Wp.cut (hS : SeatOk S) {γ : Type} (I : γ → St) (R : γ → Prop) {c : Code} {σ : St} {kn : St → Prop} {ke : Nat → St → Prop} {kr : St → Prop}
    (h : wpA S c σ (fun σ' => ∃ g', R g' ∧ fitsA S σ' (I g') True) ke kr) (k : ∀ g, R g → kn (I g)) : Wp S c σ kn ke kr := by
  unfold Wp
  intro ρ0 H0 w0 ρ a w hi
  refine wp_mono (wpA_sound hS h hi) fun e a w hq => ?_
  cases e with
  | normal =>
    obtain ⟨σ, ρ, ⟨g', q1, q3⟩, q4⟩ := hq
    obtain ⟨⟨ρ', h⟩, _⟩ := fits_out hS q3 q4
    exact ⟨I g', ρ', k g' q1, h⟩
  | exit i => exact hq
  | ret => exact hq
  | _ => exact hq.elim
end
end Go.Vm
