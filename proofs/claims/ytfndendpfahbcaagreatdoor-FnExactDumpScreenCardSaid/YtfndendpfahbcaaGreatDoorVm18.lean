/- An abstract machine over the loaded code: one thought in the place of another, with other numbers. -/
import Derived.Test.YtfndendpfahbcaaGreatDoorVm17
set_option linter.unusedSimpArgs false
set_option linter.unusedVariables false
namespace Go.Vm
open Go.RowKit

def renB (f : Nat → Option Blk) : Blk → Option Blk
  | .loc n => f n
  | .glob g => some (.glob g)
  | .sub b i j => match renB f b with
    | some b => some (.sub b i j)
    | none => none

def pull (f : Nat → Option Blk) (ρ : Loc) : Loc := fun b => match renB f b with
  | some b' => ρ b'
  | none => none

def fitI (i i' : Option Int) (K : Prop) : Prop :=
  match i with
  | none => match i' with
    | none => K
    | some b => b = 0 ∧ K
  | some a => match i' with
    | none => a = 0 ∧ K
    | some b => a = b ∧ K

def fitB : Blk → Blk → Prop → Prop
  | .loc n, .loc m, K => match Nat.beq n m with
    | true => K
    | false => False
  | .glob n, .glob m, K => match Nat.beq n m with
    | true => K
    | false => False
  | .sub b i j, .sub b' i' j', K => match Nat.beq j j' with
    | true => i = i' ∧ fitB b b' K
    | false => False
  | _, _, _ => False

mutual
/-- what is thought fits what is: first the thought, then what is -/
def fitV (f : Nat → Option Blk) : AV → AV → Prop → Prop
  | .undef, _, K => K
  | .tt, v, K => match v with
    | .tt => K
    | .prop p => p ∧ K
    | _ => False
  | .ff, v, K => match v with
    | .ff => K
    | .prop p => ¬p ∧ K
    | _ => False
  | .prop p, v, K => match v with
    | .tt => p ∧ K
    | .ff => ¬p ∧ K
    | .prop q => (q ↔ p) ∧ K
    | _ => False
  | .int k n, v, K => match v with
    | .int k' n' => match k' == k with
      | true => n' = n ∧ K
      | false => False
    | _ => False
  | .str s, v, K => match v with
    | .str s' => s' = s ∧ K
    | _ => False
  | .nilp, v, K => match v with
    | .nilp => K
    | _ => False
  | .ptr b m i j, v, K => match v with
    | .ptr b' m' i' j' => match Nat.beq m m', Nat.beq j j' with
      | true, true => match renB f b with
        | some b => fitB b b' (fitI i i' K)
        | none => False
      | _, _ => False
    | _ => False
  | .nils, v, K => match v with
    | .nils => K
    | _ => False
  | .sl b m i n, v, K => match v with
    | .sl b' m' i' n' => match Nat.beq m m' with
      | true => match renB f b with
        | some b => fitB b b' (fitI i i' (n' = n ∧ K))
        | none => False
      | _ => False
    | .nils => match renB f b with
      | some _ => False
      | none => (n = 0 ∧ i.getD 0 = 0) ∧ K
    | _ => False
  | .nilf, v, K => match v with
    | .nilf => K
    | _ => False
  | .fn g c, v, K => match v with
    | .fn g' c' => match Nat.beq g g' with
      | true => fitVs f c c' K
      | false => False
    | _ => False
  | .niface, v, K => match v with
    | .niface => K
    | _ => False
  | .agg c, v, K => match v with
    | .agg c' => fitVs f c c' K
    | _ => False
  | .tup c, v, K => match v with
    | .tup c' => fitVs f c c' K
    | _ => False
def fitVs (f : Nat → Option Blk) : List AV → List AV → Prop → Prop
  | [], [], K => K
  | v :: vs, v' :: vs', K => fitV f v v' (fitVs f vs vs' K)
  | _, _, _ => False
end

section
variable {S : Seat} {ρ : Loc} {f : Nat → Option Blk}

theorem fitI_out {i i' : Option Int} {K : Prop} (h : fitI i i' K) : i.getD 0 = i'.getD 0 ∧ K := by
  unfold fitI at h
  split at h <;> split at h
  · exact ⟨rfl, h⟩
  · exact ⟨by simp [h.1], h.2⟩
  · exact ⟨by simp [h.1], h.2⟩
  · exact ⟨by simp [h.1], h.2⟩

theorem fitB_out : ∀ {b b' : Blk} {K : Prop}, fitB b b' K → b = b' ∧ K
  | .loc n, .loc m, K, h => by
    unfold fitB at h
    split at h
    · rename_i e; exact ⟨by rw [Nat.eq_of_beq_eq_true e], h⟩
    · exact h.elim
  | .glob n, .glob m, K, h => by
    unfold fitB at h
    split at h
    · rename_i e; exact ⟨by rw [Nat.eq_of_beq_eq_true e], h⟩
    · exact h.elim
  | .sub b i j, .sub b' i' j', K, h => by
    unfold fitB at h
    split at h
    · rename_i e
      obtain ⟨h1, h2⟩ := h
      obtain ⟨h3, h4⟩ := fitB_out h2
      exact ⟨by rw [h3, h1, Nat.eq_of_beq_eq_true e], h4⟩
    · exact h.elim
  | .loc _, .glob _, _, h | .loc _, .sub _ _ _, _, h | .glob _, .loc _, _, h | .glob _, .sub _ _ _, _, h | .sub _ _ _, .loc _, _, h | .sub _ _ _, .glob _, _, h => h.elim

theorem pull_some {b b' : Blk} (h : renB f b = some b') : pull f ρ b = ρ b' := by simp [pull, h]
theorem pull_none {b : Blk} (h : renB f b = none) : pull f ρ b = none := by simp [pull, h]

mutual
theorem fitV_out : ∀ {v v' : AV} {K : Prop}, fitV f v v' K → (∀ r, VRel ρ v' r → VRel (pull f ρ) v r) ∧ K
  | .undef, _, _, h => ⟨fun _ _ => trivial, h⟩
  | .tt, v', _, h => by
    unfold fitV at h
    split at h
    · exact ⟨fun _ q => q, h⟩
    · exact ⟨fun r q => prop_tt h.1 rfl r q, h.2⟩
    · exact h.elim
  | .ff, v', _, h => by
    unfold fitV at h
    split at h
    · exact ⟨fun _ q => q, h⟩
    · exact ⟨fun r q => prop_ff h.1 rfl r q, h.2⟩
    · exact h.elim
  | .prop p, v', _, h => by
    unfold fitV at h
    split at h
    · exact ⟨fun _ q => ⟨true, q, by simp [h.1]⟩, h.2⟩
    · exact ⟨fun _ q => ⟨false, q, by simp [h.1]⟩, h.2⟩
    · exact ⟨fun _ ⟨b, q, hb⟩ => ⟨b, q, hb.trans h.1⟩, h.2⟩
    · exact h.elim
  | .int k n, v', _, h => by
    unfold fitV at h
    split at h
    · split at h
      · rename_i e
        have e := eq_of_beq e
        subst e
        exact ⟨fun _ q => by rw [← h.1]; exact q, h.2⟩
      · exact h.elim
    · exact h.elim
  | .str s, v', _, h => by
    unfold fitV at h
    split at h
    · exact ⟨fun _ q => by rw [← h.1]; exact q, h.2⟩
    · exact h.elim
  | .nilp, v', _, h => by
    unfold fitV at h
    split at h
    · exact ⟨fun _ q => q, h⟩
    · exact h.elim
  | .ptr b m i j, v', _, h => by
    unfold fitV at h
    split at h
    · split at h
      · rename_i e1 e2
        have e1 := Nat.eq_of_beq_eq_true e1
        have e2 := Nat.eq_of_beq_eq_true e2
        subst e1; subst e2
        split at h
        · rename_i B hB
          obtain ⟨h1, hx⟩ := fitB_out h
          obtain ⟨h2, hy⟩ := fitI_out hx
          subst h1
          refine ⟨fun r q => ?_, hy⟩
          simp only [VRel] at q ⊢
          rw [pull_some hB, h2]
          exact q
        · exact h.elim
      · exact h.elim
    · exact h.elim
  | .nils, v', _, h => by
    unfold fitV at h
    split at h
    · exact ⟨fun _ q => q, h⟩
    · exact h.elim
  | .sl b m i n, v', _, h => by
    unfold fitV at h
    split at h
    · split at h
      · rename_i e1
        have e1 := Nat.eq_of_beq_eq_true e1
        subst e1
        split at h
        · rename_i B hB
          obtain ⟨h1, hx⟩ := fitB_out h
          obtain ⟨h2, h3, hy⟩ := fitI_out hx
          subst h1; subst h3
          refine ⟨fun r q => ?_, hy⟩
          simp only [VRel] at q ⊢
          rw [pull_some hB, h2]
          exact q
        · exact h.elim
      · exact h.elim
    · split at h
      · exact h.elim
      · rename_i hB
        refine ⟨fun r q => ?_, h.2⟩
        simp only [VRel] at q ⊢
        left
        exact ⟨pull_none hB, h.1.1, h.1.2, q⟩
    · exact h.elim
  | .nilf, v', _, h => by
    unfold fitV at h
    split at h
    · exact ⟨fun _ q => q, h⟩
    · exact h.elim
  | .fn g c, v', _, h => by
    unfold fitV at h
    split at h
    · split at h
      · rename_i e
        have e := Nat.eq_of_beq_eq_true e
        subst e
        obtain ⟨h1, h2⟩ := fitVs_out h
        exact ⟨fun r ⟨cs, e, q⟩ => ⟨cs, e, h1 _ q⟩, h2⟩
      · exact h.elim
    · exact h.elim
  | .niface, v', _, h => by
    unfold fitV at h
    split at h
    · exact ⟨fun _ q => q, h⟩
    · exact h.elim
  | .agg c, v', _, h => by
    unfold fitV at h
    split at h
    · obtain ⟨h1, h2⟩ := fitVs_out h
      exact ⟨fun r ⟨cs, e, q⟩ => ⟨cs, e, h1 _ q⟩, h2⟩
    · exact h.elim
  | .tup c, v', _, h => by
    unfold fitV at h
    split at h
    · obtain ⟨h1, h2⟩ := fitVs_out h
      exact ⟨fun r ⟨cs, e, q⟩ => ⟨cs, e, h1 _ q⟩, h2⟩
    · exact h.elim
theorem fitVs_out : ∀ {vs vs' : List AV} {K : Prop}, fitVs f vs vs' K → (∀ rs, VRels ρ vs' rs → VRels (pull f ρ) vs rs) ∧ K
  | [], [], _, h => ⟨fun _ q => q, h⟩
  | v :: vs, v' :: vs', _, h => by
    unfold fitVs at h
    obtain ⟨h1, h⟩ := fitV_out h
    obtain ⟨h2, h⟩ := fitVs_out h
    exact ⟨fun rs ⟨r, rs', e, q1, q2⟩ => ⟨r, rs', e, h1 _ q1, h2 _ q2⟩, h⟩
  | [], _ :: _, _, h => h.elim
  | _ :: _, [], _, h => h.elim
end

theorem renB_glob : ∀ {b : Blk}, b.root = none → renB f b = some b
  | .loc _, h => by simp [Blk.root] at h
  | .glob _, _ => rfl
  | .sub b i j, h => by simp [renB, renB_glob (b := b) h]
theorem pull_agree0 : Agree 0 ρ (pull f ρ) := fun b hb => by
  have : b.root = none := by
    cases h : b.root with
    | none => rfl
    | some n => exact absurd (hb n h) (by omega)
  rw [pull_some (renB_glob this)]
theorem renB_id {N : Nat} (hf : ∀ n, n < N → f n = some (.loc n)) : ∀ {b : Blk}, b.lt N → renB f b = some b
  | .loc n, h => hf n (h n rfl)
  | .glob _, _ => rfl
  | .sub b i j, h => by simp [renB, renB_id hf (b := b) h]
theorem pull_agree {N : Nat} (hf : ∀ n, n < N → f n = some (.loc n)) : Agree N ρ (pull f ρ) := fun b hb => by
  rw [pull_some (renB_id hf hb)]

def Cont.flat : Cont → Prop
  | .nest _ _ _ s _ _ => s = []
  | _ => True
theorem Holds.ofFlat {ρ : Loc} {N : Nat} {w : World} {rw : Bool} {c : Cont} {b : Blk} (hc : c.flat) (h : Lies ρ N w rw b c) : Holds ρ N w rw c b := by
  cases c with
  | raw vs => exact h
  | arr E xs => exact h
  | nest m d g s f xs =>
    have hc : s = [] := hc
    subst hc
    exact ⟨h, fun i _ j hj => by simp at hj⟩

theorem InC.flat {c : Cont} {b0 b : Blk} (hc : c.flat) (h : InC c b0 b) : b = b0 := by
  cases c with
  | raw vs => exact h
  | arr E xs => exact h
  | nest m d g s f xs =>
    have hc : s = [] := hc
    subst hc
    rcases h with h | ⟨_, _, _, hj, _⟩
    · exact h
    · simp at hj

/-- an entry that is thought, and where it comes from -/
def EntFit (S : Seat) (f : Nat → Option Blk) (ρ : Loc) (H : Heap) (w : World) (N : Nat) (e' : Ent) : Prop :=
  e'.c.flat ∧ ContOk S e'.c ∧ ((renB f e'.b = none ∧ e'.c.empty) ∨
    ∃ B e, renB f e'.b = some B ∧ e ∈ H.ents ∧ InC e.c e.b B ∧ (e'.rw = true → e.rw = true ∧ e.b = B) ∧ Lies (pull f ρ) N w e'.rw e'.b e'.c)

theorem HRel.pull {H : Heap} {w : World} (h : HRel S ρ H w) {l : List Ent} {N : Nat} (hfit : ∀ e ∈ l, EntFit S f ρ H w N e) (hkey : ∀ e ∈ l, e.b.lt N ∧ e.b.isKey) (hkeys : l.Pairwise fun e e' => e.b ≠ e'.b)
    (hsep : ∀ e ∈ l, ∀ e' ∈ l, e.b ≠ e'.b → (e.rw = true ∨ e'.rw = true) → ∀ B, renB f e.b = some B → renB f e'.b ≠ some B) : HRel S (pull f ρ) ⟨l, N⟩ w where
  holds := fun e he => by
    obtain ⟨h1, h2, h3⟩ := hfit e he
    have hl : Lies (Vm.pull f ρ) N w e.rw e.b e.c := by
      rcases h3 with ⟨h3, h4⟩ | ⟨B, e0, _, _, _, _, q⟩
      · simp only [Lies, pull_none h3]; exact h4
      · exact q
    exact .ofFlat h1 hl
  key := hkey
  sep := fun e he e' he' hor b b' hb hb' hne k z z' r r' => by
    obtain ⟨h1, h2, h3⟩ := hfit e he
    obtain ⟨g1, g2, g3⟩ := hfit e' he'
    have hb := InC.flat h1 hb
    have hb' := InC.flat g1 hb'
    subst hb; subst hb'
    rcases h3 with ⟨h3, _⟩ | ⟨B, e0, q1, q2, q3, q4, _⟩
    · rw [pull_none h3] at r; simp at r
    rcases g3 with ⟨g3, _⟩ | ⟨B', e0', p1, p2, p3, p4, _⟩
    · rw [pull_none g3] at r'; simp at r'
    rw [pull_some q1] at r
    rw [pull_some p1] at r'
    refine h.sep e0 q2 e0' p2 (hor.imp (fun q => (q4 q).1) (fun q => (p4 q).1)) B B' q3 p3 (fun e1 => ?_) k z z' r r'
    exact hsep e he e' he' hne hor B q1 (by rw [p1, e1])
  keys := hkeys
  glob := fun g => by
    obtain ⟨z, hz⟩ := h.glob g
    exact ⟨z, by rw [pull_some (b' := .glob g) rfl]; exact hz⟩
  enc := fun e he => (hfit e he).2.1
end

/-! finding the numbers -/
abbrev Ren := List (Nat × Option Blk)
def lookR : Ren → Nat → Option Blk
  | [], _ => none
  | (k, o) :: r, n => match Nat.beq k n with
    | true => o
    | false => lookR r n
def knownR : Ren → Nat → Bool
  | [], _ => false
  | (k, _) :: r, n => match Nat.beq k n with
    | true => true
    | false => knownR r n
def idR : Nat → Ren → Ren
  | 0, m => m
  | k + 1, m => idR k ((k, some (.loc k)) :: m)
def idOk : Nat → Ren → Bool
  | 0, _ => true
  | k + 1, m => match lookR m k with
    | some (.loc j) => match Nat.beq j k with
      | true => idOk k m
      | false => false
    | _ => false

def learnB : Blk → Blk → Ren → (Ren → Prop) → Prop
  | .loc k, b', m, K => match knownR m k with
    | true => K m
    | false => K ((k, some b') :: m)
  | .sub b _ _, .sub b' _ _, m, K => learnB b b' m K
  | _, _, m, K => K m
mutual
def learnV : AV → AV → Ren → (Ren → Prop) → Prop
  | .ptr b _ _ _, v, m, K => match v with
    | .ptr b' _ _ _ => learnB b b' m K
    | _ => K m
  | .sl b _ _ _, v, m, K => match v with
    | .sl b' _ _ _ => learnB b b' m K
    | _ => K m
  | .fn _ c, v, m, K => match v with
    | .fn _ c' => learnVs c c' m K
    | _ => K m
  | .agg c, v, m, K => match v with
    | .agg c' => learnVs c c' m K
    | _ => K m
  | .tup c, v, m, K => match v with
    | .tup c' => learnVs c c' m K
    | _ => K m
  | _, _, m, K => K m
def learnVs : List AV → List AV → Ren → (Ren → Prop) → Prop
  | v :: vs, v' :: vs', m, K => learnV v v' m fun m => learnVs vs vs' m K
  | _, _, m, K => K m
end
theorem learnB_out : ∀ {b b' : Blk} {m : Ren} {K : Ren → Prop}, learnB b b' m K → ∃ m, K m
  | .loc k, b', m, K, h => by
    unfold learnB at h
    split at h
    · exact ⟨_, h⟩
    · exact ⟨_, h⟩
  | .sub b _ _, .sub b' _ _, m, K, h => learnB_out (b := b) h
  | .sub _ _ _, .loc _, m, K, h | .sub _ _ _, .glob _, m, K, h | .glob _, _, m, K, h => ⟨m, h⟩
mutual
theorem learnV_out : ∀ {v v' : AV} {m : Ren} {K : Ren → Prop}, learnV v v' m K → ∃ m, K m
  | .ptr b _ _ _, v, m, K, h => by
    unfold learnV at h
    split at h
    · exact learnB_out h
    · exact ⟨_, h⟩
  | .sl b _ _ _, v, m, K, h => by
    unfold learnV at h
    split at h
    · exact learnB_out h
    · exact ⟨_, h⟩
  | .fn _ c, v, m, K, h => by
    unfold learnV at h
    split at h
    · exact learnVs_out h
    · exact ⟨_, h⟩
  | .agg c, v, m, K, h => by
    unfold learnV at h
    split at h
    · exact learnVs_out h
    · exact ⟨_, h⟩
  | .tup c, v, m, K, h => by
    unfold learnV at h
    split at h
    · exact learnVs_out h
    · exact ⟨_, h⟩
  | .undef, _, m, _, h | .tt, _, m, _, h | .ff, _, m, _, h | .prop _, _, m, _, h | .int _ _, _, m, _, h | .str _, _, m, _, h | .nilp, _, m, _, h | .nils, _, m, _, h | .nilf, _, m, _, h | .niface, _, m, _, h => ⟨m, h⟩
theorem learnVs_out : ∀ {vs vs' : List AV} {m : Ren} {K : Ren → Prop}, learnVs vs vs' m K → ∃ m, K m
  | v :: vs, v' :: vs', m, K, h => by
    unfold learnVs at h
    obtain ⟨m, h⟩ := learnV_out h
    exact learnVs_out h
  | [], _, m, _, h => ⟨m, h⟩
  | _ :: _, [], m, _, h => ⟨m, h⟩
end

def learnEnv (env : List (Nat × AV)) : List (Nat × AV) → Ren → (Ren → Prop) → Prop
  | [], m, K => K m
  | (t, v) :: r, m, K => learnV v (look env t) m fun m => learnEnv env r m K
theorem learnEnv_out {env : List (Nat × AV)} : ∀ {l : List (Nat × AV)} {m : Ren} {K : Ren → Prop}, learnEnv env l m K → ∃ m, K m
  | [], m, K, h => ⟨m, h⟩
  | (t, v) :: r, m, K, h => by
    unfold learnEnv at h
    obtain ⟨m, h⟩ := learnV_out h
    exact learnEnv_out h
def learnH (l : List Ent) : List Ent → Ren → (Ren → Prop) → Prop
  | [], m, K => K m
  | e :: r, m, K => match e.c with
    | .raw vs => match renB (lookR m) e.b with
      | some B => match getE l B with
        | some ⟨_, _, .raw vs'⟩ => learnVs vs vs' m fun m => learnH l r m K
        | _ => learnH l r m K
      | none => learnH l r m K
    | _ => learnH l r m K
theorem learnH_out {l : List Ent} : ∀ {r : List Ent} {m : Ren} {K : Ren → Prop}, learnH l r m K → ∃ m, K m
  | [], m, K, h => ⟨m, h⟩
  | e :: r, m, K, h => by
    unfold learnH at h
    split at h
    · split at h
      · split at h
        · obtain ⟨m, h⟩ := learnVs_out h
          exact learnH_out h
        · exact learnH_out h
      · exact learnH_out h
    · exact learnH_out h

/-! numbers below a bound -/
def ltB (N : Nat) : Blk → Prop → Prop
  | .loc n, K => match Nat.blt n N with
    | true => K
    | false => False
  | .glob _, K => K
  | .sub b _ _, K => ltB N b K
mutual
def ltV (N : Nat) : AV → Prop → Prop
  | .ptr b _ _ _, K => ltB N b K
  | .sl b _ _ _, K => ltB N b K
  | .fn _ c, K => ltVs N c K
  | .agg c, K => ltVs N c K
  | .tup c, K => ltVs N c K
  | _, K => K
def ltVs (N : Nat) : List AV → Prop → Prop
  | [], K => K
  | v :: r, K => ltV N v (ltVs N r K)
end
theorem ltB_out {N : Nat} : ∀ {b : Blk} {K : Prop}, ltB N b K → b.lt N ∧ K
  | .loc n, K, h => by
    unfold ltB at h
    split at h
    · rename_i e
      have e : n < N := by simpa [Nat.blt_eq] using e
      exact ⟨fun k hk => by simp [Blk.root] at hk; omega, h⟩
    · exact h.elim
  | .glob _, K, h => ⟨fun k hk => by simp [Blk.root] at hk, h⟩
  | .sub b i j, K, h => by
    have := ltB_out (b := b) h
    exact ⟨fun k hk => this.1 k hk, this.2⟩
mutual
theorem ltV_out {N : Nat} : ∀ {v : AV} {K : Prop}, ltV N v K → v.lt N ∧ K
  | .ptr _ _ _ _, _, h => ltB_out h
  | .sl _ _ _ _, _, h => ltB_out h
  | .fn _ _, _, h => ltVs_out h
  | .agg _, _, h => ltVs_out h
  | .tup _, _, h => ltVs_out h
  | .undef, _, h | .tt, _, h | .ff, _, h | .prop _, _, h | .int _ _, _, h | .str _, _, h | .nilp, _, h | .nils, _, h | .nilf, _, h | .niface, _, h => ⟨trivial, h⟩
theorem ltVs_out {N : Nat} : ∀ {vs : List AV} {K : Prop}, ltVs N vs K → AV.lts N vs ∧ K
  | [], _, h => ⟨trivial, h⟩
  | v :: r, _, h => by
    obtain ⟨h1, h⟩ := ltV_out h
    obtain ⟨h2, h⟩ := ltVs_out h
    exact ⟨⟨h1, h2⟩, h⟩
end
end Go.Vm
