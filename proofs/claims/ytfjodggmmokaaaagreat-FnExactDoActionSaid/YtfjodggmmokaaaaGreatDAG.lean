/- An abstract machine over the loaded code: one thought in the place of another, with other numbers. -/
import Derived.Test.YtfjodggmmokaaaaGreatDAF
set_option linter.unusedSimpArgs false
set_option linter.unusedVariables false
set_option linter.constructorNameAsVariable false
namespace Go.Vm
open Go.RowKit
inductive Pl where
  | whole (b : Blk)
  | view (b : Blk) (i : Option Int) (m j n : Nat)
  | trim (b : Blk) (i : Int) (m : Nat)
def plLoc (ρ : Loc) : Pl → Option (Nat × (Nat × Nat))
  | .whole b => ρ b
  | .view b i m j n => match ρ b with
    | some (k, z) => some (k, (z.1 + ((i.getD 0).toNat * m + j), n))
    | none => none
  | .trim b i m => match ρ b with
    | some (k, z) => some (k, (z.1 + i.toNat * m, z.2 - i.toNat * m))
    | none => none
def renB (f : Nat → Option Pl) : Blk → Option Pl
  | .loc n => f n
  | .glob g => some (.whole (.glob g))
  | .sub b i j => match renB f b with
    | some (.whole b) => some (.whole (.sub b i j))
    | some (.trim b i0 _) => some (.whole (.sub b (i + i0) j))
    | _ => none
def pull (f : Nat → Option Pl) (ρ ρh : Loc) : Loc := fun b => match b with
  | .sub c i j => match renB f (.sub c i j) with
    | some p => plLoc ρh p
    | none => none
  | .loc n => match f n with
    | some p => plLoc ρ p
    | none => none
  | .glob g => ρ (.glob g)
def okB (dn : Bool) (b : Blk) : Bool := match dn with
  | false => true
  | true => match b with
    | .sub _ _ _ => false
    | _ => true
def fitI (i i' : Option Int) (K : Prop) : Prop :=
  match i with
  | none => match i' with
    | none => K
    | some b => b = 0 ∧ K
  | some a => match i' with
    | none => a = 0 ∧ K
    | some b => a = b ∧ K
def fitB : Blk → Blk → Prop → Prop
  | .loc n, .loc m, K => match Nat.beq n m with
    | true => K
    | false => False
  | .glob n, .glob m, K => match Nat.beq n m with
    | true => K
    | false => False
  | .sub b i j, .sub b' i' j', K => match Nat.beq j j' with
    | true => i = i' ∧ fitB b b' K
    | false => False
  | _, _, _ => False
mutual
def fitV (dn : Bool) (f : Nat → Option Pl) : AV → AV → Prop → Prop
  | .undef, _, K => K
  | .tt, v, K => match v with
    | .tt => K
    | .prop p => p ∧ K
    | _ => False
  | .ff, v, K => match v with
    | .ff => K
    | .prop p => ¬p ∧ K
    | _ => False
  | .prop p, v, K => match v with
    | .tt => p ∧ K
    | .ff => ¬p ∧ K
    | .prop q => (q ↔ p) ∧ K
    | _ => False
  | .int k n, v, K => match v with
    | .int k' n' => match k' == k with
      | true => n' = n ∧ K
      | false => False
    | _ => False
  | .str s, v, K => match v with
    | .str s' => s' = s ∧ K
    | _ => False
  | .nilp, v, K => match v with
    | .nilp => K
    | _ => False
  | .ptr b m i j, v, K => match v with
    | .ptr b' m' i' j' => match okB dn b with
      | false => False
      | true => match renB f b with
        | some p => match p with
          | .whole B => match Nat.beq m m', Nat.beq j j' with
            | true, true => fitB B b' (fitI i i' K)
            | _, _ => match i with
              | none => match i' with
                | none => match Nat.beq j j' with
                  | true => fitB B b' K
                  | false => False
                | _ => False
              | _ => False
          | .view B i0 m0 j0 _ => match i with
            | none => match Nat.beq m0 m', Nat.beq (j0 + j) j' with
              | true, true => fitB B b' (fitI i0 i' K)
              | _, _ => False
            | some _ => False
          | .trim B i0 m0 => match Nat.beq m m', Nat.beq m0 m', Nat.beq j j' with
            | true, true, true => fitB B b' ((i.getD 0 + i0 = i'.getD 0 ∧ 0 ≤ i0 ∧ 0 ≤ i.getD 0) ∧ K)
            | _, _, _ => False
        | none => False
    | _ => False
  | .nils, v, K => match v with
    | .nils => K
    | _ => False
  | .sl b m i n, v, K => match v with
    | .sl b' m' i' n' => match Nat.beq m m', okB dn b with
      | true, true => match renB f b with
        | some p => match p with
          | .whole B => fitB B b' (fitI i i' (n' = n ∧ K))
          | .trim B i0 m0 => match Nat.beq m0 m' with
            | true => fitB B b' ((i.getD 0 + i0 = i'.getD 0 ∧ 0 ≤ i0 ∧ 0 ≤ i.getD 0) ∧ n' = n ∧ K)
            | false => False
          | .view _ _ _ _ _ => False
        | none => False
      | _, _ => False
    | .nils => match okB dn b with
      | false => False
      | true => match renB f b with
        | some _ => False
        | none => (n = 0 ∧ i.getD 0 = 0) ∧ K
    | _ => False
  | .nilf, v, K => match v with
    | .nilf => K
    | _ => False
  | .fn g c, v, K => match v with
    | .fn g' c' => match Nat.beq g g' with
      | true => fitVs dn f c c' K
      | false => False
    | _ => False
  | .niface, v, K => match v with
    | .niface => K
    | _ => False
  | .agg c, v, K => match v with
    | .agg c' => fitVs dn f c c' K
    | _ => False
  | .tup c, v, K => match v with
    | .tup c' => fitVs dn f c c' K
    | _ => False
def fitVs (dn : Bool) (f : Nat → Option Pl) : List AV → List AV → Prop → Prop
  | [], [], K => K
  | v :: vs, v' :: vs', K => fitV dn f v v' (fitVs dn f vs vs' K)
  | _, _, _ => False
end
section
variable {S : Seat} {ρ ρh : Loc} {f : Nat → Option Pl} {dn : Bool}
theorem fitI_out {i i' : Option Int} {K : Prop} (h : fitI i i' K) : i.getD 0 = i'.getD 0 ∧ K := by
  unfold fitI at h
  split at h <;> split at h
  · exact ⟨rfl, h⟩
  · exact ⟨by simp [h.1], h.2⟩
  · exact ⟨by simp [h.1], h.2⟩
  · exact ⟨by simp [h.1], h.2⟩
theorem fitB_out : ∀ {b b' : Blk} {K : Prop}, fitB b b' K → b = b' ∧ K
  | .loc n, .loc m, K, h => by
    unfold fitB at h
    split at h
    · rename_i e; exact ⟨by rw [Nat.eq_of_beq_eq_true e], h⟩
    · exact h.elim
  | .glob n, .glob m, K, h => by
    unfold fitB at h
    split at h
    · rename_i e; exact ⟨by rw [Nat.eq_of_beq_eq_true e], h⟩
    · exact h.elim
  | .sub b i j, .sub b' i' j', K, h => by
    unfold fitB at h
    split at h
    · rename_i e
      obtain ⟨h1, h2⟩ := h
      obtain ⟨h3, h4⟩ := fitB_out h2
      exact ⟨by rw [h3, h1, Nat.eq_of_beq_eq_true e], h4⟩
    · exact h.elim
  | .loc _, .glob _, _, h | .loc _, .sub _ _ _, _, h | .glob _, .loc _, _, h | .glob _, .sub _ _ _, _, h | .sub _ _ _, .loc _, _, h | .sub _ _ _, .glob _, _, h => h.elim
theorem pull_val {b : Blk} {p : Option Pl} (hok : okB dn b = true) (hdn : dn = false → ρh = ρ) (h : renB f b = p) : pull f ρ ρh b = p.bind (plLoc ρ) := by
  cases b with
  | loc n => have h : f n = p := h; simp only [pull, h]; cases p <;> rfl
  | glob g => simp only [renB] at h; subst h; rfl
  | sub c i j =>
    cases dn with
    | true => simp [okB] at hok
    | false => rw [hdn rfl]; simp only [pull, h]; cases p <;> rfl
theorem ptr_whole {b B : Blk} {m m' j j' : Nat} {i i' : Option Int} {ρ ρ' : Loc} {r : Value} (hb : ρ' b = ρ B) (h : i.getD 0 = i'.getD 0) (hm : (i.getD 0).toNat * m + j = (i'.getD 0).toNat * m' + j') (q : VRel ρ (.ptr B m' i' j') r) : VRel ρ' (.ptr b m i j) r := by
  simp only [VRel] at q ⊢
  rw [hb, h]
  obtain ⟨k, z, q1, q2, q3⟩ := q
  rw [h] at hm
  exact ⟨k, z, q1, q2, by rw [hm]; exact q3⟩
mutual
theorem fitV_out (hdn : dn = false → ρh = ρ) : ∀ {v v' : AV} {K : Prop}, fitV dn f v v' K → (∀ r, VRel ρ v' r → VRel (pull f ρ ρh) v r) ∧ K
  | .undef, _, _, h => ⟨fun _ _ => trivial, h⟩
  | .tt, v', _, h => by
    unfold fitV at h
    split at h
    · exact ⟨fun _ q => q, h⟩
    · exact ⟨fun r q => prop_tt h.1 rfl r q, h.2⟩
    · exact h.elim
  | .ff, v', _, h => by
    unfold fitV at h
    split at h
    · exact ⟨fun _ q => q, h⟩
    · exact ⟨fun r q => prop_ff h.1 rfl r q, h.2⟩
    · exact h.elim
  | .prop p, v', _, h => by
    unfold fitV at h
    split at h
    · exact ⟨fun _ q => ⟨true, q, by simp [h.1]⟩, h.2⟩
    · exact ⟨fun _ q => ⟨false, q, by simp [h.1]⟩, h.2⟩
    · exact ⟨fun _ ⟨b, q, hb⟩ => ⟨b, q, hb.trans h.1⟩, h.2⟩
    · exact h.elim
  | .int k n, v', _, h => by
    unfold fitV at h
    split at h
    · split at h
      · rename_i e
        have e := eq_of_beq e
        subst e
        exact ⟨fun _ q => by rw [← h.1]; exact q, h.2⟩
      · exact h.elim
    · exact h.elim
  | .str s, v', _, h => by
    unfold fitV at h
    split at h
    · exact ⟨fun _ q => by rw [← h.1]; exact q, h.2⟩
    · exact h.elim
  | .nilp, v', _, h => by
    unfold fitV at h
    split at h
    · exact ⟨fun _ q => q, h⟩
    · exact h.elim
  | .ptr b m i j, v', _, h => by
    unfold fitV at h
    split at h
    · rename_i b' m' i' j'
      split at h
      · exact h.elim
      · rename_i hok
        split at h
        · rename_i p hB
          have hp := pull_val (ρ := ρ) (ρh := ρh) hok hdn hB
          split at h
          · rename_i B
            split at h
            · rename_i e1 e2
              have e1 := Nat.eq_of_beq_eq_true e1
              have e2 := Nat.eq_of_beq_eq_true e2
              subst e1; subst e2
              obtain ⟨h1, hx⟩ := fitB_out h
              obtain ⟨h2, hy⟩ := fitI_out hx
              subst h1
              exact ⟨fun r q => ptr_whole hp h2 (by rw [h2]) q, hy⟩
            · split at h
              · split at h
                · split at h
                  · rename_i e2
                    have e2 := Nat.eq_of_beq_eq_true e2
                    subst e2
                    obtain ⟨h1, hy⟩ := fitB_out h
                    subst h1
                    exact ⟨fun r q => ptr_whole hp rfl (by simp) q, hy⟩
                  · exact h.elim
                · exact h.elim
              · exact h.elim
          · rename_i B i0 m0 j0 n0
            split at h
            · split at h
              · rename_i e1 e2
                have e1 := Nat.eq_of_beq_eq_true e1
                have e2 := Nat.eq_of_beq_eq_true e2
                subst e1; subst e2
                obtain ⟨h1, hx⟩ := fitB_out h
                obtain ⟨h2, hy⟩ := fitI_out hx
                subst h1
                refine ⟨fun r q => ?_, hy⟩
                simp only [VRel] at q ⊢
                obtain ⟨k, z, q1, q2, q3⟩ := q
                rw [hp]
                simp only [Option.bind_some, plLoc, q1]
                refine ⟨k, _, rfl, by simp, ?_⟩
                rw [q3, h2]
                simp [Nat.add_assoc]
              · exact h.elim
            · exact h.elim
          · rename_i B i0 m0
            split at h
            · rename_i e1 e2 e3
              have e1 := Nat.eq_of_beq_eq_true e1
              have e2 := Nat.eq_of_beq_eq_true e2
              have e3 := Nat.eq_of_beq_eq_true e3
              subst e1; subst e2; subst e3
              obtain ⟨h1, ⟨h2, h3, h4⟩, hy⟩ := fitB_out h
              subst h1
              refine ⟨fun r q => ?_, hy⟩
              simp only [VRel] at q ⊢
              obtain ⟨k, z, q1, q2, q3⟩ := q
              rw [hp]
              simp only [Option.bind_some, plLoc, q1]
              refine ⟨k, _, rfl, h4, ?_⟩
              rw [q3]
              have e : (i'.getD 0).toNat = i0.toNat + (i.getD 0).toNat := by omega
              rw [e, Nat.add_mul]
              simp only
              congr 3; omega
            · exact h.elim
        · exact h.elim
    · exact h.elim
  | .nils, v', _, h => by
    unfold fitV at h
    split at h
    · exact ⟨fun _ q => q, h⟩
    · exact h.elim
  | .sl b m i n, v', _, h => by
    unfold fitV at h
    split at h
    · rename_i b' m' i' n'
      split at h
      · rename_i e1 hok
        have e1 := Nat.eq_of_beq_eq_true e1
        subst e1
        split at h
        · rename_i p hB
          have hp := pull_val (ρ := ρ) (ρh := ρh) hok hdn hB
          split at h
          · rename_i B
            obtain ⟨h1, hx⟩ := fitB_out h
            obtain ⟨h2, h3, hy⟩ := fitI_out hx
            subst h1; subst h3
            refine ⟨fun r q => ?_, hy⟩
            simp only [VRel] at q ⊢
            rw [hp, h2]
            exact q
          · rename_i B i0 m0
            split at h
            · rename_i e2
              have e2 := Nat.eq_of_beq_eq_true e2
              subst e2
              obtain ⟨h1, ⟨h2, h3, h4⟩, h5, hy⟩ := fitB_out h
              subst h1; subst h5
              refine ⟨fun r q => ?_, hy⟩
              simp only [VRel] at q ⊢
              rw [hp]
              simp only [Option.bind_some, plLoc]
              rcases q with ⟨q1, q2, q3, q4⟩ | ⟨k, z, cap, off, q1, q2, q3, q4, q5, q6, q7, q8⟩
              · left
                rw [q1]
                exact ⟨rfl, q2, by omega, q4⟩
              · right
                rw [q1]
                have e : (i'.getD 0).toNat = i0.toNat + (i.getD 0).toNat := by omega
                rw [e, Nat.add_mul] at q6 q7
                exact ⟨k, _, cap, off, rfl, h4, q3, q4, q5, by simp only; omega, q7.imp id fun q => by simp only; omega, q8⟩
            · exact h.elim
          · exact h.elim
        · exact h.elim
      · exact h.elim
    · split at h
      · exact h.elim
      · rename_i hok
        split at h
        · exact h.elim
        · rename_i hB
          have hp := pull_val (ρ := ρ) (ρh := ρh) hok hdn hB
          refine ⟨fun r q => ?_, h.2⟩
          simp only [VRel] at q ⊢
          left
          exact ⟨hp, h.1.1, h.1.2, q⟩
    · exact h.elim
  | .nilf, v', _, h => by
    unfold fitV at h
    split at h
    · exact ⟨fun _ q => q, h⟩
    · exact h.elim
  | .fn g c, v', _, h => by
    unfold fitV at h
    split at h
    · split at h
      · rename_i e
        have e := Nat.eq_of_beq_eq_true e
        subst e
        obtain ⟨h1, h2⟩ := fitVs_out hdn h
        exact ⟨fun r ⟨cs, e, q⟩ => ⟨cs, e, h1 _ q⟩, h2⟩
      · exact h.elim
    · exact h.elim
  | .niface, v', _, h => by
    unfold fitV at h
    split at h
    · exact ⟨fun _ q => q, h⟩
    · exact h.elim
  | .agg c, v', _, h => by
    unfold fitV at h
    split at h
    · obtain ⟨h1, h2⟩ := fitVs_out hdn h
      exact ⟨fun r ⟨cs, e, q⟩ => ⟨cs, e, h1 _ q⟩, h2⟩
    · exact h.elim
  | .tup c, v', _, h => by
    unfold fitV at h
    split at h
    · obtain ⟨h1, h2⟩ := fitVs_out hdn h
      exact ⟨fun r ⟨cs, e, q⟩ => ⟨cs, e, h1 _ q⟩, h2⟩
    · exact h.elim
theorem fitVs_out (hdn : dn = false → ρh = ρ) : ∀ {vs vs' : List AV} {K : Prop}, fitVs dn f vs vs' K → (∀ rs, VRels ρ vs' rs → VRels (pull f ρ ρh) vs rs) ∧ K
  | [], [], _, h => ⟨fun _ q => q, h⟩
  | v :: vs, v' :: vs', _, h => by
    unfold fitVs at h
    obtain ⟨h1, h⟩ := fitV_out hdn h
    obtain ⟨h2, h⟩ := fitVs_out hdn h
    exact ⟨fun rs ⟨r, rs', e, q1, q2⟩ => ⟨r, rs', e, h1 _ q1, h2 _ q2⟩, h⟩
  | [], _ :: _, _, h => h.elim
  | _ :: _, [], _, h => h.elim
end
theorem fitVs_length : ∀ {vs vs' : List AV} {K : Prop}, fitVs dn f vs vs' K → vs.length = vs'.length
  | [], [], _, _ => rfl
  | v :: vs, v' :: vs', K, h => by
    unfold fitVs at h
    have h2 : fitVs dn f vs vs' K := (fitV_out (ρ := fun _ => none) (ρh := fun _ => none) (fun _ => rfl) h).2
    simp [fitVs_length h2]
  | [], _ :: _, _, h => h.elim
  | _ :: _, [], _, h => h.elim
theorem renB_glob : ∀ {b : Blk}, b.root = none → renB f b = some (.whole b)
  | .loc _, h => by simp [Blk.root] at h
  | .glob _, _ => rfl
  | .sub b i j, h => by simp [renB, renB_glob (b := b) h]
theorem pull_agree0 (h0 : Agree 0 ρ ρh) : Agree 0 ρ (pull f ρ ρh) := fun b hb => by
  have hr : b.root = none := by
    cases h : b.root with
    | none => rfl
    | some n => exact absurd (hb n h) (by omega)
  cases b with
  | loc n => simp [Blk.root] at hr
  | glob g => rfl
  | sub c i j => simp only [pull, renB_glob hr, plLoc]; exact h0 _ hb
theorem renB_id {N : Nat} (hf : ∀ n, n < N → f n = some (.whole (.loc n))) : ∀ {b : Blk}, b.lt N → renB f b = some (.whole b)
  | .loc n, h => hf n (h n rfl)
  | .glob _, _ => rfl
  | .sub b i j, h => by simp [renB, renB_id hf (b := b) h]
theorem pull_agree {N : Nat} (hf : ∀ n, n < N → f n = some (.whole (.loc n))) : Agree N ρ (pull f ρ ρ) := fun b hb => by
  cases b with
  | loc n => simp only [pull, hf n (hb n rfl), plLoc]
  | glob g => rfl
  | sub c i j => simp only [pull, renB_id hf hb, plLoc]
theorem keyB_under {b b' : Blk} (h : Under b b') (hb : b.isKey) : keyB b' = b := by
  induction b' with
  | loc _ => exact h.elim
  | glob _ => exact h.elim
  | sub c i j ih =>
    rcases h with h | h
    · subst h; simp only [keyB]; exact keyB_key hb
    · simp only [keyB]; exact ih h
end
/-! finding the numbers -/
abbrev Ren := List (Nat × Option Pl)
def lookR : Ren → Nat → Option Pl
  | [], _ => none
  | (k, o) :: r, n => match Nat.beq k n with
    | true => o
    | false => lookR r n
def knownR : Ren → Nat → Bool
  | [], _ => false
  | (k, _) :: r, n => match Nat.beq k n with
    | true => true
    | false => knownR r n
def idR : Nat → Ren → Ren
  | 0, m => m
  | k + 1, m => idR k ((k, some (.whole (.loc k))) :: m)
def idOk : Nat → Ren → Bool
  | 0, _ => true
  | k + 1, m => match lookR m k with
    | some (.whole (.loc j)) => match Nat.beq j k with
      | true => idOk k m
      | false => false
    | _ => false
def rawLen (l : List Ent) (b : Blk) : Option Nat := match getE l b with
  | some e => match e.c with
    | .raw vs => some vs.length
    | _ => none
  | none => none
def learnB : Blk → Blk → Ren → (Ren → Prop) → Prop
  | .loc k, b', m, K => match knownR m k with
    | true => K m
    | false => K ((k, some (.whole b')) :: m)
  | .sub b _ _, .sub b' _ _, m, K => learnB b b' m K
  | _, _, m, K => K m
def learnP (l0 l : List Ent) (b : Blk) (i : Option Int) (j : Nat) (b' : Blk) (m' : Nat) (i' : Option Int) (j' : Nat) (m : Ren) (K : Ren → Prop) : Prop :=
  match b with
  | .loc k => match knownR m k with
    | true => K m
    | false => match i with
      | some _ => K ((k, some (.whole b')) :: m)
      | none => match rawLen l0 (.loc k) with
        | none => K ((k, some (.whole b')) :: m)
        | some n => match i' with
          | some _ => natK (j' - j) fun d => natK n fun n => K ((k, some (.view b' i' m' d n)) :: m)
          | none => match rawLen l b' with
            | none => natK (j' - j) fun d => natK n fun n => K ((k, some (.view b' i' m' d n)) :: m)
            | some n' => match Nat.beq j j', Nat.beq n n' with
              | true, true => K ((k, some (.whole b')) :: m)
              | _, _ => natK (j' - j) fun d => natK n fun n => K ((k, some (.view b' i' m' d n)) :: m)
  | _ => learnB b b' m K
mutual
def learnV (l0 l : List Ent) : AV → AV → Ren → (Ren → Prop) → Prop
  | .ptr b _ i j, v, m, K => match v with
    | .ptr b' m' i' j' => learnP l0 l b i j b' m' i' j' m K
    | _ => K m
  | .sl b _ _ _, v, m, K => match v with
    | .sl b' _ _ _ => learnB b b' m K
    | _ => K m
  | .fn _ c, v, m, K => match v with
    | .fn _ c' => learnVs l0 l c c' m K
    | _ => K m
  | .agg c, v, m, K => match v with
    | .agg c' => learnVs l0 l c c' m K
    | _ => K m
  | .tup c, v, m, K => match v with
    | .tup c' => learnVs l0 l c c' m K
    | _ => K m
  | _, _, m, K => K m
def learnVs (l0 l : List Ent) : List AV → List AV → Ren → (Ren → Prop) → Prop
  | v :: vs, v' :: vs', m, K => learnV l0 l v v' m fun m => learnVs l0 l vs vs' m K
  | _, _, m, K => K m
end
theorem learnB_out : ∀ {b b' : Blk} {m : Ren} {K : Ren → Prop}, learnB b b' m K → ∃ m, K m
  | .loc k, b', m, K, h => by
    unfold learnB at h
    split at h
    · exact ⟨_, h⟩
    · exact ⟨_, h⟩
  | .sub b _ _, .sub b' _ _, m, K, h => learnB_out (b := b) h
  | .sub _ _ _, .loc _, m, K, h | .sub _ _ _, .glob _, m, K, h | .glob _, _, m, K, h => ⟨m, h⟩
theorem learnP_out {l0 l : List Ent} {b : Blk} {i : Option Int} {j : Nat} {b' : Blk} {m' : Nat} {i' : Option Int} {j' : Nat} {m : Ren} {K : Ren → Prop} (h : learnP l0 l b i j b' m' i' j' m K) : ∃ m, K m := by
  have nn : ∀ {a b : Nat} {F : Nat → Nat → Ren}, (natK a fun d => natK b fun n => K (F d n)) → ∃ m, K m := fun {a b F} h => by
    have h1 := natK_out h
    have h2 := natK_out (K := fun n => K (F a n)) h1
    exact ⟨_, h2⟩
  unfold learnP at h
  split at h
  · split at h
    · exact ⟨_, h⟩
    · split at h
      · exact ⟨_, h⟩
      · split at h
        · exact ⟨_, h⟩
        · split at h
          · exact nn h
          · split at h
            · exact nn h
            · split at h
              · exact ⟨_, h⟩
              · exact nn h
  · exact learnB_out h
mutual
theorem learnV_out {l0 l : List Ent} : ∀ {v v' : AV} {m : Ren} {K : Ren → Prop}, learnV l0 l v v' m K → ∃ m, K m
  | .ptr b _ _ _, v, m, K, h => by
    unfold learnV at h
    split at h
    · exact learnP_out h
    · exact ⟨_, h⟩
  | .sl b _ _ _, v, m, K, h => by
    unfold learnV at h
    split at h
    · exact learnB_out h
    · exact ⟨_, h⟩
  | .fn _ c, v, m, K, h => by
    unfold learnV at h
    split at h
    · exact learnVs_out h
    · exact ⟨_, h⟩
  | .agg c, v, m, K, h => by
    unfold learnV at h
    split at h
    · exact learnVs_out h
    · exact ⟨_, h⟩
  | .tup c, v, m, K, h => by
    unfold learnV at h
    split at h
    · exact learnVs_out h
    · exact ⟨_, h⟩
  | .undef, _, m, _, h | .tt, _, m, _, h | .ff, _, m, _, h | .prop _, _, m, _, h | .int _ _, _, m, _, h | .str _, _, m, _, h | .nilp, _, m, _, h | .nils, _, m, _, h | .nilf, _, m, _, h | .niface, _, m, _, h => ⟨m, h⟩
theorem learnVs_out {l0 l : List Ent} : ∀ {vs vs' : List AV} {m : Ren} {K : Ren → Prop}, learnVs l0 l vs vs' m K → ∃ m, K m
  | v :: vs, v' :: vs', m, K, h => by
    unfold learnVs at h
    obtain ⟨m, h⟩ := learnV_out h
    exact learnVs_out h
  | [], _, m, _, h => ⟨m, h⟩
  | _ :: _, [], m, _, h => ⟨m, h⟩
end
def learnEnv (l0 l : List Ent) (env : List (Nat × AV)) : List (Nat × AV) → Ren → (Ren → Prop) → Prop
  | [], m, K => K m
  | (t, v) :: r, m, K => learnV l0 l v (look env t) m fun m => learnEnv l0 l env r m K
theorem learnEnv_out {l0 l : List Ent} {env : List (Nat × AV)} : ∀ {r : List (Nat × AV)} {m : Ren} {K : Ren → Prop}, learnEnv l0 l env r m K → ∃ m, K m
  | [], m, K, h => ⟨m, h⟩
  | (t, v) :: r, m, K, h => by
    unfold learnEnv at h
    obtain ⟨m, h⟩ := learnV_out h
    exact learnEnv_out h
def viewL (l : List Ent) (p : Pl) (K : List AV → Prop) (no : Prop) : Prop := match p with
  | .whole B => match getE l B with
    | some e => match e.c with
      | .raw vs => K vs
      | .nest _ _ _ _ _ _ o => match o with
        | some q => match q with
          | (_, cs) => K cs
        | none => no
      | _ => no
    | none => no
  | .view B i m j _ => match getE l B with
    | some e => match e.c with
      | .raw vs => match i with
        | none => K (vs.drop j)
        | some (.ofNat n) => K (vs.drop (n * m + j))
        | _ => no
      | .nest _ d g _ _ xs o => match o with
        | some q => match q with
          | (_, cs) => K (cs.drop j)
        | none => match i with
          | some i0 => K ((g (fun j => .sub B i0 j) (xs.getD i0.toNat d)).drop j)
          | none => no
      | _ => no
    | none => no
  | _ => no
def learnH (l0 l : List Ent) : List Ent → Ren → (Ren → Prop) → Prop
  | [], m, K => K m
  | e :: r, m, K => match e.c with
    | .raw vs => match renB (lookR m) e.b with
      | some p => viewL l p (fun vs' => learnVs l0 l vs vs' m fun m => learnH l0 l r m K) (learnH l0 l r m K)
      | none => learnH l0 l r m K
    | .nest _ _ _ _ _ _ (some (_, cs)) => match renB (lookR m) e.b with
      | some p => viewL l p (fun vs' => learnVs l0 l cs vs' m fun m => learnH l0 l r m K) (learnH l0 l r m K)
      | none => learnH l0 l r m K
    | _ => learnH l0 l r m K
theorem viewL_out {l : List Ent} {p : Pl} {K : List AV → Prop} {no : Prop} (h : viewL l p K no) : (∃ vs, K vs) ∨ no := by
  unfold viewL at h
  repeat' split at h
  all_goals first | exact .inl ⟨_, h⟩ | exact .inr h
theorem learnH_out {l0 l : List Ent} : ∀ {r : List Ent} {m : Ren} {K : Ren → Prop}, learnH l0 l r m K → ∃ m, K m
  | [], m, K, h => ⟨m, h⟩
  | e :: r, m, K, h => by
    unfold learnH at h
    split at h
    · split at h
      · rcases viewL_out h with ⟨vs, h⟩ | h
        · obtain ⟨m, h⟩ := learnVs_out h
          exact learnH_out h
        · exact learnH_out h
      · exact learnH_out h
    · split at h
      · rcases viewL_out h with ⟨vs, h⟩ | h
        · obtain ⟨m, h⟩ := learnVs_out h
          exact learnH_out h
        · exact learnH_out h
      · exact learnH_out h
    · exact learnH_out h
/-! numbers below a bound -/
def ltB (N : Nat) : Blk → Prop → Prop
  | .loc n, K => match Nat.blt n N with
    | true => K
    | false => False
  | .glob _, K => K
  | .sub b _ _, K => ltB N b K
mutual
def ltV (N : Nat) : AV → Prop → Prop
  | .ptr b _ _ _, K => ltB N b K
  | .sl b _ _ _, K => ltB N b K
  | .fn _ c, K => ltVs N c K
  | .agg c, K => ltVs N c K
  | .tup c, K => ltVs N c K
  | _, K => K
def ltVs (N : Nat) : List AV → Prop → Prop
  | [], K => K
  | v :: r, K => ltV N v (ltVs N r K)
end
theorem ltB_out {N : Nat} : ∀ {b : Blk} {K : Prop}, ltB N b K → b.lt N ∧ K
  | .loc n, K, h => by
    unfold ltB at h
    split at h
    · rename_i e
      have e : n < N := by simpa [Nat.blt_eq] using e
      exact ⟨fun k hk => by simp [Blk.root] at hk; omega, h⟩
    · exact h.elim
  | .glob _, K, h => ⟨fun k hk => by simp [Blk.root] at hk, h⟩
  | .sub b i j, K, h => by
    have := ltB_out (b := b) h
    exact ⟨fun k hk => this.1 k hk, this.2⟩
mutual
theorem ltV_out {N : Nat} : ∀ {v : AV} {K : Prop}, ltV N v K → v.lt N ∧ K
  | .ptr _ _ _ _, _, h => ltB_out h
  | .sl _ _ _ _, _, h => ltB_out h
  | .fn _ _, _, h => ltVs_out h
  | .agg _, _, h => ltVs_out h
  | .tup _, _, h => ltVs_out h
  | .undef, _, h | .tt, _, h | .ff, _, h | .prop _, _, h | .int _ _, _, h | .str _, _, h | .nilp, _, h | .nils, _, h | .nilf, _, h | .niface, _, h => ⟨trivial, h⟩
theorem ltVs_out {N : Nat} : ∀ {vs : List AV} {K : Prop}, ltVs N vs K → AV.lts N vs ∧ K
  | [], _, h => ⟨trivial, h⟩
  | v :: r, _, h => by
    obtain ⟨h1, h⟩ := ltV_out h
    obtain ⟨h2, h⟩ := ltVs_out h
    exact ⟨⟨h1, h2⟩, h⟩
end
end Go.Vm

namespace Go.Vm
open Go.RowKit
def PreC {α : Type} (E : Enc α) (xs : List α) (c : Cont) : Prop := ∃ zs, c = .arr E (xs ++ zs)
theorem PreC.self {α : Type} (E : Enc α) (xs : List α) : PreC E xs (.arr E xs) := ⟨[], by rw [List.append_nil]⟩
theorem PreC.of_eq {α : Type} {E : Enc α} {xs ys : List α} (h : ys = xs) : PreC E xs (.arr E ys) := h ▸ .self E ys
theorem PreC.of_eq' {α : Type} {E : Enc α} {xs ys : List α} (h : xs = ys) : PreC E xs (.arr E ys) := h ▸ .self E xs
theorem PreC.pre {α : Type} {E : Enc α} {xs ys zs : List α} (h : ys = xs ++ zs) : PreC E xs (.arr E ys) := ⟨zs, by rw [h]⟩
theorem PreC.self' {α : Type} (E : Enc α) (xs zs : List α) : PreC E xs (.arr E (xs ++ zs)) := ⟨zs, rfl⟩
def NestC {α : Type} (m : Nat) (d : α) (g : (Nat → Blk) → α → List AV) (s : List Nat) (f : α → Nat → Cont) (xs : List α) (c : Cont) : Prop := c = .nest m d g s f xs none
def TrimC {α : Type} (E : Enc α) (i : Int) (xs : List α) (c : Cont) : Prop := ∃ ys zs, c = .arr E ys ∧ 0 ≤ i ∧ i ≤ ys.length ∧ ys.drop i.toNat = xs ++ zs
def TrimN {α : Type} (m : Nat) (d : α) (g : (Nat → Blk) → α → List AV) (s : List Nat) (f : α → Nat → Cont) (i : Int) (xs : List α) (c : Cont) : Prop := ∃ ys, c = .nest m d g s f ys none ∧ 0 ≤ i ∧ i ≤ ys.length ∧ ys.drop i.toNat = xs
section
variable (S : Seat) (dn : Bool) (f : Nat → Option Pl) (N : Nat) (H : Heap)
def emptyC (c : Cont) (K : Prop) : Prop :=
  match c with
  | .raw vs => match vs with
    | [] => K
    | _ => False
  | .arr E xs => (xs = [] ∧ ∃ T, S.hint T = some ⟨_, E⟩) ∧ K
  | .nest m d g s f xs o => match o with
    | none => (xs = [] ∧ ∃ T, S.nest T = some ⟨_, m, d, g, s, f⟩) ∧ K
    | some _ => False
def stripO : Cont → Cont
  | .nest m d g s f xs _ => .nest m d g s f xs none
  | c => c
def openOf : Cont → Option (Int × List AV)
  | .nest _ _ _ _ _ _ o => o
  | _ => none
def fitO (o o' : Option (Int × List AV)) (K : Prop) : Prop :=
  match o with
  | none => match o' with
    | none => K
    | some _ => False
  | some p => match p with
    | (i, cs) => match o' with
      | none => False
      | some p' => match p' with
        | (i', cs') => i' = i ∧ fitVs dn f cs cs' (ltVs N cs K)
def fitC (q rw : Bool) (c c' : Cont) (K : Prop) : Prop :=
  match c with
  | .raw vs => match c' with
    | .raw vs' => fitVs dn f vs vs' (ltVs N vs K)
    | _ => False
  | .arr E xs => PreC E xs c' ∧ K
  | .nest m d g s f' xs o => match rw with
    | true => NestC m d g s f' xs (stripO c') ∧ fitO dn f N o (openOf c') K
    | false => match o with
      | some _ => False
      | none => match q with
        | false => NestC m d g s f' xs c' ∧ K
        | true => match dn with
          | true => NestC m d g s f' xs c' ∧ K
          | false => False
def fitT (i : Int) (m0 : Nat) (q rw : Bool) (c c' : Cont) (K : Prop) : Prop :=
  match c with
  | .raw _ => False
  | .arr E xs => match Nat.beq m0 E.m with
    | true => TrimC E i xs c' ∧ K
    | false => False
  | .nest m d g s f' xs o => match o with
    | some _ => False
    | none => match Nat.beq m0 m with
      | false => False
      | true => match q, rw with
        | true, true => TrimN m d g s f' i xs c' ∧ K
        | false, false => TrimN m d g s f' i xs c' ∧ K
        | _, _ => False
def viewW (m : Nat) (i : Option Int) (c : Cont) (K : List AV → Prop) : Prop :=
  match c with
  | .raw vs => match i with
    | none => K vs
    | some (.ofNat n) => K (vs.drop (n * m))
    | _ => False
  | .arr _ _ => False
  | .nest m' _ _ _ _ _ o => match i with
    | none => False
    | some i => match Nat.beq m m' with
      | false => False
      | true => match o with
        | some p => match p with
          | (i0, cs) => i = i0 ∧ K cs
        | none => False
def fitEnt (e : Ent) (K : Prop) : Prop :=
  match renB f e.b with
  | none => emptyC S e.c K
  | some p => match p with
    | .whole B => match e.rw with
      | true => match getE H.ents B with
        | some ⟨_, true, c⟩ => fitC dn f N true true e.c c K
        | _ => False
      | false => atA H.ents B fun q c => fitC dn f N q false e.c c K
    | .trim B i m0 => match getE H.ents B with
      | some ⟨_, q, c⟩ => match e.rw, q with
        | true, false => False
        | rw, q => fitT i m0 q rw e.c c K
      | none => False
    | .view B i m j n => match e.c with
      | .raw vs => match Nat.beq vs.length n, Nat.ble 1 n with
        | true, true => match e.rw with
          | true => match getE H.ents B with
            | some ⟨_, true, c⟩ => viewW m i c fun cs => fitVs dn f vs ((cs.drop j).take n) (ltVs N vs K)
            | _ => False
          | false => (0 ≤ i.getD 0) ∧ atA H.ents B fun q c => elemA q B m i c fun cs => fitVs dn f vs ((cs.drop j).take n) (ltVs N vs K)
        | _, _ => False
      | _ => False
def keyK (b : Blk) (K : Prop) : Prop :=
  match b with
  | .loc n => match Nat.blt n N with
    | true => K
    | false => False
  | .glob _ => K
  | .sub _ _ _ => False
def fitEnts : List Ent → Prop → Prop
  | [], K => K
  | e :: r, K => keyK N e.b (fitEnt S dn f N H e (fitEnts r K))
def Pl.blk : Pl → Blk
  | .whole b => b
  | .view b _ _ _ _ => b
  | .trim b _ _ => b
def plB : Pl → Blk
  | .whole b => keyB b
  | .view b _ _ _ _ => keyB b
  | .trim b _ _ => keyB b
def apartK (p p' : Pl) (K : Prop) : Prop :=
  match Blk.beq (plB p) (plB p') with
  | false => K
  | true => match p with
    | .view b i m j n => match p' with
      | .view b' i' m' j' n' => match Nat.beq m m', (Nat.ble (j + n) j' || Nat.ble (j' + n') j) with
        | true, true => fitB b b' (fitI i i' K)
        | _, _ => False
      | _ => False
    | _ => False
def pairK (e e' : Ent) (K : Prop) : Prop :=
  match Blk.beq e.b e'.b with
  | true => False
  | false => match (e.rw || e'.rw) with
    | false => K
    | true => match renB f e.b with
      | none => K
      | some p => match renB f e'.b with
        | none => K
        | some p' => apartK p p' K
def pairsOne (e : Ent) : List Ent → Prop → Prop
  | [], K => K
  | e' :: r, K => pairK f e e' (pairsOne e r K)
def pairsK : List Ent → Prop → Prop
  | [], K => K
  | e :: r, K => pairsOne f e r (pairsK r K)
def fitEnv (env : List (Nat × AV)) : List (Nat × AV) → Prop → Prop
  | [], K => K
  | (t, v) :: r, K => fitV false f v (look env t) (ltV N v (fitEnv env r K))
end
section
variable {S : Seat} {ρ : Lay} {ρh : Loc} {dn : Bool} {f : Nat → Option Pl} {N : Nat} {H : Heap} {w : World}
def footP (ρ : Lay) : Pl → Foot
  | .whole b => ρ.foot (keyB b)
  | .trim b _ _ => ρ.foot (keyB b)
  | .view b i m j n => regF (plLoc ρ (.view b i m j n))
def pullL (f : Nat → Option Pl) (ρ : Lay) (ρh : Loc) : Lay := ⟨pull f ρ ρh, fun b => match renB f b with
  | some p => footP ρ p
  | none => fun _ _ => False⟩
structure Hidden (dn : Bool) (ρ : Lay) (ρh : Loc) (H : Heap) (w : World) : Prop where
  out : ∀ b, (∀ e ∈ H.ents, e.rw = true → ¬ Under e.b b) → ρh b = ρ b
  same : dn = false → ρh = ρ
  told : dn = true → ∀ e ∈ H.ents, e.rw = true → e.c.closed → Holds ρh H.next w true e.c e.b (ρ.foot e.b)
theorem Hidden.plain (ρ : Lay) (H : Heap) (w : World) : Hidden false ρ ρ H w := ⟨fun _ _ => rfl, fun _ => rfl, fun h => by cases h⟩
theorem Hidden.zero (h : Hidden dn ρ ρh H w) (hH : HRel S ρ H w) : Agree 0 ρ ρh := fun b hb => by
  refine h.out b fun e he hr' hu => ?_
  have hr : b.root = none := by cases h : b.root with | none => rfl | some n => exact absurd (hb n h) (by omega)
  exact hH.root e he hr' (by rw [← hu.root]; exact hr)
def EntFit (S : Seat) (f : Nat → Option Pl) (ρ : Lay) (ρh : Loc) (H : Heap) (w : World) (N : Nat) (e : Ent) : Prop :=
  HoldsE (pull f ρ ρh) N w e.rw e.c e.b ((pullL f ρ ρh).foot e.b) ∧ ContOk S e.c ∧
    (renB f e.b = none ∨ ∃ p x, renB f e.b = some p ∧ x ∈ H.ents ∧ x.b = plB p ∧ (e.rw = true → x.rw = true ∧ p.blk.isKey) ∧ ∀ k c, footP ρ p k c → ρ.foot x.b k c)
end
end Go.Vm

namespace Go.Vm
open Go.RowKit
theorem Holds.ro {ρ : Loc} {N : Nat} {w : World} : ∀ {c : Cont} {b : Blk} {F : Foot}, Holds ρ N w true c b F → Holds ρ N w false c b F := by
  have one : ∀ {c : Cont} {b : Blk}, Lies ρ N w true b c → Lies ρ N w false b c := by
    intro c b h
    unfold Lies at h ⊢
    split at h
    · exact h
    · obtain ⟨arr, T, fz, h1, h2, h3, h4⟩ := h
      exact ⟨arr, T, fz, h1, h2, fun q => by simp at q, h4⟩
  intro c
  induction c with
  | raw vs => intro b F h; exact ⟨one h.1, h.2⟩
  | arr E xs => intro b F h; exact ⟨one h.1, h.2⟩
  | nest m d g s f xs o ih =>
    intro b F h
    obtain ⟨⟨h1, h2⟩, Fs, h3, h4, h5⟩ := h
    exact ⟨⟨one h1, h2⟩, Fs, fun i hi hl j hj => ih _ _ (h3 i hi hl j hj), h4, fun q => by simp at q⟩
def OpenRel (ρ ρ' : Loc) (N : Nat) : Option (Int × List AV) → Option (Int × List AV) → Prop
  | none, none => True
  | some p, some p' => p.1 = p'.1 ∧ p.2.length = p'.2.length ∧ AV.lts N p'.2 ∧ ∀ rs, VRels ρ p.2 rs → VRels ρ' p'.2 rs
  | _, _ => False
theorem HoldsN.ren {S : Seat} {ρ ρ' : Loc} {N N' : Nat} {w : World} {α : Type} {m : Nat} {d : α} {g : (Nat → Blk) → α → List AV} {s : List Nat} {f : α → Nat → Cont} {xs : List α} {o o' : Option (Int × List AV)} {b1 b2 : Blk} {F : Foot}
    (hok : ContOk S (.nest m d g s f xs o)) (h : HoldsE ρ N w true (.nest m d g s f xs o) b1 F) (h0 : Agree 0 ρ ρ') (h12 : ρ' b2 = ρ b1) (hrt : b1.root ≠ none ∧ b2.root ≠ none)
    (ho : OpenRel ρ ρ' N' o o') :
    HoldsE ρ' N' w true (.nest m d g s f xs o') b2 F := by
  obtain ⟨⟨ρ1, h1, h2⟩, h3⟩ := h
  have hlive : ∀ i, liveP o' i ↔ liveP o i := by
    intro i
    cases o <;> cases o' <;> simp [liveP, OpenRel] at ho ⊢
    rw [ho.1]
  have htot : totalN o' xs.length = totalN o xs.length := by
    cases o <;> cases o' <;> simp [totalN, OpenRel] at ho ⊢
    rw [ho.1]
  obtain ⟨n1, hn1⟩ := Option.ne_none_iff_exists'.1 hrt.1
  obtain ⟨n2, hn2⟩ := Option.ne_none_iff_exists'.1 hrt.2
  have he : ρ' b2 = ρ1 b1 := by rw [h12, h1 b1 (not_under_self b1)]
  have hz : Agree 0 ρ1 (moveL b2 b1 ρ1 ρ') := moveL_zero hn1 hn2 h1 h0
  have h4 := Holds.ren (N' := N') hz hok (fun _ q => by cases q) (moveL_same he) h2
  refine ⟨⟨moveL b2 b1 ρ1 ρ', moveL_off _ _ _ _, ?_⟩, ?_⟩
  · obtain ⟨⟨g1, g2⟩, Fs, g3, g4, g5⟩ := h4
    refine ⟨⟨?_, g2⟩, Fs, fun i hi hl => g3 i hi ((hlive i).1 hl), fun i hi hl => g4 i hi ((hlive i).1 hl), fun q => ⟨fun i hi hl => (g5 q).1 i hi ((hlive i).1 hl), fun i hi hl j hj i' hi' hl' => (g5 q).2 i hi ((hlive i).1 hl) j hj i' hi' ((hlive i').1 hl')⟩⟩
    unfold Lies at g1 ⊢
    split at g1
    · refine ⟨g1.1, ?_⟩
      have := g1.2
      subst this
      cases o' with
      | none => rfl
      | some _ => exact ho.elim
    · obtain ⟨arr, T, fz, k1, k2, k3, k4, k5⟩ := g1
      exact ⟨arr, T, fz, k1, k2, k3, by rw [htot]; exact k4, fun i hi hl => k5 i hi ((hlive i).1 hl)⟩
  · cases o with
    | none => cases o' with
      | none => trivial
      | some _ => exact ho.elim
    | some p => cases o' with
      | none => exact ho.elim
      | some p' =>
        obtain ⟨ho1, ho2, ho3, ho4⟩ := ho
        obtain ⟨k1, k2, k3, k4, k, z, arr, T, fz, k5, k6, k7⟩ := h3
        exact ⟨ho1 ▸ k1, ho1 ▸ k2, by rw [← ho2]; exact k3, ho3, k, z, arr, T, fz, by rw [h12]; exact k5, k6, ho1 ▸ ho4 _ k7⟩
section
variable {S : Seat} {ρ : Lay} {ρh : Loc} {dn : Bool} {f : Nat → Option Pl} {N N0 : Nat} {H : Heap} {w : World}
theorem SameUnder.of_sub {ρ ρ' : Loc} {b1 b2 : Blk} (h : ρ' b2 = ρ b1) (hs : ∀ i j, SameUnder ρ ρ' (.sub b1 i j) (.sub b2 i j)) : SameUnder ρ ρ' b1 b2 := by
  intro p
  cases p with
  | nil => exact h
  | cons a p => exact hs a.1 a.2 p
theorem renB_ext {b B : Blk} (h : renB f b = some (.whole B)) : ∀ (p : List (Int × Nat)), renB f (ext b p) = some (.whole (ext B p)) := by
  intro p
  induction p generalizing b B with
  | nil => exact h
  | cons a p ih => exact ih (by simp only [renB, h])
theorem ext_sub : ∀ (p : List (Int × Nat)) (c : Blk) (i : Int) (j : Nat), ∃ c' i' j', ext (.sub c i j) p = .sub c' i' j'
  | [], c, i, j => ⟨c, i, j, rfl⟩
  | (i', j') :: r, c, i, j => ext_sub r (.sub c i j) i' j'
theorem pull_sub {b B : Blk} (h : renB f b = some (.whole B)) (i : Int) (j : Nat) : SameUnder ρh (pull f ρ ρh) (.sub B i j) (.sub b i j) := by
  intro p
  have h2 := renB_ext (f := f) (b := .sub b i j) (B := .sub B i j) (by simp only [renB, h]) p
  obtain ⟨c, i', j', e⟩ := ext_sub p b i j
  rw [e] at h2 ⊢
  simp only [pull, h2, plLoc]
theorem fitC_out {q rw : Bool} {c c' : Cont} {K : Prop} {b B : Blk} {F : Foot} (hb : pull f ρ ρh b = ρ B) (hren : renB f b = some (.whole B)) (h : fitC dn f N q rw c c' K) (hq : rw = true → q = true) (hrt : rw = true → b.root ≠ none ∧ B.root ≠ none)
    (hh : HoldsE ρ N0 w q c' B F) (hok : ContOk S c') (hdn : dn = false → ρh = ρ) (h0 : Agree 0 ρ ρh) (hro : q = false → ∀ p i j, ρh (ext (.sub B i j) p) = ρ (ext (.sub B i j) p)) (hself : ρh B = ρ B) (htold : dn = true → q = true → c'.closed → Holds ρh N0 w true c' B F) :
    (HoldsE (pull f ρ ρh) N w rw c b F ∧ ContOk S c) ∧ K := by
  have hreg : ∀ k c, regF (pull f ρ ρh b) k c → F k c := fun k c p => hh.reg.2 k c (hb ▸ p)
  have hz : Agree 0 ρ (pull f ρ ρh) := pull_agree0 h0
  unfold fitC at h
  split at h
  · rename_i vs
    split at h
    · rename_i vs'
      have hlen := fitVs_length h
      obtain ⟨h1, h2⟩ := fitVs_out (ρ := ρ) hdn h
      obtain ⟨h3, h4⟩ := ltVs_out h2
      refine ⟨⟨⟨?_, hreg⟩, trivial⟩, h4⟩
      have hl := hh.raw.1
      unfold Lies at hl ⊢
      rw [hb]
      split at hl
      · have hl : vs' = [] := hl
        subst hl
        exact List.eq_nil_of_length_eq_zero hlen
      · obtain ⟨arr, T, fz, g1, g2, g3, g4, g5, g6⟩ := hl
        exact ⟨arr, T, fz, g1, g2, fun p => g3 (hq p), by rw [hlen]; exact g4, h1 _ (by rw [hlen]; exact g5), h3⟩
    · exact h.elim
  · rename_i α E xs
    obtain ⟨⟨zs, rfl⟩, hK⟩ := h
    obtain ⟨T0, hE⟩ := hok
    refine ⟨⟨⟨?_, hreg⟩, T0, hE⟩, hK⟩
    have hl := hh.arr.1
    unfold Lies at hl ⊢
    rw [hb]
    split at hl
    · exact (List.append_eq_nil_iff.1 hl).1
    · obtain ⟨arr, T, fz, g1, g2, g3, g4, g5⟩ := hl
      refine ⟨arr, T, fz, g1, g2, fun p => g3 (hq p), ?_, fun i hi => ⟨?_, hE.plain _ _⟩⟩
      · have hm : xs.length * E.m ≤ (xs ++ zs).length * E.m := Nat.mul_le_mul_right _ (by simp)
        omega
      · have : VRels ρ (E.cells ((xs ++ zs).getD i E.d)) _ := (g5 i (by simp; omega)).1
        have e : (xs ++ zs).getD i E.d = xs.getD i E.d := by simp only [List.getD_eq_getElem?_getD, List.getElem?_append_left hi]
        rw [e] at this
        exact VRels.agree hz (hE.plain _ 0) this
  · rename_i α m d g s f' xs o
    split at h
    · obtain ⟨h1, h2⟩ := h
      have hc' : ∃ o', c' = .nest m d g s f' xs o' := by
        cases c' with
        | raw vs => exact absurd h1 (by simp [NestC, stripO])
        | arr E xs => exact absurd h1 (by simp [NestC, stripO])
        | nest m' d' g' s' f'' ys o' =>
          simp only [NestC, stripO] at h1
          injection h1 with e0 e1 e2 e3 e4 e5 e6
          subst e0
          have e1 := eq_of_heq (heq_of_eq e1)
          subst e1
          have e2 := eq_of_heq e2; have e3 := eq_of_heq e3; have e5 := eq_of_heq e5; have e6 := eq_of_heq e6
          subst e2; subst e3; subst e5; subst e6
          subst e4
          exact ⟨_, rfl⟩
      obtain ⟨o', rfl⟩ := hc'
      have hq' := hq rfl
      subst hq'
      simp only [openOf] at h2
      have ho : OpenRel ρ (pull f ρ ρh) N o' o ∧ K := by
        cases o with
        | none => cases o' with
          | none => exact ⟨trivial, h2⟩
          | some _ => exact h2.elim
        | some p => cases o' with
          | none => exact h2.elim
          | some p' =>
            obtain ⟨i, cs⟩ := p
            obtain ⟨i', cs'⟩ := p'
            obtain ⟨e, h2⟩ := h2
            have hlen := fitVs_length h2
            obtain ⟨k1, k2⟩ := fitVs_out (ρ := ρ) hdn h2
            obtain ⟨k3, k4⟩ := ltVs_out k2
            exact ⟨⟨e, hlen.symm, k3, k1⟩, k4⟩
      have hok' : ContOk S (.nest m d g s f' xs o) := hok
      exact ⟨⟨HoldsN.ren hok hh hz hb ⟨(hrt rfl).2, (hrt rfl).1⟩ ho.1, hok'⟩, ho.2⟩
    · split at h
      · exact h.elim
      · split at h
        · obtain ⟨h1, hK⟩ := h
          have h1 : c' = .nest m d g s f' xs none := h1
          subst h1
          refine ⟨⟨⟨rfl, Holds.ren hz hok (fun _ q => by cases q) (.of_sub hb fun i j p => ?_) hh.2⟩, hok⟩, hK⟩
          rw [pull_sub (ρ := ρ) hren i j p, hro rfl p i j]
        · split at h
          · obtain ⟨h1, hK⟩ := h
            have h1 : c' = .nest m d g s f' xs none := h1
            subst h1
            have hz2 : Agree 0 ρh (pull f ρ ρh) := fun x hx => by rw [hz x hx, h0 x hx]
            exact ⟨⟨⟨rfl, Holds.ren hz2 hok (fun _ q => by cases q) (.of_sub (by rw [hb, hself]) fun i j => pull_sub hren i j) (htold rfl rfl rfl).ro⟩, hok⟩, hK⟩
          · exact h.elim
end
end Go.Vm

namespace Go.Vm
open Go.RowKit
/-! elements from one on -/
open Classical in
noncomputable def shiftB (b B : Blk) (i : Int) : Blk → Blk
  | .sub c t j => if c = b then .sub B (t + i) j else .sub (shiftB b B i c) t j
  | x => x
open Classical in
noncomputable def shiftL (b B : Blk) (i : Int) (ρin ρout : Loc) : Loc := fun b' => if Under b b' then ρin (shiftB b B i b') else ρout b'
theorem shiftL_off (b B : Blk) (i : Int) (ρin ρout : Loc) : Off b ρout (shiftL b B i ρin ρout) := fun b' h => by simp [shiftL, h]
theorem under_ext {b : Blk} : ∀ (p : List (Int × Nat)) {c : Blk}, Under b c → Under b (ext c p)
  | [], _, h => h
  | _ :: p, _, h => under_ext p (.inr h)
theorem shiftB_ext {b B : Blk} {i : Int} : ∀ (p : List (Int × Nat)) {c c1 : Blk}, Under b c → shiftB b B i c = c1 → shiftB b B i (ext c p) = ext c1 p
  | [], _, _, _, e => e
  | (t, j) :: p, c, c1, h, e => by
    refine shiftB_ext p (c := .sub c t j) (c1 := .sub c1 t j) (.inr h) ?_
    have hne : c ≠ b := fun q => by rw [q] at h; exact not_under_self b h
    simp only [shiftB]
    rw [if_neg hne, e]
theorem shiftL_sub {b B : Blk} {i : Int} {ρin ρout : Loc} (t : Int) (j : Nat) : SameUnder ρin (shiftL b B i ρin ρout) (.sub B (t + i) j) (.sub b t j) := by
  intro p
  have hu0 : Under b (.sub b t j) := .inl rfl
  have hu : Under b (ext (.sub b t j) p) := under_ext p hu0
  simp only [shiftL, if_pos hu]
  rw [shiftB_ext (c1 := .sub B (t + i) j) p hu0 (by simp [shiftB])]
section
variable {S : Seat} {ρ : Lay} {ρh : Loc} {dn : Bool} {f : Nat → Option Pl} {N N0 : Nat} {H : Heap} {w : World}
theorem own_drop {arr : Array Value} {z : Nat × Nat} {n : Nat} : (own arr (z.1 + n, z.2 - n)).toList = (own arr z).toList.drop n := by
  simp only [own]
  rw [List.drop_take, List.drop_drop]
theorem nest_drop {α : Type} {m : Nat} {d : α} {g : (Nat → Blk) → α → List AV} {s : List Nat} {f : α → Nat → Cont} {ys : List α} {b B : Blk} {F : Foot} {ρ1 ρ2 : Loc} {n : Nat} {rw : Bool} {N N' : Nat} (hok : ContOk S (.nest m d g s f ys none)) (hn : n ≤ ys.length)
    (h : Holds ρ1 N w rw (.nest m d g s f ys none) B F) (hb : ρ2 b = (ρ1 B).map fun q => (q.1, (q.2.1 + n * m, q.2.2 - n * m))) (hz : Agree 0 ρ1 ρ2) (hs : ∀ (t : Nat) (j : Nat), SameUnder ρ1 ρ2 (.sub B ((t : Int) + n) j) (.sub b t j)) :
    Holds ρ2 N' w rw (.nest m d g s f (ys.drop n) none) b F := by
  obtain ⟨⟨hl, hr⟩, Fs, g1, g2, g3⟩ := h
  obtain ⟨⟨T, hT⟩, hsub⟩ := hok
  have hraw : ∀ x j vs, f x j ≠ .raw vs := fun x j vs q => by have := (hsub x j).2; rw [q] at this; exact this
  have hg : ∀ t, (ys.drop n).getD t d = ys.getD (t + n) d := fun t => by simp only [List.getD_eq_getElem?_getD, List.getElem?_drop, Nat.add_comm]
  have hlen : (ys.drop n).length = ys.length - n := by simp
  have hcast : ∀ t : Nat, ((t + n : Nat) : Int) = (t : Int) + n := fun t => by omega
  have hreg : ∀ k c, regF (ρ2 b) k c → regF (ρ1 B) k c := by
    rintro k c ⟨z, q, q1, q2⟩
    rw [hb] at q
    cases hB : ρ1 B with
    | none => rw [hB] at q; simp at q
    | some kz =>
      rw [hB] at q
      simp at q
      obtain ⟨q3, q4⟩ := q
      subst q4
      refine ⟨kz.2, by rw [← q3], ?_⟩
      constructor <;> omega
  refine ⟨⟨?_, fun k c q => hr k c (hreg k c q)⟩, fun t j => Fs (t + n) j, fun t ht _ j hj => ?_, fun t ht _ j hj => g2 (t + n) (by omega) trivial j hj, fun q => ⟨fun t ht _ j hj k c p1 p2 => (g3 q).1 (t + n) (by omega) trivial j hj k c (hreg k c p1) p2, fun t ht _ j hj t' ht' _ j' hj' hne => (g3 q).2 (t + n) (by omega) trivial j hj (t' + n) (by omega) trivial j' hj' fun e => hne ?_⟩⟩
  · unfold Lies at hl ⊢
    rw [hb]
    cases hB : ρ1 B with
    | none =>
      rw [hB] at hl
      simp only [Option.map_none]
      obtain ⟨e1, _⟩ := hl
      subst e1
      exact ⟨by simp, rfl⟩
    | some kz =>
      rw [hB] at hl
      obtain ⟨k, z⟩ := kz
      simp only [Option.map_some]
      obtain ⟨arr, T2, fz, k1, k2, k3, k4, k5⟩ := hl
      have hmm : n * m ≤ ys.length * m := Nat.mul_le_mul_right _ hn
      simp only [totalN] at k4
      rw [own_size k2] at k4
      refine ⟨arr, T2, fz, k1, by omega, k3, ?_, fun t ht _ => ?_⟩
      · rw [own_size (by omega)]
        simp only [totalN, hlen, Nat.sub_mul]
        omega
      · rw [own_drop, List.drop_drop, ← Nat.add_mul, hg, Nat.add_comm n t]
        have := k5 (t + n) (by omega) trivial
        exact hT.ren _ _ _ _ _ _ (fun j _ => by have := (hs t j).self; rw [this, hcast]) this
  · simp only
    rw [hg]
    have := g1 (t + n) (by omega) trivial j hj
    rw [hcast] at this
    exact Holds.ren hz (hsub _ _).1 (hraw _ _) (hs t j) this
  · simp only [Prod.mk.injEq] at e ⊢
    omega
theorem fitT_out {i0 : Int} {m0 : Nat} {q rw : Bool} {c c' : Cont} {K : Prop} {b B : Blk} {F : Foot} (hren : renB f b = some (.trim B i0 m0)) (hkey : ∃ nb, b = .loc nb) (h : fitT i0 m0 q rw c c' K) (hq : rw = true → q = true) (hrt : q = true → B.root ≠ none)
    (hh : HoldsE ρ N0 w q c' B F) (hok : ContOk S c') (h0 : Agree 0 ρ ρh) (hro : q = false → ∀ p i j, ρh (ext (.sub B i j) p) = ρ (ext (.sub B i j) p)) :
    (HoldsE (pull f ρ ρh) N w rw c b F ∧ ContOk S c) ∧ K := by
  obtain ⟨nb, rfl⟩ := hkey
  have hf : f nb = some (.trim B i0 m0) := hren
  have hb : pull f ρ ρh (.loc nb) = plLoc ρ (.trim B i0 m0) := by simp only [pull, hf]
  have hz : Agree 0 ρ (pull f ρ ρh) := pull_agree0 h0
  unfold fitT at h
  split at h
  · exact h.elim
  · rename_i α E xs
    split at h
    · rename_i hm
      have hm := Nat.eq_of_beq_eq_true hm
      subst hm
      obtain ⟨⟨ys, zs, rfl, h1, h2, h3⟩, hK⟩ := h
      obtain ⟨T0, hE⟩ := hok
      obtain ⟨n, rfl⟩ := Int.eq_ofNat_of_zero_le h1
      simp only [Int.toNat_natCast] at h3
      have hn : n ≤ ys.length := by omega
      have hl := hh.arr.1
      refine ⟨⟨⟨?_, fun k c ⟨z, p1, p2, p3⟩ => hh.reg.2 k c ?_⟩, T0, hE⟩, hK⟩
      · unfold Lies at hl ⊢
        rw [hb]
        simp only [plLoc, Int.toNat_natCast]
        cases hB : ρ.loc B with
        | none =>
          rw [hB] at hl
          have hl : ys = [] := hl
          subst hl
          simp at h3
          exact h3.1
        | some kz =>
          rw [hB] at hl
          obtain ⟨k, z⟩ := kz
          obtain ⟨arr, T, fz, g1, g2, g3, g4, g5⟩ := hl
          rw [own_size g2] at g4
          have hmm : n * E.m ≤ ys.length * E.m := Nat.mul_le_mul_right _ hn
          have hlen : ys.length - n = xs.length + zs.length := by have := congrArg List.length h3; simpa using this
          refine ⟨arr, T, fz, g1, by simp only; omega, fun p => g3 (hq p), ?_, fun t ht => ⟨?_, hE.plain _ _⟩⟩
          · rw [own_size (by simp only; omega)]
            have : xs.length * E.m ≤ (ys.length - n) * E.m := Nat.mul_le_mul_right _ (by omega)
            rw [Nat.sub_mul] at this
            simp only; omega
          · rw [own_drop, List.drop_drop, ← Nat.add_mul]
            have : VRels ρ (E.cells (ys.getD (n + t) E.d)) _ := (g5 (n + t) (by omega)).1
            have e : ys.getD (n + t) E.d = xs.getD t E.d := by
              have e1 : (ys.drop n).getD t E.d = (xs ++ zs).getD t E.d := by rw [h3]
              simp only [List.getD_eq_getElem?_getD, List.getElem?_drop, List.getElem?_append_left ht] at e1
              simpa only [List.getD_eq_getElem?_getD] using e1
            rw [e] at this
            exact VRels.agree hz (hE.plain _ 0) this
      · rw [hb] at p1
        simp only [plLoc, Int.toNat_natCast] at p1
        cases hB : ρ.loc B with
        | none => rw [hB] at p1; simp at p1
        | some kz =>
          rw [hB] at p1
          obtain ⟨k', z'⟩ := kz
          simp at p1
          obtain ⟨rfl, rfl⟩ := p1
          simp only at p2 p3
          exact ⟨z', rfl, by omega, by omega⟩
    · exact h.elim
  · rename_i α m d g s f' xs o
    split at h
    · exact h.elim
    · split at h
      · exact h.elim
      · rename_i hm
        have hm := Nat.eq_of_beq_eq_true hm
        subst hm
        have hloc : ∀ {n : Nat}, plLoc ρ.loc (.trim B (n : Int) m0) = (ρ.loc B).map fun q => (q.1, (q.2.1 + n * m0, q.2.2 - n * m0)) := by
          intro n
          simp only [plLoc, Int.toNat_natCast]
          cases ρ.loc B <;> rfl
        split at h
        · obtain ⟨⟨ys, rfl, h1, h2, h3⟩, hK⟩ := h
          obtain ⟨n, rfl⟩ := Int.eq_ofNat_of_zero_le h1
          simp only [Int.toNat_natCast] at h3
          subst h3
          obtain ⟨⟨ρ1, o1, o2⟩, _⟩ := hh
          have hself1 : ρ1 B = ρ.loc B := o1 B (not_under_self B)
          have hoff := shiftL_off (.loc nb) B (n : Int) ρ1 (pull f ρ ρh)
          have hz1 : Agree 0 ρ1 (shiftL (.loc nb) B (n : Int) ρ1 (pull f ρ ρh)) := fun x hx => by
            have hr : x.root = none := by cases h : x.root with | none => rfl | some n => exact absurd (hx n h) (by omega)
            rw [hoff x fun q => (by rw [q.root] at hr; simp [Blk.root] at hr), hz x hx, o1 x fun q => (hrt rfl) (by rw [← q.root]; exact hr)]
          refine ⟨⟨⟨⟨_, hoff, nest_drop hok (by omega) o2 ?_ hz1 fun t j => shiftL_sub (t : Int) j⟩, trivial⟩, hok⟩, hK⟩
          rw [hoff (.loc nb) (not_under_self _), hb, hloc, hself1]
        · obtain ⟨⟨ys, rfl, h1, h2, h3⟩, hK⟩ := h
          obtain ⟨n, rfl⟩ := Int.eq_ofNat_of_zero_le h1
          simp only [Int.toNat_natCast] at h3
          subst h3
          refine ⟨⟨⟨rfl, nest_drop hok (by omega) hh.2 (by rw [hb, hloc]) hz fun t j p => ?_⟩, hok⟩, hK⟩
          have h2 := renB_ext (f := f) (b := .sub (.loc nb) (t : Int) j) (B := .sub B ((t : Int) + n) j) (by simp only [renB, hf]) p
          obtain ⟨c, i', j', e⟩ := ext_sub p (.loc nb) (t : Int) j
          rw [e] at h2 ⊢
          simp only [pull, h2, plLoc]
          exact hro rfl p _ _
        · exact h.elim
theorem view_out {B : Blk} {i : Option Int} {m j n : Nat} {q : Bool} {c : Cont} {F : Foot} {b : Blk} {vs : List AV} {rw : Bool} {K : Prop} (hb : pull f ρ ρh b = plLoc ρ (.view B i m j n)) (hdn : dn = false → ρh = ρ) (hn : vs.length = n) (hpos : 1 ≤ n) (h0 : 0 ≤ i.getD 0)
    (hh : HoldsE ρ N0 w q c B F) (hok : ContOk S c) (hlt : B.lt N0) (hq : rw = true → q = true) (h : elemA q B m i c fun cs => fitVs dn f vs ((cs.drop j).take n) (ltVs N vs K)) :
    (HoldsE (pull f ρ ρh) N w rw (.raw vs) b (regF (plLoc ρ (.view B i m j n))) ∧ ∀ k c, regF (plLoc ρ (.view B i m j n)) k c → F k c) ∧ K := by
  cases hB : ρ.loc B with
  | none =>
    have hnone : vs = [] ∧ K := by
      have hl := hh.reg.1
      obtain ⟨ρ1, o1, hl⟩ := hl
      have hself : ρ1 B = none := by rw [o1 B (not_under_self B)]; exact hB
      simp only [Lies, hself] at hl
      have fin : ∀ {cs : List AV}, cs = [] → fitVs dn f vs ((cs.drop j).take n) (ltVs N vs K) → vs = [] ∧ K := by
        rintro cs rfl h
        have := fitVs_length h
        simp at this
        exact ⟨this, (ltVs_out (fitVs_out (ρ := ρ) hdn h).2).2⟩
      cases c with
      | raw vs' =>
        have hl : vs' = [] := hl
        subst hl
        simp only [elemA] at h
        split at h
        · exact fin rfl h
        · exact fin (by simp) h
        · exact h.elim
      | arr E xs =>
        have hl : xs = [] := hl
        subst hl
        simp only [elemA] at h
        unfold arrElemA at h
        split at h
        · simp at h
        · split at h
          · obtain ⟨⟨h1, h2⟩, _⟩ := h; simp at h2; omega
          · exact h.elim
      | nest m' d g s f' xs o =>
        obtain ⟨hl, hl2⟩ := hl
        subst hl; subst hl2
        simp only [elemA] at h
        unfold nestElemA at h
        split at h
        · exact h.elim
        · split at h
          · exact h.elim
          · cases q
            · obtain ⟨⟨h1, h2⟩, _⟩ := h; simp at h2; omega
            · obtain ⟨⟨h1, h2⟩, _⟩ := h; simp at h2; omega
    obtain ⟨hv, hK⟩ := hnone
    subst hv
    simp at hn
    omega
  | some kz =>
    obtain ⟨k, z⟩ := kz
    obtain ⟨cs, rs, h1, h2, h3, h4⟩ := elem_sound hh hok hlt hB h0 h
    obtain ⟨arr, T, fz, g1, g2, g3⟩ := hh.block hB
    have hlen := fitVs_length h1
    obtain ⟨k1, k2⟩ := fitVs_out (ρ := ρ) hdn h1
    obtain ⟨k3, k4⟩ := ltVs_out k2
    have hrl := h2.length
    rw [hn] at hlen
    simp only [List.length_take, List.length_drop] at hlen
    have cell : ∀ t, t < n → ∃ r, rs[j + t]? = some r ∧ arr[z.1 + ((i.getD 0).toNat * m + (j + t))]? = some r ∧ inZ z (z.1 + ((i.getD 0).toNat * m + (j + t))) := by
      intro t ht
      have : j + t < rs.length := by omega
      refine ⟨rs[j + t], List.getElem?_eq_getElem this, ?_⟩
      obtain ⟨q1, q2⟩ := h4 (j + t) _ (List.getElem?_eq_getElem this)
      simp only [World.cell?, g1] at q1
      exact ⟨by simpa using q1, q2⟩
    have hreg : ∀ k' c', regF (plLoc ρ.loc (.view B i m j n)) k' c' → F k' c' := by
      rintro k' c' ⟨z', p, p1, p2⟩
      simp only [plLoc, hB] at p
      simp at p
      obtain ⟨rfl, rfl⟩ := p
      simp only at p1 p2
      obtain ⟨r, _, _, q3⟩ := cell (c' - (z.1 + ((i.getD 0).toNat * m + j))) (by omega)
      have e : z.1 + ((i.getD 0).toNat * m + (j + (c' - (z.1 + ((i.getD 0).toNat * m + j))))) = c' := by omega
      rw [e] at q3
      exact hh.reg.2 k c' ⟨z, hB, q3⟩
    have hend : z.1 + ((i.getD 0).toNat * m + j) + n ≤ arr.size := by
      obtain ⟨r, _, q2, _⟩ := cell (n - 1) (by omega)
      have := (Array.getElem?_eq_some_iff.1 q2).1
      omega
    refine ⟨⟨⟨?_, fun k c p => by rw [hb] at p; exact p⟩, hreg⟩, k4⟩
    unfold Lies
    rw [hb]
    simp only [plLoc, hB]
    have hown : (own arr (z.1 + ((i.getD 0).toNat * m + j), n)).toList.take vs.length = (rs.drop j).take n := by
      rw [hn]
      apply List.ext_getElem?
      intro t
      simp only [own, List.getElem?_take, List.getElem?_drop]
      split
      · rename_i ht
        obtain ⟨r, q1, q2, _⟩ := cell t ht
        rw [q1, ← q2, Array.getElem?_toList]
        congr 1; omega
      · rfl
    refine ⟨arr, T, fz, g1, hend, fun p => g3 (hq p), ?_, ?_, k3⟩
    · rw [own_size hend, hn]; exact Nat.le_refl _
    · rw [hown]; exact k1 _ ((h2.drop j).take n)
end
end Go.Vm
