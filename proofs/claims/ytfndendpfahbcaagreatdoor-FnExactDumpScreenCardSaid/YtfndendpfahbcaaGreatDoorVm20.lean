/- An abstract machine over the loaded code: a contract at a call. -/
import Derived.Test.YtfndendpfahbcaaGreatDoorVm19
set_option linter.unusedSimpArgs false
set_option linter.unusedVariables false
namespace Go.Vm
open Go.RowKit

mutual
def renV (g : Nat → Option Blk) : AV → AV
  | .ptr b m i j => match renB g b with
    | some b => .ptr b m i j
    | none => .undef
  | .sl b m i n => match renB g b with
    | some b => .sl b m i n
    | none => .nils
  | .fn f c => .fn f (renVs g c)
  | .agg c => .agg (renVs g c)
  | .tup c => .tup (renVs g c)
  | v => v
def renVs (g : Nat → Option Blk) : List AV → List AV
  | [] => []
  | v :: r => renV g v :: renVs g r
end

/-- the callee's numbers at the caller -/
def outR (f : Nat → Option Blk) (k N : Nat) (i : Nat) : Option Blk := match Nat.ble k i with
  | true => some (.loc (N + (i - k)))
  | false => f i

def newEnts (g : Nat → Option Blk) (l0 : List Ent) (k N' : Nat) : List Ent → (List Ent → Prop) → Prop
  | [], K => K []
  | e :: r, K => match e with
    | ⟨b0, true, c⟩ => match (match b0 with | .loc i => Nat.ble k i | _ => false) || (match getE l0 b0 with | some ⟨_, true, _⟩ => true | _ => false) with
      | false => newEnts g l0 k N' r K
      | true => match renB g b0 with
        | none => newEnts g l0 k N' r K
        | some b => blkK b fun b => keyK N' b (match c with
          | .raw vs => forceL (renVs g vs) fun vs => ltVs N' vs (newEnts g l0 k N' r fun r => K (⟨b, true, .raw vs⟩ :: r))
          | .arr E xs => newEnts g l0 k N' r fun r => K (⟨b, true, .arr E xs⟩ :: r)
          | .nest _ _ _ _ _ _ => newEnts g l0 k N' r K)
    | _ => newEnts g l0 k N' r K

/-- is the entry handed over? -/
def handed (f : Nat → Option Blk) (b : Blk) : List Ent → Bool
  | [] => false
  | e :: r => match e.rw with
    | false => handed f b r
    | true => match renB f e.b with
      | none => handed f b r
      | some B => match Blk.beq B b with
        | true => true
        | false => handed f b r
def frameK (f : Nat → Option Blk) (l0 : List Ent) : List Ent → (List Ent → Prop) → Prop
  | [], K => K []
  | e :: r, K => match handed f e.b l0 with
    | true => frameK f l0 r K
    | false => frameK f l0 r fun r => K (e :: r)
def distinctOne (b : Blk) : List Ent → Prop → Prop
  | [], K => K
  | e :: r, K => match Blk.beq b e.b with
    | true => False
    | false => distinctOne b r K
def distinctK : List Ent → Prop → Prop
  | [], K => K
  | e :: r, K => distinctOne e.b r (distinctK r K)
def ltRen (N : Nat) : Ren → Prop → Prop
  | [], K => K
  | (_, o) :: r, K => match o with
    | none => ltRen N r K
    | some b => ltB N b (ltRen N r K)

/-- behind the call -/
def backA (f : Nat → Option Blk) (k : Nat) (l0 : List Ent) (H : Heap) (v : AV) (H' : Heap) (K : AV → Heap → Prop) : Prop :=
  match H with
  | ⟨l, N⟩ => match H' with
    | ⟨l', k'⟩ => natK (N + (k' - k)) fun N' => forceV (renV (outR f k N) v) fun v => ltV N' v (newEnts (outR f k N) l0 k N' l' fun n => frameK f l0 l fun r =>
        match n ++ r with
        | l => distinctK l (K v ⟨l, N'⟩))

/-- ahead of the call -/
def liftA (S : Seat) (args0 : List AV) (l0 : List Ent) (k : Nat) (args : List AV) (H : Heap) (K : Ren → Prop) : Prop :=
  learnVs args0 args [] fun m => learnH H.ents l0 m fun m => fitVs (lookR m) args0 args (ltVs k args0 (fitEnts S (lookR m) k H l0 (pairsK (lookR m) l0 (ltRen H.next m (K m)))))

section
variable {S : Seat} {ρ ρ' ρ0 : Loc} {f g : Nat → Option Blk} {H : Heap} {w w' : World} {N k : Nat}

mutual
theorem renV_rel (hg : ∀ b : Blk, b.lt N → (∀ b', renB g b = some b' → ρ' b' = ρ0 b) ∧ (renB g b = none → ρ0 b = none)) : ∀ {v : AV} {r : Value}, v.lt N → VRel ρ0 v r → VRel ρ' (renV g v) r
  | .ptr b m i j, r, hl, h => by
    unfold renV
    split
    · rename_i b' hb
      simp only [VRel] at h ⊢
      rw [(hg b hl).1 b' hb]; exact h
    · trivial
  | .sl b m i n, r, hl, h => by
    unfold renV
    split
    · rename_i b' hb
      simp only [VRel] at h ⊢
      rw [(hg b hl).1 b' hb]; exact h
    · rename_i hb
      have := (hg b hl).2 hb
      rcases h with ⟨_, _, _, a, rfl⟩ | ⟨k, z, cap, off, e, _⟩
      · exact ⟨a, rfl⟩
      · rw [this] at e; simp at e
  | .fn f c, r, hl, ⟨cs, e, h⟩ => ⟨cs, e, renVs_rel hg hl h⟩
  | .agg c, r, hl, ⟨cs, e, h⟩ => ⟨cs, e, renVs_rel hg hl h⟩
  | .tup c, r, hl, ⟨cs, e, h⟩ => ⟨cs, e, renVs_rel hg hl h⟩
  | .undef, _, _, h | .tt, _, _, h | .ff, _, _, h | .prop _, _, _, h | .int _ _, _, _, h | .str _, _, _, h | .nilp, _, _, h | .nils, _, _, h | .nilf, _, _, h | .niface, _, _, h => h
theorem renVs_rel (hg : ∀ b : Blk, b.lt N → (∀ b', renB g b = some b' → ρ' b' = ρ0 b) ∧ (renB g b = none → ρ0 b = none)) : ∀ {vs : List AV} {rs : List Value}, AV.lts N vs → VRels ρ0 vs rs → VRels ρ' (renVs g vs) rs
  | [], _, _, h => h
  | _ :: _, _, hl, ⟨r, rs, e, h1, h2⟩ => ⟨r, rs, e, renV_rel hg hl.1 h1, renVs_rel hg hl.2 h2⟩
end
theorem renVs_length : ∀ {vs : List AV}, (renVs g vs).length = vs.length
  | [] => rfl
  | _ :: r => by simp [renVs, renVs_length (vs := r)]

theorem renB_root : ∀ {b b' : Blk} {i : Nat}, b.root = some i → renB g b = some b' → ∃ B, g i = some B ∧ b'.root = B.root
  | .loc n, b', i, h, e => by simp [Blk.root] at h; subst h; exact ⟨b', e, rfl⟩
  | .glob _, _, _, h, _ => by simp [Blk.root] at h
  | .sub b x y, b', i, h, e => by
    simp only [renB] at e
    split at e
    · rename_i b2 e2
      simp at e; subst e
      obtain ⟨B, h1, h2⟩ := renB_root (b := b) (i := i) h e2
      exact ⟨B, h1, h2⟩
    · simp at e
theorem renB_congr {g g' : Nat → Option Blk} : ∀ {b : Blk}, (∀ i, b.root = some i → g i = g' i) → renB g b = renB g' b
  | .loc n, h => h n rfl
  | .glob _, _ => rfl
  | .sub b i j, h => by simp only [renB, renB_congr (b := b) h]
/-- there and back -/
theorem renB_back {g h : Nat → Option Blk} : ∀ {b b' : Blk} {i n : Nat}, b.root = some i → g i = some (.loc n) → h n = some (.loc i) → renB g b = some b' → renB h b' = some b
  | .loc m, b', i, n, hr, hg, hh, e => by
    simp [Blk.root] at hr; subst hr
    simp only [renB, hg] at e
    simp at e; subst e
    exact hh
  | .glob _, _, _, _, hr, _, _, _ => by simp [Blk.root] at hr
  | .sub b x y, b', i, n, hr, hg, hh, e => by
    simp only [renB] at e
    split at e
    · rename_i b2 e2
      simp at e; subst e
      simp only [renB, renB_back (b := b) hr hg hh e2]
    · simp at e

/-- where the caller's blocks lie behind the call -/
noncomputable def backL (ρ ρ0 : Loc) (k N : Nat) : Loc := fun b => match b.root with
  | none => ρ b
  | some n => if n < N then ρ b else pull (fun n => some (.loc (k + (n - N)))) ρ0 b

theorem backL_agree : Agree N ρ (backL ρ ρ0 k N) := fun b hb => by
  unfold backL
  split
  · rfl
  · rename_i n hn
    rw [if_pos (hb n hn)]

theorem backL_out (hag : Agree k (pull f ρ) ρ0) (hf : ∀ i B, f i = some B → B.lt N) {b : Blk} : (∀ b', renB (outR f k N) b = some b' → backL ρ ρ0 k N b' = ρ0 b) ∧ (renB (outR f k N) b = none → ρ0 b = none) := by
  by_cases hk : b.lt k
  · have hc : renB (outR f k N) b = renB f b := renB_congr fun i hi => by
      have := hk i hi
      simp only [outR]
      rw [show Nat.ble k i = false from by rw [Bool.eq_false_iff]; intro q; have := Nat.le_of_ble_eq_true q; omega]
    rw [hc, hag b hk]
    refine ⟨fun b' e => ?_, fun e => pull_none e⟩
    rw [pull_some e]
    refine backL_agree b' fun n hn => ?_
    cases hr : b.root with
    | none =>
      rw [renB_glob hr] at e
      simp at e; subst e
      rw [hr] at hn; simp at hn
    | some i =>
      obtain ⟨B, h1, h2⟩ := renB_root hr e
      exact hf i B h1 n (by rw [← h2]; exact hn)
  · -- a new one
    have : ∃ i, b.root = some i ∧ k ≤ i := by
      refine Classical.byContradiction fun q => hk fun n hn => ?_
      rcases Nat.lt_or_ge n k with h | h
      · exact h
      · exact absurd ⟨n, hn, h⟩ q
    obtain ⟨i, hi, hki⟩ := this
    have ho : outR f k N i = some (.loc (N + (i - k))) := by
      simp only [outR]
      rw [Nat.ble_eq_true_of_le hki]
    refine ⟨fun b' e => ?_, fun e => ?_⟩
    · obtain ⟨B, h1, h2⟩ := renB_root hi e
      rw [ho] at h1; simp at h1; subst h1
      have hroot : b'.root = some (N + (i - k)) := h2
      unfold backL
      rw [hroot]
      simp only
      rw [if_neg (by omega)]
      refine pull_some (renB_back (n := N + (i - k)) hi ho ?_ e)
      simp; omega
    · exfalso
      have : ∀ {b : Blk}, b.root = some i → renB (outR f k N) b ≠ none := by
        intro b
        induction b with
        | loc n => intro h q; simp [Blk.root] at h; subst h; simp only [renB, ho] at q; simp at q
        | glob _ => intro h; simp [Blk.root] at h
        | sub b x y ih =>
          intro h q
          simp only [renB] at q
          split at q
          · simp at q
          · rename_i e2; exact ih h e2
      exact this hi e

theorem ltRen_out : ∀ {m : Ren} {K : Prop}, ltRen N m K → (∀ i B, lookR m i = some B → B.lt N) ∧ K
  | [], _, h => ⟨fun _ _ q => by simp [lookR] at q, h⟩
  | (j, o) :: r, _, h => by
    unfold ltRen at h
    split at h
    · obtain ⟨h1, h2⟩ := ltRen_out h
      refine ⟨fun i B q => ?_, h2⟩
      unfold lookR at q
      split at q
      · simp at q
      · exact h1 i B q
    · obtain ⟨h0, h⟩ := ltB_out h
      obtain ⟨h1, h2⟩ := ltRen_out h
      refine ⟨fun i B q => ?_, h2⟩
      unfold lookR at q
      split at q
      · simp at q; subst q; exact h0
      · exact h1 i B q

/-- an entry out of the call -/
def NewFit (S : Seat) (ρ ρ' : Loc) (H' : Heap) (g : Nat → Option Blk) (N' : Nat) (w' : World) (e : Ent) : Prop :=
  e.rw = true ∧ (e.b.lt N' ∧ e.b.isKey) ∧ e.c.flat ∧ ContOk S e.c ∧ Lies ρ' N' w' true e.b e.c ∧ ∃ x ∈ H'.ents, x.rw = true ∧ ρ' e.b = ρ x.b ∧ renB g x.b = some e.b

theorem newEnts_out {H' : Heap} (hH : HRel S ρ0 H' w') {l0 : List Ent} {N' : Nat} (hg : ∀ b : Blk, b.lt H'.next → (∀ b', renB g b = some b' → ρ' b' = ρ0 b) ∧ (renB g b = none → ρ0 b = none)) :
    ∀ {l : List Ent} {K : List Ent → Prop}, (∀ e ∈ l, e ∈ H'.ents) → newEnts g l0 k N' l K → ∃ n, K n ∧ ∀ e ∈ n, NewFit S ρ0 ρ' H' g N' w' e
  | [], K, _, h => ⟨[], h, by simp⟩
  | e :: r, K, hm, h => by
    have hr := fun (K : List Ent → Prop) (h : newEnts g l0 k N' r K) => newEnts_out (K := K) hH hg (l := r) (fun x hx => hm x (List.mem_cons_of_mem _ hx)) h
    unfold newEnts at h
    split at h
    · rename_i b0 c
      have hin := hm _ List.mem_cons_self
      split at h
      · exact hr K h
      · split at h
        · exact hr K h
        · rename_i b hb
          have h1 := blkK_out h
          obtain ⟨hk, h2⟩ := keyK_out h1
          clear h h1
          have hl := (hH.holds _ hin).lies
          have hρ := (hg b0 (hH.key _ hin).1).1 b hb
          split at h2
          · rename_i vs
            have h3 := forceL_out (K := fun vs => ltVs N' vs (newEnts g l0 k N' r fun r => K (⟨b, true, .raw vs⟩ :: r))) h2
            obtain ⟨hlt, h4⟩ := ltVs_out h3
            obtain ⟨n, h1, h5⟩ := hr _ h4
            clear h2 h3 h4
            refine ⟨_, h1, fun x hx => ?_⟩
            rcases List.mem_cons.1 hx with rfl | hx
            · refine ⟨rfl, hk, trivial, trivial, ?_, _, hin, rfl, hρ, hb⟩
              unfold Lies at hl ⊢
              simp only at hl ⊢
              rw [hρ]
              split at hl
              · have hl : vs = [] := hl
                subst hl
                rfl
              · obtain ⟨arr, T, fz, q1, q2, q3, q4⟩ := hl
                exact ⟨arr, T, fz, q1, q2, q3, by rw [renVs_length]; exact q4.1, by rw [renVs_length]; exact renVs_rel hg q4.2.2 q4.2.1, hlt⟩
            · exact h5 x hx
          · rename_i α E xs
            obtain ⟨n, h1, h5⟩ := hr _ h2
            clear h2
            refine ⟨_, h1, fun x hx => ?_⟩
            rcases List.mem_cons.1 hx with rfl | hx
            · have ho := hH.enc _ hin
              obtain ⟨T, hE⟩ := ho
              refine ⟨rfl, hk, trivial, ⟨T, hE⟩, ?_, _, hin, rfl, hρ, hb⟩
              unfold Lies at hl ⊢
              simp only at hl ⊢
              rw [hρ]
              split at hl
              · exact hl
              · obtain ⟨arr, T, fz, q1, q2, q3, q4⟩ := hl
                refine ⟨arr, T, fz, q1, q2, q3, q4.1, fun i hi => ⟨?_, hE.plain _ _⟩⟩
                refine VRels.agree (N := 0) (fun b hb => ?_) (hE.plain _ 0) (q4.2 i hi).1
                have hroot : b.root = none := by
                  cases h : b.root with
                  | none => rfl
                  | some n => exact absurd (hb n h) (by omega)
                exact (hg b (fun n hn => by rw [hroot] at hn; simp at hn)).1 b (renB_glob hroot)
            · exact h5 x hx
          · exact hr K h2
    · exact hr K h

theorem handed_not {b : Blk} : ∀ {l0 : List Ent}, handed f b l0 = false → ∀ e ∈ l0, e.rw = true → ∀ B, renB f e.b = some B → B.isKey → B ≠ b
  | [], _, e, he, _, _, _, _ => by simp at he
  | x :: r, h, e, he, hr, B, hB, hk => by
    unfold handed at h
    rcases List.mem_cons.1 he with rfl | he1
    · rw [hr] at h
      simp only at h
      rw [hB] at h
      simp only at h
      intro q
      subst q
      rw [Blk.beq_self hk] at h
      simp at h
    · split at h
      · exact handed_not h e he1 hr B hB hk
      · split at h
        · exact handed_not h e he1 hr B hB hk
        · split at h
          · simp at h
          · exact handed_not h e he1 hr B hB hk

theorem frameK_out {l0 : List Ent} : ∀ {l : List Ent} {K : List Ent → Prop}, frameK f l0 l K → ∃ r, K r ∧ ∀ e ∈ r, e ∈ l ∧ handed f e.b l0 = false
  | [], K, h => ⟨[], h, by simp⟩
  | x :: r, K, h => by
    unfold frameK at h
    split at h
    · obtain ⟨n, h1, h2⟩ := frameK_out h
      exact ⟨n, h1, fun e he => ⟨List.mem_cons_of_mem _ (h2 e he).1, (h2 e he).2⟩⟩
    · rename_i hh
      obtain ⟨n, h1, h2⟩ := frameK_out h
      refine ⟨_, h1, fun e he => ?_⟩
      rcases List.mem_cons.1 he with rfl | he
      · exact ⟨List.mem_cons_self, hh⟩
      · exact ⟨List.mem_cons_of_mem _ (h2 e he).1, (h2 e he).2⟩

theorem distinctOne_out {b : Blk} (hk : b.isKey) : ∀ {l : List Ent} {K : Prop}, distinctOne b l K → (∀ e ∈ l, b ≠ e.b) ∧ K
  | [], _, h => ⟨by simp, h⟩
  | x :: r, _, h => by
    unfold distinctOne at h
    split at h
    · exact h.elim
    · rename_i hb
      obtain ⟨h1, h2⟩ := distinctOne_out hk h
      refine ⟨fun e he => ?_, h2⟩
      rcases List.mem_cons.1 he with rfl | he
      · intro q
        rw [← q, Blk.beq_self hk] at hb; simp at hb
      · exact h1 e he
theorem distinctK_out : ∀ {l : List Ent} {K : Prop}, (∀ e ∈ l, e.b.isKey) → distinctK l K → l.Pairwise (fun e e' => e.b ≠ e'.b) ∧ K
  | [], _, _, h => ⟨.nil, h⟩
  | x :: r, _, hk, h => by
    unfold distinctK at h
    obtain ⟨h1, h⟩ := distinctOne_out (hk x List.mem_cons_self) h
    obtain ⟨h2, h⟩ := distinctK_out (fun e he => hk e (List.mem_cons_of_mem _ he)) h
    exact ⟨List.pairwise_cons.2 ⟨h1, h2⟩, h⟩

/-- a told block lies in memory -/
theorem Holds.size {rw : Bool} : ∀ {c : Cont} {b : Blk}, Holds ρ N w rw c b → ∀ b' k z, InC c b b' → ρ b' = some (k, z) → k < w.heap.size := by
  intro c
  have one : ∀ {c : Cont} {b : Blk} {k : Nat} {z : Nat × Nat}, Lies ρ N w rw b c → ρ b = some (k, z) → k < w.heap.size := by
    intro c b k z hl hb
    simp only [Lies, hb] at hl
    obtain ⟨arr, T, fz, h1, _⟩ := hl
    rcases Nat.lt_or_ge k w.heap.size with q | q
    · exact q
    · rw [Array.getElem?_eq_none q] at h1; simp at h1
  induction c with
  | raw vs => intro b hh b' k z hin hb; rw [show b' = b from hin] at hb; exact one hh hb
  | arr E xs => intro b hh b' k z hin hb; rw [show b' = b from hin] at hb; exact one hh hb
  | nest m d g s f xs ih =>
    intro b hh b' k z hin hb
    rcases hin with q | ⟨i, hi, j, hj, hin⟩
    · rw [q] at hb; exact one hh.1 hb
    · exact ih _ _ (hh.2 i hi j hj) b' k z hin hb

/-- a contract at a call -/
theorem CallA.lift (hS : SeatOk S) {fn : Nat} {args0 args : List AV} {l0 : List Ent} {K0 K : AV → Heap → Prop} (hc : CallA S fn args0 ⟨l0, k⟩ K0)
    (h : liftA S args0 l0 k args H fun m => ∀ v H', K0 v H' → backA (lookR m) k l0 H v H' K) : CallA S fn args H K := by
  unfold CallA at hc ⊢
  intro ρ w rs hH hrs hlt
  unfold liftA at h
  obtain ⟨m0, h⟩ := learnVs_out h
  obtain ⟨m, h⟩ := learnH_out h
  obtain ⟨ha, h⟩ := fitVs_out (ρ := ρ) h
  obtain ⟨hal, h⟩ := ltVs_out h
  obtain ⟨he, h⟩ := fitEnts_out hS hH h
  obtain ⟨hp, h⟩ := pairsK_out (fun e q => (he e q).1.2) h
  obtain ⟨hm, h⟩ := ltRen_out h
  have hH0 : HRel S (pull (lookR m) ρ) ⟨l0, k⟩ w := HRel.pull hH (fun e q => (he e q).2) (fun e q => (he e q).1) (hp.imp fun q => q.1) fun e q e' q' hne hor => pairwise_sep hp e q e' q' hne hor
  -- what the callee may write, the caller may
  have hrw : ∀ j, RwB (pull (lookR m) ρ) ⟨l0, k⟩ j → ∃ e ∈ l0, e.rw = true ∧ ∃ B z, renB (lookR m) e.b = some B ∧ ρ B = some (j, z) ∧ ∃ x ∈ H.ents, x.rw = true ∧ x.b = B := by
    rintro j ⟨e, q1, q2, b, z, q3, q4⟩
    obtain ⟨_, g1, g2, g3⟩ := he e q1
    have := InC.flat g1 q3
    subst this
    rcases g3 with ⟨g3, _⟩ | ⟨B, x, p1, p2, p3, p4, _⟩
    · rw [pull_none g3] at q4; simp at q4
    · rw [pull_some p1] at q4
      exact ⟨e, q1, q2, B, z, p1, q4, x, p2, (p4 q2).1, (p4 q2).2⟩
  have hrwH : ∀ j, RwB (pull (lookR m) ρ) ⟨l0, k⟩ j → RwB ρ H j := by
    intro j hj
    obtain ⟨e, q1, q2, B, z, q3, q4, x, q5, q6, q7⟩ := hrw j hj
    exact ⟨x, q5, q6, B, z, q7 ▸ InC.self _ _, q4⟩
  refine (hc (pull (lookR m) ρ) w rs hH0 (ha _ hrs) hal).mono ?_
  rintro e' w' ⟨v, r, H', ρ0, rfl, hK, hv, hvl, haf⟩
  have h := h v H' hK
  obtain ⟨l, N⟩ := H
  obtain ⟨l', k'⟩ := H'
  unfold backA at h
  have h := natK_out h
  have h := forceV_out (K := fun v => ltV (N + (k' - k)) v (newEnts (outR (lookR m) k N) l0 k (N + (k' - k)) l' fun n => frameK (lookR m) l0 l fun r => match n ++ r with | l => distinctK l (K v ⟨l, N + (k' - k)⟩))) h
  obtain ⟨hv2, h⟩ := ltV_out h
  have hg : ∀ b : Blk, b.lt k' → (∀ b', renB (outR (lookR m) k N) b = some b' → backL ρ ρ0 k N b' = ρ0 b) ∧ (renB (outR (lookR m) k N) b = none → ρ0 b = none) :=
    fun b _ => backL_out haf.agree hm
  obtain ⟨n, h, hn⟩ := newEnts_out (ρ' := backL ρ ρ0 k N) haf.heap hg (fun _ q => q) h
  obtain ⟨fr, h, hfr⟩ := frameK_out h
  have hkey : ∀ e ∈ n ++ fr, e.b.lt (N + (k' - k)) ∧ e.b.isKey := by
    intro e q
    rcases List.mem_append.1 q with q | q
    · exact (hn e q).2.1
    · exact ⟨(hH.key e (hfr e q).1).1.mono (Nat.le_add_right _ _), (hH.key e (hfr e q).1).2⟩
  obtain ⟨hdist, hKf⟩ := distinctK_out (fun e q => (hkey e q).2) h
  -- the rest is as it was
  have hkeep : ∀ e ∈ fr, ∀ b' j z, InC e.c e.b b' → ρ b' = some (j, z) → j < w.heap.size ∧ ¬ RwB (pull (lookR m) ρ) ⟨l0, k⟩ j := by
    intro e q b' j z hin hb'
    obtain ⟨q1, q2⟩ := hfr e q
    refine ⟨(hH.holds e q1).size b' j z hin hb', fun hj => ?_⟩
    obtain ⟨e0, p1, p2, B, z2, p3, p4, x, p5, p6, p7⟩ := hrw j hj
    have hBk : B.isKey := p7 ▸ (hH.key x p5).2
    have hne := handed_not q2 e0 p1 p2 B p3 hBk
    refine hH.sep x p5 e q1 (.inl p6) B b' (p7 ▸ InC.self _ _) hin (fun e2 => ?_) j z2 z p4 hb'
    subst e2
    exact hne (InC.key hin hBk)
  have hfrag : ∀ e ∈ fr, ∀ b', InC e.c e.b b' → backL ρ ρ0 k N b' = ρ b' := fun e q b' hin => backL_agree b' (hin.lt (hH.key e (hfr e q).1).1)
  refine ⟨_, r, _, backL ρ ρ0 k N, rfl, hKf, renV_rel hg hvl hv, hv2, ?_⟩
  have hnew : ∀ e ∈ n, ∀ b' j z, InC e.c e.b b' → backL ρ ρ0 k N b' = some (j, z) → w.heap.size ≤ j ∨ RwB (pull (lookR m) ρ) ⟨l0, k⟩ j := by
    intro e q b' j z hin hb'
    obtain ⟨p1, p2, p3, p4, p5, x, p6, p7, p8, _⟩ := hn e q
    have := InC.flat p3 hin
    subst this
    rw [p8] at hb'
    exact haf.own j ⟨x, p6, p7, x.b, z, InC.self _ _, hb'⟩
  refine ⟨Nat.le_add_right _ _, backL_agree, ⟨?_, hkey, ?_, hdist, ?_, ?_⟩, haf.size, ?_, ?_, haf.os, haf.tape, haf.output⟩
  · intro e q
    rcases List.mem_append.1 q with q | q
    · obtain ⟨p1, p2, p3, p4, p5, _⟩ := hn e q
      rw [p1]
      exact .ofFlat p3 p5
    · exact (hH.holds e (hfr e q).1).turn (hH.key e (hfr e q).1).1 backL_agree (Nat.le_add_right _ _) fun b' j z hin hb' => haf.frame j (hkeep e q b' j z hin hb').1 (hkeep e q b' j z hin hb').2
  · have mix : ∀ e ∈ n, ∀ e' ∈ fr, ∀ b b', InC e.c e.b b → InC e'.c e'.b b' → ∀ j z z', backL ρ ρ0 k N b = some (j, z) → backL ρ ρ0 k N b' = some (j, z') → False := by
      intro e q e' q' b b' hb hb' j z z' r1 r2
      rw [hfrag e' q' b' hb'] at r2
      obtain ⟨g1, g2⟩ := hkeep e' q' b' j z' hb' r2
      rcases hnew e q b j z hb r1 with p | p
      · omega
      · exact g2 p
    intro e q e' q' hor b b' hb hb' hne j z z' r1 r2
    rcases List.mem_append.1 q with q | q <;> rcases List.mem_append.1 q' with q' | q'
    · obtain ⟨p1, p2, p3, p4, p5, x, p6, p7, p8, p9⟩ := hn e q
      obtain ⟨s1, s2, s3, s4, s5, y, s6, s7, s8, s9⟩ := hn e' q'
      have := InC.flat p3 hb
      subst this
      have := InC.flat s3 hb'
      subst this
      rw [p8] at r1
      rw [s8] at r2
      by_cases hxy : x.b = y.b
      · rw [hxy, s9] at p9
        simp at p9
        exact hne p9.symm
      · exact haf.heap.sep x p6 y s6 (.inl p7) x.b y.b (InC.self _ _) (InC.self _ _) hxy j z z' r1 r2
    · exact mix e q e' q' b b' hb hb' j z z' r1 r2
    · exact mix e' q' e q b' b hb' hb j z' z r2 r1
    · rw [hfrag e q b hb] at r1
      rw [hfrag e' q' b' hb'] at r2
      exact hH.sep e (hfr e q).1 e' (hfr e' q').1 hor b b' hb hb' hne j z z' r1 r2
  · intro g
    obtain ⟨z, hz⟩ := hH.glob g
    exact ⟨z, hz⟩
  · intro e q
    rcases List.mem_append.1 q with q | q
    · exact (hn e q).2.2.2.1
    · exact hH.enc e (hfr e q).1
  · intro j hj hnot
    exact haf.frame j hj fun q => hnot (hrwH j q)
  · rintro j ⟨e, q, hr, b', z, hin, hb'⟩
    rcases List.mem_append.1 q with q | q
    · exact (hnew e q b' j z hin hb').imp id (hrwH j)
    · rw [hfrag e q b' hin] at hb'
      exact .inr ⟨e, (hfr e q).1, hr, b', z, hin, hb'⟩
end
end Go.Vm
