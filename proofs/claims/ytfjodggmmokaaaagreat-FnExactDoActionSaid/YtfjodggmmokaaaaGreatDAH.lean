/- An abstract machine over the loaded code: loops. -/
import Derived.Test.YtfjodggmmokaaaaGreatDAG
import Derived.Deep.LoopGhost
set_option linter.unusedSimpArgs false
set_option linter.unusedVariables false
set_option linter.constructorNameAsVariable false
namespace Go.Vm
open Go.RowKit
section
variable {S : Seat} {ρ : Lay} {ρh : Loc} {dn : Bool} {f : Nat → Option Pl} {N : Nat} {H : Heap} {w : World}
theorem keyK_out {b : Blk} {K : Prop} (h : keyK N b K) : (b.lt N ∧ b.isKey) ∧ K := by
  unfold keyK at h
  split at h
  · rename_i n
    split at h
    · rename_i e
      have e : n < N := by simpa [Nat.blt_eq] using e
      exact ⟨⟨fun k hk => by simp [Blk.root] at hk; omega, trivial⟩, h⟩
    · exact h.elim
  · exact ⟨⟨fun k hk => by simp [Blk.root] at hk, trivial⟩, h⟩
  · exact h.elim
theorem emptyC_out (hS : SeatOk S) {c : Cont} {K : Prop} (h : emptyC S c K) : (ContOk S c ∧ c.empty ∧ (∀ (ρ : Loc) (N : Nat) (w : World) (rw : Bool) (b : Blk), ρ b = none → HoldsE ρ N w rw c b fun _ _ => False)) ∧ K := by
  have gen : ∀ {c : Cont}, c.empty → (∀ m : Prop, True) → (∀ (ρ : Loc) (N : Nat) (w : World) (rw : Bool) (b : Blk), ρ b = none → HoldsE ρ N w rw c b fun _ _ => False) := by
    intro c hc _ ρ N w rw b hb
    have hh : Holds ρ N w rw c b (fun _ _ => False) := holds_nothing hb hc
    cases c with
    | raw vs => exact hh
    | arr E xs => exact hh
    | nest m d g s f xs o =>
      have ho : o = none := hc.2
      subst ho
      exact hh.toE rfl
  unfold emptyC at h
  split at h
  · split at h
    · exact ⟨⟨trivial, rfl, gen rfl fun _ => trivial⟩, h⟩
    · exact h.elim
  · obtain ⟨⟨rfl, T, hT⟩, hK⟩ := h
    exact ⟨⟨⟨T, hS.hint T _ hT⟩, rfl, gen rfl fun _ => trivial⟩, hK⟩
  · split at h
    · obtain ⟨⟨rfl, T, hT⟩, hK⟩ := h
      obtain ⟨h1, h2⟩ := hS.nest T _ hT
      exact ⟨⟨⟨⟨T, h1⟩, h2⟩, ⟨rfl, rfl⟩, gen ⟨rfl, rfl⟩ fun _ => trivial⟩, hK⟩
    · exact h.elim
theorem keyB_ext : ∀ (p : List (Int × Nat)) (b : Blk), keyB (ext b p) = keyB b
  | [], _ => rfl
  | (i, j) :: p, b => keyB_ext p (.sub b i j)
theorem keyB_isKey : ∀ (b : Blk), (keyB b).isKey
  | .loc _ => trivial
  | .glob _ => trivial
  | .sub b _ _ => keyB_isKey b
theorem same_key {l : List Ent} (hp : l.Pairwise fun e e' => e.b ≠ e'.b) {e e' : Ent} (h : e ∈ l) (h' : e' ∈ l) (hb : e.b = e'.b) : e = e' := by
  induction l with
  | nil => simp at h
  | cons a r ih =>
    rw [List.pairwise_cons] at hp
    rcases List.mem_cons.1 h with rfl | h1 <;> rcases List.mem_cons.1 h' with rfl | h2
    · rfl
    · exact absurd hb (hp.1 _ h2)
    · exact absurd hb.symm (hp.1 _ h1)
    · exact ih hp.2 h1 h2
theorem Hidden.named (hh : Hidden dn ρ ρh H w) (hH : HRel S ρ H w) {x : Ent} (hx : x ∈ H.ents) (hrw : x.rw = false) {B : Blk} (hB : keyB B = x.b) : ρh B = ρ B :=
  hh.out B fun e he hr hu => by
    have := keyB_under hu (hH.key e he).2
    have hxe := same_key hH.keys hx he (by rw [← hB, this])
    rw [hxe, hr] at hrw
    simp at hrw
theorem footP_sub {p : Pl} {x : Ent} (hv : ∀ B i m j n, p = .view B i m j n → ∀ k c, regF (plLoc ρ p) k c → ρ.foot x.b k c) (hx : x.b = plB p) : ∀ k c, footP ρ p k c → ρ.foot x.b k c := by
  intro k c h
  cases p with
  | whole B => rw [hx]; exact h
  | trim B i m => rw [hx]; exact h
  | view B i m j n => exact hv B i m j n rfl k c h
theorem HoldsE.mono {ρ : Loc} {N : Nat} {w : World} {rw : Bool} {c : Cont} {b : Blk} {F G : Foot} (h : HoldsE ρ N w rw c b F) (hg : ∀ k c, F k c → G k c) : HoldsE ρ N w rw c b G := by
  have one : ∀ {ρ : Loc}, Holds ρ N w rw c b F → Holds ρ N w rw c b G := by
    intro ρ h
    cases c with
    | raw vs => exact ⟨h.1, fun k c q => hg k c (h.2 k c q)⟩
    | arr E xs => exact ⟨h.1, fun k c q => hg k c (h.2 k c q)⟩
    | nest m d g s f xs o =>
      obtain ⟨⟨h1, h2⟩, Fs, h3, h4, h5⟩ := h
      exact ⟨⟨h1, fun k c q => hg k c (h2 k c q)⟩, Fs, h3, fun i hi hl j hj k c q => hg k c (h4 i hi hl j hj k c q), h5⟩
  cases c with
  | raw vs => exact one h
  | arr E xs => exact one h
  | nest m d g s f xs o =>
    cases rw with
    | false => exact ⟨h.1, one h.2⟩
    | true =>
      obtain ⟨⟨ρ1, h1, h2⟩, h3⟩ := h
      exact ⟨⟨ρ1, h1, one h2⟩, h3⟩
theorem fitEnt_out (hS : SeatOk S) (hH : HRel S ρ H w) (hh : Hidden dn ρ ρh H w) {e : Ent} (hkey : e.b.lt N ∧ e.b.isKey) {K : Prop} (h : fitEnt S dn f N H e K) : EntFit S f ρ ρh H w N e ∧ K := by
  obtain ⟨b, rw, c⟩ := e
  have h0 := hh.zero hH
  have foot : ∀ {p : Pl}, renB f b = some p → (pullL f ρ ρh).foot b = footP ρ p := fun hp => by simp only [pullL, hp]
  have hloc : ∀ {p : Pl}, renB f b = some p → (∀ g, p ≠ .whole (.glob g)) → ∃ nb, b = .loc nb := by
    intro p hp hne
    cases b with
    | loc n => exact ⟨n, rfl⟩
    | glob g => simp only [renB, Option.some.injEq] at hp; exact absurd hp.symm (hne g)
    | sub _ _ _ => exact hkey.2.elim
  have hpull : ∀ {p : Pl}, renB f b = some p → pull f ρ ρh b = plLoc ρ p := by
    intro p hp
    cases b with
    | loc n => have hp : f n = some p := hp; simp only [pull, hp]
    | glob g => simp only [renB, Option.some.injEq] at hp; subst hp; rfl
    | sub _ _ _ => exact hkey.2.elim
  unfold fitEnt at h
  split at h
  · rename_i hb
    obtain ⟨⟨h1, h2, h3⟩, hK⟩ := emptyC_out hS h
    have hnone : pull f ρ ρh b = none := by
      cases b with
      | loc n => have hb : f n = none := hb; simp only [pull, hb]
      | glob g => simp [renB] at hb
      | sub _ _ _ => exact hkey.2.elim
    refine ⟨⟨?_, h1, .inl hb⟩, hK⟩
    have : (pullL f ρ ρh).foot b = fun _ _ => False := by simp only at hb; simp only [pullL, hb]
    simp only [this]
    exact h3 _ _ _ _ _ hnone
  · rename_i p hb
    simp only at hb
    split at h
    · rename_i B
      split at h
      · rename_i hrw
        simp only at hrw
        subst hrw
        split at h
        · rename_i b' c' hx
          obtain ⟨q1, q2⟩ := getE_mem hx
          simp only at q2
          subst q2
          have hk := (hH.key _ q1).2
          simp only at hk
          have hroot := hH.root _ q1 rfl
          have hbl : ∃ nb, b = .loc nb := hloc hb fun g q => by
            have : b' = .glob g := by injection q
            rw [this] at hroot; simp [Blk.root] at hroot
          obtain ⟨nb, rfl⟩ := hbl
          have hself : ρh b' = ρ b' := hh.out b' fun e he hr hu => hu.key hk
          have := fitC_out (S := S) (rw := true) (F := ρ.foot b') (hpull hb) hb h id (fun _ => ⟨by simp [Blk.root], hroot⟩) (hH.holds _ q1) (hH.enc _ q1) hh.same h0 (fun q => by cases q) hself (fun hd _ hc => hh.told hd _ q1 rfl hc)
          refine ⟨⟨?_, this.1.2, .inr ⟨_, _, hb, q1, ?_, fun _ => ⟨rfl, hk⟩, ?_⟩⟩, this.2⟩
          · simp only [foot hb, footP, keyB_key hk]; exact this.1.1
          · simp only [plB, keyB_key hk]
          · exact footP_sub (fun _ _ _ _ _ q => by cases q) (by simp only [plB, keyB_key hk])
        · exact h.elim
      · rename_i hrw
        simp only at hrw
        subst hrw
        obtain ⟨q, c', F, x, hc, q1, q2, q3, q4, q5, q6, q7, q8⟩ := at_sound hH h
        have hself : ρh B = ρ B := by
          cases q with
          | false => exact hh.named hH q1 q6 q7.symm
          | true =>
            have hk := (hH.key x q1).2
            rw [(q8 rfl).1] at hk
            exact hh.out B fun e he hr hu => hu.key hk
        have hro : q = false → ∀ p i j, ρh (ext (.sub B i j) p) = ρ (ext (.sub B i j) p) := by
          rintro rfl p i j
          exact hh.named hH q1 q6 (by rw [keyB_ext]; exact q7.symm)
        have htold : dn = true → q = true → c'.closed → Holds ρh H.next w true c' B F := by
          rintro hd rfl hcl
          obtain ⟨r1, r2, r3⟩ := q8 rfl
          subst r2; subst r3
          have := hh.told hd x q1 q6 hcl
          rw [r1] at this ⊢
          exact this
        have := fitC_out (S := S) (rw := false) (F := F) (hpull hb) hb hc (fun q => by cases q) (fun q => by cases q) q2 q3 hh.same h0 hro hself htold
        refine ⟨⟨?_, this.1.2, .inr ⟨_, x, hb, q1, ?_, (fun q => by cases q), ?_⟩⟩, this.2⟩
        · simp only [foot hb, footP]
          rw [← q7]
          exact this.1.1.mono q5
        · simp only [plB]; exact q7
        · exact footP_sub (fun _ _ _ _ _ q => by cases q) (by simp only [plB]; exact q7)
    · rename_i B i m0
      have hbl := hloc hb fun g q => by cases q
      split at h
      · rename_i b' q c' hx
        obtain ⟨q1, q2⟩ := getE_mem hx
        simp only at q2
        subst q2
        have hk := (hH.key _ q1).2
        simp only at hk
        have main : ∀ {rw' : Bool}, rw' = rw → (rw' = true → q = true) → fitT i m0 q rw' c c' K → EntFit S f ρ ρh H w N ⟨b, rw, c⟩ ∧ K := by
          rintro rw' rfl hq h
          have := fitT_out (S := S) (ρh := ρh) (N := N) hb hbl h hq (fun q => hH.root _ q1 q) (hH.holds _ q1) (hH.enc _ q1) h0 (fun hqf p i' j' => hh.named hH q1 hqf (by rw [keyB_ext]; simp only [keyB]; exact keyB_key hk))
          refine ⟨⟨?_, this.1.2, .inr ⟨_, _, hb, q1, ?_, fun q => ⟨hq q, hk⟩, ?_⟩⟩, this.2⟩
          · simp only [foot hb, footP, keyB_key hk]; exact this.1.1
          · simp only [plB, keyB_key hk]
          · exact footP_sub (fun _ _ _ _ _ q => by cases q) (by simp only [plB, keyB_key hk])
        simp only at h
        cases rw with
        | false => exact main rfl (fun q => by cases q) h
        | true => cases q with
          | false => exact h.elim
          | true => exact main rfl (fun _ => rfl) h
      · exact h.elim
    · rename_i B i m0 j n
      simp only at h
      split at h
      · rename_i vs
        split at h
        · rename_i hn hpos
          have hn := Nat.eq_of_beq_eq_true hn
          have hpos := Nat.le_of_ble_eq_true hpos
          split at h
          · split at h
            · rename_i b' c' hx
              obtain ⟨q1, q2⟩ := getE_mem hx
              simp only at q2
              subst q2
              have hk := (hH.key _ q1).2
              simp only at hk
              have hold := hH.holds _ q1
              simp only at hold
              have he : 0 ≤ i.getD 0 ∧ elemA true b' m0 i c' fun cs => fitVs dn f vs ((cs.drop j).take n) (ltVs N vs K) := by
                cases c' with
                | raw vs' =>
                  simp only [viewW] at h
                  split at h
                  · exact ⟨by simp, h⟩
                  · exact ⟨by simp, h⟩
                  · exact h.elim
                | arr E xs => exact h.elim
                | nest m' d g s f' xs o =>
                  simp only [viewW] at h
                  split at h
                  · exact h.elim
                  · split at h
                    · exact h.elim
                    · rename_i hm
                      split at h
                      · rename_i p
                        obtain ⟨i0, cs⟩ := p
                        obtain ⟨rfl, h⟩ := h
                        have h1 := hold.2.1
                        exact ⟨h1, by simp only [elemA, nestElemA, hm]; exact ⟨trivial, h⟩⟩
                      · exact h.elim
              have := view_out (S := S) (rw := true) (N := N) (hpull hb) hh.same hn hpos he.1 hold (hH.enc _ q1) (hH.key _ q1).1 (fun _ => rfl) he.2
              refine ⟨⟨?_, trivial, .inr ⟨_, _, hb, q1, ?_, fun _ => ⟨rfl, hk⟩, ?_⟩⟩, this.2⟩
              · simp only [foot hb, footP]; exact this.1.1
              · simp only [plB, keyB_key hk]
              · refine footP_sub (fun _ _ _ _ _ q => ?_) (by simp only [plB, keyB_key hk])
                exact this.1.2
            · exact h.elim
          · obtain ⟨hi, h⟩ := h
            obtain ⟨q, c', F, x, hc, q1, q2, q3, q4, q5, q6, q7, q8⟩ := at_sound hH h
            have := view_out (S := S) (rw := false) (N := N) (hpull hb) hh.same hn hpos hi q2 q3 q4 (fun q => by cases q) hc
            refine ⟨⟨?_, trivial, .inr ⟨_, x, hb, q1, ?_, (fun q => by cases q), ?_⟩⟩, this.2⟩
            · simp only [foot hb, footP]; exact this.1.1
            · simp only [plB]; exact q7
            · refine footP_sub (fun _ _ _ _ _ q => ?_) (by simp only [plB]; exact q7)
              exact fun k c p => q5 k c (this.1.2 k c p)
        · exact h.elim
      · exact h.elim
theorem plB_key (p : Pl) : (plB p).isKey := by cases p <;> exact keyB_isKey _
def Apart (ρ : Lay) (p p' : Pl) : Prop := plB p ≠ plB p' ∨ (∀ B, p ≠ .whole B) ∧ (∀ B, p' ≠ .whole B) ∧ Disj (footP ρ p) (footP ρ p')
theorem apartK_out {p p' : Pl} {K : Prop} (h : apartK p p' K) : Apart ρ p p' ∧ K := by
  unfold apartK at h
  split at h
  · rename_i hb
    exact ⟨.inl fun q => (by rw [q, Blk.beq_self (plB_key _)] at hb; cases hb), h⟩
  · rename_i hbq
    clear hbq
    split at h
    · rename_i b i m j n
      split at h
      · rename_i b' i' m' j' n'
        split at h
        · rename_i hm hr
          have hm := Nat.eq_of_beq_eq_true hm
          subst hm
          obtain ⟨h1, hx⟩ := fitB_out h
          obtain ⟨h2, hK⟩ := fitI_out hx
          subst h1
          refine ⟨.inr ⟨(fun _ q => by cases q), (fun _ q => by cases q), ?_⟩, hK⟩
          rintro k c ⟨z, q1, q2, q3⟩ ⟨z', r1, r2, r3⟩
          simp only [plLoc] at q1 r1
          cases hb : ρ.loc b with
          | none => rw [hb] at q1; simp at q1
          | some kz =>
            rw [hb] at q1 r1
            simp only [Option.some.injEq, Prod.mk.injEq] at q1 r1
            obtain ⟨_, rfl⟩ := q1
            obtain ⟨_, rfl⟩ := r1
            simp only at q2 q3 r2 r3
            rw [h2] at q2 q3
            simp only [Bool.or_eq_true] at hr
            rcases hr with hr | hr <;> have hr := Nat.le_of_ble_eq_true hr <;> omega
        · exact h.elim
      · exact h.elim
    · exact h.elim
def PairOk (f : Nat → Option Pl) (ρ : Lay) (e e' : Ent) : Prop := e.b ≠ e'.b ∧ ((e.rw = true ∨ e'.rw = true) → ∀ p p', renB f e.b = some p → renB f e'.b = some p' → Apart ρ p p')
theorem pairK_out {e e' : Ent} {K : Prop} (hk : e.b.isKey) (h : pairK f e e' K) : PairOk f ρ e e' ∧ K := by
  unfold pairK at h
  split at h
  · exact h.elim
  · rename_i hb
    have hne : e.b ≠ e'.b := fun q => by rw [← q, Blk.beq_self hk] at hb; cases hb
    split at h
    · rename_i hr
      simp at hr
      exact ⟨⟨hne, fun q => by rw [hr.1, hr.2] at q; simp at q⟩, h⟩
    · split at h
      · rename_i e1
        exact ⟨⟨hne, fun _ p p' q => by rw [e1] at q; simp at q⟩, h⟩
      · rename_i p1 e1
        split at h
        · rename_i e2
          exact ⟨⟨hne, fun _ p p' _ q => by rw [e2] at q; simp at q⟩, h⟩
        · rename_i p2 e2
          obtain ⟨h1, h2⟩ := apartK_out (ρ := ρ) h
          refine ⟨⟨hne, fun _ p p' q q' => ?_⟩, h2⟩
          rw [e1] at q; rw [e2] at q'
          simp at q q'
          rw [← q, ← q']
          exact h1
theorem pairsOne_out {e : Ent} (hk : e.b.isKey) : ∀ {l : List Ent} {K : Prop}, pairsOne f e l K → (∀ e' ∈ l, PairOk f ρ e e') ∧ K
  | [], _, h => ⟨by simp, h⟩
  | e' :: r, _, h => by
    obtain ⟨h1, h⟩ := pairK_out (ρ := ρ) hk h
    obtain ⟨h2, h⟩ := pairsOne_out hk h
    refine ⟨fun x hx => ?_, h⟩
    rcases List.mem_cons.1 hx with rfl | hx
    · exact h1
    · exact h2 x hx
theorem pairsK_out : ∀ {l : List Ent} {K : Prop}, (∀ e ∈ l, e.b.isKey) → pairsK f l K → l.Pairwise (PairOk f ρ) ∧ K
  | [], _, _, h => ⟨.nil, h⟩
  | e :: r, _, hk, h => by
    obtain ⟨h1, h⟩ := pairsOne_out (ρ := ρ) (hk e List.mem_cons_self) h
    obtain ⟨h2, h⟩ := pairsK_out (fun x hx => hk x (List.mem_cons_of_mem _ hx)) h
    exact ⟨List.pairwise_cons.2 ⟨h1, h2⟩, h⟩
theorem Apart.symm {p p' : Pl} (h : Apart ρ p p') : Apart ρ p' p := h.imp Ne.symm fun ⟨a, b, c⟩ => ⟨b, a, c.symm⟩
theorem pairwise_sep : ∀ {l : List Ent}, l.Pairwise (PairOk f ρ) → ∀ e ∈ l, ∀ e' ∈ l, e.b ≠ e'.b → (e.rw = true ∨ e'.rw = true) → ∀ p p', renB f e.b = some p → renB f e'.b = some p' → Apart ρ p p'
  | [], _, e, he, _, _, _, _ => by simp at he
  | x :: r, hp, e, he, e', he', hne, hor => by
    rw [List.pairwise_cons] at hp
    rcases List.mem_cons.1 he with rfl | he1
    · rcases List.mem_cons.1 he' with rfl | he2
      · exact absurd rfl hne
      · exact (hp.1 e' he2).2 hor
    · rcases List.mem_cons.1 he' with rfl | he2
      · intro p p' q q'
        exact ((hp.1 e he1).2 hor.symm p' p q' q).symm
      · exact pairwise_sep hp.2 e he1 e' he2 hne hor
theorem fitEnts_out (hS : SeatOk S) (hH : HRel S ρ H w) (hh : Hidden dn ρ ρh H w) : ∀ {l : List Ent} {K : Prop}, fitEnts S dn f N H l K → (∀ e ∈ l, (e.b.lt N ∧ e.b.isKey) ∧ EntFit S f ρ ρh H w N e) ∧ K
  | [], _, h => ⟨by simp, h⟩
  | e :: r, _, h => by
    unfold fitEnts at h
    obtain ⟨h1, h⟩ := keyK_out h
    obtain ⟨h2, h⟩ := fitEnt_out hS hH hh h1 h
    obtain ⟨h3, h⟩ := fitEnts_out hS hH hh h
    refine ⟨fun x hx => ?_, h⟩
    rcases List.mem_cons.1 hx with rfl | hx
    · exact ⟨h1, h2⟩
    · exact h3 x hx
theorem HRel.pull (hH : HRel S ρ H w) {l : List Ent} (hfit : ∀ e ∈ l, (e.b.lt N ∧ e.b.isKey) ∧ EntFit S f ρ ρh H w N e) (hp : l.Pairwise (PairOk f ρ)) : HRel S (pullL f ρ ρh) ⟨l, N⟩ w where
  holds := fun e he => (hfit e he).2.1
  key := fun e he => (hfit e he).1
  sep := fun e he e' he' hor hne => by
    obtain ⟨_, _, h1⟩ := (hfit e he).2
    obtain ⟨_, _, h2⟩ := (hfit e' he').2
    rcases h1 with h1 | ⟨p, x, h3, h4, h5, h6, h7⟩
    · intro k c q; simp only [pullL, h1] at q
    rcases h2 with h2 | ⟨p', x', g3, g4, g5, g6, g7⟩
    · intro k c _ q; simp only [pullL, h2] at q
    have hap := pairwise_sep hp e he e' he' hne hor p p' h3 g3
    intro k c q1 q2
    simp only [pullL, h3] at q1
    simp only [pullL, g3] at q2
    rcases hap with hap | hap
    · exact hH.sep x h4 x' g4 (hor.imp (fun q => (h6 q).1) (fun q => (g6 q).1)) (by rw [h5, g5]; exact hap) k c (h7 k c q1) (g7 k c q2)
    · exact hap.2.2 k c q1 q2
  keys := hp.imp fun h => h.1
  glob := fun g => hH.glob g
  enc := fun e he => (hfit e he).2.2.1
  low := fun e he k c q => by
    obtain ⟨_, _, h1⟩ := (hfit e he).2
    rcases h1 with h1 | ⟨p, x, h3, h4, h5, h6, h7⟩
    · simp only [pullL, h1] at q
    · simp only [pullL, h3] at q
      exact hH.low x h4 k c (h7 k c q)
  root := fun e he hr => by
    obtain ⟨_, _, h1⟩ := (hfit e he).2
    cases hb : e.b with
    | loc n => simp [Blk.root]
    | glob g =>
      rcases h1 with h1 | ⟨p, x, h3, h4, h5, h6, h7⟩
      · rw [hb] at h1; simp [renB] at h1
      · rw [hb] at h3
        simp only [renB, Option.some.injEq] at h3
        subst h3
        have := hH.root x h4 (h6 hr).1
        rw [h5] at this
        simp [plB, keyB, Blk.root] at this
    | sub c i j => have := (hfit e he).1.2; rw [hb] at this; exact this.elim
end
section
variable {S : Seat} {ρ : Lay} {f : Nat → Option Pl} {N : Nat} {H : Heap} {w : World}
theorem fitEnv_out {env : List (Nat × AV)} : ∀ {l : List (Nat × AV)} {K : Prop}, fitEnv f N env l K → (∀ t, (∀ r, VRel ρ (look env t) r → VRel (pull f ρ ρ) (look l t) r) ∧ (look l t).lt N) ∧ K
  | [], _, h => ⟨fun _ => ⟨fun _ _ => trivial, trivial⟩, h⟩
  | (t, v) :: r, _, h => by
    unfold fitEnv at h
    obtain ⟨h1, h⟩ := fitV_out (ρ := ρ) (ρh := ρ) (fun _ => rfl) h
    obtain ⟨h2, h⟩ := ltV_out h
    obtain ⟨h3, h⟩ := fitEnv_out h
    refine ⟨fun s => ?_, h⟩
    have hlook : look ((t, v) :: r) s = match Nat.beq t s with | true => v | false => look r s := rfl
    rw [hlook]
    split
    · rename_i e
      have e := Nat.eq_of_beq_eq_true e
      subst e
      exact ⟨h1, h2⟩
    · exact h3 s
theorem idOk_out {m : Ren} : ∀ {lo : Nat}, idOk lo m = true → ∀ n, n < lo → lookR m n = some (.whole (.loc n))
  | 0, _, n, hn => by omega
  | k + 1, h, n, hn => by
    unfold idOk at h
    split at h
    · rename_i j hj
      split at h
      · rename_i e
        have e := Nat.eq_of_beq_eq_true e
        subst e
        rcases Nat.lt_or_ge n j with q | q
        · exact idOk_out h n q
        · have : n = j := by omega
          subst this; exact hj
      · simp at h
    · simp at h
end
def fitsM (S : Seat) (m0 : Ren) (σ τ : St) (K : Prop) : Prop :=
  match σ with
  | ⟨env, H, n, lo⟩ => match τ with
    | ⟨env', ⟨l, N⟩, n', lo'⟩ => match Nat.beq n n', Nat.beq lo lo', Nat.ble lo N with
      | true, true, true => learnEnv l H.ents env env' (idR lo m0) fun m => learnH l H.ents l m fun m => match idOk lo m with
        | true => fitEnv (lookR m) N env env' (fitEnts S false (lookR m) N H l (pairsK (lookR m) l K))
        | false => False
      | _, _, _ => False
def fitsA (S : Seat) (σ τ : St) (K : Prop) : Prop := fitsM S [] σ τ K
section
variable {S : Seat} {ρ : Lay} {w : World}
theorem fitsM_out (hS : SeatOk S) {m0 : Ren} {σ τ : St} {K : Prop} (h : fitsM S m0 σ τ K) {ρ0 : Lay} {H0 : Heap} {w0 : World} {a : Act} {w : World} (hi : Inv S ρ0 H0 w0 σ ρ a w) :
    (∃ ρ', Inv S ρ0 H0 w0 τ ρ' a w) ∧ K := by
  obtain ⟨env, H, n, lo⟩ := σ
  obtain ⟨env', ⟨l, N⟩, n', lo'⟩ := τ
  simp only [fitsM] at h
  split at h
  · rename_i e1 e2 e3
    have e1 := Nat.eq_of_beq_eq_true e1
    have e2 := Nat.eq_of_beq_eq_true e2
    have e3 := Nat.le_of_ble_eq_true e3
    subst e1; subst e2
    obtain ⟨m1, h⟩ := learnEnv_out h
    obtain ⟨m, h⟩ := learnH_out h
    split at h
    · rename_i hid
      have hid := idOk_out hid
      obtain ⟨h1, h⟩ := fitEnv_out (ρ := ρ) h
      obtain ⟨h2, h⟩ := fitEnts_out hS hi.after.heap (.plain ρ H w) h
      obtain ⟨h3, h⟩ := pairsK_out (ρ := ρ) (fun e he => (h2 e he).1.2) h
      have hlo : H0.next = lo := hi.lo
      refine ⟨⟨pullL (lookR m) ρ ρ, fun t => ⟨(h1 t).1 _ (hi.env t).1, (h1 t).2⟩, hi.size, hi.defers, hi.lo, ?_⟩, h⟩
      have hheap : HRel S (pullL (lookR m) ρ ρ) ⟨l, N⟩ w := hi.after.heap.pull h2 h3
      refine ⟨by rw [hlo]; exact e3, fun b hb => ?_, hheap, hi.after.size, hi.after.frame, fun k c hk => ?_, hi.after.os, hi.after.tape, hi.after.output⟩
      · show pull (lookR m) ρ ρ b = ρ0 b
        rw [pull_agree hid b (hlo ▸ hb)]
        exact hi.after.agree b hb
      · obtain ⟨e, he, hr, hf⟩ := hk
        obtain ⟨_, _, g3⟩ := (h2 e he).2
        rcases g3 with g3 | ⟨p, x, q1, q2, q3, q4, q5⟩
        · simp only [pullL, g3] at hf
        · simp only [pullL, q1] at hf
          exact hi.after.own k c ⟨x, q2, (q4 hr).1, q5 k c hf⟩
    · exact h.elim
  · exact h.elim
def Turn (S : Seat) (σ τ : St) : Prop := ∀ (ρ0 : Lay) (H0 : Heap) (w0 : World) (ρ : Lay) (a : Act) (w : World), Inv S ρ0 H0 w0 σ ρ a w → ∃ ρ', Inv S ρ0 H0 w0 τ ρ' a w
theorem Turn.fits (hS : SeatOk S) {m0 : Ren} {σ τ : St} (h : fitsM S m0 σ τ True) : Turn S σ τ := fun _ _ _ _ _ _ hi => (fitsM_out hS h hi).1
@[irreducible] def FitsT (S : Seat) (σ τ : St) : Prop := Turn S σ τ
theorem FitsT.now (hS : SeatOk S) {σ τ : St} (h : fitsA S σ τ True) : FitsT S σ τ := by unfold FitsT; exact .fits hS h
theorem FitsT.told (hS : SeatOk S) (m0 : Ren) {σ τ : St} (h : fitsM S m0 σ τ True) : FitsT S σ τ := by unfold FitsT; exact .fits hS h
theorem Wp.loop (hS : SeatOk S) {γ : Type} (I : γ → St) (R : γ → Prop) (μ : γ → Nat) {c : Code} {σ : St} {kn : St → Prop} {ke : Nat → St → Prop} {kr : St → Prop} (g0 : γ) (hR : R g0) (h0 : FitsT S σ (I g0))
    (round : ∀ g, R g → Wp S c (I g) (fun σ' => ∃ g', (R g' ∧ μ g' < μ g) ∧ FitsT S σ' (I g')) ke kr) : Wp S (.loop c) σ kn ke kr := by
  unfold Wp
  intro ρ0 H0 w0 ρ a w hi
  unfold FitsT at h0
  refine wp_loop_ghost (fun n a w => ∃ g, ∃ ρ : Lay, R g ∧ μ g = n ∧ Inv S ρ0 H0 w0 (I g) ρ a w) (μ g0) ?_ ?_
  · obtain ⟨ρ', h⟩ := h0 _ _ _ _ _ _ hi
    exact ⟨g0, ρ', hR, rfl, h⟩
  · rintro n a w ⟨g, ρ, h1, rfl, h2⟩
    refine wp_mono ((round g h1).run h2) fun e a w hq => ?_
    cases e with
    | normal =>
      obtain ⟨σ, ρ, ⟨g', ⟨q1, q2⟩, q3⟩, q4⟩ := hq
      unfold FitsT at q3
      obtain ⟨ρ', h⟩ := q3 _ _ _ _ _ _ q4
      exact ⟨μ g', q2, g', ρ', q1, rfl, h⟩
    | exit i => exact hq
    | ret => exact hq
    | _ => exact hq.elim
theorem Wp.cut (hS : SeatOk S) {γ : Type} (I : γ → St) (R : γ → Prop) {c : Code} {σ : St} {kn : St → Prop} {ke : Nat → St → Prop} {kr : St → Prop}
    (h : Wp S c σ (fun σ' => ∃ g', R g' ∧ FitsT S σ' (I g')) ke kr) (k : ∀ g, R g → kn (I g)) : Wp S c σ kn ke kr := by
  unfold Wp
  intro ρ0 H0 w0 ρ a w hi
  refine wp_mono (h.run hi) fun e a w hq => ?_
  cases e with
  | normal =>
    obtain ⟨σ, ρ, ⟨g', q1, q3⟩, q4⟩ := hq
    unfold FitsT at q3
    obtain ⟨ρ', h⟩ := q3 _ _ _ _ _ _ q4
    exact ⟨I g', ρ', k g' q1, h⟩
  | exit i => exact hq
  | ret => exact hq
  | _ => exact hq.elim
theorem Wp.turn {c : Code} {σ τ : St} {kn : St → Prop} {ke : Nat → St → Prop} {kr : St → Prop} (h : Turn S σ τ) (k : Wp S c τ kn ke kr) : Wp S c σ kn ke kr := by
  unfold Wp
  intro ρ0 H0 w0 ρ a w hi
  obtain ⟨ρ', hi⟩ := h _ _ _ _ _ _ hi
  exact k.run hi
end
end Go.Vm

namespace Go.Vm
open Go.RowKit
mutual
def renV (g : Nat → Option Pl) : AV → AV
  | .ptr b m i j => match okB true b with
    | false => .undef
    | true => match renB g b with
      | some p => match p with
        | .whole b => .ptr b m i j
        | .view _ _ _ _ _ => .undef
        | .trim _ _ _ => .undef
      | none => .undef
  | .sl b m i n => match okB true b with
    | false => .undef
    | true => match renB g b with
      | some p => match p with
        | .whole b => .sl b m i n
        | .view _ _ _ _ _ => .undef
        | .trim _ _ _ => .undef
      | none => .nils
  | .fn f c => .fn f (renVs g c)
  | .agg c => .agg (renVs g c)
  | .tup c => .tup (renVs g c)
  | v => v
def renVs (g : Nat → Option Pl) : List AV → List AV
  | [] => []
  | v :: r => renV g v :: renVs g r
end
def outR (f : Nat → Option Pl) (k N : Nat) (i : Nat) : Option Pl := match Nat.ble k i with
  | true => some (.whole (.loc (N + (i - k))))
  | false => f i
def renO (g : Nat → Option Pl) (N' : Nat) (o : Option (Int × List AV)) (K : Option (Int × List AV) → Prop) : Prop := match o with
  | none => K none
  | some p => match p with
    | (i, cs) => forceL (renVs g cs) fun cs => ltVs N' cs (K (some (i, cs)))
def renC (g : Nat → Option Pl) (N' : Nat) (c : Cont) (K : Cont → Prop) : Prop := match c with
  | .raw vs => forceL (renVs g vs) fun vs => ltVs N' vs (K (.raw vs))
  | .arr E xs => K (.arr E xs)
  | .nest m d h s f xs o => renO g N' o fun o => K (.nest m d h s f xs o)
def newEnts (g : Nat → Option Pl) (l0 : List Ent) (k N' : Nat) : List Ent → (List Ent → Prop) → Prop
  | [], K => K []
  | e :: r, K => match e with
    | ⟨b0, true, c⟩ => match (match b0 with | .loc i => Nat.ble k i | _ => false) || (match getE l0 b0 with | some ⟨_, true, _⟩ => true | _ => false) with
      | false => newEnts g l0 k N' r K
      | true => match renB g b0 with
        | none => newEnts g l0 k N' r K
        | some p => match p with
          | .whole b => blkK b fun b => keyK N' b (renC g N' c fun c => newEnts g l0 k N' r fun r => K (⟨b, true, c⟩ :: r))
          | .view _ _ _ _ _ => newEnts g l0 k N' r K
          | .trim _ _ _ => False
    | _ => newEnts g l0 k N' r K
def handed (f : Nat → Option Pl) (b : Blk) : List Ent → Bool
  | [] => false
  | e :: r => match e.rw with
    | false => handed f b r
    | true => match renB f e.b with
      | some (.whole B) => match Blk.beq B b with
        | true => true
        | false => handed f b r
      | _ => handed f b r
def putC (i : Option Int) (m j : Nat) (vs : List AV) (c : Cont) (K : Cont → Prop) : Prop := match c with
  | .raw ws => match i with
    | none => match Nat.ble (j + vs.length) ws.length with
      | true => forceL (putL ws j vs) fun ws => K (.raw ws)
      | false => False
    | some (.ofNat a) => match Nat.ble (a * m + j + vs.length) ws.length with
      | true => forceL (putL ws (a * m + j) vs) fun ws => K (.raw ws)
      | false => False
    | _ => False
  | .arr _ _ => False
  | .nest m' d g s f xs o => match o with
    | none => False
    | some p => match p with
      | (i0, cs) => match i with
        | none => False
        | some i => match Nat.beq m m' with
          | false => False
          | true => match Nat.ble (j + vs.length) cs.length with
            | true => i = i0 ∧ forceL (putL cs j vs) fun cs => K (.nest m' d g s f xs (some (i0, cs)))
            | false => False
def spliceE (f g : Nat → Option Pl) (l' : List Ent) (N' : Nat) (b : Blk) : List Ent → Cont → (Cont → Prop) → Prop
  | [], c, K => K c
  | e :: t, c, K => match e.rw with
    | false => spliceE f g l' N' b t c K
    | true => match renB f e.b with
      | some (.view B i m j n) => match Blk.beq B b with
        | false => spliceE f g l' N' b t c K
        | true => match getE l' e.b with
          | some ⟨_, true, .raw vs⟩ => match Nat.beq vs.length n, Nat.ble 1 n with
            | true, true => forceL (renVs g vs) fun vs => ltVs N' vs (putC i m j vs c fun c => spliceE f g l' N' b t c K)
            | _, _ => False
          | _ => False
      | some (.trim B _ _) => match Blk.beq B b with
        | false => spliceE f g l' N' b t c K
        | true => False
      | _ => spliceE f g l' N' b t c K
def frameK (f g : Nat → Option Pl) (l0 l' : List Ent) (N' : Nat) : List Ent → (List Ent → Prop) → Prop
  | [], K => K []
  | e :: r, K => match handed f e.b l0 with
    | true => frameK f g l0 l' N' r K
    | false => match e with
      | ⟨b, rw, c⟩ => spliceE f g l' N' b l0 c fun c => frameK f g l0 l' N' r fun r => K (⟨b, rw, c⟩ :: r)
def distinctOne (b : Blk) : List Ent → Prop → Prop
  | [], K => K
  | e :: r, K => match Blk.beq b e.b with
    | true => False
    | false => distinctOne b r K
def distinctK : List Ent → Prop → Prop
  | [], K => K
  | e :: r, K => distinctOne e.b r (distinctK r K)
def ltRen (N : Nat) : Ren → Prop → Prop
  | [], K => K
  | (_, o) :: r, K => match o with
    | none => ltRen N r K
    | some p => match p with
      | .whole b => ltB N b (ltRen N r K)
      | .view b _ _ _ _ => ltB N b (ltRen N r K)
      | .trim b _ _ => ltB N b (ltRen N r K)
def backA (f : Nat → Option Pl) (k : Nat) (l0 : List Ent) (H : Heap) (v : AV) (H' : Heap) (K : AV → Heap → Prop) : Prop :=
  match H with
  | ⟨l, N⟩ => match H' with
    | ⟨l', k'⟩ => natK (N + (k' - k)) fun N' => forceV (renV (outR f k N) v) fun v => ltV N' v (newEnts (outR f k N) l0 k N' l' fun n => frameK f (outR f k N) l0 l' N' l fun r =>
        match n ++ r with
        | l => distinctK l (K v ⟨l, N'⟩))
def liftA (S : Seat) (args0 : List AV) (l0 : List Ent) (k : Nat) (args : List AV) (H : Heap) (K : Ren → Prop) : Prop :=
  learnVs l0 H.ents args0 args [] fun m => learnH l0 H.ents l0 m fun m => fitVs true (lookR m) args0 args (ltVs k args0 (fitEnts S true (lookR m) k H l0 (pairsK (lookR m) l0 (ltRen H.next m (K m)))))
section
variable {S : Seat} {ρ ρ0 : Lay} {ρh : Loc} {f g : Nat → Option Pl} {H : Heap} {w w' : World} {N k : Nat}
open Classical in
theorem HRel.hidden (hH : HRel S ρ H w) : ∃ ρh, Hidden true ρ ρh H w := by
  have hw : ∀ e : Ent, ∃ ρ1 : Loc, e ∈ H.ents → e.rw = true → Off e.b ρ ρ1 ∧ (e.c.closed → Holds ρ1 H.next w true e.c e.b (ρ.foot e.b)) := by
    intro e
    by_cases he : e ∈ H.ents ∧ e.rw = true
    · obtain ⟨he, hr⟩ := he
      have h := hH.holds e he
      obtain ⟨b, rw, c⟩ := e
      simp only at hr
      subst hr
      cases c with
      | raw vs => exact ⟨ρ, fun _ _ => ⟨.refl _ _, fun q => q.elim⟩⟩
      | arr E xs => exact ⟨ρ, fun _ _ => ⟨.refl _ _, fun _ => h⟩⟩
      | nest m d g s f xs o =>
        obtain ⟨⟨ρ1, h1, h2⟩, _⟩ := h
        exact ⟨ρ1, fun _ _ => ⟨h1, fun _ => h2⟩⟩
    · exact ⟨ρ, fun h1 h2 => absurd ⟨h1, h2⟩ he⟩
  let W : Ent → Loc := fun e => Classical.choose (hw e)
  have hW : ∀ e ∈ H.ents, e.rw = true → Off e.b ρ (W e) ∧ (e.c.closed → Holds (W e) H.next w true e.c e.b (ρ.foot e.b)) := fun e => Classical.choose_spec (hw e)
  let ρh : Loc := fun b => if h : ∃ e ∈ H.ents, e.rw = true ∧ Under e.b b then W (Classical.choose h) b else ρ b
  have hout : ∀ b, (∀ e ∈ H.ents, e.rw = true → ¬ Under e.b b) → ρh b = ρ b := by
    intro b hb
    have : ¬ ∃ e ∈ H.ents, e.rw = true ∧ Under e.b b := fun ⟨e, h1, h2, h3⟩ => hb e h1 h2 h3
    simp only [ρh]
    rw [dif_neg this]
  have hin : ∀ e ∈ H.ents, e.rw = true → ∀ b, Under e.b b → ρh b = W e b := by
    intro e he hr b hu
    have hex : ∃ e ∈ H.ents, e.rw = true ∧ Under e.b b := ⟨e, he, hr, hu⟩
    obtain ⟨q1, q2, q3⟩ := Classical.choose_spec hex
    have : Classical.choose hex = e := same_key hH.keys q1 he (by rw [← keyB_under q3 (hH.key _ q1).2, ← keyB_under hu (hH.key _ he).2])
    simp only [ρh]
    rw [dif_pos hex, this]
  refine ⟨ρh, hout, (fun h => by cases h), fun _ e he hr hc => ?_⟩
  obtain ⟨h1, h2⟩ := hW e he hr
  have hroot := hH.root e he hr
  have h0 : Agree 0 (W e) ρh := fun b hb => by
    have hb0 : b.root = none := by cases h : b.root with | none => rfl | some n => exact absurd (hb n h) (by omega)
    rw [hout b fun e' he' hr' hu => hH.root e' he' hr' (by rw [← hu.root]; exact hb0), h1 b fun hu => hroot (by rw [← hu.root]; exact hb0)]
  refine Holds.ren h0 (hH.enc e he) (fun vs q => by rw [q] at hc; exact hc) (.of_sub ?_ fun i j p => ?_) (h2 hc)
  · rw [hout e.b fun e' he' hr' hu => hu.key (hH.key e he).2, h1 e.b (not_under_self _)]
  · exact hin e he hr _ (under_ext p (.inl rfl))
mutual
theorem renV_rel {ρ ρ' : Loc} (hg : ∀ b : Blk, b.lt N → okB true b = true → ρ b = (renB g b).bind (plLoc ρ')) : ∀ {v : AV} {r : Value}, v.lt N → VRel ρ v r → VRel ρ' (renV g v) r
  | .ptr b m i j, r, hl, h => by
    unfold renV
    split
    · trivial
    · rename_i hok
      split
      · rename_i p hb
        have hρ := hg b hl hok
        rw [hb] at hρ
        simp only [Option.bind_some] at hρ
        split
        · simp only [VRel] at h ⊢
          rw [hρ] at h
          exact h
        · trivial
        · trivial
      · trivial
  | .sl b m i n, r, hl, h => by
    unfold renV
    split
    · trivial
    · rename_i hok
      split
      · rename_i p hb
        have hρ := hg b hl hok
        rw [hb] at hρ
        simp only [Option.bind_some] at hρ
        split
        · simp only [VRel] at h ⊢
          rw [hρ] at h
          exact h
        · trivial
        · trivial
      · rename_i hb
        have hρ := hg b hl hok
        rw [hb] at hρ
        rcases h with ⟨_, _, _, a, rfl⟩ | ⟨k, z, cap, off, e, _⟩
        · exact ⟨a, rfl⟩
        · rw [hρ] at e; simp at e
  | .fn f c, r, hl, ⟨cs, e, h⟩ => ⟨cs, e, renVs_rel hg hl h⟩
  | .agg c, r, hl, ⟨cs, e, h⟩ => ⟨cs, e, renVs_rel hg hl h⟩
  | .tup c, r, hl, ⟨cs, e, h⟩ => ⟨cs, e, renVs_rel hg hl h⟩
  | .undef, _, _, h | .tt, _, _, h | .ff, _, _, h | .prop _, _, _, h | .int _ _, _, _, h | .str _, _, _, h | .nilp, _, _, h | .nils, _, _, h | .nilf, _, _, h | .niface, _, _, h => h
theorem renVs_rel {ρ ρ' : Loc} (hg : ∀ b : Blk, b.lt N → okB true b = true → ρ b = (renB g b).bind (plLoc ρ')) : ∀ {vs : List AV} {rs : List Value}, AV.lts N vs → VRels ρ vs rs → VRels ρ' (renVs g vs) rs
  | [], _, _, h => h
  | _ :: _, _, hl, ⟨r, rs, e, h1, h2⟩ => ⟨r, rs, e, renV_rel hg hl.1 h1, renVs_rel hg hl.2 h2⟩
end
theorem renVs_length : ∀ {vs : List AV}, (renVs g vs).length = vs.length
  | [] => rfl
  | _ :: r => by simp [renVs, renVs_length (vs := r)]
noncomputable def backL (ρ ρ0 : Loc) (k N : Nat) : Loc := fun b => match b.root with
  | none => ρ b
  | some n => if n < N then ρ b else pull (fun n => some (.whole (.loc (k + (n - N))))) ρ0 ρ0 b
theorem backL_agree {ρ ρ0 : Loc} : Agree N ρ (backL ρ ρ0 k N) := fun b hb => by
  unfold backL
  split
  · rfl
  · rename_i n hn
    rw [if_pos (hb n hn)]
theorem backL_new {ρ ρ0 : Loc} {n : Nat} (h : N ≤ n) : backL ρ ρ0 k N (.loc n) = ρ0 (.loc (k + (n - N))) := by
  unfold backL
  simp only [Blk.root]
  rw [if_neg (by omega)]
  simp only [pull, plLoc]
theorem plLoc_agree {ρ ρ' : Loc} {p : Pl} (ha : Agree N ρ ρ') (hp : p.blk.lt N) : plLoc ρ' p = plLoc ρ p := by
  cases p with
  | whole b => exact ha b hp
  | view b i m j n => simp only [plLoc]; rw [ha b hp]
  | trim b i m => simp only [plLoc]; rw [ha b hp]
theorem backL_out (hag : Agree k (pull f ρ ρh) ρ0.loc) (hf : ∀ i p, f i = some p → p.blk.lt N) {b : Blk} (hok : okB true b = true) : ρ0.loc b = (renB (outR f k N) b).bind (plLoc (backL ρ ρ0 k N)) := by
  cases b with
  | sub c i j => simp [okB] at hok
  | glob g =>
    have h0 := hag (.glob g) (fun n hn => by simp [Blk.root] at hn)
    rw [h0]
    simp only [renB, Option.bind_some, plLoc, pull, backL, Blk.root]
  | loc i =>
    simp only [renB, outR]
    split
    · rename_i h
      have h := Nat.le_of_ble_eq_true h
      simp only [Option.bind_some, plLoc]
      rw [backL_new (by omega)]
      congr 2; omega
    · rename_i h
      have hi : i < k := by
        rcases Nat.lt_or_ge i k with q | q
        · exact q
        · rw [Nat.ble_eq_true_of_le q] at h; simp at h
      rw [hag (.loc i) (fun n hn => by simp [Blk.root] at hn; omega)]
      simp only [pull]
      cases hfi : f i with
      | none => rfl
      | some p => simp only [Option.bind_some]; rw [plLoc_agree backL_agree (hf i p hfi)]
theorem ltRen_out : ∀ {m : Ren} {K : Prop}, ltRen N m K → (∀ i p, lookR m i = some p → p.blk.lt N) ∧ K
  | [], _, h => ⟨fun _ _ q => by simp [lookR] at q, h⟩
  | (j, o) :: r, _, h => by
    unfold ltRen at h
    have fin : ∀ {b : Blk} {K : Prop}, (∀ p, o = some p → p.blk = b) → ltB N b (ltRen N r K) → (∀ i p, lookR ((j, o) :: r) i = some p → p.blk.lt N) ∧ K := by
      intro b K hb h
      obtain ⟨h0, h⟩ := ltB_out h
      obtain ⟨h1, h2⟩ := ltRen_out h
      refine ⟨fun i p q => ?_, h2⟩
      unfold lookR at q
      split at q
      · rw [hb p q]; exact h0
      · exact h1 i p q
    split at h
    · obtain ⟨h1, h2⟩ := ltRen_out h
      refine ⟨fun i p q => ?_, h2⟩
      unfold lookR at q
      split at q
      · simp at q
      · exact h1 i p q
    · split at h <;> exact fin (fun p q => by simp at q; rw [← q]; rfl) h
theorem renC_out {N' : Nat} {c : Cont} {K : Cont → Prop} {b0 b : Blk} {F : Foot} {ρ1 ρ2 : Loc} {N1 : Nat} (hg : ∀ b : Blk, b.lt N1 → okB true b = true → ρ1 b = (renB g b).bind (plLoc ρ2)) (hb : ρ2 b = ρ1 b0) (hz : Agree 0 ρ1 ρ2) (hrt : b0.root ≠ none ∧ b.root ≠ none)
    (hh : HoldsE ρ1 N1 w true c b0 F) (hok : ContOk S c) (h : renC g N' c K) : ∃ c', K c' ∧ HoldsE ρ2 N' w true c' b F ∧ ContOk S c' := by
  cases c with
  | raw vs =>
    simp only [renC] at h
    have h1 := forceL_out h
    obtain ⟨hlt, hK⟩ := ltVs_out h1
    refine ⟨_, hK, ⟨?_, fun k c q => hh.2 k c (hb ▸ q)⟩, trivial⟩
    have hl := hh.raw.1
    unfold Lies at hl ⊢
    rw [hb]
    split at hl
    · have hl : vs = [] := hl
      subst hl; rfl
    · obtain ⟨arr, T, fz, q1, q2, q3, q4⟩ := hl
      exact ⟨arr, T, fz, q1, q2, q3, by rw [renVs_length]; exact q4.1, by rw [renVs_length]; exact renVs_rel hg q4.2.2 q4.2.1, hlt⟩
  | arr E xs =>
    refine ⟨_, h, ⟨?_, fun k c q => hh.2 k c (hb ▸ q)⟩, hok⟩
    obtain ⟨T0, hE⟩ := hok
    have hl := hh.arr.1
    unfold Lies at hl ⊢
    rw [hb]
    split at hl
    · exact hl
    · obtain ⟨arr, T, fz, q1, q2, q3, q4⟩ := hl
      exact ⟨arr, T, fz, q1, q2, q3, q4.1, fun i hi => ⟨VRels.agree hz (hE.plain _ 0) (q4.2 i hi).1, hE.plain _ _⟩⟩
  | nest m d g' s f' xs o =>
    simp only [renC] at h
    unfold renO at h
    split at h
    · exact ⟨_, h, HoldsN.ren hok hh hz hb hrt trivial, hok⟩
    · split at h
      rename_i i cs
      have h1 := forceL_out h
      obtain ⟨hlt, hK⟩ := ltVs_out h1
      refine ⟨_, hK, HoldsN.ren hok hh hz hb hrt ⟨rfl, by simp only; rw [renVs_length], hlt, fun rs q => ?_⟩, hok⟩
      have := hh.2.2.2.2.1
      exact renVs_rel hg this q
def NewFit (S : Seat) (ρ0 : Lay) (ρ' : Loc) (H' : Heap) (g : Nat → Option Pl) (l0 : List Ent) (k N' : Nat) (w' : World) (e : Ent) : Prop :=
  e.rw = true ∧ (e.b.lt N' ∧ e.b.isKey) ∧ ContOk S e.c ∧ ∃ x ∈ H'.ents, x.rw = true ∧ renB g x.b = some (.whole e.b) ∧ ((∃ i, x.b = .loc i ∧ k ≤ i) ∨ ∃ y ∈ l0, y.b = x.b ∧ y.rw = true) ∧ HoldsE ρ' N' w' true e.c e.b (ρ0.foot x.b)
theorem newEnts_out {H' : Heap} {ρ' : Loc} (hH : HRel S ρ0 H' w') {l0 : List Ent} {N' : Nat} (hg : ∀ b : Blk, okB true b = true → ρ0.loc b = (renB g b).bind (plLoc ρ')) (hz : Agree 0 ρ0.loc ρ') (hgr : ∀ b B, b.root ≠ none → renB g b = some (.whole B) → (∃ i, b = .loc i ∧ k ≤ i) ∨ (∃ y ∈ l0, y.b = b ∧ y.rw = true) → B.root ≠ none) :
    ∀ {l : List Ent} {K : List Ent → Prop}, (∀ e ∈ l, e ∈ H'.ents) → newEnts g l0 k N' l K → ∃ n, K n ∧ ∀ e ∈ n, NewFit S ρ0 ρ' H' g l0 k N' w' e
  | [], K, _, h => ⟨[], h, by simp⟩
  | e :: r, K, hm, h => by
    have hr := fun (K : List Ent → Prop) (h : newEnts g l0 k N' r K) => newEnts_out (K := K) hH hg hz hgr (l := r) (fun x hx => hm x (List.mem_cons_of_mem _ hx)) h
    unfold newEnts at h
    split at h
    · rename_i b0 c
      have hin := hm _ List.mem_cons_self
      split at h
      · exact hr K h
      · rename_i hcond
        have hwho : (∃ i, b0 = .loc i ∧ k ≤ i) ∨ ∃ y ∈ l0, y.b = b0 ∧ y.rw = true := by
          simp only [Bool.or_eq_true] at hcond
          rcases hcond with q | q
          · left
            split at q
            · exact ⟨_, rfl, Nat.le_of_ble_eq_true q⟩
            · simp at q
          · right
            split at q
            · rename_i e1
              obtain ⟨q1, q2⟩ := getE_mem e1
              exact ⟨_, q1, q2, rfl⟩
            · simp at q
        split at h
        · exact hr K h
        · rename_i p hb
          split at h
          · rename_i b
            have h1 := blkK_out h
            obtain ⟨hk, h2⟩ := keyK_out h1
            clear h h1
            have hroot := hH.root _ hin rfl
            have hbk := (hH.key _ hin).2
            simp only at hroot hbk
            have hokb : okB true b0 = true := by cases b0 <;> first | rfl | exact hbk.elim
            have hρ := hg b0 hokb
            rw [hb] at hρ
            obtain ⟨c', h3, hh, hok⟩ := renC_out (S := S) (b0 := b0) (b := b) (fun b _ q => hg b q) hρ.symm hz ⟨hroot, hgr b0 b hroot hb hwho⟩ (hH.holds _ hin) (hH.enc _ hin) h2
            obtain ⟨n, h4, h5⟩ := hr _ h3
            refine ⟨_, h4, fun x hx => ?_⟩
            rcases List.mem_cons.1 hx with rfl | hx
            · exact ⟨rfl, hk, hok, _, hin, rfl, hb, hwho, hh⟩
            · exact h5 x hx
          · exact hr K h
          · exact h.elim
    · exact hr K h
end
end Go.Vm
