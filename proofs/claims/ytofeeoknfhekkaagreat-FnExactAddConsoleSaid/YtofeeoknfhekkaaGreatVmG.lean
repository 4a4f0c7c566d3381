/- An abstract machine over the loaded code: an element that has blocks of its own is opened, and closed. -/
import Derived.Test.YtofeeoknfhekkaaGreatVmF
set_option linter.unusedSimpArgs false
set_option linter.unusedVariables false
set_option linter.constructorNameAsVariable false
namespace Go.Vm
open Go.RowKit

/-- what is closed, under another name -/
theorem HoldsE.ren0 {S : Seat} {ρ ρ' : Loc} {N N' : Nat} {w : World} {c : Cont} {b1 b2 : Blk} {F : Foot} (hok : ContOk S c) (hcl : c.closed) (h : HoldsE ρ N w true c b1 F) (h0 : Agree 0 ρ ρ') (h12 : ρ' b2 = ρ b1) (hrt : b1.root ≠ none ∧ b2.root ≠ none) : HoldsE ρ' N' w true c b2 F := by
  cases c with
  | raw vs => exact hcl.elim
  | arr E xs =>
    refine ⟨?_, fun k c q => h.2 k c (h12 ▸ q)⟩
    have hl := h.1
    obtain ⟨T, hE⟩ := hok
    unfold Lies at hl ⊢
    rw [h12]
    split at hl
    · exact hl
    · obtain ⟨arr, T, fz, h1, h2, h3, h4, h5⟩ := hl
      exact ⟨arr, T, fz, h1, h2, h3, h4, fun i hi => ⟨VRels.agree h0 (hE.plain _ 0) (h5 i hi).1, hE.plain _ _⟩⟩
  | nest m d g s f xs o =>
    have ho : o = none := hcl
    subst ho
    exact HoldsN.ren hok h h0 h12 hrt trivial

def namesAt (N : Nat) : Nat → Blk := fun j => .loc (N + j)
def entsAt {α : Type} (N : Nat) (f : α → Nat → Cont) (x : α) : List Nat → (List Ent → Prop) → Prop
  | [], K => K []
  | j :: r, K => natK (N + j) fun n => entsAt N f x r fun l => K (⟨.loc n, true, f x j⟩ :: l)
def slotsOk (r : Nat) : List Nat → Bool
  | [] => true
  | j :: t => match Nat.blt j r with
    | true => slotsOk r t
    | false => false
def noDup : List Nat → Bool
  | [] => true
  | j :: t => (t.all fun k => !Nat.beq j k) && noDup t

/-- element i0 of block nb is opened -/
def openA (S : Seat) (nb : Nat) (i0 : Int) (σ : St) (K : St → Prop) : Prop :=
  match σ with
  | ⟨env, H, n, lo⟩ => match H with
    | ⟨l, N⟩ => match getE l (.loc nb) with
      | some e => match e.rw, e.c with
        | true, .nest m d g s f xs none => match slotsOk s.length s, noDup s with
          | true, true => (0 ≤ i0 ∧ i0 < xs.length) ∧ natK (N + s.length) fun N' => forceL (g (namesAt N) (xs.getD i0.toNat d)) fun cs => ltVs N' cs (entsAt N f (xs.getD i0.toNat d) s fun new => setK l (.loc nb) (.nest m d g s f xs (some (i0, cs))) fun l =>
              match new ++ l with
              | l => K ⟨env, ⟨l, N'⟩, n, lo⟩)
          | _, _ => False
        | _, _ => False
      | none => False

section
variable {S : Seat} {ρ : Lay} {H : Heap} {w : World} {N : Nat}

theorem slotsOk_out {r : Nat} : ∀ {s : List Nat}, slotsOk r s = true → ∀ j ∈ s, j < r
  | [], _, j, hj => by simp at hj
  | a :: t, h, j, hj => by
    unfold slotsOk at h
    split at h
    · rename_i e
      rcases List.mem_cons.1 hj with rfl | hj
      · simpa [Nat.blt_eq] using e
      · exact slotsOk_out h j hj
    · simp at h
theorem noDup_out : ∀ {s : List Nat}, noDup s = true → s.Pairwise (· ≠ ·)
  | [], _ => .nil
  | a :: t, h => by
    simp only [noDup, Bool.and_eq_true, List.all_eq_true] at h
    refine List.pairwise_cons.2 ⟨fun b hb q => ?_, noDup_out h.2⟩
    have := h.1 b hb
    rw [q] at this
    simp at this
def entsL {α : Type} (N : Nat) (f : α → Nat → Cont) (x : α) (s : List Nat) : List Ent := s.map fun j => ⟨.loc (N + j), true, f x j⟩
theorem entsAt_out {α : Type} {N : Nat} {f : α → Nat → Cont} {x : α} : ∀ {s : List Nat} {K : List Ent → Prop}, entsAt N f x s K → K (entsL N f x s)
  | [], _, h => h
  | j :: r, K, h => by
    unfold entsAt at h
    have h := natK_out h
    exact entsAt_out (K := fun l => K (⟨.loc (N + j), true, f x j⟩ :: l)) h

open Classical in
theorem Turn.open (hS : SeatOk S) {nb : Nat} {i0 : Int} {σ τ : St} (h : openA S nb i0 σ (fun σ' => σ' = τ)) : Turn S σ τ := by
  intro ρ0 H0 w0 ρ a w hi
  obtain ⟨env, ⟨l, N⟩, n, lo⟩ := σ
  simp only [openA] at h
  split at h
  · rename_i e he
    split at h
    · rename_i α m d g s f xs hrw hec
      obtain ⟨b, rw, c⟩ := e
      simp only at hrw hec
      subst hrw; subst hec
      obtain ⟨hmem, hkey⟩ := getE_mem he
      simp only at hkey
      subst hkey
      split at h
      · rename_i hs1 hs2
        have hs1 := slotsOk_out hs1
        have hs2 := noDup_out hs2
        obtain ⟨⟨hi0, hi1⟩, h⟩ := h
        have h := natK_out h
        have h := forceL_out h
        obtain ⟨hlts, h⟩ := ltVs_out h
        have h := entsAt_out (K := fun new => setK l (.loc nb) (.nest m d g s f xs (some (i0, g (namesAt N) (xs.getD i0.toNat d)))) fun l => match new ++ l with | l => (⟨env, ⟨l, N + s.length⟩, n, lo⟩ : St) = τ) h
        have h := setK_out h
        subst h
        obtain ⟨p, rfl⟩ := Int.eq_ofNat_of_zero_le hi0
        have hp : p < xs.length := by omega
        simp only [Int.toNat_natCast] at hlts ⊢
        have hH := hi.after.heap
        simp only at hH
        have hok := hH.enc _ hmem
        have hlt := (hH.key _ hmem).1
        simp only at hok hlt
        have hhold := hH.holds _ hmem
        simp only at hhold
        obtain ⟨⟨ρ1, o1, ⟨g1, g2⟩, Fs, g3, g4, g5⟩, _⟩ := hhold
        obtain ⟨g5, g6⟩ := g5 rfl
        obtain ⟨⟨T0, hT⟩, hsub⟩ := hok
        have hok' : ContOk S (.nest m d g s f xs none) := ⟨⟨T0, hT⟩, hsub⟩
        have hself : ρ1 (.loc nb) = ρ (.loc nb) := o1 _ (not_under_self _)
        -- the new layout
        let loc' : Loc := fun b' => match b' with
          | .loc q => if N ≤ q ∧ q - N ∈ s then ρ1 (.sub (.loc nb) (p : Int) (q - N)) else ρ (.loc q)
          | b' => ρ b'
        let foot' : Blk → Foot := fun b' => match b' with
          | .loc q => if N ≤ q ∧ q - N ∈ s then Fs p (q - N) else if q = nb then fun k c => ρ.foot (.loc nb) k c ∧ ∀ j ∈ s, ¬ Fs p j k c else ρ.foot (.loc q)
          | b' => ρ.foot b'
        let ρ' : Lay := ⟨loc', foot'⟩
        have hag : Agree N ρ.loc loc' := fun b' hb' => by
          cases b' with
          | loc q => have := hb' q rfl; simp only [loc']; rw [if_neg (by omega)]
          | glob g => rfl
          | sub _ _ _ => rfl
        have hnew : ∀ j ∈ s, loc' (.loc (N + j)) = ρ1 (.sub (.loc nb) (p : Int) j) := fun j hj => by
          simp only [loc', Nat.add_sub_cancel_left]; rw [if_pos ⟨by omega, hj⟩]
        have hfnew : ∀ j ∈ s, foot' (.loc (N + j)) = Fs p j := fun j hj => by
          simp only [foot', Nat.add_sub_cancel_left]; rw [if_pos ⟨by omega, hj⟩]
        have hnbN : nb < N := hlt nb rfl
        have hfnb : foot' (.loc nb) = fun k c => ρ.foot (.loc nb) k c ∧ ∀ j ∈ s, ¬ Fs p j k c := by
          simp only [foot']; rw [if_neg (by omega), if_pos trivial]
        have hfold : ∀ b', b'.lt N → b' ≠ .loc nb → foot' b' = ρ.foot b' := by
          intro b' hb' hne
          cases b' with
          | loc q =>
            have := hb' q rfl
            simp only [foot']
            rw [if_neg (by omega), if_neg fun q' => hne (by rw [q'])]
          | glob g => rfl
          | sub _ _ _ => rfl
        have h01 : Agree 0 ρ1 loc' := fun b' hb' => by
          have hr : b'.root = none := by cases h : b'.root with | none => rfl | some n => exact absurd (hb' n h) (by omega)
          rw [hag b' (hb'.mono (Nat.zero_le _)), o1 b' fun hu => by rw [hu.root] at hr; simp [Blk.root] at hr]
        have hlive : liveP none p := trivial
        -- entries of the new heap
        have hmemE := setE_mem (c := .nest m d g s f xs (some ((p : Int), g (namesAt N) (xs.getD p d)))) he hH.keys
        have hents : ∀ x ∈ entsL N f (xs.getD p d) s ++ setE l (.loc nb) (.nest m d g s f xs (some ((p : Int), g (namesAt N) (xs.getD p d)))), (∃ j ∈ s, x = ⟨.loc (N + j), true, f (xs.getD p d) j⟩) ∨ x = ⟨.loc nb, true, .nest m d g s f xs (some ((p : Int), g (namesAt N) (xs.getD p d)))⟩ ∨ (x ∈ l ∧ x.b ≠ .loc nb) := by
          intro x hx
          rcases List.mem_append.1 hx with hx | hx
          · left
            simp only [entsL, List.mem_map] at hx
            obtain ⟨j, hj, rfl⟩ := hx
            exact ⟨j, hj, rfl⟩
          · right
            rcases hmemE x hx with rfl | q
            · exact .inl rfl
            · exact .inr q
        have hFsub : ∀ j ∈ s, ∀ k c, Fs p j k c → ρ.foot (.loc nb) k c := fun j hj => g4 p hp hlive j hj
        have hout : ∀ x ∈ l, x.b ≠ .loc nb → Disj (ρ.foot (.loc nb)) (ρ.foot x.b) := fun x hx hne => hH.sep _ hmem x hx (.inl rfl) (Ne.symm hne)
        refine ⟨ρ', ⟨fun t => ?_, hi.size, hi.defers, hi.lo, ?_⟩⟩
        · exact ⟨VRel.agree hag (hi.env t).2 (hi.env t).1, (hi.env t).2.mono (by simp)⟩
        refine ⟨?_, ?_, ⟨?_, ?_, ?_, ?_, ?_, ?_, ?_, ?_⟩, hi.after.size, hi.after.frame, ?_, hi.after.os, hi.after.tape, hi.after.output⟩
        · exact Nat.le_trans hi.after.next (Nat.le_add_right _ _)
        · intro b' hb'
          show loc' b' = _
          rw [hag b' (hb'.mono hi.after.next)]
          exact hi.after.agree b' hb'
        · -- all holds
          intro x hx
          show HoldsE loc' _ _ _ _ _ (foot' x.b)
          rcases hents x hx with ⟨j, hj, rfl⟩ | rfl | ⟨q1, q2⟩
          · simp only
            rw [hfnew j hj]
            exact HoldsE.ren0 (hsub _ _).1 (hsub _ _).2 ((g3 p hp hlive j hj).toE (hsub _ _).2) h01 (hnew j hj) ⟨by simp [Blk.root], by simp [Blk.root]⟩
          · simp only
            rw [hfnb]
            have hagm : Agree N ρ1 (mixL (.loc nb) ρ1 loc') := mixL_agree o1 hag
            have hreg : ∀ k c, regF (ρ1 (.loc nb)) k c → ρ.foot (.loc nb) k c ∧ ∀ j ∈ s, ¬ Fs p j k c := fun k c q => ⟨g2 k c q, fun j hj q2 => g5 p hp hlive j hj k c q q2⟩
            refine ⟨⟨mixL (.loc nb) ρ1 loc', mixL_off _ _ _, ⟨?_, fun k c q => hreg k c (hagm _ hlt ▸ q)⟩, Fs, fun i hi hl j hj => ?_, fun i hi hl j hj k c q => ⟨g4 i hi trivial j hj k c q, fun j' hj' q2 => ?_⟩, fun _ => ⟨fun i hi hl j hj => by rw [hagm _ hlt]; exact g5 i hi trivial j hj, fun i hi hl j hj i' hi' hl' j' hj' => g6 i hi trivial j hj i' hi' trivial j' hj'⟩⟩, ?_⟩
            · have hl := g1
              unfold Lies at hl ⊢
              rw [hagm _ hlt]
              split at hl
              · rw [hl.1] at hp; simp at hp
              · obtain ⟨arr, T, fz, k1, k2, k3, k4, k5⟩ := hl
                refine ⟨arr, T, fz, k1, k2, k3, ?_, fun i hi hl => VRels.agree hagm (hT.lt _ _ _ fun j _ => hlt.sub) (k5 i hi trivial)⟩
                simp only [totalN, Int.toNat_natCast] at k4 ⊢
                rw [Nat.max_eq_left (by omega)]
                exact k4
            · exact Holds.turn (hsub _ _).1 (g3 i hi trivial j hj) hlt.sub hagm (by simp) (.refl _ _)
            · have hne : (i : Int) ≠ p := hl
              exact g6 i hi trivial j hj p hp hlive j' hj' (fun q => by simp at q; omega) k c q q2
            · have hl := g1
              unfold Lies at hl
              split at hl
              · rw [hl.1] at hp; simp at hp
              · rename_i k z hb
                obtain ⟨arr, T, fz, k1, k2, k3, k4, k5⟩ := hl
                refine ⟨by omega, by omega, hT.len _ _, hlts, k, z, arr, T, fz, ?_, k1, ?_⟩
                · rw [hag _ hlt, ← hself]; exact hb
                · simp only [Int.toNat_natCast]
                  exact hT.ren _ _ _ _ _ _ (fun j hj => hnew j hj) (k5 p hp trivial)
          · rw [hfold x.b (hH.key x q1).1 q2]
            exact (hH.holds x q1).turn (hH.enc x q1) (hH.key x q1).1 hag (by simp) (.refl _ _)
        · intro x hx
          rcases hents x hx with ⟨j, hj, rfl⟩ | rfl | ⟨q1, q2⟩
          · exact ⟨fun q hq => by simp [Blk.root] at hq; have := hs1 j hj; simp only; omega, trivial⟩
          · exact ⟨hlt.mono (by simp), trivial⟩
          · exact ⟨(hH.key x q1).1.mono (by simp), (hH.key x q1).2⟩
        · -- all lies apart
          intro x hx y hy hor hne
          show Disj (foot' x.b) (foot' y.b)
          rcases hents x hx with ⟨j, hj, rfl⟩ | rfl | ⟨q1, q2⟩ <;> rcases hents y hy with ⟨j', hj', rfl⟩ | rfl | ⟨r1, r2⟩
          · simp only
            rw [hfnew j hj, hfnew j' hj']
            exact g6 p hp hlive j hj p hp hlive j' hj' (fun q => hne (by simp at q; rw [q]))
          · simp only
            rw [hfnew j hj, hfnb]
            exact fun k c a b => b.2 j hj a
          · simp only
            rw [hfnew j hj, hfold y.b (hH.key y r1).1 r2]
            exact fun k c a b => hout y r1 r2 k c (hFsub j hj k c a) b
          · simp only
            rw [hfnew j' hj', hfnb]
            exact fun k c a b => a.2 j' hj' b
          · exact absurd rfl hne
          · simp only
            rw [hfnb, hfold y.b (hH.key y r1).1 r2]
            exact fun k c a b => hout y r1 r2 k c a.1 b
          · simp only
            rw [hfnew j' hj', hfold x.b (hH.key x q1).1 q2]
            exact fun k c a b => hout x q1 q2 k c (hFsub j' hj' k c b) a
          · simp only
            rw [hfnb, hfold x.b (hH.key x q1).1 q2]
            exact fun k c a b => hout x q1 q2 k c b.1 a
          · rw [hfold x.b (hH.key x q1).1 q2, hfold y.b (hH.key y r1).1 r2]
            exact hH.sep x q1 y r1 hor hne
        · refine List.pairwise_append.2 ⟨?_, setE_keys hH.keys, fun x hx y hy => ?_⟩
          · simp only [entsL]
            rw [List.pairwise_map]
            exact hs2.imp fun h q => h (by simp at q; omega)
          · simp only [entsL, List.mem_map] at hx
            obtain ⟨j, hj, rfl⟩ := hx
            have hlty : y.b.lt N := by
              rcases hmemE y hy with rfl | q
              · exact hlt
              · exact (hH.key y q.1).1
            intro q
            have := hlty (N + j) (by rw [← q]; rfl)
            omega
        · intro g'
          obtain ⟨z, hz⟩ := hH.glob g'
          exact ⟨z, hz⟩
        · intro x hx
          rcases hents x hx with ⟨j, hj, rfl⟩ | rfl | ⟨q1, q2⟩
          · exact (hsub _ _).1
          · exact hok'
          · exact hH.enc x q1
        · intro x hx k c q
          have q : foot' x.b k c := q
          rcases hents x hx with ⟨j, hj, rfl⟩ | rfl | ⟨q1, q2⟩
          · simp only at q
            rw [hfnew j hj] at q
            exact hH.low _ hmem k c (hFsub j hj k c q)
          · simp only at q
            rw [hfnb] at q
            exact hH.low _ hmem k c q.1
          · rw [hfold x.b (hH.key x q1).1 q2] at q
            exact hH.low x q1 k c q
        · intro x hx hr
          rcases hents x hx with ⟨j, hj, rfl⟩ | rfl | ⟨q1, q2⟩
          · simp [Blk.root]
          · simp [Blk.root]
          · exact hH.root x q1 hr
        · rintro k c ⟨x, hx, hr, q⟩
          have q : foot' x.b k c := q
          refine hi.after.own k c ?_
          rcases hents x hx with ⟨j, hj, rfl⟩ | rfl | ⟨q1, q2⟩
          · simp only at q
            rw [hfnew j hj] at q
            exact ⟨_, hmem, rfl, hFsub j hj k c q⟩
          · simp only at q
            rw [hfnb] at q
            exact ⟨_, hmem, rfl, q.1⟩
          · rw [hfold x.b (hH.key x q1).1 q2] at q
            exact ⟨x, q1, hr, q⟩
      · exact h.elim
    · exact h.elim
  · exact h.elim
end
end Go.Vm

namespace Go.Vm
open Go.RowKit

def entsC {α : Type} (f : α → Nat → Cont) (x : α) : List Nat → List Ent
  | [] => []
  | j :: r => ⟨.loc j, true, f x j⟩ :: entsC f x r
/-- all places are whole blocks, and none is that -/
def wholeN (m : Ren) (nb : Nat) : List Nat → Bool
  | [] => true
  | j :: r => match lookR m j with
    | none => wholeN m nb r
    | some p => match p with
      | .whole B => match B with
        | .loc q => match Nat.beq q nb with
          | true => false
          | false => wholeN m nb r
        | _ => false
      | _ => false
def dropH (f : Nat → Option Pl) (l0 : List Ent) : List Ent → (List Ent → Prop) → Prop
  | [], K => K []
  | e :: r, K => match handed f e.b l0 with
    | true => dropH f l0 r K
    | false => dropH f l0 r fun r => K (e :: r)

/-- an element put into its place -/
def PutX {α : Type} (m : Nat) (d : α) (g : (Nat → Blk) → α → List AV) (s : List Nat) (f : α → Nat → Cont) (xs : List α) (i : Int) (x : α) (xs' : List α) (c : Cont) : Prop :=
  c = .nest m d g s f xs none ∧ ((i = xs.length ∧ xs' = xs ++ [x]) ∨ (0 ≤ i ∧ i < xs.length ∧ xs' = xs.set i.toNat x))

/-- the open element of block nb is closed: it is x, and the elements are then xs' -/
def closeA (S : Seat) (nb : Nat) {α : Type} (m : Nat) (d : α) (g : (Nat → Blk) → α → List AV) (s : List Nat) (f : α → Nat → Cont) (xs : List α) (x : α) (xs' : List α) (σ : St) (K : St → Prop) : Prop :=
  match σ with
  | ⟨env, H, n, lo⟩ => match H with
    | ⟨l, N⟩ => match getE l (.loc nb) with
      | some e => match e.rw, openOf e.c with
        | true, some p => match p with
          | (i0, cs) => PutX m d g s f xs i0 x xs' (stripO e.c) ∧ match noDup s with
            | false => False
            | true => learnVs (entsC f x s) l (g .loc x) cs [] fun mr => learnH (entsC f x s) l (entsC f x s) mr fun mr => match wholeN mr nb s with
              | false => False
              | true => fitVs true (lookR mr) (g .loc x) cs (ltVs 100 (g .loc x) (fitEnts S true (lookR mr) 100 ⟨l, N⟩ (entsC f x s) (pairsK (lookR mr) (entsC f x s)
                  (dropH (lookR mr) (entsC f x s) l fun l => setK l (.loc nb) (.nest m d g s f xs' none) fun l => K ⟨env, ⟨l, N⟩, n, lo⟩))))
        | _, _ => False
      | none => False

/-- the first step within a block -/
noncomputable def child (b : Blk) : Blk → Option (Int × Nat)
  | .sub c i j => match Classical.propDecidable (c = b) with
    | .isTrue _ => some (i, j)
    | .isFalse _ => child b c
  | _ => none
theorem child_self (b : Blk) (i : Int) (j : Nat) : child b (.sub b i j) = some (i, j) := by
  unfold child
  split
  · rfl
  · rename_i h _; exact absurd rfl h
theorem child_sub {b c : Blk} (h : Under b c) (i : Int) (j : Nat) : child b (.sub c i j) = child b c := by
  conv => lhs; unfold child
  split
  · rename_i h2 _; rw [h2] at h; exact absurd h (not_under_self b)
  · rfl
theorem child_ext {b : Blk} : ∀ (p : List (Int × Nat)) {c : Blk}, Under b c → child b (ext c p) = child b c
  | [], _, _ => rfl
  | (i, j) :: p, c, h => by
    show child b (ext (.sub c i j) p) = _
    rw [child_ext p (c := .sub c i j) (.inr h), child_sub h]

section
variable {S : Seat} {ρ : Lay} {H : Heap} {w : World} {N : Nat}

theorem entsC_mem {α : Type} {f : α → Nat → Cont} {x : α} : ∀ {s : List Nat} {e : Ent}, e ∈ entsC f x s → ∃ j ∈ s, e = ⟨.loc j, true, f x j⟩
  | [], _, h => by simp [entsC] at h
  | a :: r, e, h => by
    rcases List.mem_cons.1 h with rfl | h
    · exact ⟨a, List.mem_cons_self, rfl⟩
    · obtain ⟨j, hj, q⟩ := entsC_mem h
      exact ⟨j, List.mem_cons_of_mem _ hj, q⟩
theorem mem_entsC {α : Type} {f : α → Nat → Cont} {x : α} : ∀ {s : List Nat} {j : Nat}, j ∈ s → (⟨.loc j, true, f x j⟩ : Ent) ∈ entsC f x s
  | a :: r, j, h => by
    rcases List.mem_cons.1 h with rfl | h
    · exact List.mem_cons_self
    · exact List.mem_cons_of_mem _ (mem_entsC h)
theorem wholeN_out {m : Ren} {nb : Nat} : ∀ {s : List Nat}, wholeN m nb s = true → ∀ j ∈ s, ∀ p, lookR m j = some p → ∃ q, p = .whole (.loc q) ∧ q ≠ nb
  | [], _, j, hj, _, _ => by simp at hj
  | a :: r, h, j, hj, p, hp => by
    unfold wholeN at h
    split at h
    · rename_i e
      rcases List.mem_cons.1 hj with rfl | hj
      · rw [e] at hp; simp at hp
      · exact wholeN_out h j hj p hp
    · rename_i p' e
      split at h
      · split at h
        · split at h
          · simp at h
          · rename_i q0 hq
            rcases List.mem_cons.1 hj with rfl | hj
            · rw [e] at hp
              simp at hp
              exact ⟨_, hp.symm, fun h => by rw [h, Nat.beq_refl] at hq; cases hq⟩
            · exact wholeN_out h j hj p hp
        · simp at h
      · simp at h
theorem dropH_out {f : Nat → Option Pl} {l0 : List Ent} : ∀ {l : List Ent} {K : List Ent → Prop}, dropH f l0 l K → ∃ r, K r ∧ r.Sublist l ∧ (∀ e ∈ r, handed f e.b l0 = false) ∧ ∀ e ∈ l, handed f e.b l0 = false → e ∈ r
  | [], K, h => ⟨[], h, .slnil, by simp, by simp⟩
  | e :: r, K, h => by
    unfold dropH at h
    split at h
    · rename_i hh
      obtain ⟨r', k1, k2, k3, k4⟩ := dropH_out h
      refine ⟨r', k1, k2.cons _, k3, fun x hx hn => ?_⟩
      rcases List.mem_cons.1 hx with rfl | hx
      · rw [hh] at hn; simp at hn
      · exact k4 x hx hn
    · rename_i hh
      obtain ⟨r', k1, k2, k3, k4⟩ := dropH_out h
      refine ⟨_, k1, k2.cons_cons _, fun x hx => ?_, fun x hx hn => ?_⟩
      · rcases List.mem_cons.1 hx with rfl | hx
        · exact hh
        · exact k3 x hx
      · rcases List.mem_cons.1 hx with rfl | hx
        · exact List.mem_cons_self
        · exact List.mem_cons_of_mem _ (k4 x hx hn)

open Classical in
theorem Turn.close (hS : SeatOk S) {nb : Nat} {α : Type} {m : Nat} {d : α} {g : (Nat → Blk) → α → List AV} {s : List Nat} {f : α → Nat → Cont} {xs : List α} {x : α} {xs' : List α} {σ τ : St} (h : closeA S nb m d g s f xs x xs' σ (fun σ' => σ' = τ)) : Turn S σ τ := by
  intro ρ0 H0 w0 ρ a w hi
  obtain ⟨env, ⟨l, N⟩, n, lo⟩ := σ
  simp only [closeA] at h
  split at h
  · rename_i e he
    split at h
    · rename_i p hrw hop
      obtain ⟨i0, cs⟩ := p
      obtain ⟨b, rw, c⟩ := e
      simp only at hrw hop h
      subst hrw
      obtain ⟨hmem, hkey⟩ := getE_mem he
      simp only at hkey
      subst hkey
      obtain ⟨⟨hc, hput⟩, h⟩ := h
      -- the content
      have hc' : c = .nest m d g s f xs (some (i0, cs)) := by
        cases c with
        | raw vs => simp [openOf] at hop
        | arr E xs => simp [openOf] at hop
        | nest m' d' g' s' f' ys o' =>
          simp only [stripO] at hc
          simp only [openOf] at hop
          subst hop
          injection hc with e0 e1 e2 e3 e4 e5 e6
          subst e0
          have e1 := eq_of_heq (heq_of_eq e1)
          subst e1
          have e2 := eq_of_heq e2; have e3 := eq_of_heq e3; have e5 := eq_of_heq e5; have e6 := eq_of_heq e6
          subst e2; subst e3; subst e5; subst e6
          subst e4
          rfl
      subst hc'
      split at h
      · exact h.elim
      · rename_i hdup
        have hs2 := noDup_out hdup
        obtain ⟨m0, h⟩ := learnVs_out h
        obtain ⟨mr, h⟩ := learnH_out h
        split at h
        · exact h.elim
        · rename_i hwh
          have hwh := wholeN_out hwh
          have hH := hi.after.heap
          simp only at hH
          obtain ⟨ρh, hhid⟩ := hH.hidden
          have hlenC := fitVs_length h
          obtain ⟨hcs, h⟩ := fitVs_out (ρ := ρ) (ρh := ρh) (fun q => by cases q) h
          obtain ⟨hcl, h⟩ := ltVs_out h
          obtain ⟨hfit, h⟩ := fitEnts_out hS hH hhid h
          obtain ⟨hp, h⟩ := pairsK_out (ρ := ρ) (fun e q => (hfit e q).1.2) h
          obtain ⟨l1, h, hsubl, hnoth, hall⟩ := dropH_out h
          have h := setK_out h
          subst h
          have hok := hH.enc _ hmem
          have hlt := (hH.key _ hmem).1
          simp only at hok hlt
          have hhold := hH.holds _ hmem
          simp only at hhold
          obtain ⟨⟨ρ1, o1, ⟨g1, g2⟩, Fs, g3, g4, g5⟩, q1, q2, q3, q4, k, z, arr, T, fz, q5, q6, q7⟩ := hhold
          simp only at q1 q2 q3 q4 q5 q6 q7
          obtain ⟨g5, g6⟩ := g5 rfl
          obtain ⟨⟨T0, hT⟩, hsub⟩ := hok
          obtain ⟨p, rfl⟩ := Int.eq_ofNat_of_zero_le q1
          simp only [Int.toNat_natCast] at q7
          have hplen : p ≤ xs.length := by omega
          have hok' : ∀ (ys : List α) (o : Option (Int × List AV)), ContOk S (.nest m d g s f ys o) := fun _ _ => ⟨⟨T0, hT⟩, hsub⟩
          have hself : ρ1 (.loc nb) = ρ (.loc nb) := o1 _ (not_under_self _)
          have hb1 : ρ1 (.loc nb) = some (k, z) := hself.trans q5
          -- the thought blocks
          let ρt : Lay := pullL (lookR mr) ρ ρh
          have hthought : ∀ j ∈ s, HoldsE ρt.loc 100 w true (f x j) (.loc j) (ρt.foot (.loc j)) ∧ (renB (lookR mr) (.loc j) = none ∨ ∃ q y, renB (lookR mr) (.loc j) = some (.whole (.loc q)) ∧ q ≠ nb ∧ y ∈ l ∧ y.b = .loc q ∧ y.rw = true ∧ ρt.foot (.loc j) = ρ.foot y.b) := by
            intro j hj
            obtain ⟨_, h1, _, h2⟩ := hfit _ (mem_entsC (f := f) (x := x) hj)
            refine ⟨h1, h2.imp id ?_⟩
            rintro ⟨p, y, p1, p2, p3, p4, p5⟩
            simp only at p1 p3
            obtain ⟨q, rfl, hq⟩ := hwh j hj p p1
            refine ⟨q, y, p1, hq, p2, p3, (p4 rfl).1, ?_⟩
            show (pullL (lookR mr) ρ ρh).foot (.loc j) = _
            simp only [pullL, p1, footP]
            rw [p3]; rfl
          have hzt : Agree 0 ρ.loc ρt.loc := pull_agree0 (hhid.zero hH)
          -- each slot, with names of its own
          have hslot : ∀ j : Nat, ∃ ρj : Loc, j ∈ s → Off (.loc j) ρt.loc ρj ∧ Holds ρj 100 w true (f x j) (.loc j) (ρt.foot (.loc j)) := by
            intro j
            by_cases hj : j ∈ s
            · have h1 := (hthought j hj).1
              have hcl := (hsub x j).2
              cases hf : f x j with
              | raw vs => rw [hf] at hcl; exact hcl.elim
              | arr E ys => rw [hf] at h1; exact ⟨ρt.loc, fun _ => ⟨.refl _ _, h1⟩⟩
              | nest m' d' g' s' f' ys o' =>
                rw [hf] at h1
                obtain ⟨⟨ρj, r1, r2⟩, _⟩ := h1
                exact ⟨ρj, fun _ => ⟨r1, r2⟩⟩
            · exact ⟨ρt.loc, fun q => absurd q hj⟩
          let W : Nat → Loc := fun j => Classical.choose (hslot j)
          have hW : ∀ j ∈ s, Off (.loc j) ρt.loc (W j) ∧ Holds (W j) 100 w true (f x j) (.loc j) (ρt.foot (.loc j)) := fun j => Classical.choose_spec (hslot j)
          -- the names within
          let ρ2 : Loc := fun b' => match child (.loc nb) b' with
            | some (i, j) => if i = (p : Int) ∧ j ∈ s then W j (rebase (.sub (.loc nb) (p : Int) j) (.loc j) b') else ρ1 b'
            | none => ρ1 b'
          have hchildU : ∀ {b'}, ¬ Under (.loc nb) b' → child (.loc nb) b' = none := by
            intro b' hu
            induction b' with
            | loc _ => rfl
            | glob _ => rfl
            | sub c i j ih =>
              have h1 : c ≠ .loc nb := fun q => hu (.inl q)
              have h2 : ¬ Under (.loc nb) c := fun q => hu (.inr q)
              unfold child
              split
              · rename_i q _; exact absurd q h1
              · exact ih h2
          have hoff2 : Off (.loc nb) ρ.loc ρ2 := fun b' hu => by
            simp only [ρ2, hchildU hu]
            exact o1 b' hu
          have hself2 : ρ2 (.loc nb) = some (k, z) := by rw [hoff2 _ (not_under_self _)]; exact q5
          have hold2 : ∀ (i : Int) (j : Nat), i ≠ p → SameUnder ρ1 ρ2 (.sub (.loc nb) i j) (.sub (.loc nb) i j) := by
            intro i j hne q
            have hc := child_ext (b := .loc nb) q (c := .sub (.loc nb) i j) (.inl rfl)
            rw [child_self] at hc
            simp only [ρ2, hc]
            rw [if_neg fun h => hne h.1]
          have hnew2 : ∀ j ∈ s, SameUnder (W j) ρ2 (.loc j) (.sub (.loc nb) (p : Int) j) := by
            intro j hj q
            have hc := child_ext (b := .loc nb) q (c := .sub (.loc nb) (p : Int) j) (.inl rfl)
            rw [child_self] at hc
            simp only [ρ2, hc]
            rw [if_pos ⟨trivial, hj⟩, rebase_ext q _ _ (.inl rfl) (rebase_self _ _)]
          have hz1 : Agree 0 ρ1 ρ2 := fun b' hb' => by
            have hr : b'.root = none := by cases h : b'.root with | none => rfl | some n => exact absurd (hb' n h) (by omega)
            have hu : ¬ Under (.loc nb) b' := fun hu => by rw [hu.root] at hr; simp [Blk.root] at hr
            rw [hoff2 b' hu, o1 b' hu]
          have hzW : ∀ j ∈ s, Agree 0 (W j) ρ2 := fun j hj b' hb' => by
            have hr : b'.root = none := by cases h : b'.root with | none => rfl | some n => exact absurd (hb' n h) (by omega)
            have hu : ¬ Under (.loc nb) b' := fun hu => by rw [hu.root] at hr; simp [Blk.root] at hr
            have hu2 : ¬ Under (.loc j) b' := fun hu => by rw [hu.root] at hr; simp [Blk.root] at hr
            rw [hoff2 b' hu, (hW j hj).1 b' hu2, hzt b' hb']
          -- the new feet
          let G : Foot := fun k c => ρ.foot (.loc nb) k c ∨ ∃ j ∈ s, ρt.foot (.loc j) k c
          let ρ' : Lay := ⟨ρ.loc, fun b' => if b' = .loc nb then G else ρ.foot b'⟩
          have hfnb : ρ'.foot (.loc nb) = G := by simp only [ρ']; rw [if_pos trivial]
          have hfold : ∀ b', b' ≠ .loc nb → ρ'.foot b' = ρ.foot b' := fun b' q => by simp only [ρ']; rw [if_neg q]
          have hslotF : ∀ j ∈ s, Disj (ρ.foot (.loc nb)) (ρt.foot (.loc j)) := by
            intro j hj
            rcases (hthought j hj).2 with q | ⟨q, y, h1, h2, h3, h4, h5, h6⟩
            · intro k c _ r
              have r : (pullL (lookR mr) ρ ρh).foot (.loc j) k c := r
              simp only [pullL, q] at r
            · rw [h6]
              exact hH.sep _ hmem y h3 (.inl rfl) (by rw [h4]; simp; omega)
          have hthS := hH.pull hfit hp
          have hslotD : ∀ j ∈ s, ∀ j' ∈ s, j ≠ j' → Disj (ρt.foot (.loc j)) (ρt.foot (.loc j')) := fun j hj j' hj' hne =>
            hthS.sep _ (mem_entsC (f := f) (x := x) hj) _ (mem_entsC (f := f) (x := x) hj') (.inl rfl) (by simp; exact hne)
          have hxs' : xs'.length = max xs.length (p + 1) ∧ (∀ i, i < xs.length → i ≠ p → xs'.getD i d = xs.getD i d) ∧ xs'.getD p d = x := by
            rcases hput with ⟨e1, rfl⟩ | ⟨_, e1, rfl⟩
            · have e1 : p = xs.length := by omega
              subst e1
              refine ⟨by simp, fun i hi hne => by simp only [List.getD_eq_getElem?_getD, List.getElem?_append_left hi], by simp [List.getD_eq_getElem?_getD]⟩
            · have e1 : p < xs.length := by omega
              simp only [Int.toNat_natCast]
              exact ⟨by simp; omega, fun i hi hne => by simp only [List.getD_eq_getElem?_getD, List.getElem?_set_ne (Ne.symm hne)], by simp [List.getD_eq_getElem?_getD, e1]⟩
          obtain ⟨x1, x2, x3⟩ := hxs'
          have hidx : ∀ i, i < xs'.length → i = p ∨ (i < xs.length ∧ i ≠ p) := fun i hi => by omega
          have hliv : ∀ i : Nat, i ≠ p → liveP (some ((p : Int), cs)) i := fun i hne => by simp only [liveP]; omega
          let Fs' : Nat → Nat → Foot := fun i j => if i = p then ρt.foot (.loc j) else Fs i j
          have hraw : ∀ y j vs, f y j ≠ .raw vs := fun y j vs q => by have := (hsub y j).2; rw [q] at this; exact this
          have hbhold : HoldsE ρ.loc N w true (.nest m d g s f xs' none) (.loc nb) G := by
            refine ⟨⟨ρ2, hoff2, ⟨?_, fun k' c' q => ?_⟩, Fs', fun i hi _ j hj => ?_, fun i hi _ j hj k' c' q => ?_, fun _ => ⟨fun i hi _ j hj k' c' r1 r2 => ?_, fun i hi _ j hj i' hi' _ j' hj' hne k' c' r1 r2 => ?_⟩⟩, trivial⟩
            · simp only [Lies, hself2]
              simp only [Lies, hb1] at g1
              obtain ⟨arr2, T2, fz2, k1, k2, k3, k4, k5⟩ := g1
              rw [q6] at k1
              simp at k1
              obtain ⟨rfl, rfl, rfl⟩ := k1
              refine ⟨arr, T, fz, q6, k2, k3, ?_, fun i hi _ => ?_⟩
              · simp only [totalN, Int.toNat_natCast] at k4 ⊢
                rw [x1]; exact k4
              · rcases hidx i hi with rfl | ⟨hi', hne⟩
                · rw [x3]
                  refine hT.ren _ _ _ _ _ _ (fun j hj => ?_) (hcs _ q7)
                  rw [(hnew2 j hj).self, (hW j hj).1 _ (not_under_self _)]
                  rfl
                · rw [x2 i hi' hne]
                  exact hT.ren _ _ _ _ _ _ (fun j _ => (hold2 (i : Int) j (by omega)).self) (k5 i hi' (hliv i hne))
            · rw [hself2] at q
              exact .inl (g2 k' c' (by rw [hb1]; exact q))
            · rcases hidx i hi with rfl | ⟨hi', hne⟩
              · rw [x3]
                show Holds ρ2 N w true (f x j) _ (if i = i then ρt.foot (.loc j) else Fs i j)
                rw [if_pos rfl]
                exact Holds.ren (hzW j hj) (hsub _ _).1 (hraw _ _) (hnew2 j hj) (hW j hj).2
              · rw [x2 i hi' hne]
                simp only [Fs']
                rw [if_neg hne]
                exact Holds.ren hz1 (hsub _ _).1 (hraw _ _) (hold2 (i : Int) j (by omega)) (g3 i hi' (hliv i hne) j hj)
            · rcases hidx i hi with rfl | ⟨hi', hne⟩
              · simp only [Fs', if_true] at q
                exact .inr ⟨j, hj, q⟩
              · simp only [Fs'] at q
                rw [if_neg hne] at q
                exact .inl (g4 i hi' (hliv i hne) j hj k' c' q)
            · rw [hself2] at r1
              have r1' : regF (ρ1 (.loc nb)) k' c' := by rw [hb1]; exact r1
              rcases hidx i hi with rfl | ⟨hi', hne⟩
              · simp only [Fs', if_true] at r2
                exact hslotF j hj k' c' (g2 k' c' r1') r2
              · simp only [Fs'] at r2
                rw [if_neg hne] at r2
                exact g5 i hi' (hliv i hne) j hj k' c' r1' r2
            · simp only [Fs'] at r1 r2
              rcases hidx i hi with rfl | ⟨hi1, hne1⟩ <;> rcases hidx i' hi' with rfl | ⟨hi2, hne2⟩
              · rw [if_pos rfl] at r1 r2
                exact hslotD j hj j' hj' (fun q => hne (by rw [q])) k' c' r1 r2
              · rw [if_pos rfl] at r1
                rw [if_neg hne2] at r2
                exact hslotF j hj k' c' (g4 i' hi2 (hliv i' hne2) j' hj' k' c' r2) r1
              · rw [if_neg hne1] at r1
                rw [if_pos rfl] at r2
                exact hslotF j' hj' k' c' (g4 i hi1 (hliv i hne1) j hj k' c' r1) r2
              · rw [if_neg hne1] at r1
                rw [if_neg hne2] at r2
                exact g6 i hi1 (hliv i hne1) j hj i' hi2 (hliv i' hne2) j' hj' hne k' c' r1 r2
          -- the entries
          have hnbin : (⟨.loc nb, true, .nest m d g s f xs (some ((p : Int), cs))⟩ : Ent) ∈ l1 := by
            refine hall _ hmem ?_
            cases hh : handed (lookR mr) (.loc nb) (entsC f x s) with
            | false => rfl
            | true =>
              exfalso
              have : ∀ {l0 : List Ent}, handed (lookR mr) (.loc nb) l0 = true → ∃ y ∈ l0, renB (lookR mr) y.b = some (.whole (.loc nb)) := by
                intro l0
                induction l0 with
                | nil => intro h; simp [handed] at h
                | cons a r ih =>
                  intro h
                  unfold handed at h
                  split at h
                  · obtain ⟨y, h1, h2⟩ := ih h; exact ⟨y, List.mem_cons_of_mem _ h1, h2⟩
                  · split at h
                    · rename_i B hB
                      split at h
                      · rename_i hb; exact ⟨a, List.mem_cons_self, by rw [hB, Blk.beq_eq hb]⟩
                      · obtain ⟨y, h1, h2⟩ := ih h; exact ⟨y, List.mem_cons_of_mem _ h1, h2⟩
                    · obtain ⟨y, h1, h2⟩ := ih h; exact ⟨y, List.mem_cons_of_mem _ h1, h2⟩
              obtain ⟨y, y1, y2⟩ := this hh
              obtain ⟨j, hj, rfl⟩ := entsC_mem y1
              obtain ⟨q, q1, q2⟩ := hwh j hj _ y2
              simp at q1
              exact q2 q1.symm
          have hp1 := hH.keys.sublist hsubl
          have hget : getE l1 (.loc nb) = some ⟨.loc nb, true, .nest m d g s f xs (some ((p : Int), cs))⟩ := by
            have : ∀ {l : List Ent}, l.Pairwise (fun e e' => e.b ≠ e'.b) → ∀ {e : Ent}, e ∈ l → e.b.isKey → getE l e.b = some e := by
              intro l
              induction l with
              | nil => intro _ e he; simp at he
              | cons a r ih =>
                intro hp e he hk
                rw [List.pairwise_cons] at hp
                unfold getE
                rcases List.mem_cons.1 he with rfl | he
                · rw [Blk.beq_self hk]
                · have hne := hp.1 e he
                  have : Blk.beq a.b e.b = false := by
                    cases hb : Blk.beq a.b e.b with
                    | false => rfl
                    | true => exact absurd (Blk.beq_eq hb) hne
                  rw [this]
                  exact ih hp.2 he hk
            exact this hp1 hnbin trivial
          have hmemE := setE_mem (c := .nest m d g s f xs' none) hget hp1
          have hents : ∀ y ∈ setE l1 (.loc nb) (.nest m d g s f xs' none), y = ⟨.loc nb, true, .nest m d g s f xs' none⟩ ∨ (y ∈ l ∧ y.b ≠ .loc nb ∧ handed (lookR mr) y.b (entsC f x s) = false) := by
            intro y hy
            rcases hmemE y hy with rfl | q
            · exact .inl rfl
            · exact .inr ⟨hsubl.subset q.1, q.2, hnoth y q.1⟩
          have hGout : ∀ y ∈ l, y.b ≠ .loc nb → handed (lookR mr) y.b (entsC f x s) = false → Disj G (ρ.foot y.b) := by
            intro y hy hne hnh k' c' r1 r2
            rcases r1 with r1 | ⟨j, hj, r1⟩
            · exact hH.sep _ hmem y hy (.inl rfl) (Ne.symm hne) k' c' r1 r2
            · rcases (hthought j hj).2 with q | ⟨q, u, h1, h2, h3, h4, h5, h6⟩
              · have r1 : (pullL (lookR mr) ρ ρh).foot (.loc j) k' c' := r1
                simp only [pullL, q] at r1
              · rw [h6] at r1
                by_cases huy : u.b = y.b
                · exact handed_not (hH.key y hy).2 hnh _ (mem_entsC (f := f) (x := x) hj) rfl (by simp only; rw [h1, ← huy, h4])
                · exact hH.sep u h3 y hy (.inl h5) huy k' c' r1 r2
          have hGrw : ∀ k' c', G k' c' → RwF ρ ⟨l, N⟩ k' c' := by
            rintro k' c' (q | ⟨j, hj, q⟩)
            · exact ⟨_, hmem, rfl, q⟩
            · rcases (hthought j hj).2 with r | ⟨r, u, h1, h2, h3, h4, h5, h6⟩
              · have q : (pullL (lookR mr) ρ ρh).foot (.loc j) k' c' := q
                simp only [pullL, r] at q
              · rw [h6] at q
                exact ⟨u, h3, h5, q⟩
          refine ⟨ρ', ⟨hi.env, hi.size, hi.defers, hi.lo, ?_⟩⟩
          refine ⟨hi.after.next, hi.after.agree, ⟨?_, ?_, ?_, setE_keys hp1, hH.glob, ?_, ?_, ?_⟩, hi.after.size, hi.after.frame, ?_, hi.after.os, hi.after.tape, hi.after.output⟩
          · intro y hy
            rcases hents y hy with rfl | ⟨r1, r2, r3⟩
            · simp only
              rw [hfnb]
              exact hbhold
            · rw [hfold y.b r2]
              exact hH.holds y r1
          · intro y hy
            rcases hents y hy with rfl | ⟨r1, r2, r3⟩
            · exact ⟨hlt, trivial⟩
            · exact hH.key y r1
          · intro y hy y' hy' hor hne
            rcases hents y hy with rfl | ⟨r1, r2, r3⟩ <;> rcases hents y' hy' with rfl | ⟨s1, s2, s3⟩
            · exact absurd rfl hne
            · simp only
              rw [hfnb, hfold y'.b s2]
              exact hGout y' s1 s2 s3
            · simp only
              rw [hfnb, hfold y.b r2]
              exact (hGout y r1 r2 r3).symm
            · rw [hfold y.b r2, hfold y'.b s2]
              exact hH.sep y r1 y' s1 hor hne
          · intro y hy
            rcases hents y hy with rfl | ⟨r1, r2, r3⟩
            · exact hok' _ _
            · exact hH.enc y r1
          · intro y hy k' c' q
            rcases hents y hy with rfl | ⟨r1, r2, r3⟩
            · simp only at q
              rw [hfnb] at q
              obtain ⟨u, u1, u2, u3⟩ := hGrw k' c' q
              exact hH.low u u1 k' c' u3
            · rw [hfold y.b r2] at q
              exact hH.low y r1 k' c' q
          · intro y hy hr
            rcases hents y hy with rfl | ⟨r1, r2, r3⟩
            · simp [Blk.root]
            · exact hH.root y r1 hr
          · rintro k' c' ⟨y, hy, hr, q⟩
            refine hi.after.own k' c' ?_
            rcases hents y hy with rfl | ⟨r1, r2, r3⟩
            · simp only at q
              rw [hfnb] at q
              exact hGrw k' c' q
            · rw [hfold y.b r2] at q
              exact ⟨y, r1, hr, q⟩
    · exact h.elim
  · exact h.elim
end
end Go.Vm

namespace Go.Vm
open Go.RowKit

section
variable (S : Seat)
def StepC : Code → St → (St → Prop) → (Nat → St → Prop) → (St → Prop) → Prop
  | .skip, σ, kn, _, _ => Seal (kn σ)
  | .seq x y, σ, kn, ke, kr => Seal (Wp S x σ (fun σ => Seal (Wp S y σ kn ke kr)) ke kr)
  | .cond c x y, ⟨env, H, n, lo⟩, kn, ke, kr => match evA env c with
    | .tt => Seal (Wp S x ⟨env, H, n, lo⟩ kn ke kr)
    | .ff => Seal (Wp S y ⟨env, H, n, lo⟩ kn ke kr)
    | .prop p => match c with
      | .tmp t => (p → Seal (Wp S x ⟨(t, .tt) :: env, H, n, lo⟩ kn ke kr)) ∧ (¬p → Seal (Wp S y ⟨(t, .ff) :: env, H, n, lo⟩ kn ke kr))
      | _ => (p → Seal (Wp S x ⟨env, H, n, lo⟩ kn ke kr)) ∧ (¬p → Seal (Wp S y ⟨env, H, n, lo⟩ kn ke kr))
    | _ => False
  | .block id x, σ, kn, ke, kr => Seal (Wp S x σ kn (fun i σ => match Nat.beq i id with | true => kn σ | false => ke i σ) kr)
  | .exit id, σ, _, ke, _ => ke id σ
  | .ret, σ, _, _, kr => kr σ
  | .region _ ops d, ⟨env, H, n, lo⟩, kn, _, _ => match d with
    | false => Seal (opsA S ops.toList n lo ops.toList env H kn)
    | true => False
  | _, _, _, _, _ => False
end

section
variable {S : Seat} {σ : St} {kn : St → Prop} {ke : Nat → St → Prop} {kr : St → Prop} {env : List (Nat × AV)} {H HS : Heap} {n lo : Nat} {all : List Oper} {K : St → Prop}

/-- one step of code that is neither a loop nor a region that draws -/
theorem Wp.step (hS : SeatOk S) : ∀ {c : Code} {σ : St}, StepC S c σ kn ke kr → Wp S c σ kn ke kr
  | .skip, σ, h => wpA_skip hS h.out
  | .seq x y, σ, h => wpA_seq hS h
  | .cond c x y, ⟨env, H, n, lo⟩, h => wpA_cond hS h
  | .block id x, σ, h => wpA_block hS h
  | .exit id, σ, h => wpA_exit hS h
  | .ret, σ, h => wpA_ret hS h
  | .region id ops d, ⟨env, H, n, lo⟩, h => by
    cases d with
    | false => exact wpA_region hS rfl h
    | true => exact h.elim
  | .loop _, _, h | .rangeFunc _ _ _ _, _, h | .scope _, _, h | .label _, _, h | .goto _, _, h | .refuse _, _, h => h.elim

theorem opsA_step {l : List Oper} (h : match l with
    | [] => Seal (K ⟨env, H, n, lo⟩)
    | o :: r => wantA all o env
      (fun env => stepA S o.op (evA env) H fun v H' => putK o.dst n v env fun env => Seal (opsA S all n lo r env H' K))
      (fun env => putK o.dst n (.tup []) env fun env => Seal (opsA S all n lo r env H K))) : opsA S all n lo l env H K := by
  cases l with
  | nil => exact h.out
  | cons o r => exact opsA_cons h

def drawStep (S : Seat) (HS : Heap) (all : List Oper) (n lo : Nat) (p : PlanS) (env : List (Nat × AV)) (H : Heap) (K : St → Prop) : Prop := match p with
  | .done => Seal (K ⟨env, H, n, lo⟩)
  | .quick i r => match all[i]? with
    | none => False
    | some o => wantA all o env
      (fun env => match kindOf S o.op with
        | .pure => pureA S o.op (evA env) fun v => putK o.dst n v env fun env => Seal (drawS S HS all n lo r env H K)
        | _ => False)
      (fun env => putK o.dst n (.tup []) env fun env => Seal (drawS S HS all n lo r env H K))
  | .stable i r => match all[i]? with
    | none => False
    | some o => wantA all o env
      (fun env => stableA S o.op (evA env) HS fun v => putK o.dst n v env fun env => Seal (drawS S HS all n lo r env H K))
      (fun env => putK o.dst n (.tup []) env fun env => Seal (drawS S HS all n lo r env H K))
  | .read i r => match all[i]? with
    | none => False
    | some o => wantA all o env
      (fun env => stillOpA S o.op (evA env) H fun v => putK o.dst n v env fun env => Seal (drawS S HS all n lo r env H K))
      (fun env => putK o.dst n (.tup []) env fun env => Seal (drawS S HS all n lo r env H K))
  | .all c => Seal (drawS S HS all n lo c env H K)
  | .step i r => match all[i]? with
    | none => False
    | some o => wantA all o env
      (fun env => stepA S o.op (evA env) H fun v H' => putK o.dst n v env fun env => Seal (drawS S HS all n lo r env H' K))
      (fun env => putK o.dst n (.tup []) env fun env => Seal (drawS S HS all n lo r env H K))
  | .fork a b => Seal (drawS S HS all n lo a env H K) ∧ Seal (drawS S HS all n lo b env H K)
theorem drawS_go {p : PlanS} (h : drawStep S HS all n lo p env H K) : drawS S HS all n lo p env H K := by
  cases p <;> simp only [drawStep, seal_eq] at h <;> (unfold drawS; exact h)
end

theorem inR_i64 {n : Int} (h : -9223372036854775808 ≤ n) (h' : n ≤ 9223372036854775807) : inR .i64 n := ⟨h, h'⟩
theorem inR_u8 {n : Int} (h : 0 ≤ n) (h' : n ≤ 255) : inR .u8 n := ⟨h, h'⟩
/-- what is left of an end -/
theorem leaf {P : Prop} (h : P := by
    first
    | exact trivial
    | exact not_false
    | with_reducible rfl
    | with_reducible assumption
    | (with_reducible refine inR_i64 ?_ ?_) <;> omega
    | (with_reducible refine inR_u8 ?_ ?_) <;> omega
    | omega
    | exact rfl
    | exact Iff.rfl
    | exact PreC.self _ _
    | exact NestC.self
    | exact ⟨rfl, hint_u8⟩ | exact ⟨rfl, hint_i64⟩ | exact ⟨rfl, hint_bool⟩ | exact ⟨rfl, hint_pair⟩ | exact ⟨rfl, hint_str⟩ | exact ⟨rfl, hint_quad⟩ | exact ⟨rfl, hint_bytesN⟩ | exact ⟨rfl, hint_conN⟩
    | (simp only [inR, IntKind.bits, Int.reduceToNat, Int.reducePow]; omega)
    | (simp only [List.length_append, List.length_take, List.length_drop]; omega)
    | exact PreC.of_eq (by with_reducible assumption)
    | exact PreC.of_eq' (by with_reducible assumption)
    | exact NestC.of_eq (by with_reducible assumption)
    | exact PreC.self' _ _ _
    | exact PreC.pre (by with_reducible assumption)
    | (simp; done)
    | (simp; omega)
    | (simp [bytesL]; done)
    | (simp [bytesL]; omega)) : P := h
end Go.Vm
