/- An abstract machine over the loaded code: what is known fits what is thought. -/
import Derived.Test.YtofeeoknfhekkaaGreatVmC
import Derived.Deep.LoopGhost
set_option linter.unusedSimpArgs false
set_option linter.unusedVariables false
set_option linter.constructorNameAsVariable false
namespace Go.Vm
open Go.RowKit

/-- these elements, at least -/
def PreC {α : Type} (E : Enc α) (xs : List α) (c : Cont) : Prop := ∃ zs, c = .arr E (xs ++ zs)
theorem PreC.self {α : Type} (E : Enc α) (xs : List α) : PreC E xs (.arr E xs) := ⟨[], by rw [List.append_nil]⟩
theorem PreC.of_eq {α : Type} {E : Enc α} {xs ys : List α} (h : ys = xs) : PreC E xs (.arr E ys) := h ▸ .self E ys
theorem PreC.of_eq' {α : Type} {E : Enc α} {xs ys : List α} (h : xs = ys) : PreC E xs (.arr E ys) := h ▸ .self E xs
theorem PreC.pre {α : Type} {E : Enc α} {xs ys zs : List α} (h : ys = xs ++ zs) : PreC E xs (.arr E ys) := ⟨zs, by rw [h]⟩
theorem PreC.self' {α : Type} (E : Enc α) (xs zs : List α) : PreC E xs (.arr E (xs ++ zs)) := ⟨zs, rfl⟩
/-- these elements, all closed -/
def NestC {α : Type} (m : Nat) (d : α) (g : (Nat → Blk) → α → List AV) (s : List Nat) (f : α → Nat → Cont) (xs : List α) (c : Cont) : Prop := c = .nest m d g s f xs none
theorem NestC.self {α : Type} {m : Nat} {d : α} {g : (Nat → Blk) → α → List AV} {s : List Nat} {f : α → Nat → Cont} {xs : List α} : NestC m d g s f xs (.nest m d g s f xs none) := rfl
theorem NestC.of_eq {α : Type} {m : Nat} {d : α} {g : (Nat → Blk) → α → List AV} {s : List Nat} {f : α → Nat → Cont} {xs ys : List α} (h : ys = xs) : NestC m d g s f xs (.nest m d g s f ys none) := h ▸ rfl
/-- elements from one on -/
def TrimC {α : Type} (E : Enc α) (i : Int) (xs : List α) (c : Cont) : Prop := ∃ ys zs, c = .arr E ys ∧ 0 ≤ i ∧ i ≤ ys.length ∧ ys.drop i.toNat = xs ++ zs
def TrimN {α : Type} (m : Nat) (d : α) (g : (Nat → Blk) → α → List AV) (s : List Nat) (f : α → Nat → Cont) (i : Int) (xs : List α) (c : Cont) : Prop := ∃ ys, c = .nest m d g s f ys none ∧ 0 ≤ i ∧ i ≤ ys.length ∧ ys.drop i.toNat = xs

section
variable (S : Seat) (dn : Bool) (f : Nat → Option Pl) (N : Nat) (H : Heap)

def emptyC (c : Cont) (K : Prop) : Prop :=
  match c with
  | .raw vs => match vs with
    | [] => K
    | _ => False
  | .arr E xs => (xs = [] ∧ ∃ T, S.hint T = some ⟨_, E⟩) ∧ K
  | .nest m d g s f xs o => match o with
    | none => (xs = [] ∧ ∃ T, S.nest T = some ⟨_, m, d, g, s, f⟩) ∧ K
    | some _ => False

def stripO : Cont → Cont
  | .nest m d g s f xs _ => .nest m d g s f xs none
  | c => c
def openOf : Cont → Option (Int × List AV)
  | .nest _ _ _ _ _ _ o => o
  | _ => none

def fitO (o o' : Option (Int × List AV)) (K : Prop) : Prop :=
  match o with
  | none => match o' with
    | none => K
    | some _ => False
  | some p => match p with
    | (i, cs) => match o' with
      | none => False
      | some p' => match p' with
        | (i', cs') => i' = i ∧ fitVs dn f cs cs' (ltVs N cs K)

def fitC (q rw : Bool) (c c' : Cont) (K : Prop) : Prop :=
  match c with
  | .raw vs => match c' with
    | .raw vs' => fitVs dn f vs vs' (ltVs N vs K)
    | _ => False
  | .arr E xs => PreC E xs c' ∧ K
  | .nest m d g s f' xs o => match rw with
    | true => NestC m d g s f' xs (stripO c') ∧ fitO dn f N o (openOf c') K
    | false => match o with
      | some _ => False
      | none => match q with
        | false => NestC m d g s f' xs c' ∧ K
        | true => match dn with
          | true => NestC m d g s f' xs c' ∧ K
          | false => False

def fitT (i : Int) (m0 : Nat) (q rw : Bool) (c c' : Cont) (K : Prop) : Prop :=
  match c with
  | .raw _ => False
  | .arr E xs => match Nat.beq m0 E.m with
    | true => TrimC E i xs c' ∧ K
    | false => False
  | .nest m d g s f' xs o => match o with
    | some _ => False
    | none => match Nat.beq m0 m with
      | false => False
      | true => match q, rw with
        | true, true => TrimN m d g s f' i xs c' ∧ K
        | false, false => TrimN m d g s f' i xs c' ∧ K
        | _, _ => False

/-- cells that may be turned in part -/
def viewW (m : Nat) (i : Option Int) (c : Cont) (K : List AV → Prop) : Prop :=
  match c with
  | .raw vs => match i with
    | none => K vs
    | some (.ofNat n) => K (vs.drop (n * m))
    | _ => False
  | .arr _ _ => False
  | .nest m' _ _ _ _ _ o => match i with
    | none => False
    | some i => match Nat.beq m m' with
      | false => False
      | true => match o with
        | some p => match p with
          | (i0, cs) => i = i0 ∧ K cs
        | none => False

def fitEnt (e : Ent) (K : Prop) : Prop :=
  match renB f e.b with
  | none => emptyC S e.c K
  | some p => match p with
    | .whole B => match e.rw with
      | true => match getE H.ents B with
        | some ⟨_, true, c⟩ => fitC dn f N true true e.c c K
        | _ => False
      | false => atA H.ents B fun q c => fitC dn f N q false e.c c K
    | .trim B i m0 => match getE H.ents B with
      | some ⟨_, q, c⟩ => match e.rw, q with
        | true, false => False
        | rw, q => fitT i m0 q rw e.c c K
      | none => False
    | .view B i m j n => match e.c with
      | .raw vs => match Nat.beq vs.length n, Nat.ble 1 n with
        | true, true => match e.rw with
          | true => match getE H.ents B with
            | some ⟨_, true, c⟩ => viewW m i c fun cs => fitVs dn f vs ((cs.drop j).take n) (ltVs N vs K)
            | _ => False
          | false => (0 ≤ i.getD 0) ∧ atA H.ents B fun q c => elemA q B m i c fun cs => fitVs dn f vs ((cs.drop j).take n) (ltVs N vs K)
        | _, _ => False
      | _ => False

def keyK (b : Blk) (K : Prop) : Prop :=
  match b with
  | .loc n => match Nat.blt n N with
    | true => K
    | false => False
  | .glob _ => K
  | .sub _ _ _ => False

def fitEnts : List Ent → Prop → Prop
  | [], K => K
  | e :: r, K => keyK N e.b (fitEnt S dn f N H e (fitEnts r K))

def Pl.blk : Pl → Blk
  | .whole b => b
  | .view b _ _ _ _ => b
  | .trim b _ _ => b
def plB : Pl → Blk
  | .whole b => keyB b
  | .view b _ _ _ _ => keyB b
  | .trim b _ _ => keyB b

def apartK (p p' : Pl) (K : Prop) : Prop :=
  match Blk.beq (plB p) (plB p') with
  | false => K
  | true => match p with
    | .view b i m j n => match p' with
      | .view b' i' m' j' n' => match Nat.beq m m', (Nat.ble (j + n) j' || Nat.ble (j' + n') j) with
        | true, true => fitB b b' (fitI i i' K)
        | _, _ => False
      | _ => False
    | _ => False

def pairK (e e' : Ent) (K : Prop) : Prop :=
  match Blk.beq e.b e'.b with
  | true => False
  | false => match (e.rw || e'.rw) with
    | false => K
    | true => match renB f e.b with
      | none => K
      | some p => match renB f e'.b with
        | none => K
        | some p' => apartK p p' K
def pairsOne (e : Ent) : List Ent → Prop → Prop
  | [], K => K
  | e' :: r, K => pairK f e e' (pairsOne e r K)
def pairsK : List Ent → Prop → Prop
  | [], K => K
  | e :: r, K => pairsOne f e r (pairsK r K)

def fitEnv (env : List (Nat × AV)) : List (Nat × AV) → Prop → Prop
  | [], K => K
  | (t, v) :: r, K => fitV false f v (look env t) (ltV N v (fitEnv env r K))

end

section
variable {S : Seat} {ρ : Lay} {ρh : Loc} {dn : Bool} {f : Nat → Option Pl} {N : Nat} {H : Heap} {w : World}

/-- the cells of a place -/
def footP (ρ : Lay) : Pl → Foot
  | .whole b => ρ.foot (keyB b)
  | .trim b _ _ => ρ.foot (keyB b)
  | .view b i m j n => regF (plLoc ρ (.view b i m j n))
def pullL (f : Nat → Option Pl) (ρ : Lay) (ρh : Loc) : Lay := ⟨pull f ρ ρh, fun b => match renB f b with
  | some p => footP ρ p
  | none => fun _ _ => False⟩

/-- what is told within blocks that may be turned -/
structure Hidden (dn : Bool) (ρ : Lay) (ρh : Loc) (H : Heap) (w : World) : Prop where
  out : ∀ b, (∀ e ∈ H.ents, e.rw = true → ¬ Under e.b b) → ρh b = ρ b
  same : dn = false → ρh = ρ
  told : dn = true → ∀ e ∈ H.ents, e.rw = true → e.c.closed → Holds ρh H.next w true e.c e.b (ρ.foot e.b)
theorem Hidden.plain (ρ : Lay) (H : Heap) (w : World) : Hidden false ρ ρ H w := ⟨fun _ _ => rfl, fun _ => rfl, fun h => by cases h⟩
theorem Hidden.zero (h : Hidden dn ρ ρh H w) (hH : HRel S ρ H w) : Agree 0 ρ ρh := fun b hb => by
  refine h.out b fun e he hr' hu => ?_
  have hr : b.root = none := by cases h : b.root with | none => rfl | some n => exact absurd (hb n h) (by omega)
  exact hH.root e he hr' (by rw [← hu.root]; exact hr)

/-- an entry that is thought, and where it comes from -/
def EntFit (S : Seat) (f : Nat → Option Pl) (ρ : Lay) (ρh : Loc) (H : Heap) (w : World) (N : Nat) (e : Ent) : Prop :=
  HoldsE (pull f ρ ρh) N w e.rw e.c e.b ((pullL f ρ ρh).foot e.b) ∧ ContOk S e.c ∧
    (renB f e.b = none ∨ ∃ p x, renB f e.b = some p ∧ x ∈ H.ents ∧ x.b = plB p ∧ (e.rw = true → x.rw = true ∧ p.blk.isKey) ∧ ∀ k c, footP ρ p k c → ρ.foot x.b k c)
end
end Go.Vm

namespace Go.Vm
open Go.RowKit

theorem Holds.ro {ρ : Loc} {N : Nat} {w : World} : ∀ {c : Cont} {b : Blk} {F : Foot}, Holds ρ N w true c b F → Holds ρ N w false c b F := by
  have one : ∀ {c : Cont} {b : Blk}, Lies ρ N w true b c → Lies ρ N w false b c := by
    intro c b h
    unfold Lies at h ⊢
    split at h
    · exact h
    · obtain ⟨arr, T, fz, h1, h2, h3, h4⟩ := h
      exact ⟨arr, T, fz, h1, h2, fun q => by simp at q, h4⟩
  intro c
  induction c with
  | raw vs => intro b F h; exact ⟨one h.1, h.2⟩
  | arr E xs => intro b F h; exact ⟨one h.1, h.2⟩
  | nest m d g s f xs o ih =>
    intro b F h
    obtain ⟨⟨h1, h2⟩, Fs, h3, h4, h5⟩ := h
    exact ⟨⟨one h1, h2⟩, Fs, fun i hi hl j hj => ih _ _ (h3 i hi hl j hj), h4, fun q => by simp at q⟩

/-- open elements that tell the same -/
def OpenRel (ρ ρ' : Loc) (N : Nat) : Option (Int × List AV) → Option (Int × List AV) → Prop
  | none, none => True
  | some p, some p' => p.1 = p'.1 ∧ p.2.length = p'.2.length ∧ AV.lts N p'.2 ∧ ∀ rs, VRels ρ p.2 rs → VRels ρ' p'.2 rs
  | _, _ => False

/-- elements that may be turned, under another name -/
theorem HoldsN.ren {S : Seat} {ρ ρ' : Loc} {N N' : Nat} {w : World} {α : Type} {m : Nat} {d : α} {g : (Nat → Blk) → α → List AV} {s : List Nat} {f : α → Nat → Cont} {xs : List α} {o o' : Option (Int × List AV)} {b1 b2 : Blk} {F : Foot}
    (hok : ContOk S (.nest m d g s f xs o)) (h : HoldsE ρ N w true (.nest m d g s f xs o) b1 F) (h0 : Agree 0 ρ ρ') (h12 : ρ' b2 = ρ b1) (hrt : b1.root ≠ none ∧ b2.root ≠ none)
    (ho : OpenRel ρ ρ' N' o o') :
    HoldsE ρ' N' w true (.nest m d g s f xs o') b2 F := by
  obtain ⟨⟨ρ1, h1, h2⟩, h3⟩ := h
  have hlive : ∀ i, liveP o' i ↔ liveP o i := by
    intro i
    cases o <;> cases o' <;> simp [liveP, OpenRel] at ho ⊢
    rw [ho.1]
  have htot : totalN o' xs.length = totalN o xs.length := by
    cases o <;> cases o' <;> simp [totalN, OpenRel] at ho ⊢
    rw [ho.1]
  obtain ⟨n1, hn1⟩ := Option.ne_none_iff_exists'.1 hrt.1
  obtain ⟨n2, hn2⟩ := Option.ne_none_iff_exists'.1 hrt.2
  have he : ρ' b2 = ρ1 b1 := by rw [h12, h1 b1 (not_under_self b1)]
  have hz : Agree 0 ρ1 (moveL b2 b1 ρ1 ρ') := moveL_zero hn1 hn2 h1 h0
  have h4 := Holds.ren (N' := N') hz hok (fun _ q => by cases q) (moveL_same he) h2
  refine ⟨⟨moveL b2 b1 ρ1 ρ', moveL_off _ _ _ _, ?_⟩, ?_⟩
  · obtain ⟨⟨g1, g2⟩, Fs, g3, g4, g5⟩ := h4
    refine ⟨⟨?_, g2⟩, Fs, fun i hi hl => g3 i hi ((hlive i).1 hl), fun i hi hl => g4 i hi ((hlive i).1 hl), fun q => ⟨fun i hi hl => (g5 q).1 i hi ((hlive i).1 hl), fun i hi hl j hj i' hi' hl' => (g5 q).2 i hi ((hlive i).1 hl) j hj i' hi' ((hlive i').1 hl')⟩⟩
    unfold Lies at g1 ⊢
    split at g1
    · refine ⟨g1.1, ?_⟩
      have := g1.2
      subst this
      cases o' with
      | none => rfl
      | some _ => exact ho.elim
    · obtain ⟨arr, T, fz, k1, k2, k3, k4, k5⟩ := g1
      exact ⟨arr, T, fz, k1, k2, k3, by rw [htot]; exact k4, fun i hi hl => k5 i hi ((hlive i).1 hl)⟩
  · cases o with
    | none => cases o' with
      | none => trivial
      | some _ => exact ho.elim
    | some p => cases o' with
      | none => exact ho.elim
      | some p' =>
        obtain ⟨ho1, ho2, ho3, ho4⟩ := ho
        obtain ⟨k1, k2, k3, k4, k, z, arr, T, fz, k5, k6, k7⟩ := h3
        exact ⟨ho1 ▸ k1, ho1 ▸ k2, by rw [← ho2]; exact k3, ho3, k, z, arr, T, fz, by rw [h12]; exact k5, k6, ho1 ▸ ho4 _ k7⟩

section
variable {S : Seat} {ρ : Lay} {ρh : Loc} {dn : Bool} {f : Nat → Option Pl} {N N0 : Nat} {H : Heap} {w : World}

theorem SameUnder.of_sub {ρ ρ' : Loc} {b1 b2 : Blk} (h : ρ' b2 = ρ b1) (hs : ∀ i j, SameUnder ρ ρ' (.sub b1 i j) (.sub b2 i j)) : SameUnder ρ ρ' b1 b2 := by
  intro p
  cases p with
  | nil => exact h
  | cons a p => exact hs a.1 a.2 p

theorem renB_ext {b B : Blk} (h : renB f b = some (.whole B)) : ∀ (p : List (Int × Nat)), renB f (ext b p) = some (.whole (ext B p)) := by
  intro p
  induction p generalizing b B with
  | nil => exact h
  | cons a p ih => exact ih (by simp only [renB, h])
theorem ext_sub : ∀ (p : List (Int × Nat)) (c : Blk) (i : Int) (j : Nat), ∃ c' i' j', ext (.sub c i j) p = .sub c' i' j'
  | [], c, i, j => ⟨c, i, j, rfl⟩
  | (i', j') :: r, c, i, j => ext_sub r (.sub c i j) i' j'
theorem pull_sub {b B : Blk} (h : renB f b = some (.whole B)) (i : Int) (j : Nat) : SameUnder ρh (pull f ρ ρh) (.sub B i j) (.sub b i j) := by
  intro p
  have h2 := renB_ext (f := f) (b := .sub b i j) (B := .sub B i j) (by simp only [renB, h]) p
  obtain ⟨c, i', j', e⟩ := ext_sub p b i j
  rw [e] at h2 ⊢
  simp only [pull, h2, plLoc]

theorem fitC_out {q rw : Bool} {c c' : Cont} {K : Prop} {b B : Blk} {F : Foot} (hb : pull f ρ ρh b = ρ B) (hren : renB f b = some (.whole B)) (h : fitC dn f N q rw c c' K) (hq : rw = true → q = true) (hrt : rw = true → b.root ≠ none ∧ B.root ≠ none)
    (hh : HoldsE ρ N0 w q c' B F) (hok : ContOk S c') (hdn : dn = false → ρh = ρ) (h0 : Agree 0 ρ ρh) (hro : q = false → ∀ p i j, ρh (ext (.sub B i j) p) = ρ (ext (.sub B i j) p)) (hself : ρh B = ρ B) (htold : dn = true → q = true → c'.closed → Holds ρh N0 w true c' B F) :
    (HoldsE (pull f ρ ρh) N w rw c b F ∧ ContOk S c) ∧ K := by
  have hreg : ∀ k c, regF (pull f ρ ρh b) k c → F k c := fun k c p => hh.reg.2 k c (hb ▸ p)
  have hz : Agree 0 ρ (pull f ρ ρh) := pull_agree0 h0
  unfold fitC at h
  split at h
  · rename_i vs
    split at h
    · rename_i vs'
      have hlen := fitVs_length h
      obtain ⟨h1, h2⟩ := fitVs_out (ρ := ρ) hdn h
      obtain ⟨h3, h4⟩ := ltVs_out h2
      refine ⟨⟨⟨?_, hreg⟩, trivial⟩, h4⟩
      have hl := hh.raw.1
      unfold Lies at hl ⊢
      rw [hb]
      split at hl
      · have hl : vs' = [] := hl
        subst hl
        exact List.eq_nil_of_length_eq_zero hlen
      · obtain ⟨arr, T, fz, g1, g2, g3, g4, g5, g6⟩ := hl
        exact ⟨arr, T, fz, g1, g2, fun p => g3 (hq p), by rw [hlen]; exact g4, h1 _ (by rw [hlen]; exact g5), h3⟩
    · exact h.elim
  · rename_i α E xs
    obtain ⟨⟨zs, rfl⟩, hK⟩ := h
    obtain ⟨T0, hE⟩ := hok
    refine ⟨⟨⟨?_, hreg⟩, T0, hE⟩, hK⟩
    have hl := hh.arr.1
    unfold Lies at hl ⊢
    rw [hb]
    split at hl
    · exact (List.append_eq_nil_iff.1 hl).1
    · obtain ⟨arr, T, fz, g1, g2, g3, g4, g5⟩ := hl
      refine ⟨arr, T, fz, g1, g2, fun p => g3 (hq p), ?_, fun i hi => ⟨?_, hE.plain _ _⟩⟩
      · have hm : xs.length * E.m ≤ (xs ++ zs).length * E.m := Nat.mul_le_mul_right _ (by simp)
        omega
      · have : VRels ρ (E.cells ((xs ++ zs).getD i E.d)) _ := (g5 i (by simp; omega)).1
        have e : (xs ++ zs).getD i E.d = xs.getD i E.d := by simp only [List.getD_eq_getElem?_getD, List.getElem?_append_left hi]
        rw [e] at this
        exact VRels.agree hz (hE.plain _ 0) this
  · rename_i α m d g s f' xs o
    split at h
    · obtain ⟨h1, h2⟩ := h
      have hc' : ∃ o', c' = .nest m d g s f' xs o' := by
        cases c' with
        | raw vs => exact absurd h1 (by simp [NestC, stripO])
        | arr E xs => exact absurd h1 (by simp [NestC, stripO])
        | nest m' d' g' s' f'' ys o' =>
          simp only [NestC, stripO] at h1
          injection h1 with e0 e1 e2 e3 e4 e5 e6
          subst e0
          have e1 := eq_of_heq (heq_of_eq e1)
          subst e1
          have e2 := eq_of_heq e2; have e3 := eq_of_heq e3; have e5 := eq_of_heq e5; have e6 := eq_of_heq e6
          subst e2; subst e3; subst e5; subst e6
          subst e4
          exact ⟨_, rfl⟩
      obtain ⟨o', rfl⟩ := hc'
      have hq' := hq rfl
      subst hq'
      simp only [openOf] at h2
      have ho : OpenRel ρ (pull f ρ ρh) N o' o ∧ K := by
        cases o with
        | none => cases o' with
          | none => exact ⟨trivial, h2⟩
          | some _ => exact h2.elim
        | some p => cases o' with
          | none => exact h2.elim
          | some p' =>
            obtain ⟨i, cs⟩ := p
            obtain ⟨i', cs'⟩ := p'
            obtain ⟨e, h2⟩ := h2
            have hlen := fitVs_length h2
            obtain ⟨k1, k2⟩ := fitVs_out (ρ := ρ) hdn h2
            obtain ⟨k3, k4⟩ := ltVs_out k2
            exact ⟨⟨e, hlen.symm, k3, k1⟩, k4⟩
      have hok' : ContOk S (.nest m d g s f' xs o) := hok
      exact ⟨⟨HoldsN.ren hok hh hz hb ⟨(hrt rfl).2, (hrt rfl).1⟩ ho.1, hok'⟩, ho.2⟩
    · split at h
      · exact h.elim
      · split at h
        · obtain ⟨h1, hK⟩ := h
          have h1 : c' = .nest m d g s f' xs none := h1
          subst h1
          refine ⟨⟨⟨rfl, Holds.ren hz hok (fun _ q => by cases q) (.of_sub hb fun i j p => ?_) hh.2⟩, hok⟩, hK⟩
          rw [pull_sub (ρ := ρ) hren i j p, hro rfl p i j]
        · split at h
          · obtain ⟨h1, hK⟩ := h
            have h1 : c' = .nest m d g s f' xs none := h1
            subst h1
            have hz2 : Agree 0 ρh (pull f ρ ρh) := fun x hx => by rw [hz x hx, h0 x hx]
            exact ⟨⟨⟨rfl, Holds.ren hz2 hok (fun _ q => by cases q) (.of_sub (by rw [hb, hself]) fun i j => pull_sub hren i j) (htold rfl rfl rfl).ro⟩, hok⟩, hK⟩
          · exact h.elim
end
end Go.Vm

namespace Go.Vm
open Go.RowKit

/-! elements from one on -/
open Classical in
noncomputable def shiftB (b B : Blk) (i : Int) : Blk → Blk
  | .sub c t j => if c = b then .sub B (t + i) j else .sub (shiftB b B i c) t j
  | x => x
open Classical in
noncomputable def shiftL (b B : Blk) (i : Int) (ρin ρout : Loc) : Loc := fun b' => if Under b b' then ρin (shiftB b B i b') else ρout b'
theorem shiftL_off (b B : Blk) (i : Int) (ρin ρout : Loc) : Off b ρout (shiftL b B i ρin ρout) := fun b' h => by simp [shiftL, h]
theorem under_ext {b : Blk} : ∀ (p : List (Int × Nat)) {c : Blk}, Under b c → Under b (ext c p)
  | [], _, h => h
  | _ :: p, _, h => under_ext p (.inr h)
theorem shiftB_ext {b B : Blk} {i : Int} : ∀ (p : List (Int × Nat)) {c c1 : Blk}, Under b c → shiftB b B i c = c1 → shiftB b B i (ext c p) = ext c1 p
  | [], _, _, _, e => e
  | (t, j) :: p, c, c1, h, e => by
    refine shiftB_ext p (c := .sub c t j) (c1 := .sub c1 t j) (.inr h) ?_
    have hne : c ≠ b := fun q => by rw [q] at h; exact not_under_self b h
    simp only [shiftB]
    rw [if_neg hne, e]
theorem shiftL_sub {b B : Blk} {i : Int} {ρin ρout : Loc} (t : Int) (j : Nat) : SameUnder ρin (shiftL b B i ρin ρout) (.sub B (t + i) j) (.sub b t j) := by
  intro p
  have hu0 : Under b (.sub b t j) := .inl rfl
  have hu : Under b (ext (.sub b t j) p) := under_ext p hu0
  simp only [shiftL, if_pos hu]
  rw [shiftB_ext (c1 := .sub B (t + i) j) p hu0 (by simp [shiftB])]

section
variable {S : Seat} {ρ : Lay} {ρh : Loc} {dn : Bool} {f : Nat → Option Pl} {N N0 : Nat} {H : Heap} {w : World}

theorem own_drop {arr : Array Value} {z : Nat × Nat} {n : Nat} : (own arr (z.1 + n, z.2 - n)).toList = (own arr z).toList.drop n := by
  simp only [own]
  rw [List.drop_take, List.drop_drop]

theorem nest_drop {α : Type} {m : Nat} {d : α} {g : (Nat → Blk) → α → List AV} {s : List Nat} {f : α → Nat → Cont} {ys : List α} {b B : Blk} {F : Foot} {ρ1 ρ2 : Loc} {n : Nat} {rw : Bool} {N N' : Nat} (hok : ContOk S (.nest m d g s f ys none)) (hn : n ≤ ys.length)
    (h : Holds ρ1 N w rw (.nest m d g s f ys none) B F) (hb : ρ2 b = (ρ1 B).map fun q => (q.1, (q.2.1 + n * m, q.2.2 - n * m))) (hz : Agree 0 ρ1 ρ2) (hs : ∀ (t : Nat) (j : Nat), SameUnder ρ1 ρ2 (.sub B ((t : Int) + n) j) (.sub b t j)) :
    Holds ρ2 N' w rw (.nest m d g s f (ys.drop n) none) b F := by
  obtain ⟨⟨hl, hr⟩, Fs, g1, g2, g3⟩ := h
  obtain ⟨⟨T, hT⟩, hsub⟩ := hok
  have hraw : ∀ x j vs, f x j ≠ .raw vs := fun x j vs q => by have := (hsub x j).2; rw [q] at this; exact this
  have hg : ∀ t, (ys.drop n).getD t d = ys.getD (t + n) d := fun t => by simp only [List.getD_eq_getElem?_getD, List.getElem?_drop, Nat.add_comm]
  have hlen : (ys.drop n).length = ys.length - n := by simp
  have hcast : ∀ t : Nat, ((t + n : Nat) : Int) = (t : Int) + n := fun t => by omega
  have hreg : ∀ k c, regF (ρ2 b) k c → regF (ρ1 B) k c := by
    rintro k c ⟨z, q, q1, q2⟩
    rw [hb] at q
    cases hB : ρ1 B with
    | none => rw [hB] at q; simp at q
    | some kz =>
      rw [hB] at q
      simp at q
      obtain ⟨q3, q4⟩ := q
      subst q4
      refine ⟨kz.2, by rw [← q3], ?_⟩
      constructor <;> omega
  refine ⟨⟨?_, fun k c q => hr k c (hreg k c q)⟩, fun t j => Fs (t + n) j, fun t ht _ j hj => ?_, fun t ht _ j hj => g2 (t + n) (by omega) trivial j hj, fun q => ⟨fun t ht _ j hj k c p1 p2 => (g3 q).1 (t + n) (by omega) trivial j hj k c (hreg k c p1) p2, fun t ht _ j hj t' ht' _ j' hj' hne => (g3 q).2 (t + n) (by omega) trivial j hj (t' + n) (by omega) trivial j' hj' fun e => hne ?_⟩⟩
  · unfold Lies at hl ⊢
    rw [hb]
    cases hB : ρ1 B with
    | none =>
      rw [hB] at hl
      simp only [Option.map_none]
      obtain ⟨e1, _⟩ := hl
      subst e1
      exact ⟨by simp, rfl⟩
    | some kz =>
      rw [hB] at hl
      obtain ⟨k, z⟩ := kz
      simp only [Option.map_some]
      obtain ⟨arr, T2, fz, k1, k2, k3, k4, k5⟩ := hl
      have hmm : n * m ≤ ys.length * m := Nat.mul_le_mul_right _ hn
      simp only [totalN] at k4
      rw [own_size k2] at k4
      refine ⟨arr, T2, fz, k1, by omega, k3, ?_, fun t ht _ => ?_⟩
      · rw [own_size (by omega)]
        simp only [totalN, hlen, Nat.sub_mul]
        omega
      · rw [own_drop, List.drop_drop, ← Nat.add_mul, hg, Nat.add_comm n t]
        have := k5 (t + n) (by omega) trivial
        exact hT.ren _ _ _ _ _ _ (fun j _ => by have := (hs t j).self; rw [this, hcast]) this
  · simp only
    rw [hg]
    have := g1 (t + n) (by omega) trivial j hj
    rw [hcast] at this
    exact Holds.ren hz (hsub _ _).1 (hraw _ _) (hs t j) this
  · simp only [Prod.mk.injEq] at e ⊢
    omega

theorem fitT_out {i0 : Int} {m0 : Nat} {q rw : Bool} {c c' : Cont} {K : Prop} {b B : Blk} {F : Foot} (hren : renB f b = some (.trim B i0 m0)) (hkey : ∃ nb, b = .loc nb) (h : fitT i0 m0 q rw c c' K) (hq : rw = true → q = true) (hrt : q = true → B.root ≠ none)
    (hh : HoldsE ρ N0 w q c' B F) (hok : ContOk S c') (h0 : Agree 0 ρ ρh) (hro : q = false → ∀ p i j, ρh (ext (.sub B i j) p) = ρ (ext (.sub B i j) p)) :
    (HoldsE (pull f ρ ρh) N w rw c b F ∧ ContOk S c) ∧ K := by
  obtain ⟨nb, rfl⟩ := hkey
  have hf : f nb = some (.trim B i0 m0) := hren
  have hb : pull f ρ ρh (.loc nb) = plLoc ρ (.trim B i0 m0) := by simp only [pull, hf]
  have hz : Agree 0 ρ (pull f ρ ρh) := pull_agree0 h0
  unfold fitT at h
  split at h
  · exact h.elim
  · rename_i α E xs
    split at h
    · rename_i hm
      have hm := Nat.eq_of_beq_eq_true hm
      subst hm
      obtain ⟨⟨ys, zs, rfl, h1, h2, h3⟩, hK⟩ := h
      obtain ⟨T0, hE⟩ := hok
      obtain ⟨n, rfl⟩ := Int.eq_ofNat_of_zero_le h1
      simp only [Int.toNat_natCast] at h3
      have hn : n ≤ ys.length := by omega
      have hl := hh.arr.1
      refine ⟨⟨⟨?_, fun k c ⟨z, p1, p2, p3⟩ => hh.reg.2 k c ?_⟩, T0, hE⟩, hK⟩
      · unfold Lies at hl ⊢
        rw [hb]
        simp only [plLoc, Int.toNat_natCast]
        cases hB : ρ.loc B with
        | none =>
          rw [hB] at hl
          have hl : ys = [] := hl
          subst hl
          simp at h3
          exact h3.1
        | some kz =>
          rw [hB] at hl
          obtain ⟨k, z⟩ := kz
          obtain ⟨arr, T, fz, g1, g2, g3, g4, g5⟩ := hl
          rw [own_size g2] at g4
          have hmm : n * E.m ≤ ys.length * E.m := Nat.mul_le_mul_right _ hn
          have hlen : ys.length - n = xs.length + zs.length := by have := congrArg List.length h3; simpa using this
          refine ⟨arr, T, fz, g1, by simp only; omega, fun p => g3 (hq p), ?_, fun t ht => ⟨?_, hE.plain _ _⟩⟩
          · rw [own_size (by simp only; omega)]
            have : xs.length * E.m ≤ (ys.length - n) * E.m := Nat.mul_le_mul_right _ (by omega)
            rw [Nat.sub_mul] at this
            simp only; omega
          · rw [own_drop, List.drop_drop, ← Nat.add_mul]
            have : VRels ρ (E.cells (ys.getD (n + t) E.d)) _ := (g5 (n + t) (by omega)).1
            have e : ys.getD (n + t) E.d = xs.getD t E.d := by
              have e1 : (ys.drop n).getD t E.d = (xs ++ zs).getD t E.d := by rw [h3]
              simp only [List.getD_eq_getElem?_getD, List.getElem?_drop, List.getElem?_append_left ht] at e1
              simpa only [List.getD_eq_getElem?_getD] using e1
            rw [e] at this
            exact VRels.agree hz (hE.plain _ 0) this
      · rw [hb] at p1
        simp only [plLoc, Int.toNat_natCast] at p1
        cases hB : ρ.loc B with
        | none => rw [hB] at p1; simp at p1
        | some kz =>
          rw [hB] at p1
          obtain ⟨k', z'⟩ := kz
          simp at p1
          obtain ⟨rfl, rfl⟩ := p1
          simp only at p2 p3
          exact ⟨z', rfl, by omega, by omega⟩
    · exact h.elim
  · rename_i α m d g s f' xs o
    split at h
    · exact h.elim
    · split at h
      · exact h.elim
      · rename_i hm
        have hm := Nat.eq_of_beq_eq_true hm
        subst hm
        have hloc : ∀ {n : Nat}, plLoc ρ.loc (.trim B (n : Int) m0) = (ρ.loc B).map fun q => (q.1, (q.2.1 + n * m0, q.2.2 - n * m0)) := by
          intro n
          simp only [plLoc, Int.toNat_natCast]
          cases ρ.loc B <;> rfl
        split at h
        · obtain ⟨⟨ys, rfl, h1, h2, h3⟩, hK⟩ := h
          obtain ⟨n, rfl⟩ := Int.eq_ofNat_of_zero_le h1
          simp only [Int.toNat_natCast] at h3
          subst h3
          obtain ⟨⟨ρ1, o1, o2⟩, _⟩ := hh
          have hself1 : ρ1 B = ρ.loc B := o1 B (not_under_self B)
          have hoff := shiftL_off (.loc nb) B (n : Int) ρ1 (pull f ρ ρh)
          have hz1 : Agree 0 ρ1 (shiftL (.loc nb) B (n : Int) ρ1 (pull f ρ ρh)) := fun x hx => by
            have hr : x.root = none := by cases h : x.root with | none => rfl | some n => exact absurd (hx n h) (by omega)
            rw [hoff x fun q => (by rw [q.root] at hr; simp [Blk.root] at hr), hz x hx, o1 x fun q => (hrt rfl) (by rw [← q.root]; exact hr)]
          refine ⟨⟨⟨⟨_, hoff, nest_drop hok (by omega) o2 ?_ hz1 fun t j => shiftL_sub (t : Int) j⟩, trivial⟩, hok⟩, hK⟩
          rw [hoff (.loc nb) (not_under_self _), hb, hloc, hself1]
        · obtain ⟨⟨ys, rfl, h1, h2, h3⟩, hK⟩ := h
          obtain ⟨n, rfl⟩ := Int.eq_ofNat_of_zero_le h1
          simp only [Int.toNat_natCast] at h3
          subst h3
          refine ⟨⟨⟨rfl, nest_drop hok (by omega) hh.2 (by rw [hb, hloc]) hz fun t j p => ?_⟩, hok⟩, hK⟩
          have h2 := renB_ext (f := f) (b := .sub (.loc nb) (t : Int) j) (B := .sub B ((t : Int) + n) j) (by simp only [renB, hf]) p
          obtain ⟨c, i', j', e⟩ := ext_sub p (.loc nb) (t : Int) j
          rw [e] at h2 ⊢
          simp only [pull, h2, plLoc]
          exact hro rfl p _ _
        · exact h.elim

/-- some cells of a block -/
theorem view_out {B : Blk} {i : Option Int} {m j n : Nat} {q : Bool} {c : Cont} {F : Foot} {b : Blk} {vs : List AV} {rw : Bool} {K : Prop} (hb : pull f ρ ρh b = plLoc ρ (.view B i m j n)) (hdn : dn = false → ρh = ρ) (hn : vs.length = n) (hpos : 1 ≤ n) (h0 : 0 ≤ i.getD 0)
    (hh : HoldsE ρ N0 w q c B F) (hok : ContOk S c) (hlt : B.lt N0) (hq : rw = true → q = true) (h : elemA q B m i c fun cs => fitVs dn f vs ((cs.drop j).take n) (ltVs N vs K)) :
    (HoldsE (pull f ρ ρh) N w rw (.raw vs) b (regF (plLoc ρ (.view B i m j n))) ∧ ∀ k c, regF (plLoc ρ (.view B i m j n)) k c → F k c) ∧ K := by
  cases hB : ρ.loc B with
  | none =>
    -- nothing lies there: no cells are told
    have hnone : vs = [] ∧ K := by
      have hl := hh.reg.1
      obtain ⟨ρ1, o1, hl⟩ := hl
      have hself : ρ1 B = none := by rw [o1 B (not_under_self B)]; exact hB
      simp only [Lies, hself] at hl
      have fin : ∀ {cs : List AV}, cs = [] → fitVs dn f vs ((cs.drop j).take n) (ltVs N vs K) → vs = [] ∧ K := by
        rintro cs rfl h
        have := fitVs_length h
        simp at this
        exact ⟨this, (ltVs_out (fitVs_out (ρ := ρ) hdn h).2).2⟩
      cases c with
      | raw vs' =>
        have hl : vs' = [] := hl
        subst hl
        simp only [elemA] at h
        split at h
        · exact fin rfl h
        · exact fin (by simp) h
        · exact h.elim
      | arr E xs =>
        have hl : xs = [] := hl
        subst hl
        simp only [elemA] at h
        unfold arrElemA at h
        split at h
        · simp at h
        · split at h
          · obtain ⟨⟨h1, h2⟩, _⟩ := h; simp at h2; omega
          · exact h.elim
      | nest m' d g s f' xs o =>
        obtain ⟨hl, hl2⟩ := hl
        subst hl; subst hl2
        simp only [elemA] at h
        unfold nestElemA at h
        split at h
        · exact h.elim
        · split at h
          · exact h.elim
          · cases q
            · obtain ⟨⟨h1, h2⟩, _⟩ := h; simp at h2; omega
            · obtain ⟨⟨h1, h2⟩, _⟩ := h; simp at h2; omega
    obtain ⟨hv, hK⟩ := hnone
    subst hv
    simp at hn
    omega
  | some kz =>
    obtain ⟨k, z⟩ := kz
    obtain ⟨cs, rs, h1, h2, h3, h4⟩ := elem_sound hh hok hlt hB h0 h
    obtain ⟨arr, T, fz, g1, g2, g3⟩ := hh.block hB
    have hlen := fitVs_length h1
    obtain ⟨k1, k2⟩ := fitVs_out (ρ := ρ) hdn h1
    obtain ⟨k3, k4⟩ := ltVs_out k2
    have hrl := h2.length
    rw [hn] at hlen
    simp only [List.length_take, List.length_drop] at hlen
    have cell : ∀ t, t < n → ∃ r, rs[j + t]? = some r ∧ arr[z.1 + ((i.getD 0).toNat * m + (j + t))]? = some r ∧ inZ z (z.1 + ((i.getD 0).toNat * m + (j + t))) := by
      intro t ht
      have : j + t < rs.length := by omega
      refine ⟨rs[j + t], List.getElem?_eq_getElem this, ?_⟩
      obtain ⟨q1, q2⟩ := h4 (j + t) _ (List.getElem?_eq_getElem this)
      simp only [World.cell?, g1] at q1
      exact ⟨by simpa using q1, q2⟩
    have hreg : ∀ k' c', regF (plLoc ρ.loc (.view B i m j n)) k' c' → F k' c' := by
      rintro k' c' ⟨z', p, p1, p2⟩
      simp only [plLoc, hB] at p
      simp at p
      obtain ⟨rfl, rfl⟩ := p
      simp only at p1 p2
      obtain ⟨r, _, _, q3⟩ := cell (c' - (z.1 + ((i.getD 0).toNat * m + j))) (by omega)
      have e : z.1 + ((i.getD 0).toNat * m + (j + (c' - (z.1 + ((i.getD 0).toNat * m + j))))) = c' := by omega
      rw [e] at q3
      exact hh.reg.2 k c' ⟨z, hB, q3⟩
    have hend : z.1 + ((i.getD 0).toNat * m + j) + n ≤ arr.size := by
      obtain ⟨r, _, q2, _⟩ := cell (n - 1) (by omega)
      have := (Array.getElem?_eq_some_iff.1 q2).1
      omega
    refine ⟨⟨⟨?_, fun k c p => by rw [hb] at p; exact p⟩, hreg⟩, k4⟩
    unfold Lies
    rw [hb]
    simp only [plLoc, hB]
    have hown : (own arr (z.1 + ((i.getD 0).toNat * m + j), n)).toList.take vs.length = (rs.drop j).take n := by
      rw [hn]
      apply List.ext_getElem?
      intro t
      simp only [own, List.getElem?_take, List.getElem?_drop]
      split
      · rename_i ht
        obtain ⟨r, q1, q2, _⟩ := cell t ht
        rw [q1, ← q2, Array.getElem?_toList]
        congr 1; omega
      · rfl
    refine ⟨arr, T, fz, g1, hend, fun p => g3 (hq p), ?_, ?_, k3⟩
    · rw [own_size hend, hn]; exact Nat.le_refl _
    · rw [hown]; exact k1 _ ((h2.drop j).take n)
end
end Go.Vm

namespace Go.Vm
open Go.RowKit

section
variable {S : Seat} {ρ : Lay} {ρh : Loc} {dn : Bool} {f : Nat → Option Pl} {N : Nat} {H : Heap} {w : World}

theorem keyK_out {b : Blk} {K : Prop} (h : keyK N b K) : (b.lt N ∧ b.isKey) ∧ K := by
  unfold keyK at h
  split at h
  · rename_i n
    split at h
    · rename_i e
      have e : n < N := by simpa [Nat.blt_eq] using e
      exact ⟨⟨fun k hk => by simp [Blk.root] at hk; omega, trivial⟩, h⟩
    · exact h.elim
  · exact ⟨⟨fun k hk => by simp [Blk.root] at hk, trivial⟩, h⟩
  · exact h.elim

theorem emptyC_out (hS : SeatOk S) {c : Cont} {K : Prop} (h : emptyC S c K) : (ContOk S c ∧ c.empty ∧ (∀ (ρ : Loc) (N : Nat) (w : World) (rw : Bool) (b : Blk), ρ b = none → HoldsE ρ N w rw c b fun _ _ => False)) ∧ K := by
  have gen : ∀ {c : Cont}, c.empty → (∀ m : Prop, True) → (∀ (ρ : Loc) (N : Nat) (w : World) (rw : Bool) (b : Blk), ρ b = none → HoldsE ρ N w rw c b fun _ _ => False) := by
    intro c hc _ ρ N w rw b hb
    have hh : Holds ρ N w rw c b (fun _ _ => False) := holds_nothing hb hc
    cases c with
    | raw vs => exact hh
    | arr E xs => exact hh
    | nest m d g s f xs o =>
      have ho : o = none := hc.2
      subst ho
      exact hh.toE rfl
  unfold emptyC at h
  split at h
  · split at h
    · exact ⟨⟨trivial, rfl, gen rfl fun _ => trivial⟩, h⟩
    · exact h.elim
  · obtain ⟨⟨rfl, T, hT⟩, hK⟩ := h
    exact ⟨⟨⟨T, hS.hint T _ hT⟩, rfl, gen rfl fun _ => trivial⟩, hK⟩
  · split at h
    · obtain ⟨⟨rfl, T, hT⟩, hK⟩ := h
      obtain ⟨h1, h2⟩ := hS.nest T _ hT
      exact ⟨⟨⟨⟨T, h1⟩, h2⟩, ⟨rfl, rfl⟩, gen ⟨rfl, rfl⟩ fun _ => trivial⟩, hK⟩
    · exact h.elim

theorem keyB_ext : ∀ (p : List (Int × Nat)) (b : Blk), keyB (ext b p) = keyB b
  | [], _ => rfl
  | (i, j) :: p, b => keyB_ext p (.sub b i j)
theorem keyB_isKey : ∀ (b : Blk), (keyB b).isKey
  | .loc _ => trivial
  | .glob _ => trivial
  | .sub b _ _ => keyB_isKey b

theorem same_key {l : List Ent} (hp : l.Pairwise fun e e' => e.b ≠ e'.b) {e e' : Ent} (h : e ∈ l) (h' : e' ∈ l) (hb : e.b = e'.b) : e = e' := by
  induction l with
  | nil => simp at h
  | cons a r ih =>
    rw [List.pairwise_cons] at hp
    rcases List.mem_cons.1 h with rfl | h1 <;> rcases List.mem_cons.1 h' with rfl | h2
    · rfl
    · exact absurd hb (hp.1 _ h2)
    · exact absurd hb.symm (hp.1 _ h1)
    · exact ih hp.2 h1 h2

/-- within a block that may not be turned all is told by name -/
theorem Hidden.named (hh : Hidden dn ρ ρh H w) (hH : HRel S ρ H w) {x : Ent} (hx : x ∈ H.ents) (hrw : x.rw = false) {B : Blk} (hB : keyB B = x.b) : ρh B = ρ B :=
  hh.out B fun e he hr hu => by
    have := keyB_under hu (hH.key e he).2
    have hxe := same_key hH.keys hx he (by rw [← hB, this])
    rw [hxe, hr] at hrw
    simp at hrw

theorem footP_sub {p : Pl} {x : Ent} (hv : ∀ B i m j n, p = .view B i m j n → ∀ k c, regF (plLoc ρ p) k c → ρ.foot x.b k c) (hx : x.b = plB p) : ∀ k c, footP ρ p k c → ρ.foot x.b k c := by
  intro k c h
  cases p with
  | whole B => rw [hx]; exact h
  | trim B i m => rw [hx]; exact h
  | view B i m j n => exact hv B i m j n rfl k c h

theorem HoldsE.mono {ρ : Loc} {N : Nat} {w : World} {rw : Bool} {c : Cont} {b : Blk} {F G : Foot} (h : HoldsE ρ N w rw c b F) (hg : ∀ k c, F k c → G k c) : HoldsE ρ N w rw c b G := by
  have one : ∀ {ρ : Loc}, Holds ρ N w rw c b F → Holds ρ N w rw c b G := by
    intro ρ h
    cases c with
    | raw vs => exact ⟨h.1, fun k c q => hg k c (h.2 k c q)⟩
    | arr E xs => exact ⟨h.1, fun k c q => hg k c (h.2 k c q)⟩
    | nest m d g s f xs o =>
      obtain ⟨⟨h1, h2⟩, Fs, h3, h4, h5⟩ := h
      exact ⟨⟨h1, fun k c q => hg k c (h2 k c q)⟩, Fs, h3, fun i hi hl j hj k c q => hg k c (h4 i hi hl j hj k c q), h5⟩
  cases c with
  | raw vs => exact one h
  | arr E xs => exact one h
  | nest m d g s f xs o =>
    cases rw with
    | false => exact ⟨h.1, one h.2⟩
    | true =>
      obtain ⟨⟨ρ1, h1, h2⟩, h3⟩ := h
      exact ⟨⟨ρ1, h1, one h2⟩, h3⟩

theorem fitEnt_out (hS : SeatOk S) (hH : HRel S ρ H w) (hh : Hidden dn ρ ρh H w) {e : Ent} (hkey : e.b.lt N ∧ e.b.isKey) {K : Prop} (h : fitEnt S dn f N H e K) : EntFit S f ρ ρh H w N e ∧ K := by
  obtain ⟨b, rw, c⟩ := e
  have h0 := hh.zero hH
  have foot : ∀ {p : Pl}, renB f b = some p → (pullL f ρ ρh).foot b = footP ρ p := fun hp => by simp only [pullL, hp]
  -- a block that may be turned is no constant's
  have hloc : ∀ {p : Pl}, renB f b = some p → (∀ g, p ≠ .whole (.glob g)) → ∃ nb, b = .loc nb := by
    intro p hp hne
    cases b with
    | loc n => exact ⟨n, rfl⟩
    | glob g => simp only [renB, Option.some.injEq] at hp; exact absurd hp.symm (hne g)
    | sub _ _ _ => exact hkey.2.elim
  have hpull : ∀ {p : Pl}, renB f b = some p → pull f ρ ρh b = plLoc ρ p := by
    intro p hp
    cases b with
    | loc n => have hp : f n = some p := hp; simp only [pull, hp]
    | glob g => simp only [renB, Option.some.injEq] at hp; subst hp; rfl
    | sub _ _ _ => exact hkey.2.elim
  unfold fitEnt at h
  split at h
  · rename_i hb
    obtain ⟨⟨h1, h2, h3⟩, hK⟩ := emptyC_out hS h
    have hnone : pull f ρ ρh b = none := by
      cases b with
      | loc n => have hb : f n = none := hb; simp only [pull, hb]
      | glob g => simp [renB] at hb
      | sub _ _ _ => exact hkey.2.elim
    refine ⟨⟨?_, h1, .inl hb⟩, hK⟩
    have : (pullL f ρ ρh).foot b = fun _ _ => False := by simp only at hb; simp only [pullL, hb]
    simp only [this]
    exact h3 _ _ _ _ _ hnone
  · rename_i p hb
    simp only at hb
    split at h
    · rename_i B
      split at h
      · rename_i hrw
        simp only at hrw
        subst hrw
        split at h
        · rename_i b' c' hx
          obtain ⟨q1, q2⟩ := getE_mem hx
          simp only at q2
          subst q2
          have hk := (hH.key _ q1).2
          simp only at hk
          have hroot := hH.root _ q1 rfl
          have hbl : ∃ nb, b = .loc nb := hloc hb fun g q => by
            have : b' = .glob g := by injection q
            rw [this] at hroot; simp [Blk.root] at hroot
          obtain ⟨nb, rfl⟩ := hbl
          have hself : ρh b' = ρ b' := hh.out b' fun e he hr hu => hu.key hk
          have := fitC_out (S := S) (rw := true) (F := ρ.foot b') (hpull hb) hb h id (fun _ => ⟨by simp [Blk.root], hroot⟩) (hH.holds _ q1) (hH.enc _ q1) hh.same h0 (fun q => by cases q) hself (fun hd _ hc => hh.told hd _ q1 rfl hc)
          refine ⟨⟨?_, this.1.2, .inr ⟨_, _, hb, q1, ?_, fun _ => ⟨rfl, hk⟩, ?_⟩⟩, this.2⟩
          · simp only [foot hb, footP, keyB_key hk]; exact this.1.1
          · simp only [plB, keyB_key hk]
          · exact footP_sub (fun _ _ _ _ _ q => by cases q) (by simp only [plB, keyB_key hk])
        · exact h.elim
      · rename_i hrw
        simp only at hrw
        subst hrw
        obtain ⟨q, c', F, x, hc, q1, q2, q3, q4, q5, q6, q7, q8⟩ := at_sound hH h
        have hself : ρh B = ρ B := by
          cases q with
          | false => exact hh.named hH q1 q6 q7.symm
          | true =>
            have hk := (hH.key x q1).2
            rw [(q8 rfl).1] at hk
            exact hh.out B fun e he hr hu => hu.key hk
        have hro : q = false → ∀ p i j, ρh (ext (.sub B i j) p) = ρ (ext (.sub B i j) p) := by
          rintro rfl p i j
          exact hh.named hH q1 q6 (by rw [keyB_ext]; exact q7.symm)
        have htold : dn = true → q = true → c'.closed → Holds ρh H.next w true c' B F := by
          rintro hd rfl hcl
          obtain ⟨r1, r2, r3⟩ := q8 rfl
          subst r2; subst r3
          have := hh.told hd x q1 q6 hcl
          rw [r1] at this ⊢
          exact this
        have := fitC_out (S := S) (rw := false) (F := F) (hpull hb) hb hc (fun q => by cases q) (fun q => by cases q) q2 q3 hh.same h0 hro hself htold
        refine ⟨⟨?_, this.1.2, .inr ⟨_, x, hb, q1, ?_, (fun q => by cases q), ?_⟩⟩, this.2⟩
        · simp only [foot hb, footP]
          rw [← q7]
          exact this.1.1.mono q5
        · simp only [plB]; exact q7
        · exact footP_sub (fun _ _ _ _ _ q => by cases q) (by simp only [plB]; exact q7)
    · rename_i B i m0
      have hbl := hloc hb fun g q => by cases q
      split at h
      · rename_i b' q c' hx
        obtain ⟨q1, q2⟩ := getE_mem hx
        simp only at q2
        subst q2
        have hk := (hH.key _ q1).2
        simp only at hk
        have main : ∀ {rw' : Bool}, rw' = rw → (rw' = true → q = true) → fitT i m0 q rw' c c' K → EntFit S f ρ ρh H w N ⟨b, rw, c⟩ ∧ K := by
          rintro rw' rfl hq h
          have := fitT_out (S := S) (ρh := ρh) (N := N) hb hbl h hq (fun q => hH.root _ q1 q) (hH.holds _ q1) (hH.enc _ q1) h0 (fun hqf p i' j' => hh.named hH q1 hqf (by rw [keyB_ext]; simp only [keyB]; exact keyB_key hk))
          refine ⟨⟨?_, this.1.2, .inr ⟨_, _, hb, q1, ?_, fun q => ⟨hq q, hk⟩, ?_⟩⟩, this.2⟩
          · simp only [foot hb, footP, keyB_key hk]; exact this.1.1
          · simp only [plB, keyB_key hk]
          · exact footP_sub (fun _ _ _ _ _ q => by cases q) (by simp only [plB, keyB_key hk])
        simp only at h
        cases rw with
        | false => exact main rfl (fun q => by cases q) h
        | true => cases q with
          | false => exact h.elim
          | true => exact main rfl (fun _ => rfl) h
      · exact h.elim
    · rename_i B i m0 j n
      simp only at h
      split at h
      · rename_i vs
        split at h
        · rename_i hn hpos
          have hn := Nat.eq_of_beq_eq_true hn
          have hpos := Nat.le_of_ble_eq_true hpos
          split at h
          · split at h
            · rename_i b' c' hx
              obtain ⟨q1, q2⟩ := getE_mem hx
              simp only at q2
              subst q2
              have hk := (hH.key _ q1).2
              simp only at hk
              have hold := hH.holds _ q1
              simp only at hold
              have he : 0 ≤ i.getD 0 ∧ elemA true b' m0 i c' fun cs => fitVs dn f vs ((cs.drop j).take n) (ltVs N vs K) := by
                cases c' with
                | raw vs' =>
                  simp only [viewW] at h
                  split at h
                  · exact ⟨by simp, h⟩
                  · exact ⟨by simp, h⟩
                  · exact h.elim
                | arr E xs => exact h.elim
                | nest m' d g s f' xs o =>
                  simp only [viewW] at h
                  split at h
                  · exact h.elim
                  · split at h
                    · exact h.elim
                    · rename_i hm
                      split at h
                      · rename_i p
                        obtain ⟨i0, cs⟩ := p
                        obtain ⟨rfl, h⟩ := h
                        have h1 := hold.2.1
                        exact ⟨h1, by simp only [elemA, nestElemA, hm]; exact ⟨trivial, h⟩⟩
                      · exact h.elim
              have := view_out (S := S) (rw := true) (N := N) (hpull hb) hh.same hn hpos he.1 hold (hH.enc _ q1) (hH.key _ q1).1 (fun _ => rfl) he.2
              refine ⟨⟨?_, trivial, .inr ⟨_, _, hb, q1, ?_, fun _ => ⟨rfl, hk⟩, ?_⟩⟩, this.2⟩
              · simp only [foot hb, footP]; exact this.1.1
              · simp only [plB, keyB_key hk]
              · refine footP_sub (fun _ _ _ _ _ q => ?_) (by simp only [plB, keyB_key hk])
                exact this.1.2
            · exact h.elim
          · obtain ⟨hi, h⟩ := h
            obtain ⟨q, c', F, x, hc, q1, q2, q3, q4, q5, q6, q7, q8⟩ := at_sound hH h
            have := view_out (S := S) (rw := false) (N := N) (hpull hb) hh.same hn hpos hi q2 q3 q4 (fun q => by cases q) hc
            refine ⟨⟨?_, trivial, .inr ⟨_, x, hb, q1, ?_, (fun q => by cases q), ?_⟩⟩, this.2⟩
            · simp only [foot hb, footP]; exact this.1.1
            · simp only [plB]; exact q7
            · refine footP_sub (fun _ _ _ _ _ q => ?_) (by simp only [plB]; exact q7)
              exact fun k c p => q5 k c (this.1.2 k c p)
        · exact h.elim
      · exact h.elim

theorem plB_key (p : Pl) : (plB p).isKey := by cases p <;> exact keyB_isKey _

/-- places apart, or as they are told -/
def Apart (ρ : Lay) (p p' : Pl) : Prop := plB p ≠ plB p' ∨ (∀ B, p ≠ .whole B) ∧ (∀ B, p' ≠ .whole B) ∧ Disj (footP ρ p) (footP ρ p')
theorem apartK_out {p p' : Pl} {K : Prop} (h : apartK p p' K) : Apart ρ p p' ∧ K := by
  unfold apartK at h
  split at h
  · rename_i hb
    exact ⟨.inl fun q => (by rw [q, Blk.beq_self (plB_key _)] at hb; cases hb), h⟩
  · rename_i hbq
    clear hbq
    split at h
    · rename_i b i m j n
      split at h
      · rename_i b' i' m' j' n'
        split at h
        · rename_i hm hr
          have hm := Nat.eq_of_beq_eq_true hm
          subst hm
          obtain ⟨h1, hx⟩ := fitB_out h
          obtain ⟨h2, hK⟩ := fitI_out hx
          subst h1
          refine ⟨.inr ⟨(fun _ q => by cases q), (fun _ q => by cases q), ?_⟩, hK⟩
          rintro k c ⟨z, q1, q2, q3⟩ ⟨z', r1, r2, r3⟩
          simp only [plLoc] at q1 r1
          cases hb : ρ.loc b with
          | none => rw [hb] at q1; simp at q1
          | some kz =>
            rw [hb] at q1 r1
            simp only [Option.some.injEq, Prod.mk.injEq] at q1 r1
            obtain ⟨_, rfl⟩ := q1
            obtain ⟨_, rfl⟩ := r1
            simp only at q2 q3 r2 r3
            rw [h2] at q2 q3
            simp only [Bool.or_eq_true] at hr
            rcases hr with hr | hr <;> have hr := Nat.le_of_ble_eq_true hr <;> omega
        · exact h.elim
      · exact h.elim
    · exact h.elim

/-- thoughts apart -/
def PairOk (f : Nat → Option Pl) (ρ : Lay) (e e' : Ent) : Prop := e.b ≠ e'.b ∧ ((e.rw = true ∨ e'.rw = true) → ∀ p p', renB f e.b = some p → renB f e'.b = some p' → Apart ρ p p')
theorem pairK_out {e e' : Ent} {K : Prop} (hk : e.b.isKey) (h : pairK f e e' K) : PairOk f ρ e e' ∧ K := by
  unfold pairK at h
  split at h
  · exact h.elim
  · rename_i hb
    have hne : e.b ≠ e'.b := fun q => by rw [← q, Blk.beq_self hk] at hb; cases hb
    split at h
    · rename_i hr
      simp at hr
      exact ⟨⟨hne, fun q => by rw [hr.1, hr.2] at q; simp at q⟩, h⟩
    · split at h
      · rename_i e1
        exact ⟨⟨hne, fun _ p p' q => by rw [e1] at q; simp at q⟩, h⟩
      · rename_i p1 e1
        split at h
        · rename_i e2
          exact ⟨⟨hne, fun _ p p' _ q => by rw [e2] at q; simp at q⟩, h⟩
        · rename_i p2 e2
          obtain ⟨h1, h2⟩ := apartK_out (ρ := ρ) h
          refine ⟨⟨hne, fun _ p p' q q' => ?_⟩, h2⟩
          rw [e1] at q; rw [e2] at q'
          simp at q q'
          rw [← q, ← q']
          exact h1
theorem pairsOne_out {e : Ent} (hk : e.b.isKey) : ∀ {l : List Ent} {K : Prop}, pairsOne f e l K → (∀ e' ∈ l, PairOk f ρ e e') ∧ K
  | [], _, h => ⟨by simp, h⟩
  | e' :: r, _, h => by
    obtain ⟨h1, h⟩ := pairK_out (ρ := ρ) hk h
    obtain ⟨h2, h⟩ := pairsOne_out hk h
    refine ⟨fun x hx => ?_, h⟩
    rcases List.mem_cons.1 hx with rfl | hx
    · exact h1
    · exact h2 x hx
theorem pairsK_out : ∀ {l : List Ent} {K : Prop}, (∀ e ∈ l, e.b.isKey) → pairsK f l K → l.Pairwise (PairOk f ρ) ∧ K
  | [], _, _, h => ⟨.nil, h⟩
  | e :: r, _, hk, h => by
    obtain ⟨h1, h⟩ := pairsOne_out (ρ := ρ) (hk e List.mem_cons_self) h
    obtain ⟨h2, h⟩ := pairsK_out (fun x hx => hk x (List.mem_cons_of_mem _ hx)) h
    exact ⟨List.pairwise_cons.2 ⟨h1, h2⟩, h⟩
theorem Apart.symm {p p' : Pl} (h : Apart ρ p p') : Apart ρ p' p := h.imp Ne.symm fun ⟨a, b, c⟩ => ⟨b, a, c.symm⟩
theorem pairwise_sep : ∀ {l : List Ent}, l.Pairwise (PairOk f ρ) → ∀ e ∈ l, ∀ e' ∈ l, e.b ≠ e'.b → (e.rw = true ∨ e'.rw = true) → ∀ p p', renB f e.b = some p → renB f e'.b = some p' → Apart ρ p p'
  | [], _, e, he, _, _, _, _ => by simp at he
  | x :: r, hp, e, he, e', he', hne, hor => by
    rw [List.pairwise_cons] at hp
    rcases List.mem_cons.1 he with rfl | he1
    · rcases List.mem_cons.1 he' with rfl | he2
      · exact absurd rfl hne
      · exact (hp.1 e' he2).2 hor
    · rcases List.mem_cons.1 he' with rfl | he2
      · intro p p' q q'
        exact ((hp.1 e he1).2 hor.symm p' p q' q).symm
      · exact pairwise_sep hp.2 e he1 e' he2 hne hor

theorem fitEnts_out (hS : SeatOk S) (hH : HRel S ρ H w) (hh : Hidden dn ρ ρh H w) : ∀ {l : List Ent} {K : Prop}, fitEnts S dn f N H l K → (∀ e ∈ l, (e.b.lt N ∧ e.b.isKey) ∧ EntFit S f ρ ρh H w N e) ∧ K
  | [], _, h => ⟨by simp, h⟩
  | e :: r, _, h => by
    unfold fitEnts at h
    obtain ⟨h1, h⟩ := keyK_out h
    obtain ⟨h2, h⟩ := fitEnt_out hS hH hh h1 h
    obtain ⟨h3, h⟩ := fitEnts_out hS hH hh h
    refine ⟨fun x hx => ?_, h⟩
    rcases List.mem_cons.1 hx with rfl | hx
    · exact ⟨h1, h2⟩
    · exact h3 x hx

theorem HRel.pull (hH : HRel S ρ H w) {l : List Ent} (hfit : ∀ e ∈ l, (e.b.lt N ∧ e.b.isKey) ∧ EntFit S f ρ ρh H w N e) (hp : l.Pairwise (PairOk f ρ)) : HRel S (pullL f ρ ρh) ⟨l, N⟩ w where
  holds := fun e he => (hfit e he).2.1
  key := fun e he => (hfit e he).1
  sep := fun e he e' he' hor hne => by
    obtain ⟨_, _, h1⟩ := (hfit e he).2
    obtain ⟨_, _, h2⟩ := (hfit e' he').2
    rcases h1 with h1 | ⟨p, x, h3, h4, h5, h6, h7⟩
    · intro k c q; simp only [pullL, h1] at q
    rcases h2 with h2 | ⟨p', x', g3, g4, g5, g6, g7⟩
    · intro k c _ q; simp only [pullL, h2] at q
    have hap := pairwise_sep hp e he e' he' hne hor p p' h3 g3
    intro k c q1 q2
    simp only [pullL, h3] at q1
    simp only [pullL, g3] at q2
    rcases hap with hap | hap
    · exact hH.sep x h4 x' g4 (hor.imp (fun q => (h6 q).1) (fun q => (g6 q).1)) (by rw [h5, g5]; exact hap) k c (h7 k c q1) (g7 k c q2)
    · exact hap.2.2 k c q1 q2
  keys := hp.imp fun h => h.1
  glob := fun g => hH.glob g
  enc := fun e he => (hfit e he).2.2.1
  low := fun e he k c q => by
    obtain ⟨_, _, h1⟩ := (hfit e he).2
    rcases h1 with h1 | ⟨p, x, h3, h4, h5, h6, h7⟩
    · simp only [pullL, h1] at q
    · simp only [pullL, h3] at q
      exact hH.low x h4 k c (h7 k c q)
  root := fun e he hr => by
    obtain ⟨_, _, h1⟩ := (hfit e he).2
    cases hb : e.b with
    | loc n => simp [Blk.root]
    | glob g =>
      rcases h1 with h1 | ⟨p, x, h3, h4, h5, h6, h7⟩
      · rw [hb] at h1; simp [renB] at h1
      · rw [hb] at h3
        simp only [renB, Option.some.injEq] at h3
        subst h3
        have := hH.root x h4 (h6 hr).1
        rw [h5] at this
        simp [plB, keyB, Blk.root] at this
    | sub c i j => have := (hfit e he).1.2; rw [hb] at this; exact this.elim
end

section
variable {S : Seat} {ρ : Lay} {f : Nat → Option Pl} {N : Nat} {H : Heap} {w : World}

theorem fitEnv_out {env : List (Nat × AV)} : ∀ {l : List (Nat × AV)} {K : Prop}, fitEnv f N env l K → (∀ t, (∀ r, VRel ρ (look env t) r → VRel (pull f ρ ρ) (look l t) r) ∧ (look l t).lt N) ∧ K
  | [], _, h => ⟨fun _ => ⟨fun _ _ => trivial, trivial⟩, h⟩
  | (t, v) :: r, _, h => by
    unfold fitEnv at h
    obtain ⟨h1, h⟩ := fitV_out (ρ := ρ) (ρh := ρ) (fun _ => rfl) h
    obtain ⟨h2, h⟩ := ltV_out h
    obtain ⟨h3, h⟩ := fitEnv_out h
    refine ⟨fun s => ?_, h⟩
    have hlook : look ((t, v) :: r) s = match Nat.beq t s with | true => v | false => look r s := rfl
    rw [hlook]
    split
    · rename_i e
      have e := Nat.eq_of_beq_eq_true e
      subst e
      exact ⟨h1, h2⟩
    · exact h3 s

theorem idOk_out {m : Ren} : ∀ {lo : Nat}, idOk lo m = true → ∀ n, n < lo → lookR m n = some (.whole (.loc n))
  | 0, _, n, hn => by omega
  | k + 1, h, n, hn => by
    unfold idOk at h
    split at h
    · rename_i j hj
      split at h
      · rename_i e
        have e := Nat.eq_of_beq_eq_true e
        subst e
        rcases Nat.lt_or_ge n j with q | q
        · exact idOk_out h n q
        · have : n = j := by omega
          subst this; exact hj
      · simp at h
    · simp at h
end

/-- what is known fits what is thought, some numbers told -/
def fitsM (S : Seat) (m0 : Ren) (σ τ : St) (K : Prop) : Prop :=
  match σ with
  | ⟨env, H, n, lo⟩ => match τ with
    | ⟨env', ⟨l, N⟩, n', lo'⟩ => match Nat.beq n n', Nat.beq lo lo', Nat.ble lo N with
      | true, true, true => learnEnv l H.ents env env' (idR lo m0) fun m => learnH l H.ents l m fun m => match idOk lo m with
        | true => fitEnv (lookR m) N env env' (fitEnts S false (lookR m) N H l (pairsK (lookR m) l K))
        | false => False
      | _, _, _ => False
/-- what is known fits what is thought: first what is known -/
def fitsA (S : Seat) (σ τ : St) (K : Prop) : Prop := fitsM S [] σ τ K

section
variable {S : Seat} {ρ : Lay} {w : World}
theorem fitsM_out (hS : SeatOk S) {m0 : Ren} {σ τ : St} {K : Prop} (h : fitsM S m0 σ τ K) {ρ0 : Lay} {H0 : Heap} {w0 : World} {a : Act} {w : World} (hi : Inv S ρ0 H0 w0 σ ρ a w) :
    (∃ ρ', Inv S ρ0 H0 w0 τ ρ' a w) ∧ K := by
  obtain ⟨env, H, n, lo⟩ := σ
  obtain ⟨env', ⟨l, N⟩, n', lo'⟩ := τ
  simp only [fitsM] at h
  split at h
  · rename_i e1 e2 e3
    have e1 := Nat.eq_of_beq_eq_true e1
    have e2 := Nat.eq_of_beq_eq_true e2
    have e3 := Nat.le_of_ble_eq_true e3
    subst e1; subst e2
    obtain ⟨m1, h⟩ := learnEnv_out h
    obtain ⟨m, h⟩ := learnH_out h
    split at h
    · rename_i hid
      have hid := idOk_out hid
      obtain ⟨h1, h⟩ := fitEnv_out (ρ := ρ) h
      obtain ⟨h2, h⟩ := fitEnts_out hS hi.after.heap (.plain ρ H w) h
      obtain ⟨h3, h⟩ := pairsK_out (ρ := ρ) (fun e he => (h2 e he).1.2) h
      have hlo : H0.next = lo := hi.lo
      refine ⟨⟨pullL (lookR m) ρ ρ, fun t => ⟨(h1 t).1 _ (hi.env t).1, (h1 t).2⟩, hi.size, hi.defers, hi.lo, ?_⟩, h⟩
      have hheap : HRel S (pullL (lookR m) ρ ρ) ⟨l, N⟩ w := hi.after.heap.pull h2 h3
      refine ⟨by rw [hlo]; exact e3, fun b hb => ?_, hheap, hi.after.size, hi.after.frame, fun k c hk => ?_, hi.after.os, hi.after.tape, hi.after.output⟩
      · show pull (lookR m) ρ ρ b = ρ0 b
        rw [pull_agree hid b (hlo ▸ hb)]
        exact hi.after.agree b hb
      · obtain ⟨e, he, hr, hf⟩ := hk
        obtain ⟨_, _, g3⟩ := (h2 e he).2
        rcases g3 with g3 | ⟨p, x, q1, q2, q3, q4, q5⟩
        · simp only [pullL, g3] at hf
        · simp only [pullL, q1] at hf
          exact hi.after.own k c ⟨x, q2, (q4 hr).1, q5 k c hf⟩
    · exact h.elim
  · exact h.elim

/-- the same run, seen otherwise -/
def Turn (S : Seat) (σ τ : St) : Prop := ∀ (ρ0 : Lay) (H0 : Heap) (w0 : World) (ρ : Lay) (a : Act) (w : World), Inv S ρ0 H0 w0 σ ρ a w → ∃ ρ', Inv S ρ0 H0 w0 τ ρ' a w
theorem Turn.refl (σ : St) : Turn S σ σ := fun _ _ _ ρ _ _ h => ⟨ρ, h⟩
theorem Turn.trans {σ τ υ : St} (h : Turn S σ τ) (k : Turn S τ υ) : Turn S σ υ := fun _ _ _ _ _ _ hi => let ⟨_, hi⟩ := h _ _ _ _ _ _ hi; k _ _ _ _ _ _ hi
theorem Turn.fits (hS : SeatOk S) {m0 : Ren} {σ τ : St} (h : fitsM S m0 σ τ True) : Turn S σ τ := fun _ _ _ _ _ _ hi => (fitsM_out hS h hi).1

/-- what is known fits what is thought, some turns between -/
@[irreducible] def FitsT (S : Seat) (σ τ : St) : Prop := Turn S σ τ
theorem FitsT.now (hS : SeatOk S) {σ τ : St} (h : fitsA S σ τ True) : FitsT S σ τ := by unfold FitsT; exact .fits hS h
theorem FitsT.told (hS : SeatOk S) (m0 : Ren) {σ τ : St} (h : fitsM S m0 σ τ True) : FitsT S σ τ := by unfold FitsT; exact .fits hS h
theorem FitsT.turn {σ τ υ : St} (h : Turn S σ τ) (k : FitsT S τ υ) : FitsT S σ υ := by unfold FitsT at *; exact h.trans k

/-- a loop -/
theorem Wp.loop (hS : SeatOk S) {γ : Type} (I : γ → St) (R : γ → Prop) (μ : γ → Nat) {c : Code} {σ : St} {kn : St → Prop} {ke : Nat → St → Prop} {kr : St → Prop} (g0 : γ) (hR : R g0) (h0 : FitsT S σ (I g0))
    (round : ∀ g, R g → Wp S c (I g) (fun σ' => ∃ g', (R g' ∧ μ g' < μ g) ∧ FitsT S σ' (I g')) ke kr) : Wp S (.loop c) σ kn ke kr := by
  unfold Wp
  intro ρ0 H0 w0 ρ a w hi
  unfold FitsT at h0
  refine wp_loop_ghost (fun n a w => ∃ g, ∃ ρ : Lay, R g ∧ μ g = n ∧ Inv S ρ0 H0 w0 (I g) ρ a w) (μ g0) ?_ ?_
  · obtain ⟨ρ', h⟩ := h0 _ _ _ _ _ _ hi
    exact ⟨g0, ρ', hR, rfl, h⟩
  · rintro n a w ⟨g, ρ, h1, rfl, h2⟩
    refine wp_mono ((round g h1).run h2) fun e a w hq => ?_
    cases e with
    | normal =>
      obtain ⟨σ, ρ, ⟨g', ⟨q1, q2⟩, q3⟩, q4⟩ := hq
      unfold FitsT at q3
      obtain ⟨ρ', h⟩ := q3 _ _ _ _ _ _ q4
      exact ⟨μ g', q2, g', ρ', q1, rfl, h⟩
    | exit i => exact hq
    | ret => exact hq
    | _ => exact hq.elim

/-- two roads that meet -/
theorem Wp.cut (hS : SeatOk S) {γ : Type} (I : γ → St) (R : γ → Prop) {c : Code} {σ : St} {kn : St → Prop} {ke : Nat → St → Prop} {kr : St → Prop}
    (h : Wp S c σ (fun σ' => ∃ g', R g' ∧ FitsT S σ' (I g')) ke kr) (k : ∀ g, R g → kn (I g)) : Wp S c σ kn ke kr := by
  unfold Wp
  intro ρ0 H0 w0 ρ a w hi
  refine wp_mono (h.run hi) fun e a w hq => ?_
  cases e with
  | normal =>
    obtain ⟨σ, ρ, ⟨g', q1, q3⟩, q4⟩ := hq
    unfold FitsT at q3
    obtain ⟨ρ', h⟩ := q3 _ _ _ _ _ _ q4
    exact ⟨I g', ρ', k g' q1, h⟩
  | exit i => exact hq
  | ret => exact hq
  | _ => exact hq.elim

/-- the state seen otherwise, here -/
theorem Wp.turn {c : Code} {σ τ : St} {kn : St → Prop} {ke : Nat → St → Prop} {kr : St → Prop} (h : Turn S σ τ) (k : Wp S c τ kn ke kr) : Wp S c σ kn ke kr := by
  unfold Wp
  intro ρ0 H0 w0 ρ a w hi
  obtain ⟨ρ', hi⟩ := h _ _ _ _ _ _ hi
  exact k.run hi
end
end Go.Vm
