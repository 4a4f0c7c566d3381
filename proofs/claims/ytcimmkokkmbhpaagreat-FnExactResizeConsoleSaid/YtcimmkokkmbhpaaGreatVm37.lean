/- An abstract machine over the loaded code: what is dead is dropped. -/
import Derived.Test.YtcimmkokkmbhpaaGreatVmI
set_option linter.unusedSimpArgs false
set_option linter.unusedVariables false
set_option linter.constructorNameAsVariable false
namespace Go.Vm
open Go.RowKit
section
variable {S : Seat} {σ τ : St} {c : Code} {kn : St → Prop} {ke : Nat → St → Prop} {kr : St → Prop}
def blkN : Blk → List Nat → List Nat
  | .loc n, r => n :: r
  | .glob _, r => r
  | .sub b _ _, r => blkN b r
mutual
/-- the blocks that a value names -/
def avN : AV → List Nat → List Nat
  | .ptr b _ _ _, r => blkN b r
  | .sl b _ _ _, r => blkN b r
  | .fn _ c, r => avsN c r
  | .agg c, r => avsN c r
  | .tup c, r => avsN c r
  | _, r => r
def avsN : List AV → List Nat → List Nat
  | [], r => r
  | v :: vs, r => avN v (avsN vs r)
end
def envN : List (Nat × AV) → List Nat
  | [] => []
  | p :: r => avN p.2 (envN r)
def remN : List Nat → Nat → List Nat
  | [], _ => []
  | a :: r, t => match Nat.beq a t with
    | true => remN r t
    | false => a :: remN r t
theorem remN_ne {a t : Nat} (h : Nat.beq a t = false) : ∀ ks : List Nat, memN (remN ks a) t = memN ks t
  | [] => rfl
  | b :: r => by
    unfold remN
    split
    · rename_i hb
      have := Nat.eq_of_beq_eq_true hb
      subst this
      simp only [memN, h]
      exact remN_ne h r
    · simp only [memN]
      split
      · rfl
      · exact remN_ne h r
def pickK : List Nat → List (Nat × AV) → (List (Nat × AV) → Prop) → Prop
  | _, [], K => K []
  | ks, p :: r, K => match p with
    | (t, v) => match memN ks t with
      | true => pickK (remN ks t) r fun l => K ((t, v) :: l)
      | false => pickK ks r K
def pickE : List Nat → List (Nat × AV) → List (Nat × AV)
  | _, [] => []
  | ks, (t, v) :: r => match memN ks t with
    | true => (t, v) :: pickE (remN ks t) r
    | false => pickE ks r
theorem pickK_out : ∀ {ks : List Nat} {env : List (Nat × AV)} {K : List (Nat × AV) → Prop}, pickK ks env K → K (pickE ks env)
  | _, [], _, h => h
  | ks, (t, v) :: r, K, h => by
    unfold pickK at h
    simp only at h
    unfold pickE
    split at h
    · exact pickK_out (env := r) (K := fun l => K ((t, v) :: l)) h
    · exact pickK_out (env := r) h
theorem pickE_look {t : Nat} : ∀ {env : List (Nat × AV)} {ks : List Nat}, look (pickE ks env) t = if memN ks t = true then look env t else .undef
  | [], ks => by simp [pickE, look]
  | (a, v) :: r, ks => by
    unfold pickE
    split
    · rename_i hm
      simp only [look]
      cases hb : Nat.beq a t
      · rw [← remN_ne hb ks]
        exact pickE_look (env := r)
      · have := Nat.eq_of_beq_eq_true hb
        subst this
        simp [hm]
    · rename_i hm
      rw [pickE_look (env := r)]
      simp only [look]
      cases hb : Nat.beq a t
      · rfl
      · have := Nat.eq_of_beq_eq_true hb
        subst this
        simp [hm]
/-- entries of these blocks -/
def heapK (ns : List Nat) : List Ent → (List Ent → Prop) → Prop
  | [], K => K []
  | e :: r, K => match e with
    | ⟨b, rw, c⟩ => match b with
      | .loc n => match memN ns n with
        | true => heapK ns r fun l => K (⟨.loc n, rw, c⟩ :: l)
        | false => heapK ns r K
      | .glob n => heapK ns r fun l => K (⟨.glob n, rw, c⟩ :: l)
      | .sub b i j => heapK ns r fun l => K (⟨.sub b i j, rw, c⟩ :: l)
theorem heapK_out {ns : List Nat} : ∀ {l : List Ent} {K : List Ent → Prop}, heapK ns l K → ∃ l', l'.Sublist l ∧ K l'
  | [], _, h => ⟨[], .slnil, h⟩
  | ⟨b, rw, c⟩ :: r, K, h => by
    cases b with
    | loc n =>
      unfold heapK at h
      simp only at h
      split at h
      · obtain ⟨l', h1, h2⟩ := heapK_out (l := r) (K := fun l => K (⟨.loc n, rw, c⟩ :: l)) h
        exact ⟨_, h1.cons_cons _, h2⟩
      · obtain ⟨l', h1, h2⟩ := heapK_out (l := r) h
        exact ⟨_, h1.cons _, h2⟩
    | glob n =>
      obtain ⟨l', h1, h2⟩ := heapK_out (l := r) (K := fun l => K (⟨.glob n, rw, c⟩ :: l)) h
      exact ⟨_, h1.cons_cons _, h2⟩
    | sub b i j =>
      obtain ⟨l', h1, h2⟩ := heapK_out (l := r) (K := fun l => K (⟨.sub b i j, rw, c⟩ :: l)) h
      exact ⟨_, h1.cons_cons _, h2⟩
/-- the blocks that entries of plain values name, of these blocks -/
def rawN (ns : List Nat) : List Ent → List Nat → List Nat
  | [], r => r
  | e :: l, r => match e with
    | ⟨b, _, c⟩ => match b with
      | .loc n => match memN ns n with
        | true => match c with
          | .raw vs => avsN vs (rawN ns l r)
          | .nest _ _ _ _ _ _ o => match o with
            | some p => avsN p.2 (rawN ns l r)
            | none => rawN ns l r
          | _ => rawN ns l r
        | false => rawN ns l r
      | _ => rawN ns l r
def forceN : List Nat → (List Nat → Prop) → Prop
  | [], K => K []
  | n :: r, K => forceN r fun l => K (n :: l)
theorem forceN_out : ∀ {l : List Nat} {K : List Nat → Prop}, forceN l K → K l
  | [], _, h => h
  | n :: r, K, h => forceN_out (l := r) (K := fun l => K (n :: l)) h
theorem Turn.less {env : List (Nat × AV)} {l l' : List Ent} {N n lo : Nat} (ks : List Nat) (h : l'.Sublist l) : Turn S ⟨env, ⟨l, N⟩, n, lo⟩ ⟨pickE ks env, ⟨l', N⟩, n, lo⟩ := fun ρ0 H0 w0 ρ a w hi => by
  have hs := h.subset
  have hr := hi.after.heap
  refine ⟨ρ, fun t => ?_, hi.size, hi.defers, hi.lo, hi.after.next, hi.after.agree, ?_, hi.after.size, hi.after.frame, fun k c hk => ?_, hi.after.os, hi.after.tape, hi.after.output⟩
  · show VRel ρ (look (pickE ks env) t) _ ∧ (look (pickE ks env) t).lt _
    rw [pickE_look]
    split
    · exact hi.env t
    · exact ⟨trivial, trivial⟩
  · exact ⟨fun e he => hr.holds e (hs he), fun e he => hr.key e (hs he), fun e he e' he' => hr.sep e (hs he) e' (hs he'), hr.keys.sublist h, hr.glob, fun e he => hr.enc e (hs he), fun e he => hr.low e (hs he), fun e he => hr.root e (hs he)⟩
  · obtain ⟨e, he, h1, h2⟩ := hk
    exact hi.after.own k c ⟨e, hs he, h1, h2⟩
/-- only these values, and the blocks they name -/
def keepK (ks : List Nat) (σ : St) (K : St → Prop) : Prop := match σ with
  | ⟨env, H, n, lo⟩ => match H with
    | ⟨l, N⟩ => pickK ks env fun env => forceN (envN env) fun ns => forceN (rawN ns l ns) fun ns => heapK ns l fun l => K ⟨env, ⟨l, N⟩, n, lo⟩
theorem Turn.keep {ks : List Nat} {σ τ : St} (h : keepK ks σ fun σ' => σ' = τ) : Turn S σ τ := by
  obtain ⟨env, ⟨l, N⟩, n, lo⟩ := σ
  unfold keepK at h
  simp only at h
  have h := pickK_out (K := fun env => forceN (envN env) fun ns => forceN (rawN ns l ns) fun ns => heapK ns l fun l => (⟨env, ⟨l, N⟩, n, lo⟩ : St) = τ) h
  have h := forceN_out h
  have h := forceN_out (K := fun ns => heapK ns l fun l => (⟨pickE ks env, ⟨l, N⟩, n, lo⟩ : St) = τ) h
  obtain ⟨l', h1, h2⟩ := heapK_out h
  subst h2
  exact Turn.less ks h1
theorem FitsT.keep (ks : List Nat) {σ τ : St} (h : keepK ks σ fun σ' => σ' = τ) : FitsT S σ τ := by unfold FitsT; exact Turn.keep h
/-- only these values, and the blocks they name; plain values are only read from here on -/
theorem Wp.keep (ks : List Nat) {env : List (Nat × AV)} {l : List Ent} {N n lo : Nat} (k : keepK ks ⟨env, ⟨l, N⟩, n, lo⟩ fun σ' => match σ' with | ⟨env, H, n, lo⟩ => match H with | ⟨l, N⟩ => rawK l fun l => Wp S c ⟨env, ⟨l, N⟩, n, lo⟩ kn ke kr) : Wp S c ⟨env, ⟨l, N⟩, n, lo⟩ kn ke kr := by
  unfold keepK at k
  simp only at k
  have k := pickK_out (K := fun env => forceN (envN env) fun ns => forceN (rawN ns l ns) fun ns => heapK ns l fun l => rawK l fun l => Wp S c ⟨env, ⟨l, N⟩, n, lo⟩ kn ke kr) k
  have k := forceN_out k
  have k := forceN_out (K := fun ns => heapK ns l fun l => rawK l fun l => Wp S c ⟨pickE ks env, ⟨l, N⟩, n, lo⟩ kn ke kr) k
  obtain ⟨l', h1, h2⟩ := heapK_out k
  exact Wp.turn (Turn.less ks h1) (Wp.ro h2)
/-- only these values, and the blocks they name -/
theorem Wp.prune (ks : List Nat) {env : List (Nat × AV)} {H : Heap} {n lo : Nat} (k : keepK ks ⟨env, H, n, lo⟩ fun σ' => Wp S c σ' kn ke kr) : Wp S c ⟨env, H, n, lo⟩ kn ke kr := by
  obtain ⟨l, N⟩ := H
  unfold keepK at k
  simp only at k
  have k := pickK_out (K := fun env => forceN (envN env) fun ns => forceN (rawN ns l ns) fun ns => heapK ns l fun l => Wp S c ⟨env, ⟨l, N⟩, n, lo⟩ kn ke kr) k
  have k := forceN_out k
  have k := forceN_out (K := fun ns => heapK ns l fun l => Wp S c ⟨pickE ks env, ⟨l, N⟩, n, lo⟩ kn ke kr) k
  obtain ⟨l', h1, h2⟩ := heapK_out k
  exact Wp.turn (Turn.less ks h1) h2
/-- only these values -/
theorem Wp.pick (ks : List Nat) {env : List (Nat × AV)} {H : Heap} {n lo : Nat} (k : pickK ks env fun env => Wp S c ⟨env, H, n, lo⟩ kn ke kr) : Wp S c ⟨env, H, n, lo⟩ kn ke kr := by
  obtain ⟨l, N⟩ := H
  have k := pickK_out (K := fun env => Wp S c ⟨env, ⟨l, N⟩, n, lo⟩ kn ke kr) k
  exact Wp.turn (Turn.less ks (List.Sublist.refl _)) k
theorem wP8 (ks : List Nat) {p0 p1 p2 p3 p4 p5 p6 p7 : Nat × AV} {env : List (Nat × AV)} {H : Heap} {n lo id : Nat} {ops : Array Oper} {d : Bool} (k : pickK ks (p0 :: p1 :: p2 :: p3 :: p4 :: p5 :: p6 :: p7 :: env) fun env => Wp S (.region id ops d) ⟨env, H, n, lo⟩ kn ke kr) : Wp S (.region id ops d) ⟨p0 :: p1 :: p2 :: p3 :: p4 :: p5 :: p6 :: p7 :: env, H, n, lo⟩ kn ke kr := .pick ks k
theorem wK8 (ks : List Nat) {p0 p1 p2 p3 p4 p5 p6 p7 : Nat × AV} {env : List (Nat × AV)} {H : Heap} {n lo id : Nat} {ops : Array Oper} {d : Bool} (k : keepK ks ⟨p0 :: p1 :: p2 :: p3 :: p4 :: p5 :: p6 :: p7 :: env, H, n, lo⟩ fun σ' => Wp S (.region id ops d) σ' kn ke kr) : Wp S (.region id ops d) ⟨p0 :: p1 :: p2 :: p3 :: p4 :: p5 :: p6 :: p7 :: env, H, n, lo⟩ kn ke kr := .prune ks k
theorem wP16 (ks : List Nat) {p0 p1 p2 p3 p4 p5 p6 p7 p8 p9 p10 p11 p12 p13 p14 p15 : Nat × AV} {env : List (Nat × AV)} {H : Heap} {n lo id : Nat} {ops : Array Oper} {d : Bool} (k : pickK ks (p0 :: p1 :: p2 :: p3 :: p4 :: p5 :: p6 :: p7 :: p8 :: p9 :: p10 :: p11 :: p12 :: p13 :: p14 :: p15 :: env) fun env => Wp S (.region id ops d) ⟨env, H, n, lo⟩ kn ke kr) : Wp S (.region id ops d) ⟨p0 :: p1 :: p2 :: p3 :: p4 :: p5 :: p6 :: p7 :: p8 :: p9 :: p10 :: p11 :: p12 :: p13 :: p14 :: p15 :: env, H, n, lo⟩ kn ke kr := .pick ks k
theorem wK16 (ks : List Nat) {p0 p1 p2 p3 p4 p5 p6 p7 p8 p9 p10 p11 p12 p13 p14 p15 : Nat × AV} {env : List (Nat × AV)} {H : Heap} {n lo id : Nat} {ops : Array Oper} {d : Bool} (k : keepK ks ⟨p0 :: p1 :: p2 :: p3 :: p4 :: p5 :: p6 :: p7 :: p8 :: p9 :: p10 :: p11 :: p12 :: p13 :: p14 :: p15 :: env, H, n, lo⟩ fun σ' => Wp S (.region id ops d) σ' kn ke kr) : Wp S (.region id ops d) ⟨p0 :: p1 :: p2 :: p3 :: p4 :: p5 :: p6 :: p7 :: p8 :: p9 :: p10 :: p11 :: p12 :: p13 :: p14 :: p15 :: env, H, n, lo⟩ kn ke kr := .prune ks k
theorem wP24 (ks : List Nat) {p0 p1 p2 p3 p4 p5 p6 p7 p8 p9 p10 p11 p12 p13 p14 p15 p16 p17 p18 p19 p20 p21 p22 p23 : Nat × AV} {env : List (Nat × AV)} {H : Heap} {n lo id : Nat} {ops : Array Oper} {d : Bool} (k : pickK ks (p0 :: p1 :: p2 :: p3 :: p4 :: p5 :: p6 :: p7 :: p8 :: p9 :: p10 :: p11 :: p12 :: p13 :: p14 :: p15 :: p16 :: p17 :: p18 :: p19 :: p20 :: p21 :: p22 :: p23 :: env) fun env => Wp S (.region id ops d) ⟨env, H, n, lo⟩ kn ke kr) : Wp S (.region id ops d) ⟨p0 :: p1 :: p2 :: p3 :: p4 :: p5 :: p6 :: p7 :: p8 :: p9 :: p10 :: p11 :: p12 :: p13 :: p14 :: p15 :: p16 :: p17 :: p18 :: p19 :: p20 :: p21 :: p22 :: p23 :: env, H, n, lo⟩ kn ke kr := .pick ks k
theorem wK24 (ks : List Nat) {p0 p1 p2 p3 p4 p5 p6 p7 p8 p9 p10 p11 p12 p13 p14 p15 p16 p17 p18 p19 p20 p21 p22 p23 : Nat × AV} {env : List (Nat × AV)} {H : Heap} {n lo id : Nat} {ops : Array Oper} {d : Bool} (k : keepK ks ⟨p0 :: p1 :: p2 :: p3 :: p4 :: p5 :: p6 :: p7 :: p8 :: p9 :: p10 :: p11 :: p12 :: p13 :: p14 :: p15 :: p16 :: p17 :: p18 :: p19 :: p20 :: p21 :: p22 :: p23 :: env, H, n, lo⟩ fun σ' => Wp S (.region id ops d) σ' kn ke kr) : Wp S (.region id ops d) ⟨p0 :: p1 :: p2 :: p3 :: p4 :: p5 :: p6 :: p7 :: p8 :: p9 :: p10 :: p11 :: p12 :: p13 :: p14 :: p15 :: p16 :: p17 :: p18 :: p19 :: p20 :: p21 :: p22 :: p23 :: env, H, n, lo⟩ kn ke kr := .prune ks k
theorem wP32 (ks : List Nat) {p0 p1 p2 p3 p4 p5 p6 p7 p8 p9 p10 p11 p12 p13 p14 p15 p16 p17 p18 p19 p20 p21 p22 p23 p24 p25 p26 p27 p28 p29 p30 p31 : Nat × AV} {env : List (Nat × AV)} {H : Heap} {n lo id : Nat} {ops : Array Oper} {d : Bool} (k : pickK ks (p0 :: p1 :: p2 :: p3 :: p4 :: p5 :: p6 :: p7 :: p8 :: p9 :: p10 :: p11 :: p12 :: p13 :: p14 :: p15 :: p16 :: p17 :: p18 :: p19 :: p20 :: p21 :: p22 :: p23 :: p24 :: p25 :: p26 :: p27 :: p28 :: p29 :: p30 :: p31 :: env) fun env => Wp S (.region id ops d) ⟨env, H, n, lo⟩ kn ke kr) : Wp S (.region id ops d) ⟨p0 :: p1 :: p2 :: p3 :: p4 :: p5 :: p6 :: p7 :: p8 :: p9 :: p10 :: p11 :: p12 :: p13 :: p14 :: p15 :: p16 :: p17 :: p18 :: p19 :: p20 :: p21 :: p22 :: p23 :: p24 :: p25 :: p26 :: p27 :: p28 :: p29 :: p30 :: p31 :: env, H, n, lo⟩ kn ke kr := .pick ks k
theorem wK32 (ks : List Nat) {p0 p1 p2 p3 p4 p5 p6 p7 p8 p9 p10 p11 p12 p13 p14 p15 p16 p17 p18 p19 p20 p21 p22 p23 p24 p25 p26 p27 p28 p29 p30 p31 : Nat × AV} {env : List (Nat × AV)} {H : Heap} {n lo id : Nat} {ops : Array Oper} {d : Bool} (k : keepK ks ⟨p0 :: p1 :: p2 :: p3 :: p4 :: p5 :: p6 :: p7 :: p8 :: p9 :: p10 :: p11 :: p12 :: p13 :: p14 :: p15 :: p16 :: p17 :: p18 :: p19 :: p20 :: p21 :: p22 :: p23 :: p24 :: p25 :: p26 :: p27 :: p28 :: p29 :: p30 :: p31 :: env, H, n, lo⟩ fun σ' => Wp S (.region id ops d) σ' kn ke kr) : Wp S (.region id ops d) ⟨p0 :: p1 :: p2 :: p3 :: p4 :: p5 :: p6 :: p7 :: p8 :: p9 :: p10 :: p11 :: p12 :: p13 :: p14 :: p15 :: p16 :: p17 :: p18 :: p19 :: p20 :: p21 :: p22 :: p23 :: p24 :: p25 :: p26 :: p27 :: p28 :: p29 :: p30 :: p31 :: env, H, n, lo⟩ kn ke kr := .prune ks k
end
end Go.Vm
