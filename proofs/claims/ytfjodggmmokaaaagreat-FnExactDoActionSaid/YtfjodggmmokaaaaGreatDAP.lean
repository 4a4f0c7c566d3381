/- Copies: flat slices. -/
import Derived.Test.YtfjodggmmokaaaaGreatDAK
import Derived.Test.YtfjodggmmokaaaaGreatDAJ
set_option linter.unusedSimpArgs false
set_option linter.unusedVariables false
set_option linter.constructorNameAsVariable false
namespace Go.Mu
open Go Go.Vm Go.RowKit Go.Proofs
attribute [local irreducible] wpA opsA stillA drawA drawS
set_option maxRecDepth 20000
set_option maxHeartbeats 4000000
theorem leafC1 {P : Prop} (h : P := by
  first
  | exact leaf
  | exact PreC.of_eq (by simp)
  | fail) : P := h
theorem aLC1 {a b : Prop} (k : b) (h : a := by exact leafC1) : a ∧ b := ⟨h, k⟩
theorem fzC1 {P : Prop} (h : P := by
  (try refine wF ?_)
  repeat' (first|exact ⟨⟩|(apply And.intro;focus exact leafC1)|((conv=>whnf);first|exact ⟨⟩|(apply And.intro;focus exact leafC1))|fail)) : P := h
theorem cloneI (xs : List Int) (hx : xs.length ≤ 1048576) : CallA S 152 [.sl (.loc 0) 1 none xs.length] ⟨[⟨.loc 0, false, .arr (intE .i64) xs⟩], 1⟩ (Ret1 (.sl (.loc 1) 1 none xs.length) ⟨[⟨.loc 1, true, .arr (intE .i64) xs⟩], 2⟩) := by
  refine .ofC hS _ _ _ Tryz.func152 ?_
  conv => whnf
  repeat' (first|refine Seal.mk ?_|(refine wS ?_;(conv=>whnf);fail_if_success show False)|((first|refine opsA_step ?_);conv=>whnf)|(intro _;first|omega|conv=>whnf)|(apply And.intro<;>intro _<;>first|omega|conv=>whnf)|((first|refine aLC1 ?_|apply Roads.one|refine ⟨_,rfl,?_⟩|refine ⟨_,⟨rfl,rfl⟩,?_⟩|refine ⟨_,⟨rfl,rfl,leafC1⟩,?_⟩);conv=>whnf)|with_reducible assumption|exact lfC1|fail)
  all_goals (first | (rename_i p a b; have h0 : xs = [] := List.eq_nil_of_length_eq_zero (by have := a b; omega); clear a; subst h0; (refine ⟨(),⟨⟩,?_⟩;exact fzC1)) | (refine ⟨(),⟨⟩,?_⟩;exact fzC1))
theorem cloneB (xs : List Bool) (hx : xs.length ≤ 1048576) : CallA S 151 [.sl (.loc 0) 1 none xs.length] ⟨[⟨.loc 0, false, .arr boolE xs⟩], 1⟩ (Ret1 (.sl (.loc 1) 1 none xs.length) ⟨[⟨.loc 1, true, .arr boolE xs⟩], 2⟩) := by
  refine .ofC hS _ _ _ Tryz.func151 ?_
  conv => whnf
  repeat' (first|refine Seal.mk ?_|(refine wS ?_;(conv=>whnf);fail_if_success show False)|((first|refine opsA_step ?_);conv=>whnf)|(intro _;first|omega|conv=>whnf)|(apply And.intro<;>intro _<;>first|omega|conv=>whnf)|((first|refine aLC1 ?_|apply Roads.one|refine ⟨_,rfl,?_⟩|refine ⟨_,⟨rfl,rfl⟩,?_⟩|refine ⟨_,⟨rfl,rfl,leafC1⟩,?_⟩);conv=>whnf)|with_reducible assumption|exact lfC1|fail)
  all_goals (first | (rename_i p a b; have h0 : xs = [] := List.eq_nil_of_length_eq_zero (by have := a b; omega); clear a; subst h0; (refine ⟨(),⟨⟩,?_⟩;exact fzC1)) | (refine ⟨(),⟨⟩,?_⟩;exact fzC1))
theorem cloneC (xs : List (Int × Int)) (hx : xs.length ≤ 1048576) : CallA S 244 [.sl (.loc 0) 2 none xs.length] ⟨[⟨.loc 0, false, .arr pairE xs⟩], 1⟩ (Ret1 (.sl (.loc 1) 2 none xs.length) ⟨[⟨.loc 1, true, .arr pairE xs⟩], 2⟩) := by
  refine .ofC hS _ _ _ Tryz.func244 ?_
  conv => whnf
  repeat' (first|refine Seal.mk ?_|(refine wS ?_;(conv=>whnf);fail_if_success show False)|((first|refine opsA_step ?_);conv=>whnf)|(intro _;first|omega|conv=>whnf)|(apply And.intro<;>intro _<;>first|omega|conv=>whnf)|((first|refine aLC1 ?_|apply Roads.one|refine ⟨_,rfl,?_⟩|refine ⟨_,⟨rfl,rfl⟩,?_⟩|refine ⟨_,⟨rfl,rfl,leafC1⟩,?_⟩);conv=>whnf)|with_reducible assumption|exact lfC1|fail)
  all_goals (first | (rename_i p a b; have h0 : xs = [] := List.eq_nil_of_length_eq_zero (by have := a b; omega); clear a; subst h0; (refine ⟨(),⟨⟩,?_⟩;exact fzC1)) | (refine ⟨(),⟨⟩,?_⟩;exact fzC1))
end Go.Mu

namespace Go.Mu
open Go Go.Vm Go.RowKit Go.Proofs
attribute [local irreducible] wpA opsA stillA drawA drawS
set_option maxRecDepth 20000
set_option maxHeartbeats 4000000
theorem leafC3 {P : Prop} (h : P := by
  first
  | exact leaf
  | exact PreC.of_eq (by simp)
  | fail) : P := h
theorem aLC3 {a b : Prop} (k : b) (h : a := by exact leafC3) : a ∧ b := ⟨h, k⟩
theorem fzC3 {P : Prop} (h : P := by
  (try refine wF ?_)
  repeat' (first|exact ⟨⟩|(apply And.intro;focus exact leafC3)|((conv=>whnf);first|exact ⟨⟩|(apply And.intro;focus exact leafC3))|fail)) : P := h
theorem l3Copy (s : Grd) (h : GrdB s) : CallA S 136 [.agg (grdC (.loc 0) (.loc 1) s)] ⟨grdH false (.loc 0) (.loc 1) s [], 2⟩ (Ret1 (.agg (grdC (.loc 2) (.loc 3) s)) ⟨grdH true (.loc 2) (.loc 3) s [], 4⟩) := by
  refine .ofC hS _ _ _ Tryz.func136 ?_
  conv => whnf
  obtain ⟨h0, h1⟩ := h
  repeat' (first|refine Seal.mk ?_|(refine wS ?_;(conv=>whnf);fail_if_success show False)|((first|refine opsA_step ?_);conv=>whnf)|(intro _;first|omega|conv=>whnf)|(apply And.intro<;>intro _<;>first|omega|conv=>whnf)|((first|refine aLC3 ?_|apply Roads.one|refine ⟨_,rfl,?_⟩|refine ⟨_,⟨rfl,rfl⟩,?_⟩|refine ⟨_,⟨rfl,rfl,leafC3⟩,?_⟩);conv=>whnf)|with_reducible assumption|exact lfC3|fail)
  all_goals (refine ⟨(),⟨⟩,?_⟩;exact fzC3)
theorem l5Copy (s : Scr) (h : ScrB s) : CallA S 59 [.agg (scrC (.loc 0) (.loc 1) (.loc 2) (.loc 3) s)] ⟨scrH false (.loc 0) (.loc 1) (.loc 2) (.loc 3) s [], 4⟩ (Ret1 (.agg (scrC (.loc 4) (.loc 5) (.loc 6) (.loc 7) s)) ⟨scrH true (.loc 4) (.loc 5) (.loc 6) (.loc 7) s [], 8⟩) := by
  refine .ofC hS _ _ _ Tryz.func59 ?_
  conv => whnf
  obtain ⟨h0, h1, h2⟩ := h
  repeat' (first|refine Seal.mk ?_|(refine wS ?_;(conv=>whnf);fail_if_success show False)|((first|refine opsA_step ?_|apply wL (l3Copy _ _));conv=>whnf)|(intro _;first|omega|conv=>whnf)|(apply And.intro<;>intro _<;>first|omega|conv=>whnf)|((first|refine aLC3 ?_|apply Roads.one|refine ⟨_,rfl,?_⟩|refine ⟨_,⟨rfl,rfl⟩,?_⟩|refine ⟨_,⟨rfl,rfl,leafC3⟩,?_⟩);conv=>whnf)|with_reducible assumption|exact lfC3|fail)
  all_goals (refine ⟨(),⟨⟩,?_⟩;exact fzC3)
end Go.Mu

namespace Go.Vm
open Go.RowKit
section
variable {S : Seat} {σ τ : St} {c : Code} {kn : St → Prop} {ke : Nat → St → Prop} {kr : St → Prop}
theorem Wp.meet (h : Wp S c σ (fun σ' => FitsT S σ' τ) ke kr) (k : kn τ) : Wp S c σ kn ke kr := by
  unfold Wp
  intro ρ0 H0 w0 ρ a w hi
  refine wp_mono (h.run hi) fun e a w hq => ?_
  cases e with
  | normal =>
    obtain ⟨σ', ρ', q3, q4⟩ := hq
    unfold FitsT at q3
    obtain ⟨ρ'', h⟩ := q3 _ _ _ _ _ _ q4
    exact ⟨τ, ρ'', k, h⟩
  | exit i => exact hq
  | ret => exact hq
  | _ => exact hq.elim
def rawE (e : Ent) : Ent := match e.c with
  | .raw vs => ⟨e.b, false, .raw vs⟩
  | .arr E xs => ⟨e.b, e.rw, .arr E xs⟩
  | .nest m d g s f xs o => ⟨e.b, e.rw, .nest m d g s f xs o⟩
def rawL : List Ent → List Ent
  | [] => []
  | e :: r => rawE e :: rawL r
def rawA (σ : St) : St := match σ with
  | ⟨env, H, n, lo⟩ => match H with
    | ⟨l, N⟩ => ⟨env, ⟨rawL l, N⟩, n, lo⟩
theorem rawE_b (e : Ent) : (rawE e).b = e.b := by unfold rawE; split <;> rfl
theorem rawE_rw (e : Ent) (h : (rawE e).rw = true) : e.rw = true := by
  unfold rawE at h
  split at h
  · cases h
  · exact h
  · exact h
theorem rawE_c (e : Ent) : (rawE e).c = e.c := by
  obtain ⟨b, rw, c⟩ := e
  unfold rawE
  cases c <;> rfl
theorem rawL_mem : ∀ {l : List Ent} {e : Ent}, e ∈ rawL l → ∃ x, x ∈ l ∧ e = rawE x
  | x :: r, e, h => by
    rcases List.mem_cons.1 h with rfl | h
    · exact ⟨x, List.mem_cons_self, rfl⟩
    · obtain ⟨y, h1, h2⟩ := rawL_mem h
      exact ⟨y, List.mem_cons_of_mem _ h1, h2⟩
theorem rawL_keys : ∀ {l : List Ent}, l.Pairwise (fun e e' => e.b ≠ e'.b) → (rawL l).Pairwise fun e e' => e.b ≠ e'.b
  | [], _ => .nil
  | x :: r, h => by
    obtain ⟨h1, h2⟩ := List.pairwise_cons.1 h
    refine List.pairwise_cons.2 ⟨fun e he => ?_, rawL_keys h2⟩
    obtain ⟨y, hy, rfl⟩ := rawL_mem he
    rw [rawE_b, rawE_b]
    exact h1 y hy
theorem HRel.ro {ρ : Lay} {l : List Ent} {N : Nat} {w : World} (h : HRel S ρ ⟨l, N⟩ w) : HRel S ρ ⟨rawL l, N⟩ w where
  holds := fun e he => by
    obtain ⟨x, hx, rfl⟩ := rawL_mem he
    have := h.holds x hx
    rw [rawE_b, rawE_c]
    obtain ⟨b, rw, c⟩ := x
    cases c with
    | raw vs =>
      obtain ⟨h1, h2⟩ := this
      refine ⟨?_, h2⟩
      simp only [rawE]
      unfold Lies at h1 ⊢
      simp only at h1 ⊢
      split at h1
      · exact h1
      · obtain ⟨arr, T, fz, g1, g2, g3, g4⟩ := h1
        exact ⟨arr, T, fz, g1, g2, (fun q => by cases q), g4⟩
    | arr E xs => exact this
    | nest m d g s f xs o => exact this
  key := fun e he => by
    obtain ⟨x, hx, rfl⟩ := rawL_mem he
    rw [rawE_b]
    exact h.key x hx
  sep := fun e he e' he' hor hne => by
    obtain ⟨x, hx, rfl⟩ := rawL_mem he
    obtain ⟨x', hx', rfl⟩ := rawL_mem he'
    rw [rawE_b, rawE_b] at hne ⊢
    exact h.sep x hx x' hx' (hor.imp (rawE_rw x) (rawE_rw x')) hne
  keys := rawL_keys h.keys
  glob := h.glob
  enc := fun e he => by
    obtain ⟨x, hx, rfl⟩ := rawL_mem he
    rw [rawE_c]
    exact h.enc x hx
  low := fun e he => by
    obtain ⟨x, hx, rfl⟩ := rawL_mem he
    rw [rawE_b]
    exact h.low x hx
  root := fun e he hr => by
    obtain ⟨x, hx, rfl⟩ := rawL_mem he
    rw [rawE_b]
    exact h.root x hx (rawE_rw x hr)
theorem Turn.ro (σ : St) : Turn S σ (rawA σ) := fun ρ0 H0 w0 ρ a w hi => by
  obtain ⟨env, ⟨l, N⟩, n, lo⟩ := σ
  refine ⟨ρ, hi.env, hi.size, hi.defers, hi.lo, hi.after.next, hi.after.agree, hi.after.heap.ro, hi.after.size, hi.after.frame, fun k c hk => ?_, hi.after.os, hi.after.tape, hi.after.output⟩
  obtain ⟨e, he, hr, hf⟩ := hk
  obtain ⟨x, hx, rfl⟩ := rawL_mem he
  rw [rawE_b] at hf
  exact hi.after.own k c ⟨x, hx, rawE_rw x hr, hf⟩
def rawK : List Ent → (List Ent → Prop) → Prop
  | [], K => K []
  | e :: r, K => match e with
    | ⟨b, rw, c⟩ => match c with
      | .raw vs => rawK r fun l => K (⟨b, false, .raw vs⟩ :: l)
      | .arr E xs => rawK r fun l => K (⟨b, rw, .arr E xs⟩ :: l)
      | .nest m d g s f xs o => rawK r fun l => K (⟨b, rw, .nest m d g s f xs o⟩ :: l)
theorem rawK_out : ∀ {l : List Ent} {K : List Ent → Prop}, rawK l K → K (rawL l)
  | [], _, h => h
  | ⟨b, rw, c⟩ :: r, K, h => by
    cases c with
    | raw vs => exact rawK_out (l := r) (K := fun l => K (⟨b, false, .raw vs⟩ :: l)) h
    | arr E xs => exact rawK_out (l := r) (K := fun l => K (⟨b, rw, .arr E xs⟩ :: l)) h
    | nest m d g s f xs o => exact rawK_out (l := r) (K := fun l => K (⟨b, rw, .nest m d g s f xs o⟩ :: l)) h
theorem Wp.ro {env : List (Nat × AV)} {l : List Ent} {N n lo : Nat} (k : rawK l fun l' => Wp S c ⟨env, ⟨l', N⟩, n, lo⟩ kn ke kr) : Wp S c ⟨env, ⟨l, N⟩, n, lo⟩ kn ke kr :=
  Wp.turn (Turn.ro _) (rawK_out k)
def memN : List Nat → Nat → Bool
  | [], _ => false
  | a :: r, t => match Nat.beq a t with
    | true => true
    | false => memN r t
end
end Go.Vm

namespace Go.Vm
open Go.RowKit
section
variable {S : Seat} {σ τ : St} {c : Code} {kn : St → Prop} {ke : Nat → St → Prop} {kr : St → Prop}
def blkN : Blk → List Nat → List Nat
  | .loc n, r => n :: r
  | .glob _, r => r
  | .sub b _ _, r => blkN b r
mutual
def avN : AV → List Nat → List Nat
  | .ptr b _ _ _, r => blkN b r
  | .sl b _ _ _, r => blkN b r
  | .fn _ c, r => avsN c r
  | .agg c, r => avsN c r
  | .tup c, r => avsN c r
  | _, r => r
def avsN : List AV → List Nat → List Nat
  | [], r => r
  | v :: vs, r => avN v (avsN vs r)
end
def envN : List (Nat × AV) → List Nat
  | [] => []
  | p :: r => avN p.2 (envN r)
def remN : List Nat → Nat → List Nat
  | [], _ => []
  | a :: r, t => match Nat.beq a t with
    | true => remN r t
    | false => a :: remN r t
theorem remN_ne {a t : Nat} (h : Nat.beq a t = false) : ∀ ks : List Nat, memN (remN ks a) t = memN ks t
  | [] => rfl
  | b :: r => by
    unfold remN
    split
    · rename_i hb
      have := Nat.eq_of_beq_eq_true hb
      subst this
      simp only [memN, h]
      exact remN_ne h r
    · simp only [memN]
      split
      · rfl
      · exact remN_ne h r
def pickK : List Nat → List (Nat × AV) → (List (Nat × AV) → Prop) → Prop
  | _, [], K => K []
  | ks, p :: r, K => match p with
    | (t, v) => match memN ks t with
      | true => pickK (remN ks t) r fun l => K ((t, v) :: l)
      | false => pickK ks r K
def pickE : List Nat → List (Nat × AV) → List (Nat × AV)
  | _, [] => []
  | ks, (t, v) :: r => match memN ks t with
    | true => (t, v) :: pickE (remN ks t) r
    | false => pickE ks r
theorem pickK_out : ∀ {ks : List Nat} {env : List (Nat × AV)} {K : List (Nat × AV) → Prop}, pickK ks env K → K (pickE ks env)
  | _, [], _, h => h
  | ks, (t, v) :: r, K, h => by
    unfold pickK at h
    simp only at h
    unfold pickE
    split at h
    · exact pickK_out (env := r) (K := fun l => K ((t, v) :: l)) h
    · exact pickK_out (env := r) h
theorem pickE_look {t : Nat} : ∀ {env : List (Nat × AV)} {ks : List Nat}, look (pickE ks env) t = if memN ks t = true then look env t else .undef
  | [], ks => by simp [pickE, look]
  | (a, v) :: r, ks => by
    unfold pickE
    split
    · rename_i hm
      simp only [look]
      cases hb : Nat.beq a t
      · rw [← remN_ne hb ks]
        exact pickE_look (env := r)
      · have := Nat.eq_of_beq_eq_true hb
        subst this
        simp [hm]
    · rename_i hm
      rw [pickE_look (env := r)]
      simp only [look]
      cases hb : Nat.beq a t
      · rfl
      · have := Nat.eq_of_beq_eq_true hb
        subst this
        simp [hm]
def heapK (ns : List Nat) : List Ent → (List Ent → Prop) → Prop
  | [], K => K []
  | e :: r, K => match e with
    | ⟨b, rw, c⟩ => match b with
      | .loc n => match memN ns n with
        | true => heapK ns r fun l => K (⟨.loc n, rw, c⟩ :: l)
        | false => heapK ns r K
      | .glob n => heapK ns r fun l => K (⟨.glob n, rw, c⟩ :: l)
      | .sub b i j => heapK ns r fun l => K (⟨.sub b i j, rw, c⟩ :: l)
theorem heapK_out {ns : List Nat} : ∀ {l : List Ent} {K : List Ent → Prop}, heapK ns l K → ∃ l', l'.Sublist l ∧ K l'
  | [], _, h => ⟨[], .slnil, h⟩
  | ⟨b, rw, c⟩ :: r, K, h => by
    cases b with
    | loc n =>
      unfold heapK at h
      simp only at h
      split at h
      · obtain ⟨l', h1, h2⟩ := heapK_out (l := r) (K := fun l => K (⟨.loc n, rw, c⟩ :: l)) h
        exact ⟨_, h1.cons_cons _, h2⟩
      · obtain ⟨l', h1, h2⟩ := heapK_out (l := r) h
        exact ⟨_, h1.cons _, h2⟩
    | glob n =>
      obtain ⟨l', h1, h2⟩ := heapK_out (l := r) (K := fun l => K (⟨.glob n, rw, c⟩ :: l)) h
      exact ⟨_, h1.cons_cons _, h2⟩
    | sub b i j =>
      obtain ⟨l', h1, h2⟩ := heapK_out (l := r) (K := fun l => K (⟨.sub b i j, rw, c⟩ :: l)) h
      exact ⟨_, h1.cons_cons _, h2⟩
def rawN (ns : List Nat) : List Ent → List Nat → List Nat
  | [], r => r
  | e :: l, r => match e with
    | ⟨b, _, c⟩ => match b with
      | .loc n => match memN ns n with
        | true => match c with
          | .raw vs => avsN vs (rawN ns l r)
          | .nest _ _ _ _ _ _ o => match o with
            | some p => avsN p.2 (rawN ns l r)
            | none => rawN ns l r
          | _ => rawN ns l r
        | false => rawN ns l r
      | _ => rawN ns l r
def forceN : List Nat → (List Nat → Prop) → Prop
  | [], K => K []
  | n :: r, K => forceN r fun l => K (n :: l)
theorem forceN_out : ∀ {l : List Nat} {K : List Nat → Prop}, forceN l K → K l
  | [], _, h => h
  | n :: r, K, h => forceN_out (l := r) (K := fun l => K (n :: l)) h
theorem Turn.less {env : List (Nat × AV)} {l l' : List Ent} {N n lo : Nat} (ks : List Nat) (h : l'.Sublist l) : Turn S ⟨env, ⟨l, N⟩, n, lo⟩ ⟨pickE ks env, ⟨l', N⟩, n, lo⟩ := fun ρ0 H0 w0 ρ a w hi => by
  have hs := h.subset
  have hr := hi.after.heap
  refine ⟨ρ, fun t => ?_, hi.size, hi.defers, hi.lo, hi.after.next, hi.after.agree, ?_, hi.after.size, hi.after.frame, fun k c hk => ?_, hi.after.os, hi.after.tape, hi.after.output⟩
  · show VRel ρ (look (pickE ks env) t) _ ∧ (look (pickE ks env) t).lt _
    rw [pickE_look]
    split
    · exact hi.env t
    · exact ⟨trivial, trivial⟩
  · exact ⟨fun e he => hr.holds e (hs he), fun e he => hr.key e (hs he), fun e he e' he' => hr.sep e (hs he) e' (hs he'), hr.keys.sublist h, hr.glob, fun e he => hr.enc e (hs he), fun e he => hr.low e (hs he), fun e he => hr.root e (hs he)⟩
  · obtain ⟨e, he, h1, h2⟩ := hk
    exact hi.after.own k c ⟨e, hs he, h1, h2⟩
def keepK (ks : List Nat) (σ : St) (K : St → Prop) : Prop := match σ with
  | ⟨env, H, n, lo⟩ => match H with
    | ⟨l, N⟩ => pickK ks env fun env => forceN (envN env) fun ns => forceN (rawN ns l ns) fun ns => heapK ns l fun l => K ⟨env, ⟨l, N⟩, n, lo⟩
theorem Turn.keep {ks : List Nat} {σ τ : St} (h : keepK ks σ fun σ' => σ' = τ) : Turn S σ τ := by
  obtain ⟨env, ⟨l, N⟩, n, lo⟩ := σ
  unfold keepK at h
  simp only at h
  have h := pickK_out (K := fun env => forceN (envN env) fun ns => forceN (rawN ns l ns) fun ns => heapK ns l fun l => (⟨env, ⟨l, N⟩, n, lo⟩ : St) = τ) h
  have h := forceN_out h
  have h := forceN_out (K := fun ns => heapK ns l fun l => (⟨pickE ks env, ⟨l, N⟩, n, lo⟩ : St) = τ) h
  obtain ⟨l', h1, h2⟩ := heapK_out h
  subst h2
  exact Turn.less ks h1
theorem FitsT.keep (ks : List Nat) {σ τ : St} (h : keepK ks σ fun σ' => σ' = τ) : FitsT S σ τ := by unfold FitsT; exact Turn.keep h
theorem Wp.keep (ks : List Nat) {env : List (Nat × AV)} {l : List Ent} {N n lo : Nat} (k : keepK ks ⟨env, ⟨l, N⟩, n, lo⟩ fun σ' => match σ' with | ⟨env, H, n, lo⟩ => match H with | ⟨l, N⟩ => rawK l fun l => Wp S c ⟨env, ⟨l, N⟩, n, lo⟩ kn ke kr) : Wp S c ⟨env, ⟨l, N⟩, n, lo⟩ kn ke kr := by
  unfold keepK at k
  simp only at k
  have k := pickK_out (K := fun env => forceN (envN env) fun ns => forceN (rawN ns l ns) fun ns => heapK ns l fun l => rawK l fun l => Wp S c ⟨env, ⟨l, N⟩, n, lo⟩ kn ke kr) k
  have k := forceN_out k
  have k := forceN_out (K := fun ns => heapK ns l fun l => rawK l fun l => Wp S c ⟨pickE ks env, ⟨l, N⟩, n, lo⟩ kn ke kr) k
  obtain ⟨l', h1, h2⟩ := heapK_out k
  exact Wp.turn (Turn.less ks h1) (Wp.ro h2)
end
end Go.Vm
