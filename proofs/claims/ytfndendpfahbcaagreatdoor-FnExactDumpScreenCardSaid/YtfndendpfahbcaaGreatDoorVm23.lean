/- An abstract machine over the loaded code: one step at a time. -/
import Derived.Test.YtfndendpfahbcaaGreatDoorVm22
set_option linter.unusedSimpArgs false
set_option linter.unusedVariables false
namespace Go.Vm
open Go.RowKit
/-- what follows, behind a name that nobody opens -/
structure Seal (p : Prop) : Prop where
  out : p
theorem seal_eq (p : Prop) : Seal p = p := propext ⟨Seal.out, Seal.mk⟩
section
variable {S : Seat} {σ : St} {kn : St → Prop} {ke : Nat → St → Prop} {kr : St → Prop} {env : List (Nat × AV)} {H : Heap} {n lo : Nat}
theorem wpA_skip (h : kn σ) : wpA S .skip σ kn ke kr := h
theorem wpA_seq {x y : Code} (h : Seal (wpA S x σ (fun σ => Seal (wpA S y σ kn ke kr)) ke kr)) : wpA S (.seq x y) σ kn ke kr := by
  simp only [seal_eq] at h; exact h
theorem wpA_cond {c : Operand} {x y : Code} (h : match evA env c with
    | .tt => Seal (wpA S x ⟨env, H, n, lo⟩ kn ke kr)
    | .ff => Seal (wpA S y ⟨env, H, n, lo⟩ kn ke kr)
    | .prop p => match c with
      | .tmp t => (p → Seal (wpA S x ⟨(t, .tt) :: env, H, n, lo⟩ kn ke kr)) ∧ (¬p → Seal (wpA S y ⟨(t, .ff) :: env, H, n, lo⟩ kn ke kr))
      | _ => (p → Seal (wpA S x ⟨env, H, n, lo⟩ kn ke kr)) ∧ (¬p → Seal (wpA S y ⟨env, H, n, lo⟩ kn ke kr))
    | _ => False) : wpA S (.cond c x y) ⟨env, H, n, lo⟩ kn ke kr := by
  simp only [seal_eq] at h; exact h
theorem wpA_block {id : Nat} {x : Code} (h : Seal (wpA S x σ kn (fun i σ => match Nat.beq i id with | true => kn σ | false => ke i σ) kr)) : wpA S (.block id x) σ kn ke kr := by
  simp only [seal_eq] at h; exact h
theorem wpA_exit {id : Nat} (h : ke id σ) : wpA S (.exit id) σ kn ke kr := h
theorem wpA_ret (h : kr σ) : wpA S .ret σ kn ke kr := h
theorem wpA_region {id : Nat} {ops : Array Oper} {l : List Oper} (hl : ops.toList = l) (h : Seal (opsA S l n lo l env H kn)) : wpA S (.region id ops false) ⟨env, H, n, lo⟩ kn ke kr := by
  subst hl; exact h.out
theorem wpA_draw {id : Nat} {ops : Array Oper} (h : Wp S (.region id ops true) ⟨env, H, n, lo⟩ kn ke kr) : wpA S (.region id ops true) ⟨env, H, n, lo⟩ kn ke kr := h
theorem wpA_loop {x : Code} (h : Wp S (.loop x) σ kn ke kr) : wpA S (.loop x) σ kn ke kr := h
theorem opsA_nil {all : List Oper} {K : St → Prop} (h : K ⟨env, H, n, lo⟩) : opsA S all n lo [] env H K := h
theorem opsA_cons {all : List Oper} {o : Oper} {r : List Oper} {K : St → Prop} (h : wantA all o env
      (fun env => stepA S o.op (evA env) H fun v H' => putK o.dst n v env fun env => Seal (opsA S all n lo r env H' K))
      (fun env => putK o.dst n (.tup []) env fun env => Seal (opsA S all n lo r env H K))) : opsA S all n lo (o :: r) env H K := by
  simp only [seal_eq] at h; exact h
theorem stillA_nil {all : List Oper} {K : List (Nat × AV) → Prop} (h : K env) : stillA S all n [] env H K := h
theorem stillA_cons {all : List Oper} {o : Oper} {r : List Oper} {K : List (Nat × AV) → Prop} (h : wantA all o env
      (fun env => stillOpA S o.op (evA env) H fun v => putK o.dst n v env fun env => Seal (stillA S all n r env H K))
      (fun env => putK o.dst n (.tup []) env fun env => Seal (stillA S all n r env H K))) : stillA S all n (o :: r) env H K := by
  simp only [seal_eq] at h; exact h
end
section
variable (S : Seat)
def bodyS (fn : Func) (args : List AV) (H : Heap) (K : AV → Heap → Prop) : Prop :=
  match fn.body with
  | none => False
  | some c => match Nat.ble args.length fn.ntmps with
    | false => False
    | true => argsK (argsEnv 0 args) fun env => natK fn.ntmps fun n => match H with
      | ⟨l, nx⟩ => Seal (wpA S c ⟨env, ⟨l, nx⟩, n, nx⟩ (fun | ⟨env, H, n, lo⟩ => resA S fn.results.toList ⟨env, H, n, lo⟩ fun v => Seal (K v H)) (fun _ _ => False) (fun | ⟨env, H, n, lo⟩ => resA S fn.results.toList ⟨env, H, n, lo⟩ fun v => Seal (K v H)))
end
variable {S : Seat}
theorem bodyS_out {fn : Func} {args : List AV} {H : Heap} {K : AV → Heap → Prop} (h : bodyS S fn args H K) : bodyA S fn args H K := by
  unfold bodyS at h
  simp only [seal_eq] at h
  exact h
theorem CallA.ofS (hS : SeatOk S) {f : Nat} {fn : Func} {args : List AV} {H : Heap} {K : AV → Heap → Prop} (hf : S.P.funcs[f]? = some fn) (h : bodyS S fn args H K) : CallA S f args H K :=
  .of_body hS hf (bodyS_out h)
theorem CallA.ofC (hS : SeatOk S) {γ : Type} (R : γ → Prop) (vc : γ → AV) (Hc : γ → Heap) {f : Nat} {fn : Func} {args : List AV} {H : Heap} (hf : S.P.funcs[f]? = some fn)
    (h : bodyS S fn args H fun v H' => ∃ g, R g ∧ fitsA S (outSt v H' H.next) (outSt (vc g) (Hc g) H.next) True) : CallA S f args H fun v H' => ∃ g, R g ∧ v = vc g ∧ H' = Hc g :=
  .canon hS R vc Hc (.ofS hS hf h)
end Go.Vm
