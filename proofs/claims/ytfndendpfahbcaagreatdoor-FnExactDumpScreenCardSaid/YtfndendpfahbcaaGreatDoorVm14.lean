/- An abstract machine over the loaded code: regions and control. -/
import Derived.Test.YtfndendpfahbcaaGreatDoorVm13
import Derived.Orders
set_option linter.unusedSimpArgs false
set_option linter.unusedVariables false
namespace Go.Vm
open Go.RowKit

structure St where
  env : List (Nat × AV)
  H : Heap
  n : Nat
  lo : Nat

section
variable (S : Seat)

/-- operations that write or call -/
def effA (o : Op) (ev : Operand → AV) (H : Heap) (K : AV → Heap → Prop) : Prop :=
  match o with
  | .store T a x => storeA S T (ev a) (ev x) H K
  | .convert s d x => convSlA S s d (ev x) H K
  | .call c => match c.callee with
    | .value f => match ev f with
      | .fn n cap => match S.has n with
        | true => CallA S n ((c.args.toList.map ev) ++ cap) H K
        | false => S.ext n ((c.args.toList.map ev) ++ cap) fun v => K v H
      | _ => False
    | .builtin .append => match c.args.toList, c.argTypes.toList with
      | [a, b], [T, U] => appendA S T U (ev a) (ev b) H K
      | _, _ => False
    | .builtin .copy => match c.args.toList, c.argTypes.toList with
      | [a, b], [T, U] => copyA S T U (ev a) (ev b) H K
      | _, _ => False
    | .builtin .clear => match c.args.toList, c.argTypes.toList with
      | [a], [T] => clearA S T (ev a) H K
      | _, _ => False
    | _ => False
  | _ => False

def stepA (o : Op) (ev : Operand → AV) (H : Heap) (K : AV → Heap → Prop) : Prop :=
  match kindOf S o with
  | .pure => pureA S o ev fun v => K v H
  | .read => readA S o ev H fun v => K v H
  | .new => newA S o ev fun c mk => pushK H c fun n H => forceV (mk n) fun v => K v H
  | .eff => effA S o ev H K

/-- is the operation wanted? -/
def wantA (all : List Oper) (o : Oper) (env : List (Nat × AV)) (yes no : List (Nat × AV) → Prop) : Prop :=
  match o.guard with
  | none => yes env
  | some (j, want) => match all[j]? with
    | none => False
    | some oj => match oj.dst with
      | none => False
      | some d => match look env d with
        | .tt => match want with
          | true => yes env
          | false => no env
        | .ff => match want with
          | true => no env
          | false => yes env
        | .prop p => match want with
          | true => (p → yes ((d, .tt) :: env)) ∧ (¬p → no ((d, .ff) :: env))
          | false => (p → no ((d, .tt) :: env)) ∧ (¬p → yes ((d, .ff) :: env))
        | .tup vs => match vs with
          | [] => no env
          | _ => False
        | _ => False

def putK (d : Option Nat) (n : Nat) (v : AV) (env : List (Nat × AV)) (K : List (Nat × AV) → Prop) : Prop :=
  match d with
  | none => K env
  | some t => match Nat.blt t n with
    | true => forceV v fun v => K ((t, v) :: env)
    | false => False

def opsA (all : List Oper) (n lo : Nat) : List Oper → List (Nat × AV) → Heap → (St → Prop) → Prop
  | [], env, H, K => K ⟨env, H, n, lo⟩
  | o :: r, env, H, K => wantA all o env
      (fun env => stepA S o.op (evA env) H fun v H' => putK o.dst n v env fun env => opsA all n lo r env H' K)
      (fun env => putK o.dst n (.tup []) env fun env => opsA all n lo r env H K)
end

section
variable {S : Seat} {ρ ρ' : Loc} {H : Heap} {w w' : World} {N N' : Nat}

theorem execOp_call {o : Oper} {c : Call} {f : Operand} {n : Nat} {cap : Array Value} {evr : Operand → Value} (ho : o.op = .call c) (hc : c.callee = .value f) (hf : evr f = .func (.func n) #[] cap) (w : World)
    {fn : Func} (h1 : S.P.funcs[n]? = some fn) (h2 : fn.body.isSome = true) (h3 : (fn.name == "runtime.NumGoroutine") = false) :
    (execOp evr o).run S.P w = .ok (.enter n (c.args.map evr ++ cap)) w := by
  obtain ⟨dst, op, ty, pos, after, g⟩ := o
  obtain ⟨callee, args, argTypes⟩ := c
  simp only at ho hc
  subst ho; subst hc
  have h2' : fn.body.isNone = false := by cases hb : fn.body <;> simp_all
  simp only [execOp, resolve, hf, Deferred.ofValue, Sem.run_bind, Sem.run_pure, Result.andThen_ok, invoke, callFunc, run_program, h1, h3, h2']
  simp

/-- what is known behind whatever operation -/
def StepOk (S : Seat) (ρ : Loc) (H : Heap) (w : World) (a : Act) (o : Oper) (K : AV → Heap → Prop) : Prop :=
  ∀ (next : Act → World → Prop) (Q : Exit → Act → World → Prop),
    (∀ v r H' ρ' w', K v H' → VRel ρ' v r → v.lt H'.next → After S ρ H w ρ' H' w' → next (a.put o.dst r) w') → o.wp S.P a w next Q

theorem EffOp.step {a : Act} {o : Oper} {K : AV → Heap → Prop} (h : EffOp S ρ H w a.eval o K) : StepOk S ρ H w a o K := by
  intro next Q hn
  obtain ⟨v, r, H', ρ', w', hr, hK, ⟨x, hx⟩, hl, ha⟩ := h
  unfold Oper.wp
  rw [hr]
  rcases hx with ⟨rfl, hv⟩ | ⟨rfl, rfl⟩
  · exact hn v x H' ρ' w' hK hv hl ha
  · exact hn .undef undef H' ρ' w' hK trivial hl ha

theorem value_step {a : Act} {o : Oper} {K : AV → Heap → Prop} {v : AV} {r : Value} {H' : Heap} (hr : (execOp a.eval o).run S.P w = .ok (.value r) w') (hK : K v H') (hv : VRel ρ' v r) (hl : v.lt H'.next) (ha : After S ρ H w ρ' H' w') : StepOk S ρ H w a o K := by
  intro next Q hn
  unfold Oper.wp
  rw [hr]
  exact hn v r H' ρ' w' hK hv hl ha

theorem eff_sound (hS : SeatOk S) {a : Act} {o : Oper} {ev : Operand → AV} {K : AV → Heap → Prop} (hH : HRel S ρ H w) (hev : ∀ x, VRel ρ (ev x) (a.eval x)) (hlt : ∀ x, (ev x).lt H.next) (h : effA S o.op ev H K) : StepOk S ρ H w a o K := by
  unfold effA at h
  split at h
  · rename_i T x y ho
    exact (store_sound ho hH hev hlt h).step
  · rename_i s d x ho
    obtain ⟨v, r, H', ρ', w', hr, hK, hv, hl, ha⟩ := convSl_sound hH (hev x) (hlt x) h
    refine value_step (r := r) ?_ hK hv hl ha
    obtain ⟨dst, op, ty, pos, after, g⟩ := o
    simp only at ho
    subst ho
    simp only [execOp, Sem.run_bind, hr, Result.andThen_ok, Sem.run_pure]
  · rename_i c ho
    split at h
    · rename_i f hc
      have hf := hev f
      have hfl := hlt f
      split at h
      · rename_i n cap e
        rw [e] at hf hfl
        obtain ⟨cs, er, hcs⟩ := hf
        split at h
        · rename_i hh
          obtain ⟨fn, h1, h2, h3⟩ := hS.has n hh
          intro next Q hn
          have hrun := execOp_call (S := S) ho hc er w h1 h2 h3
          unfold Oper.wp
          rw [hrun]
          have hargs : (c.args.map a.eval ++ cs.toArray) = (c.args.toList.map a.eval ++ cs).toArray := by
            rw [← Array.toList_inj]; simp
          simp only [Oper.upon, hargs]
          unfold CallA at h
          refine (h ρ w _ hH ((map_rel hev c.args.toList).append hcs) (lts_append (map_lt hlt _) hfl)).mono ?_
          rintro e' w' ⟨v, r, H', ρ', rfl, hK, hv, hl, ha⟩
          exact hn v r H' ρ' w' hK hv hl ha
        · obtain ⟨v, r, hrun, hv, hl, hK⟩ := hS.ext _ _ _ h ρ _ w ((map_rel hev c.args.toList).append hcs)
          refine value_step (r := r) ?_ hK hv (hl.mono (Nat.zero_le _)) (.refl hH)
          have hargs : (c.args.map a.eval ++ cs.toArray) = (c.args.toList.map a.eval ++ cs).toArray := by
            rw [← Array.toList_inj]; simp
          obtain ⟨dst, op, ty, pos, after, g⟩ := o
          obtain ⟨callee, args, argTypes⟩ := c
          simp only at ho hc hargs
          subst ho; subst hc
          simp only [execOp, resolve, er, Deferred.ofValue, Sem.run_bind, Sem.run_pure, Result.andThen_ok, invoke]
          simp only [List.empty_eq, Array.empty_append, hargs, hrun]
      · exact h.elim
    · rename_i hc
      split at h
      · rename_i x y T U hargs htypes
        have ea : c.args.map a.eval = #[a.eval x, a.eval y] := by rw [← Array.toList_inj]; simp [hargs]
        have et : c.argTypes = #[T, U] := by rw [← Array.toList_inj]; simp [htypes]
        obtain ⟨v, r, H', ρ', w', hr, hK, hv, hl, ha⟩ := append_sound (ty := o.type) hS hH (hev x) (hev y) h
        refine value_step (r := r) ?_ hK hv hl ha
        rw [call_builtin ho hc, ea, et]
        simp [builtin, hr]
      · exact h.elim
    · rename_i hc
      split at h
      · rename_i x y T U hargs htypes
        have ea : c.args.map a.eval = #[a.eval x, a.eval y] := by rw [← Array.toList_inj]; simp [hargs]
        have et : c.argTypes = #[T, U] := by rw [← Array.toList_inj]; simp [htypes]
        obtain ⟨v, r, H', ρ', w', hr, hK, hv, hl, ha⟩ := copy_sound (ty := o.type) hS hH (hev x) (hev y) h
        refine value_step (r := r) ?_ hK hv hl ha
        rw [call_builtin ho hc, ea, et]
        simp [builtin, hr]
      · exact h.elim
    · rename_i hc
      split at h
      · rename_i x T hargs htypes
        have ea : c.args.map a.eval = #[a.eval x] := by rw [← Array.toList_inj]; simp [hargs]
        have et : c.argTypes = #[T] := by rw [← Array.toList_inj]; simp [htypes]
        obtain ⟨v, r, H', ρ', w', hr, hK, hv, hl, ha⟩ := clear_sound (ty := o.type) hS hH (hev x) h
        refine value_step (r := r) ?_ hK hv hl ha
        rw [call_builtin ho hc, ea, et]
        simp [builtin, hr]
      · exact h.elim
    · exact h.elim
  · exact h.elim

theorem step_sound (hS : SeatOk S) {a : Act} {o : Oper} {ev : Operand → AV} {K : AV → Heap → Prop} (hH : HRel S ρ H w) (hev : ∀ x, VRel ρ (ev x) (a.eval x)) (hlt : ∀ x, (ev x).lt H.next) (h : stepA S o.op ev H K) : StepOk S ρ H w a o K := by
  unfold stepA at h
  split at h
  · obtain ⟨r, ⟨v, hK, hv, hl⟩, hr⟩ := pure_sound hS hev (fun _ => rfl) hlt h
    exact value_step (hr w) hK hv hl (.refl hH)
  · obtain ⟨r, ⟨v, hK, hv, hl⟩, hr⟩ := read_sound hH hev h
    exact value_step hr hK hv hl (.refl hH)
  · obtain ⟨c, mk, hK, m1, m2, m3, m4⟩ := new_sound hS hev hlt h
    obtain ⟨w', r, arr, T, fz, hr, hg, hf, hc, hmk⟩ := m4 w
    have h := pushK_out hK
    have h := forceV_out (K := fun v => K v ⟨_, _⟩) h
    exact value_step hr h (hmk _ _ (Loc.set_self _ _ _ _)) (m1 _) (hH.push hg hf m2 m3 hc)
  · exact eff_sound hS hH hev hlt h
end
end Go.Vm
