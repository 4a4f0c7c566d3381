/- An abstract machine over the loaded code: regions and control. -/
import Derived.Test.YtfjodggmmokaaaaGreatDAE
import Derived.Orders
import Derived.Tactics
set_option linter.unusedSimpArgs false
set_option linter.unusedVariables false
set_option linter.constructorNameAsVariable false
namespace Go.Vm
open Go.RowKit
structure St where
  env : List (Nat × AV)
  H : Heap
  n : Nat
  lo : Nat
section
variable (S : Seat)
def effA (o : Op) (ev : Operand → AV) (H : Heap) (K : AV → Heap → Prop) : Prop :=
  match o with
  | .store T a x => storeA S T (ev a) (ev x) H K
  | .convert s d x => convSlA S s d (ev x) H K
  | .call c => match c.callee with
    | .value f => match ev f with
      | .fn n cap => match S.has n with
        | true => CallA S n ((c.args.toList.map ev) ++ cap) H K
        | false => S.ext n ((c.args.toList.map ev) ++ cap) fun v => K v H
      | _ => False
    | .builtin .append => match c.args.toList, c.argTypes.toList with
      | [a, b], [T, U] => Roads (appendA S T U (ev a) (ev b) H K) (appendB S T U (ev a) (ev b) H K)
      | _, _ => False
    | .builtin .copy => match c.args.toList, c.argTypes.toList with
      | [a, b], [T, U] => copyA S T U (ev a) (ev b) H K
      | _, _ => False
    | .builtin .clear => match c.args.toList, c.argTypes.toList with
      | [a], [T] => clearA S T (ev a) H K
      | _, _ => False
    | _ => False
  | _ => False
def stepA (o : Op) (ev : Operand → AV) (H : Heap) (K : AV → Heap → Prop) : Prop :=
  match kindOf S o with
  | .pure => pureA S o ev fun v => K v H
  | .read => readA S o ev H fun v => K v H
  | .new => newA S o ev fun c mk => pushK H c fun n H => forceV (mk n) fun v => K v H
  | .eff => effA S o ev H K
def wantA (all : List Oper) (o : Oper) (env : List (Nat × AV)) (yes no : List (Nat × AV) → Prop) : Prop :=
  match o.guard with
  | none => yes env
  | some (j, want) => match all[j]? with
    | none => False
    | some oj => match oj.dst with
      | none => False
      | some d => match look env d with
        | .tt => match want with
          | true => yes env
          | false => no env
        | .ff => match want with
          | true => no env
          | false => yes env
        | .prop p => match want with
          | true => (p → yes ((d, .tt) :: env)) ∧ (¬p → no ((d, .ff) :: env))
          | false => (p → no ((d, .tt) :: env)) ∧ (¬p → yes ((d, .ff) :: env))
        | .tup vs => match vs with
          | [] => no env
          | _ => False
        | _ => False
def putK (d : Option Nat) (n : Nat) (v : AV) (env : List (Nat × AV)) (K : List (Nat × AV) → Prop) : Prop :=
  match d with
  | none => K env
  | some t => match Nat.blt t n with
    | true => forceV v fun v => K ((t, v) :: env)
    | false => False
def opsA (all : List Oper) (n lo : Nat) : List Oper → List (Nat × AV) → Heap → (St → Prop) → Prop
  | [], env, H, K => K ⟨env, H, n, lo⟩
  | o :: r, env, H, K => wantA all o env
      (fun env => stepA S o.op (evA env) H fun v H' => putK o.dst n v env fun env => opsA all n lo r env H' K)
      (fun env => putK o.dst n (.tup []) env fun env => opsA all n lo r env H K)
end
section
variable {S : Seat} {ρ ρ' : Lay} {H : Heap} {w w' : World} {N N' : Nat}
theorem execOp_call {o : Oper} {c : Call} {f : Operand} {n : Nat} {cap : Array Value} {evr : Operand → Value} (ho : o.op = .call c) (hc : c.callee = .value f) (hf : evr f = .func (.func n) #[] cap) (w : World)
    {fn : Func} (h1 : S.P.funcs[n]? = some fn) (h2 : fn.body.isSome = true) (h3 : (fn.name == "runtime.NumGoroutine") = false) :
    (execOp evr o).run S.P w = .ok (.enter n (c.args.map evr ++ cap)) w := by
  obtain ⟨dst, op, ty, pos, after, g⟩ := o
  obtain ⟨callee, args, argTypes⟩ := c
  simp only at ho hc
  subst ho; subst hc
  have h2' : fn.body.isNone = false := by cases hb : fn.body <;> simp_all
  simp only [execOp, resolve, hf, Deferred.ofValue, Sem.run_bind, Sem.run_pure, Result.andThen_ok, invoke, callFunc, run_program, h1, h3, h2']
  simp
def StepOk (S : Seat) (ρ : Lay) (H : Heap) (w : World) (a : Act) (o : Oper) (K : AV → Heap → Prop) : Prop :=
  ∀ (next : Act → World → Prop) (Q : Exit → Act → World → Prop),
    (∀ v r H', ∀ ρ' : Lay, ∀ w', K v H' → VRel ρ' v r → v.lt H'.next → After S ρ H w ρ' H' w' → next (a.put o.dst r) w') → o.wp S.P a w next Q
theorem EffOp.step {a : Act} {o : Oper} {K : AV → Heap → Prop} (h : EffOp S ρ H w a.eval o K) : StepOk S ρ H w a o K := by
  intro next Q hn
  obtain ⟨v, r, H', ρ', w', hr, hK, ⟨x, hx⟩, hl, ha⟩ := h
  unfold Oper.wp
  rw [hr]
  rcases hx with ⟨rfl, hv⟩ | ⟨rfl, rfl⟩
  · exact hn v x H' ρ' w' hK hv hl ha
  · exact hn .undef undef H' ρ' w' hK trivial hl ha
theorem value_step {a : Act} {o : Oper} {K : AV → Heap → Prop} {v : AV} {r : Value} {H' : Heap} (hr : (execOp a.eval o).run S.P w = .ok (.value r) w') (hK : K v H') (hv : VRel ρ' v r) (hl : v.lt H'.next) (ha : After S ρ H w ρ' H' w') : StepOk S ρ H w a o K := by
  intro next Q hn
  unfold Oper.wp
  rw [hr]
  exact hn v r H' ρ' w' hK hv hl ha
theorem eff_sound (hS : SeatOk S) {a : Act} {o : Oper} {ev : Operand → AV} {K : AV → Heap → Prop} (hH : HRel S ρ H w) (hev : ∀ x, VRel ρ (ev x) (a.eval x)) (hlt : ∀ x, (ev x).lt H.next) (h : effA S o.op ev H K) : StepOk S ρ H w a o K := by
  unfold effA at h
  split at h
  · rename_i T x y ho
    exact (store_sound ho hH hev hlt h).step
  · rename_i s d x ho
    obtain ⟨v, r, H', ρ', w', hr, hK, hv, hl, ha⟩ := convSl_sound hH (hev x) (hlt x) h
    refine value_step (r := r) ?_ hK hv hl ha
    obtain ⟨dst, op, ty, pos, after, g⟩ := o
    simp only at ho
    subst ho
    simp only [execOp, Sem.run_bind, hr, Result.andThen_ok, Sem.run_pure]
  · rename_i c ho
    split at h
    · rename_i f hc
      have hf := hev f
      have hfl := hlt f
      split at h
      · rename_i n cap e
        rw [e] at hf hfl
        obtain ⟨cs, er, hcs⟩ := hf
        split at h
        · rename_i hh
          obtain ⟨fn, h1, h2, h3⟩ := hS.has n hh
          intro next Q hn
          have hrun := execOp_call (S := S) ho hc er w h1 h2 h3
          unfold Oper.wp
          rw [hrun]
          have hargs : (c.args.map a.eval ++ cs.toArray) = (c.args.toList.map a.eval ++ cs).toArray := by
            rw [← Array.toList_inj]; simp
          simp only [Oper.upon, hargs]
          unfold CallA at h
          refine (h ρ w _ hH ((map_rel hev c.args.toList).append hcs) (lts_append (map_lt hlt _) hfl)).mono ?_
          rintro e' w' ⟨v, r, H', ρ', rfl, hK, hv, hl, ha⟩
          exact hn v r H' ρ' w' hK hv hl ha
        · obtain ⟨v, r, hrun, hv, hl, hK⟩ := hS.ext _ _ _ h ρ _ w ((map_rel hev c.args.toList).append hcs)
          refine value_step (r := r) ?_ hK hv (hl.mono (Nat.zero_le _)) (.refl hH)
          have hargs : (c.args.map a.eval ++ cs.toArray) = (c.args.toList.map a.eval ++ cs).toArray := by
            rw [← Array.toList_inj]; simp
          obtain ⟨dst, op, ty, pos, after, g⟩ := o
          obtain ⟨callee, args, argTypes⟩ := c
          simp only at ho hc hargs
          subst ho; subst hc
          simp only [execOp, resolve, er, Deferred.ofValue, Sem.run_bind, Sem.run_pure, Result.andThen_ok, invoke]
          simp only [List.empty_eq, Array.empty_append, hargs, hrun]
      · exact h.elim
    · rename_i hc
      split at h
      · rename_i x y T U hargs htypes
        have ea : c.args.map a.eval = #[a.eval x, a.eval y] := by rw [← Array.toList_inj]; simp [hargs]
        have et : c.argTypes = #[T, U] := by rw [← Array.toList_inj]; simp [htypes]
        have h : AppOp S ρ H w (Builtin.append_ #[T, U] o.type #[a.eval x, a.eval y]) K := by
          cases h with
          | one h => exact append_sound hS hH (hev x) (hev y) h
          | two h => exact appendB_sound hS hH (hev x) (hev y) h
        obtain ⟨v, r, H', ρ', w', hr, hK, hv, hl, ha⟩ := h
        refine value_step (r := r) ?_ hK hv hl ha
        rw [call_builtin ho hc, ea, et]
        simp [builtin, hr]
      · exact h.elim
    · rename_i hc
      split at h
      · rename_i x y T U hargs htypes
        have ea : c.args.map a.eval = #[a.eval x, a.eval y] := by rw [← Array.toList_inj]; simp [hargs]
        have et : c.argTypes = #[T, U] := by rw [← Array.toList_inj]; simp [htypes]
        obtain ⟨v, r, H', ρ', w', hr, hK, hv, hl, ha⟩ := copy_sound (ty := o.type) hS hH (hev x) (hev y) h
        refine value_step (r := r) ?_ hK hv hl ha
        rw [call_builtin ho hc, ea, et]
        simp [builtin, hr]
      · exact h.elim
    · rename_i hc
      split at h
      · rename_i x T hargs htypes
        have ea : c.args.map a.eval = #[a.eval x] := by rw [← Array.toList_inj]; simp [hargs]
        have et : c.argTypes = #[T] := by rw [← Array.toList_inj]; simp [htypes]
        obtain ⟨v, r, H', ρ', w', hr, hK, hv, hl, ha⟩ := clear_sound (ty := o.type) hS hH (hev x) h
        refine value_step (r := r) ?_ hK hv hl ha
        rw [call_builtin ho hc, ea, et]
        simp [builtin, hr]
      · exact h.elim
    · exact h.elim
  · exact h.elim
theorem step_sound (hS : SeatOk S) {a : Act} {o : Oper} {ev : Operand → AV} {K : AV → Heap → Prop} (hH : HRel S ρ H w) (hev : ∀ x, VRel ρ (ev x) (a.eval x)) (hlt : ∀ x, (ev x).lt H.next) (h : stepA S o.op ev H K) : StepOk S ρ H w a o K := by
  unfold stepA at h
  split at h
  · obtain ⟨r, ⟨v, hK, hv, hl⟩, hr⟩ := pure_sound hS hev (fun _ => rfl) hlt h
    exact value_step (hr w) hK hv hl (.refl hH)
  · obtain ⟨r, ⟨v, hK, hv, hl⟩, hr⟩ := read_sound hH hev h
    exact value_step hr hK hv hl (.refl hH)
  · obtain ⟨c, mk, hK, m1, m3, m4⟩ := new_sound hS hev hlt h
    obtain ⟨w', r, arr, T, fz, hr, hg, hf, hc, hmk⟩ := m4 w
    have h := pushK_out hK
    have h := forceV_out (K := fun v => K v ⟨_, _⟩) h
    exact value_step hr h (hmk _ _ (Lay.set_self _ _ _ _)) (m1 _) (hH.push hg hf m3 hc)
  · exact eff_sound hS hH hev hlt h
end
end Go.Vm

namespace Go.Vm
open Go.RowKit
structure Inv (S : Seat) (ρ0 : Lay) (H0 : Heap) (w0 : World) (σ : St) (ρ : Lay) (a : Act) (w : World) : Prop where
  env : ∀ t, VRel ρ (look σ.env t) (a.tmps.getD t undef) ∧ (look σ.env t).lt σ.H.next
  size : a.tmps.size = σ.n
  defers : a.defers = []
  lo : H0.next = σ.lo
  after : After S ρ0 H0 w0 ρ σ.H w
def QA (S : Seat) (ρ0 : Lay) (H0 : Heap) (w0 : World) (kn : St → Prop) (ke : Nat → St → Prop) (kr : St → Prop) : Exit → Act → World → Prop
  | .normal, a, w => ∃ σ, ∃ ρ : Lay, kn σ ∧ Inv S ρ0 H0 w0 σ ρ a w
  | .exit i, a, w => ∃ σ, ∃ ρ : Lay, ke i σ ∧ Inv S ρ0 H0 w0 σ ρ a w
  | .ret, a, w => ∃ σ, ∃ ρ : Lay, kr σ ∧ Inv S ρ0 H0 w0 σ ρ a w
  | _, _, _ => False
@[irreducible] def Wp (S : Seat) (c : Code) (σ : St) (kn : St → Prop) (ke : Nat → St → Prop) (kr : St → Prop) : Prop :=
  ∀ ρ0 H0 w0 ρ a w, Inv S ρ0 H0 w0 σ ρ a w → c.wp S.P (QA S ρ0 H0 w0 kn ke kr) a w
def wpA (S : Seat) : Code → St → (St → Prop) → (Nat → St → Prop) → (St → Prop) → Prop
  | .skip, σ, kn, _, _ => kn σ
  | .seq x y, σ, kn, ke, kr => Wp S x σ (fun σ => Wp S y σ kn ke kr) ke kr
  | .cond c x y, ⟨env, H, n, lo⟩, kn, ke, kr => match evA env c with
    | .tt => Wp S x ⟨env, H, n, lo⟩ kn ke kr
    | .ff => Wp S y ⟨env, H, n, lo⟩ kn ke kr
    | .prop p => match c with
      | .tmp t => (p → Wp S x ⟨(t, .tt) :: env, H, n, lo⟩ kn ke kr) ∧ (¬p → Wp S y ⟨(t, .ff) :: env, H, n, lo⟩ kn ke kr)
      | _ => (p → Wp S x ⟨env, H, n, lo⟩ kn ke kr) ∧ (¬p → Wp S y ⟨env, H, n, lo⟩ kn ke kr)
    | _ => False
  | .block id x, σ, kn, ke, kr => Wp S x σ kn (fun i σ => match Nat.beq i id with | true => kn σ | false => ke i σ) kr
  | .exit id, σ, _, ke, _ => ke id σ
  | .ret, σ, _, _, kr => kr σ
  | .region id ops d, ⟨env, H, n, lo⟩, kn, ke, kr => match d with
    | false => opsA S ops.toList n lo ops.toList env H kn
    | true => Wp S (.region id ops true) ⟨env, H, n, lo⟩ kn ke kr
  | .loop x, σ, kn, ke, kr => Wp S (.loop x) σ kn ke kr
  | _, _, _, _, _ => False
section
variable {S : Seat} {ρ0 : Lay} {H0 : Heap} {w0 : World} {σ : St} {ρ : Lay} {a : Act} {w : World} {kn kn' : St → Prop} {ke ke' : Nat → St → Prop} {kr kr' : St → Prop}
theorem look_refine {ρ : Loc} {N : Nat} {env : List (Nat × AV)} {t : Nat} {v : AV} (hv : ∀ r, VRel ρ (look env t) r → VRel ρ v r) (hl : v.lt N) {f : Nat → Value}
    (h : ∀ t, VRel ρ (look env t) (f t) ∧ (look env t).lt N) : ∀ s, VRel ρ (look ((t, v) :: env) s) (f s) ∧ (look ((t, v) :: env) s).lt N := by
  intro s
  unfold look
  split
  · rename_i e
    have e := Nat.eq_of_beq_eq_true e
    subst e
    exact ⟨hv _ (h _).1, hl⟩
  · exact h s
theorem prop_tt {ρ : Loc} {p : Prop} (hp : p) {v : AV} (e : v = .prop p) (r : Value) (h : VRel ρ v r) : VRel ρ .tt r := by
  subst e
  obtain ⟨b, rfl, hb⟩ := h
  rw [hb.2 hp]; rfl
theorem prop_ff {ρ : Loc} {p : Prop} (hp : ¬p) {v : AV} (e : v = .prop p) (r : Value) (h : VRel ρ v r) : VRel ρ .ff r := by
  subst e
  obtain ⟨b, rfl, hb⟩ := h
  cases b
  · rfl
  · exact absurd (hb.1 rfl) hp
theorem evA_rel {H : Heap} {env : List (Nat × AV)} (hg : ∀ g, ∃ n, ρ (.glob g) = some (g, (0, n))) (henv : ∀ t, VRel ρ (look env t) (a.tmps.getD t undef) ∧ (look env t).lt H.next) (x : Operand) : VRel ρ (evA env x) (a.eval x) ∧ (evA env x).lt H.next := by
  cases x with
  | tmp t => exact henv t
  | const v =>
    refine ⟨cst_rel ρ v, ?_⟩
    simp only [evA]
    unfold cst
    split <;> first | trivial | (split <;> trivial)
  | global g =>
    obtain ⟨z, hz⟩ := hg g
    refine ⟨⟨g, (0, z), hz, by simp, ?_⟩, ?_⟩
    · simp [Act.eval]
    · intro n hn; simp [Blk.root] at hn
  | func f => exact ⟨⟨[], rfl, rfl⟩, trivial⟩
theorem Inv.ev (h : Inv S ρ0 H0 w0 σ ρ a w) (x : Operand) : VRel ρ (evA σ.env x) (a.eval x) ∧ (evA σ.env x).lt σ.H.next := evA_rel h.after.heap.glob h.env x
theorem Inv.refine (h : Inv S ρ0 H0 w0 σ ρ a w) {t : Nat} {v : AV} (hv : ∀ r, VRel ρ (look σ.env t) r → VRel ρ v r) (hl : v.lt σ.H.next) : Inv S ρ0 H0 w0 ⟨(t, v) :: σ.env, σ.H, σ.n, σ.lo⟩ ρ a w :=
  ⟨look_refine hv hl h.env, h.size, h.defers, h.lo, h.after⟩
theorem put_env {N N' : Nat} {ρ' : Lay} {env : List (Nat × AV)} {d : Option Nat} {n : Nat} {v : AV} {r : Value} {K : List (Nat × AV) → Prop} (h : putK d n v env K) (hn : a.tmps.size = n)
    (henv : ∀ t, VRel ρ (look env t) (a.tmps.getD t undef) ∧ (look env t).lt N) (ha : Agree N ρ ρ') (hN : N ≤ N') (hv : VRel ρ' v r) (hl : v.lt N') :
    ∃ env', K env' ∧ (∀ t, VRel ρ' (look env' t) ((a.put d r).tmps.getD t undef) ∧ (look env' t).lt N') ∧ (a.put d r).tmps.size = n ∧ (a.put d r).defers = a.defers := by
  have hold : ∀ t, VRel ρ' (look env t) (a.tmps.getD t undef) ∧ (look env t).lt N' := fun t => ⟨VRel.agree ha (henv t).2 (henv t).1, (henv t).2.mono hN⟩
  unfold putK at h
  split at h
  · exact ⟨_, h, hold, hn, rfl⟩
  · rename_i t
    split at h
    · rename_i hlt
      have hlt : t < n := by simpa [Nat.blt_eq] using hlt
      have h := forceV_out (K := fun v => K ((t, v) :: env)) h
      refine ⟨_, h, fun s => ?_, by simp [Act.put, hn], rfl⟩
      unfold look
      by_cases e : t = s
      · subst e
        rw [Nat.beq_refl]
        simp only [Act.put]
        rw [Array.getD_eq_getD_getElem?, Array.getElem?_setIfInBounds_self]
        rw [if_pos (by omega)]
        exact ⟨hv, hl⟩
      · rw [show Nat.beq t s = false from Bool.eq_false_iff.2 fun q => e (Nat.eq_of_beq_eq_true q)]
        simp only [Act.put]
        rw [Array.getD_eq_getD_getElem?, Array.getElem?_setIfInBounds_ne e, ← Array.getD_eq_getD_getElem?]
        exact hold s
    · exact h.elim
theorem ops_sound (hS : SeatOk S) {ops : Array Oper} {Q : Exit → Act → World → Prop} (hq : ∀ a w σ, ∀ ρ : Lay, kn σ → Inv S ρ0 H0 w0 σ ρ a w → Q .normal a w) :
    ∀ (l : List Oper) (k : Nat) (env : List (Nat × AV)) (H : Heap) (n lo : Nat) (ρ : Lay) (a : Act) (w : World), ops.toList.drop k = l → opsA S ops.toList n lo l env H kn → Inv S ρ0 H0 w0 ⟨env, H, n, lo⟩ ρ a w →
      wpOps S.P ops Q (List.range' k l.length) a w := by
  intro l
  induction l with
  | nil => intro k env H n lo ρ a w _ h hi; exact hq _ _ _ _ h hi
  | cons o r ih =>
    intro k env H n lo ρ a w hd h hi
    have ho : ops[k]? = some o := by
      have := congrArg (·[0]?) hd
      simpa using this
    have hr : ops.toList.drop (k + 1) = r := by
      rw [← List.drop_drop, hd]; rfl
    simp only [List.length_cons, List.range'_succ, wpOps, ho]
    have yes : ∀ env' : List (Nat × AV), Region.wanted o (yielded ops a.tmps) = true → Inv S ρ0 H0 w0 ⟨env', H, n, lo⟩ ρ a w →
        (stepA S o.op (evA env') H fun v H' => putK o.dst n v env' fun env => opsA S ops.toList n lo r env H' kn) →
        (if Region.wanted o (yielded ops a.tmps) then o.wp S.P a w (wpOps S.P ops Q (List.range' (k + 1) r.length)) Q ∨ (o.asks S.P a w ∧ LetsOut Q) else wpOps S.P ops Q (List.range' (k + 1) r.length) (a.put o.dst undef) w) := by
      intro env' hw hi h
      rw [if_pos hw]
      refine .inl (step_sound hS hi.after.heap (fun x => (hi.ev x).1) (fun x => (hi.ev x).2) h _ _ fun v r' H' ρ' w' hK hv hl ha => ?_)
      obtain ⟨env2, hK2, g1, g2, g3⟩ := put_env hK hi.size hi.env ha.agree ha.next hv hl
      exact ih (k + 1) env2 H' n lo ρ' _ w' hr hK2 ⟨g1, g2, g3.trans hi.defers, hi.lo, hi.after.trans ha⟩
    have no : ∀ env' : List (Nat × AV), Region.wanted o (yielded ops a.tmps) = false → Inv S ρ0 H0 w0 ⟨env', H, n, lo⟩ ρ a w →
        (putK o.dst n (.tup []) env' fun env => opsA S ops.toList n lo r env H kn) →
        (if Region.wanted o (yielded ops a.tmps) then o.wp S.P a w (wpOps S.P ops Q (List.range' (k + 1) r.length)) Q ∨ (o.asks S.P a w ∧ LetsOut Q) else wpOps S.P ops Q (List.range' (k + 1) r.length) (a.put o.dst undef) w) := by
      intro env' hw hi h
      rw [if_neg (by rw [hw]; simp)]
      obtain ⟨env2, hK2, g1, g2, g3⟩ := put_env (v := .tup []) (r := undef) h hi.size hi.env (.refl _ _) (Nat.le_refl _) ⟨[], rfl, rfl⟩ trivial
      exact ih (k + 1) env2 H n lo ρ _ w hr hK2 ⟨g1, g2, g3.trans hi.defers, hi.lo, hi.after⟩
    unfold opsA wantA at h
    split at h
    · rename_i hg
      exact yes env (by simp [Region.wanted, hg]) hi h
    · rename_i j want hg
      split at h
      · exact h.elim
      · rename_i oj hj
        have hj' : ops[j]? = some oj := by simpa using hj
        split at h
        · exact h.elim
        · rename_i d hdst
          have hd' := hi.env d
          have hyield : ∀ b, a.tmps.getD d undef = .bool b → yielded ops a.tmps j = some b := by
            intro b hb
            have : a.tmps[d]? = some (.bool b) := by
              rw [Array.getD_eq_getD_getElem?] at hb
              cases hq : a.tmps[d]? with
              | none => rw [hq] at hb; simp [undef] at hb
              | some v => rw [hq] at hb; simpa using hb
            simp [yielded, hj', hdst, this]
          have hwant : ∀ b, a.tmps.getD d undef = .bool b → Region.wanted o (yielded ops a.tmps) = (b == want) := by
            intro b hb
            simp [Region.wanted, hg, hyield b hb]
          simp only at hd'
          split at h
          · rename_i e
            rw [e] at hd'
            have hw := hwant _ hd'.1
            cases want with
            | true => exact yes env (by rw [hw]; rfl) hi h
            | false => exact no env (by rw [hw]; rfl) hi h
          · rename_i e
            rw [e] at hd'
            have hw := hwant _ hd'.1
            cases want with
            | true => exact no env (by rw [hw]; rfl) hi h
            | false => exact yes env (by rw [hw]; rfl) hi h
          · rename_i p e
            have hcase : p ∨ ¬p := Classical.em p
            rw [e] at hd'
            obtain ⟨⟨b, hb, hbp⟩, -⟩ := hd'
            have hw := hwant _ hb
            rcases hcase with hp | hp
            · have hb1 : b = true := hbp.2 hp
              have hi' := hi.refine (t := d) (v := .tt) (fun r q => prop_tt hp e r q) trivial
              subst hb1
              cases want with
              | true => exact yes _ (by rw [hw]; rfl) hi' (h.1 hp)
              | false => exact no _ (by rw [hw]; rfl) hi' (h.1 hp)
            · have hb1 : b = false := by
                cases b
                · rfl
                · exact absurd (hbp.1 rfl) hp
              have hi' := hi.refine (t := d) (v := .ff) (fun r q => prop_ff hp e r q) trivial
              subst hb1
              cases want with
              | true => exact no _ (by rw [hw]; rfl) hi' (h.2 hp)
              | false => exact yes _ (by rw [hw]; rfl) hi' (h.2 hp)
          · rename_i vs e
            split at h
            · rw [e] at hd'
              obtain ⟨⟨cs, hb, hc⟩, -⟩ := hd'
              have hc : cs = [] := hc
              subst hc
              refine no env ?_ hi h
              have hy : yielded ops a.tmps j = none := by
                rw [Array.getD_eq_getD_getElem?] at hb
                cases hq : a.tmps[d]? with
                | none => simp [yielded, hj', hdst, hq]
                | some v => rw [hq] at hb; simp at hb; simp [yielded, hj', hdst, hq, hb]
              simp [Region.wanted, hg, hy]
            · exact h.elim
          · exact h.elim
theorem Wp.run {c : Code} (h : Wp S c σ kn ke kr) (hi : Inv S ρ0 H0 w0 σ ρ a w) : c.wp S.P (QA S ρ0 H0 w0 kn ke kr) a w := by
  unfold Wp at h
  exact h _ _ _ _ _ _ hi
theorem wpA_sound (hS : SeatOk S) : ∀ {c : Code} {σ : St} {kn : St → Prop} {ke : Nat → St → Prop} {kr : St → Prop}, wpA S c σ kn ke kr →
    ∀ {ρ : Lay} {a : Act} {w : World}, Inv S ρ0 H0 w0 σ ρ a w → c.wp S.P (QA S ρ0 H0 w0 kn ke kr) a w
  | .skip, σ, kn, ke, kr, h, ρ, a, w, hi => wp_skip ⟨σ, ρ, h, hi⟩
  | .seq x y, σ, kn, ke, kr, h, ρ, a, w, hi => by
    simp only [wpA] at h
    refine wp_seq (wp_mono (h.run hi) fun e a w hq => ?_)
    cases e with
    | normal => exact let ⟨σ, ρ, h1, h2⟩ := hq; h1.run h2
    | exit i => exact hq
    | ret => exact hq
    | _ => exact hq
  | .cond c x y, ⟨env, H, n, lo⟩, kn, ke, kr, h, ρ, a, w, hi => by
    simp only [wpA] at h
    have hc : VRel ρ (evA env c) (a.eval c) := (hi.ev c).1
    split at h
    · rename_i e; rw [e] at hc; exact wp_cond_true hc (h.run hi)
    · rename_i e; rw [e] at hc; exact wp_cond_false hc (h.run hi)
    · rename_i p e
      have hcase : p ∨ ¬p := Classical.em p
      split at h
      · rename_i t
        rcases hcase with hp | hp
        · exact wp_cond_true (prop_tt hp e _ hc) ((h.1 hp).run (hi.refine (fun r q => prop_tt hp e r q) trivial))
        · exact wp_cond_false (prop_ff hp e _ hc) ((h.2 hp).run (hi.refine (fun r q => prop_ff hp e r q) trivial))
      · rcases hcase with hp | hp
        · exact wp_cond_true (prop_tt hp e _ hc) ((h.1 hp).run hi)
        · exact wp_cond_false (prop_ff hp e _ hc) ((h.2 hp).run hi)
    · exact h.elim
  | .block id x, σ, kn, ke, kr, h, ρ, a, w, hi => by
    simp only [wpA] at h
    refine wp_block (wp_mono (h.run hi) fun e a w hq => ?_)
    cases e with
    | normal => exact hq
    | exit i =>
      obtain ⟨σ, ρ, h1, h2⟩ := hq
      simp only [Exit.inBlock]
      split at h1
      · rename_i q
        rw [if_pos (Nat.eq_of_beq_eq_true q)]
        exact ⟨σ, ρ, h1, h2⟩
      · rename_i q
        rw [if_neg fun e => by rw [e, Nat.beq_refl] at q; cases q]
        exact ⟨σ, ρ, h1, h2⟩
    | ret => exact hq
    | _ => exact hq
  | .exit id, σ, kn, ke, kr, h, ρ, a, w, hi => wp_exit ⟨σ, ρ, h, hi⟩
  | .ret, σ, kn, ke, kr, h, ρ, a, w, hi => wp_ret ⟨σ, ρ, h, hi⟩
  | .region id ops d, σ, kn, ke, kr, h, ρ, a, w, hi => by
    cases d with
    | false =>
      refine wp_region ?_
      have := ops_sound (Q := QA S ρ0 H0 w0 kn ke kr) hS (fun a w σ ρ h1 h2 => ⟨σ, ρ, h1, h2⟩) ops.toList 0 σ.env σ.H σ.n σ.lo ρ a w rfl h hi
      rwa [Array.length_toList, ← List.range_eq_range'] at this
    | true =>
      obtain ⟨env, H, n, lo⟩ := σ
      simp only [wpA] at h
      exact h.run hi
  | .loop x, σ, kn, ke, kr, h, ρ, a, w, hi => by
    simp only [wpA] at h
    exact h.run hi
  | .rangeFunc _ _ _ _, _, _, _, _, h, _, _, _, _ => h.elim
  | .scope _, _, _, _, _, h, _, _, _, _ => h.elim
  | .label _, _, _, _, _, h, _, _, _, _ => h.elim
  | .goto _, _, _, _, _, h, _, _, _, _ => h.elim
  | .refuse _, _, _, _, _, h, _, _, _, _ => h.elim
theorem Wp.of_wpA (hS : SeatOk S) {c : Code} (h : wpA S c σ kn ke kr) : Wp S c σ kn ke kr := by
  unfold Wp
  exact fun _ _ _ _ _ _ hi => wpA_sound hS h hi
end
end Go.Vm

namespace Go.Vm
open Go.RowKit
def argsK : List (Nat × AV) → (List (Nat × AV) → Prop) → Prop
  | [], K => K []
  | (t, v) :: r, K => natK t fun t => forceV v fun v => argsK r fun r => K ((t, v) :: r)
theorem argsK_out : ∀ {l : List (Nat × AV)} {K : List (Nat × AV) → Prop}, argsK l K → K l
  | [], _, h => h
  | (t, v) :: r, K, h => by
    have h := natK_out h
    have h := forceV_out (K := fun v => argsK r fun r => K ((t, v) :: r)) h
    exact argsK_out (K := fun r => K ((t, v) :: r)) h
def argsEnv : Nat → List AV → List (Nat × AV)
  | _, [] => []
  | k, v :: r => (k, v) :: argsEnv (k + 1) r
section
variable (S : Seat)
def res1A (r : ResultVar) (σ : St) (K : AV → Prop) : Prop :=
  match r with
  | .tmp t => K (look σ.env t)
  | .cell t T => match look σ.env t with
    | .ptr b m i j => atA σ.H.ents b fun q c => elemA q b m i c fun l => partA S T l j K
    | _ => False
def resL : List ResultVar → St → (List AV → Prop) → Prop
  | [], _, K => K []
  | r :: rs, σ, K => res1A S r σ fun v => resL rs σ fun vs => K (v :: vs)
def resA (rs : List ResultVar) (σ : St) (K : AV → Prop) : Prop :=
  resL S rs σ fun vs => match vs with
    | [v] => K v
    | vs => K (.tup vs)
def bodyA (fn : Func) (args : List AV) (H : Heap) (K : AV → Heap → Prop) : Prop :=
  match fn.body with
  | none => False
  | some c => match Nat.ble args.length fn.ntmps with
    | false => False
    | true => argsK (argsEnv 0 args) fun env => natK fn.ntmps fun n => match H with
      | ⟨l, nx⟩ => Wp S c ⟨env, ⟨l, nx⟩, n, nx⟩ (fun | ⟨env, H, n, lo⟩ => resA S fn.results.toList ⟨env, H, n, lo⟩ fun v => K v H) (fun _ _ => False) (fun | ⟨env, H, n, lo⟩ => resA S fn.results.toList ⟨env, H, n, lo⟩ fun v => K v H)
end
section
variable {S : Seat} {ρ0 : Lay} {H0 : Heap} {w0 : World} {σ : St} {ρ : Lay} {a : Act} {w : World}
theorem res1_sound (hi : Inv S ρ0 H0 w0 σ ρ a w) (f : ResultVar → Sem Value) (hf : ∀ u, f (.tmp u) = pure (a.tmps.getD u undef)) (hc : ∀ p t, f (.cell p t) = (do loadVar t (← asAddr (a.tmps.getD p undef))))
    {r : ResultVar} {K : AV → Prop} (h : res1A S r σ K) :
    ∃ v x, K v ∧ VRel ρ v x ∧ v.lt σ.H.next ∧ (f r).run S.P w = .ok x w := by
  unfold res1A at h
  split at h
  · rename_i t
    exact ⟨_, _, h, (hi.env t).1, (hi.env t).2, by rw [hf]; rfl⟩
  · rename_i t T
    have ht := (hi.env t).1
    split at h
    · rename_i b m i j e
      rw [e] at ht
      obtain ⟨k, z, h1, h2, er⟩ := ht
      obtain ⟨q, c, F, e', hc', he, hh, hok, hblt, _⟩ := at_sound hi.after.heap h
      obtain ⟨l, rs, hl, hr, hlt, hcell⟩ := elem_sound hh hok hblt h1 h2 hc'
      obtain ⟨r, ⟨v, q1, q2, q3⟩, hrun⟩ := load_sound (a := ⟨k, z.1 + (i.getD 0).toNat * m, none⟩) hl hr hlt (fun j r hj => by have := (hcell j r hj).1; rwa [← Nat.add_assoc] at this)
      refine ⟨v, r, q1, q2, q3, ?_⟩
      rw [hc, er]
      simpa [asAddr, Nat.add_assoc] using hrun
    · exact h.elim
theorem resL_sound (hi : Inv S ρ0 H0 w0 σ ρ a w) (f : ResultVar → Sem Value) (hf : ∀ u, f (.tmp u) = pure (a.tmps.getD u undef)) (hc : ∀ p t, f (.cell p t) = (do loadVar t (← asAddr (a.tmps.getD p undef)))) :
    ∀ {rs : List ResultVar} {K : List AV → Prop}, resL S rs σ K → ∃ vs xs, K vs ∧ VRels ρ vs xs ∧ AV.lts σ.H.next vs ∧ (rs.mapM f).run S.P w = .ok xs w
  | [], K, h => ⟨[], [], h, rfl, trivial, by simp⟩
  | r :: rs, K, h => by
    obtain ⟨v, x, h1, h2, h3, h4⟩ := res1_sound hi f hf hc h
    obtain ⟨vs, xs, g1, g2, g3, g4⟩ := resL_sound hi f hf hc h1
    refine ⟨v :: vs, x :: xs, g1, ⟨x, xs, rfl, h2, g2⟩, ⟨h3, g3⟩, ?_⟩
    rw [List.mapM_cons, Sem.run_bind, h4, Result.andThen_ok, Sem.run_bind, g4]
    rfl
theorem res_sound (hi : Inv S ρ0 H0 w0 σ ρ a w) {fn : Func} {K : AV → Prop} (h : resA S fn.results.toList σ K) :
    ∃ v x, K v ∧ VRel ρ v x ∧ v.lt σ.H.next ∧ (results fn a.tmps).run S.P w = .ok x w := by
  have hf : ∃ f : ResultVar → Sem Value, (∀ u, f (.tmp u) = pure (a.tmps.getD u undef)) ∧ (∀ p t, f (.cell p t) = (do loadVar t (← asAddr (a.tmps.getD p undef)))) ∧
      ∀ xs, (fn.results.toList.mapM f).run S.P w = .ok xs w → (results fn a.tmps).run S.P w = .ok (if h : xs.toArray.size = 1 then xs.toArray[0] else .tuple xs.toArray) w := by
    unfold results
    rw [show fn.results = fn.results.toList.toArray from rfl, List.mapM_toArray]
    simp only [Sem.run_bind, Sem.run_map]
    refine ⟨fun | .tmp t => pure (a.tmps.getD t undef) | .cell p t => do loadVar t (← asAddr (a.tmps.getD p undef)), fun _ => rfl, fun _ _ => rfl, fun xs hx => ?_⟩
    refine Eq.trans (congrArg (fun r => (Result.andThen r _).andThen _) hx) ?_
    rfl
  obtain ⟨f, hf, hc, hrun⟩ := hf
  obtain ⟨vs, xs, h1, h2, h3, hx⟩ := resL_sound hi f hf hc h
  replace hrun := hrun xs hx
  match vs, h1, h2, h3 with
  | [v], h1, h2, h3 =>
    obtain ⟨x, ys, e1, q1, q2⟩ := h2
    have e2 : ys = [] := q2
    subst e1; subst e2
    exact ⟨v, x, h1, q1, h3.1, by rw [hrun]; rfl⟩
  | [], h1, h2, h3 =>
    have e : xs = [] := h2
    subst e
    exact ⟨.tup [], .tuple #[], h1, ⟨[], rfl, rfl⟩, trivial, by rw [hrun]; rfl⟩
  | v :: v' :: vs, h1, h2, h3 =>
    refine ⟨.tup (v :: v' :: vs), .tuple xs.toArray, h1, ⟨xs, rfl, h2⟩, h3, ?_⟩
    rw [hrun, dif_neg]
    intro q
    have hl := h2.length
    simp at q
    rw [q] at hl
    simp at hl
theorem argsEnv_rel {N : Nat} (hN : ∀ v ∈ ([] : List AV), v.lt N) : ∀ {vs : List AV} {rs : List Value} (k : Nat) (pre : List Value) (post : List Value), pre.length = k → VRels ρ vs rs → AV.lts N vs →
    ∀ t, VRel ρ (look (argsEnv k vs) t) ((pre ++ rs ++ post).toArray.getD t undef) ∧ (look (argsEnv k vs) t).lt N
  | [], _, k, pre, post, hk, h, hl, t => by
    simp only [argsEnv, look]
    exact ⟨trivial, trivial⟩
  | v :: vs, rs, k, pre, post, hk, h, hl, t => by
    obtain ⟨r, rs, rfl, h1, h2⟩ := h
    simp only [argsEnv, look]
    split
    · rename_i e
      have e := Nat.eq_of_beq_eq_true e
      subst e; subst hk
      refine ⟨?_, hl.1⟩
      rw [Array.getD_eq_getD_getElem?]
      simp
      exact h1
    · have := argsEnv_rel hN (k + 1) (pre ++ [r]) post (by simp [hk]) h2 hl.2 t
      simpa using this
theorem CallA.of_body (hS : SeatOk S) {f : Nat} {fn : Func} {args : List AV} {H : Heap} {K : AV → Heap → Prop} (hf : S.P.funcs[f]? = some fn) (h : bodyA S fn args H K) : CallA S f args H K := by
  unfold CallA
  intro ρ w rs hH hr hl
  unfold bodyA at h
  split at h
  · exact h.elim
  · rename_i c hc
    split at h
    · exact h.elim
    · rename_i hle
      have hle : args.length ≤ fn.ntmps := Nat.le_of_ble_eq_true hle
      have h := argsK_out h
      have h := natK_out h
      have hlen := hr.length
      refine calls_of_wp hf hc (wp_mono (Wp.run (ρ0 := ρ) (H0 := H) (w0 := w) (ρ := ρ) h ⟨fun t => ?_, ?_, rfl, rfl, .refl hH⟩) fun e a' w' hq => ?_)
      · have := argsEnv_rel (ρ := ρ) (N := H.next) (by simp) 0 [] (List.replicate (fn.ntmps - rs.length) undef) rfl hr hl t
        have e : rs.toArray ++ Array.replicate (fn.ntmps - rs.toArray.size) undef = ([] ++ rs ++ List.replicate (fn.ntmps - rs.length) undef).toArray := by
          rw [← Array.toList_inj]; simp
        rw [e]
        exact this
      · simp; omega
      · have fin : ∀ σ, ∀ ρ' : Lay, (resA S fn.results.toList σ fun v => K v σ.H) → Inv S ρ H w σ ρ' a' w' →
            a'.defers = [] ∧ ∃ v, (results fn a'.tmps).run S.P w' = .ok v w' ∧ ∃ v' r H', ∃ ρ' : Lay, Ending.returned v = .returned r ∧ K v' H' ∧ VRel ρ' v' r ∧ v'.lt H'.next ∧ After S ρ H w ρ' H' w' := by
          intro σ (ρ' : Lay) h1 h2
          obtain ⟨v, x, g1, g2, g3, g4⟩ := res_sound h2 h1
          exact ⟨h2.defers, x, g4, v, x, σ.H, ρ', rfl, g1, g2, g3, h2.after⟩
        cases e with
        | normal => exact let ⟨σ, ρ', h1, h2⟩ := hq; fin σ ρ' h1 h2
        | ret => exact let ⟨σ, ρ', h1, h2⟩ := hq; fin σ ρ' h1 h2
        | exit i => exact let ⟨_, _, h1, _⟩ := hq; h1.elim
        | _ => exact hq.elim
end
end Go.Vm

namespace Go.Vm
open Go.RowKit
def intPut (k : IntKind) (_ : Int) (j : Nat) (vs : List AV) : Option Int :=
  match j with
  | 0 => match vs with
    | [.int k' n] => match k' == k with
      | true => some n
      | false => none
    | _ => none
  | _ + 1 => none
def intParse (k : IntKind) (vs : List AV) : Option Int :=
  match vs with
  | [.int k' n] => match k' == k with
    | true => some n
    | false => none
  | _ => none
def intE (k : IntKind) : Enc Int := ⟨1, 0, fun n => [.int k n], intPut k, intParse k⟩
def strPut (_ : List Int) (j : Nat) (vs : List AV) : Option (List Int) :=
  match j with
  | 0 => match vs with
    | [.str s] => some s
    | _ => none
  | _ + 1 => none
def strParse (vs : List AV) : Option (List Int) :=
  match vs with
  | [.str s] => some s
  | _ => none
def strE : Enc (List Int) := ⟨1, [], fun s => [.str s], strPut, strParse⟩
theorem VRels.one {ρ : Loc} {v : AV} {l : List Value} (h : VRels ρ [v] l) : ∃ r, l = [r] ∧ VRel ρ v r := by
  obtain ⟨r, rs, e, h1, h2⟩ := h
  have h2 : rs = [] := h2
  subst h2
  exact ⟨r, e, h1⟩
theorem intE_ok {P : Program} {T : TypeId} {k : IntKind} (hm : (P.info? T).map (·.size) = some 1) (hz : ((P.info? T).bind (·.zero)).map (·.cells.toList) = some [.int k 0]) : EncOk P T (intE k) where
  m := hm
  pos := Nat.one_pos
  len := fun _ => rfl
  plain := fun _ _ => ⟨trivial, trivial⟩
  flat := fun _ => rfl
  put := fun x j vs y h => by
    simp only [intE, intPut] at h
    split at h
    · split at h
      · rename_i k' n
        split at h
        · rename_i e
          have e : k' = k := by simpa using e
          simp at h; subst h; subst e
          refine ⟨by simp [intE], fun ρ rs l h1 h2 => ?_⟩
          obtain ⟨r, rfl, h1⟩ := VRels.one h1
          obtain ⟨r', rfl, h3⟩ := VRels.one h2
          exact ⟨r', [], rfl, h3, rfl⟩
        · simp at h
      · simp at h
    · simp at h
  parse := fun vs y h => by
    simp only [intE, intParse] at h
    split at h
    · rename_i k' n
      split at h
      · rename_i e
        have e : k' = k := by simpa using e
        simp at h; subst h; subst e
        exact fun _ _ h => h
      · simp at h
    · simp at h
  zero := ⟨_, hz, fun _ => ⟨_, [], rfl, rfl, rfl⟩⟩
theorem strE_ok {P : Program} {T : TypeId} (hm : (P.info? T).map (·.size) = some 1) (hz : ((P.info? T).bind (·.zero)).map (·.cells.toList) = some [.string .empty]) : EncOk P T strE where
  m := hm
  pos := by decide
  len := fun _ => rfl
  plain := fun _ _ => ⟨trivial, trivial⟩
  flat := fun _ => rfl
  put := fun x j vs y h => by
    simp only [strE, strPut] at h
    split at h
    · split at h
      · rename_i n
        simp at h; subst h
        refine ⟨by simp [strE], fun ρ rs l h1 h2 => ?_⟩
        obtain ⟨r, rfl, h1⟩ := VRels.one h1
        obtain ⟨r', rfl, h3⟩ := VRels.one h2
        exact ⟨r', [], rfl, h3, rfl⟩
      · simp at h
    · simp at h
  parse := fun vs y h => by
    simp only [strE, strParse] at h
    split at h
    · simp at h; subst h
      exact fun _ _ h => h
    · simp at h
  zero := ⟨_, hz, fun _ => ⟨_, [], rfl, ⟨_, rfl, rfl, by decide⟩, rfl⟩⟩
end Go.Vm
