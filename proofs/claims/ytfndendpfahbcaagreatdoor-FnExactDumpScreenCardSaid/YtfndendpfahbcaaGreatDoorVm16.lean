/- An abstract machine over the loaded code: whole functions. -/
import Derived.Test.YtfndendpfahbcaaGreatDoorVm15
import Derived.Tactics
set_option linter.unusedSimpArgs false
set_option linter.unusedVariables false
namespace Go.Vm
open Go.RowKit

/-- the slots at the start -/
def argsK : List (Nat × AV) → (List (Nat × AV) → Prop) → Prop
  | [], K => K []
  | (t, v) :: r, K => natK t fun t => forceV v fun v => argsK r fun r => K ((t, v) :: r)
theorem argsK_out : ∀ {l : List (Nat × AV)} {K : List (Nat × AV) → Prop}, argsK l K → K l
  | [], _, h => h
  | (t, v) :: r, K, h => by
    have h := natK_out h
    have h := forceV_out (K := fun v => argsK r fun r => K ((t, v) :: r)) h
    exact argsK_out (K := fun r => K ((t, v) :: r)) h
/-- the slots at the start -/
def argsEnv : Nat → List AV → List (Nat × AV)
  | _, [] => []
  | k, v :: r => (k, v) :: argsEnv (k + 1) r

section
variable (S : Seat)

/-- one result -/
def res1A (r : ResultVar) (σ : St) (K : AV → Prop) : Prop :=
  match r with
  | .tmp t => K (look σ.env t)
  | .cell t T => match look σ.env t with
    | .ptr b m i j => atA σ.H.ents b fun c => elemA b m i c fun l => partA S T l j K
    | _ => False

def resL : List ResultVar → St → (List AV → Prop) → Prop
  | [], _, K => K []
  | r :: rs, σ, K => res1A S r σ fun v => resL rs σ fun vs => K (v :: vs)

def resA (rs : List ResultVar) (σ : St) (K : AV → Prop) : Prop :=
  resL S rs σ fun vs => match vs with
    | [v] => K v
    | vs => K (.tup vs)

/-- a function's body, from its arguments -/
def bodyA (fn : Func) (args : List AV) (H : Heap) (K : AV → Heap → Prop) : Prop :=
  match fn.body with
  | none => False
  | some c => match Nat.ble args.length fn.ntmps with
    | false => False
    | true => argsK (argsEnv 0 args) fun env => natK fn.ntmps fun n => match H with
      | ⟨l, nx⟩ => wpA S c ⟨env, ⟨l, nx⟩, n, nx⟩ (fun | ⟨env, H, n, lo⟩ => resA S fn.results.toList ⟨env, H, n, lo⟩ fun v => K v H) (fun _ _ => False) (fun | ⟨env, H, n, lo⟩ => resA S fn.results.toList ⟨env, H, n, lo⟩ fun v => K v H)
end

section
variable {S : Seat} {ρ0 : Loc} {H0 : Heap} {w0 : World} {σ : St} {ρ : Loc} {a : Act} {w : World}

theorem res1_sound (hi : Inv S ρ0 H0 w0 σ ρ a w) (f : ResultVar → Sem Value) (hf : ∀ u, f (.tmp u) = pure (a.tmps.getD u undef)) (hc : ∀ p t, f (.cell p t) = (do loadVar t (← asAddr (a.tmps.getD p undef))))
    {r : ResultVar} {K : AV → Prop} (h : res1A S r σ K) :
    ∃ v x, K v ∧ VRel ρ v x ∧ v.lt σ.H.next ∧ (f r).run S.P w = .ok x w := by
  unfold res1A at h
  split at h
  · rename_i t
    exact ⟨_, _, h, (hi.env t).1, (hi.env t).2, by rw [hf]; rfl⟩
  · rename_i t T
    have ht := (hi.env t).1
    split at h
    · rename_i b m i j e
      rw [e] at ht
      obtain ⟨k, z, h1, h2, er⟩ := ht
      obtain ⟨c, e', hc', he, hh, _⟩ := at_sound hi.after.heap h
      obtain ⟨l, rs, hl, hr, hlt, hcell⟩ := elem_sound hh.lies h1 h2 hc'
      obtain ⟨r, ⟨v, q1, q2, q3⟩, hrun⟩ := load_sound (a := ⟨k, z.1 + (i.getD 0).toNat * m, none⟩) hl hr hlt (fun j r hj => by have := hcell j r hj; rwa [← Nat.add_assoc] at this)
      refine ⟨v, r, q1, q2, q3, ?_⟩
      rw [hc, er]
      simpa [asAddr, Nat.add_assoc] using hrun
    · exact h.elim

theorem resL_sound (hi : Inv S ρ0 H0 w0 σ ρ a w) (f : ResultVar → Sem Value) (hf : ∀ u, f (.tmp u) = pure (a.tmps.getD u undef)) (hc : ∀ p t, f (.cell p t) = (do loadVar t (← asAddr (a.tmps.getD p undef)))) :
    ∀ {rs : List ResultVar} {K : List AV → Prop}, resL S rs σ K → ∃ vs xs, K vs ∧ VRels ρ vs xs ∧ AV.lts σ.H.next vs ∧ (rs.mapM f).run S.P w = .ok xs w
  | [], K, h => ⟨[], [], h, rfl, trivial, by simp⟩
  | r :: rs, K, h => by
    obtain ⟨v, x, h1, h2, h3, h4⟩ := res1_sound hi f hf hc h
    obtain ⟨vs, xs, g1, g2, g3, g4⟩ := resL_sound hi f hf hc h1
    refine ⟨v :: vs, x :: xs, g1, ⟨x, xs, rfl, h2, g2⟩, ⟨h3, g3⟩, ?_⟩
    rw [List.mapM_cons, Sem.run_bind, h4, Result.andThen_ok, Sem.run_bind, g4]
    rfl

theorem res_sound (hi : Inv S ρ0 H0 w0 σ ρ a w) {fn : Func} {K : AV → Prop} (h : resA S fn.results.toList σ K) :
    ∃ v x, K v ∧ VRel ρ v x ∧ v.lt σ.H.next ∧ (results fn a.tmps).run S.P w = .ok x w := by
  have hf : ∃ f : ResultVar → Sem Value, (∀ u, f (.tmp u) = pure (a.tmps.getD u undef)) ∧ (∀ p t, f (.cell p t) = (do loadVar t (← asAddr (a.tmps.getD p undef)))) ∧
      ∀ xs, (fn.results.toList.mapM f).run S.P w = .ok xs w → (results fn a.tmps).run S.P w = .ok (if h : xs.toArray.size = 1 then xs.toArray[0] else .tuple xs.toArray) w := by
    unfold results
    rw [show fn.results = fn.results.toList.toArray from rfl, List.mapM_toArray]
    simp only [Sem.run_bind, Sem.run_map]
    refine ⟨fun | .tmp t => pure (a.tmps.getD t undef) | .cell p t => do loadVar t (← asAddr (a.tmps.getD p undef)), fun _ => rfl, fun _ _ => rfl, fun xs hx => ?_⟩
    refine Eq.trans (congrArg (fun r => (Result.andThen r _).andThen _) hx) ?_
    rfl
  obtain ⟨f, hf, hc, hrun⟩ := hf
  obtain ⟨vs, xs, h1, h2, h3, hx⟩ := resL_sound hi f hf hc h
  replace hrun := hrun xs hx
  match vs, h1, h2, h3 with
  | [v], h1, h2, h3 =>
    obtain ⟨x, ys, e1, q1, q2⟩ := h2
    have e2 : ys = [] := q2
    subst e1; subst e2
    exact ⟨v, x, h1, q1, h3.1, by rw [hrun]; rfl⟩
  | [], h1, h2, h3 =>
    have e : xs = [] := h2
    subst e
    exact ⟨.tup [], .tuple #[], h1, ⟨[], rfl, rfl⟩, trivial, by rw [hrun]; rfl⟩
  | v :: v' :: vs, h1, h2, h3 =>
    refine ⟨.tup (v :: v' :: vs), .tuple xs.toArray, h1, ⟨xs, rfl, h2⟩, h3, ?_⟩
    rw [hrun, dif_neg]
    intro q
    have hl := h2.length
    simp at q
    rw [q] at hl
    simp at hl

theorem argsEnv_rel {N : Nat} (hN : ∀ v ∈ ([] : List AV), v.lt N) : ∀ {vs : List AV} {rs : List Value} (k : Nat) (pre : List Value) (post : List Value), pre.length = k → VRels ρ vs rs → AV.lts N vs →
    ∀ t, VRel ρ (look (argsEnv k vs) t) ((pre ++ rs ++ post).toArray.getD t undef) ∧ (look (argsEnv k vs) t).lt N
  | [], _, k, pre, post, hk, h, hl, t => by
    simp only [argsEnv, look]
    exact ⟨trivial, trivial⟩
  | v :: vs, rs, k, pre, post, hk, h, hl, t => by
    obtain ⟨r, rs, rfl, h1, h2⟩ := h
    simp only [argsEnv, look]
    split
    · rename_i e
      have e := Nat.eq_of_beq_eq_true e
      subst e; subst hk
      refine ⟨?_, hl.1⟩
      rw [Array.getD_eq_getD_getElem?]
      simp
      exact h1
    · have := argsEnv_rel hN (k + 1) (pre ++ [r]) post (by simp [hk]) h2 hl.2 t
      simpa using this

/-- a body that is walked is a call -/
theorem CallA.of_body (hS : SeatOk S) {f : Nat} {fn : Func} {args : List AV} {H : Heap} {K : AV → Heap → Prop} (hf : S.P.funcs[f]? = some fn) (h : bodyA S fn args H K) : CallA S f args H K := by
  unfold CallA
  intro ρ w rs hH hr hl
  unfold bodyA at h
  split at h
  · exact h.elim
  · rename_i c hc
    split at h
    · exact h.elim
    · rename_i hle
      have hle : args.length ≤ fn.ntmps := Nat.le_of_ble_eq_true hle
      have h := argsK_out h
      have h := natK_out h
      have hlen := hr.length
      refine calls_of_wp hf hc (wp_mono (wpA_sound (ρ0 := ρ) (H0 := H) (w0 := w) (ρ := ρ) hS h ⟨fun t => ?_, ?_, rfl, rfl, .refl hH⟩) fun e a' w' hq => ?_)
      · have := argsEnv_rel (ρ := ρ) (N := H.next) (by simp) 0 [] (List.replicate (fn.ntmps - rs.length) undef) rfl hr hl t
        have e : rs.toArray ++ Array.replicate (fn.ntmps - rs.toArray.size) undef = ([] ++ rs ++ List.replicate (fn.ntmps - rs.length) undef).toArray := by
          rw [← Array.toList_inj]; simp
        rw [e]
        exact this
      · simp; omega
      · have fin : ∀ σ ρ', (resA S fn.results.toList σ fun v => K v σ.H) → Inv S ρ H w σ ρ' a' w' →
            a'.defers = [] ∧ ∃ v, (results fn a'.tmps).run S.P w' = .ok v w' ∧ ∃ v' r H' ρ', Ending.returned v = .returned r ∧ K v' H' ∧ VRel ρ' v' r ∧ v'.lt H'.next ∧ After S ρ H w ρ' H' w' := by
          intro σ ρ' h1 h2
          obtain ⟨v, x, g1, g2, g3, g4⟩ := res_sound h2 h1
          exact ⟨h2.defers, x, g4, v, x, σ.H, ρ', rfl, g1, g2, g3, h2.after⟩
        cases e with
        | normal => exact let ⟨σ, ρ', h1, h2⟩ := hq; fin σ ρ' h1 h2
        | ret => exact let ⟨σ, ρ', h1, h2⟩ := hq; fin σ ρ' h1 h2
        | exit i => exact let ⟨_, _, h1, _⟩ := hq; h1.elim
        | _ => exact hq.elim
end
end Go.Vm
