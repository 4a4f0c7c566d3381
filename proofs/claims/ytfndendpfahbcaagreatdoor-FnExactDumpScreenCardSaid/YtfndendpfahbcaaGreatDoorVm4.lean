/- An abstract machine over the loaded code: operations upon values alone, all of them. -/
import Derived.Test.YtfndendpfahbcaaGreatDoorVm3
set_option linter.unusedSimpArgs false
set_option linter.unusedVariables false
namespace Go.Vm
open Go.RowKit

def FlatOk (P : Program) (T : TypeId) (n : Nat) : Prop :=
  P.eqGuardType P.depth T = false ∧
  ∀ as bs : List (IntKind × Int), as.length = n → bs.length = n → as.map (·.1) = bs.map (·.1) → ∀ w,
    (Op.equal T (.agg (as.map fun x => Value.int x.1 x.2).toArray) (.agg (bs.map fun x => Value.int x.1 x.2).toArray)).run P w = .ok (decide (as = bs)) w

def flatV : AV → Bool
  | .undef => false
  | .agg _ => false
  | .tup _ => false
  | _ => true
def flatL : List AV → Bool
  | [] => true
  | v :: r => match flatV v with | true => flatL r | false => false

/-- what an encoding has to keep -/
structure EncOk (P : Program) (T : TypeId) {α : Type} (E : Enc α) : Prop where
  m : (P.info? T).map (·.size) = some E.m
  pos : 0 < E.m
  len : ∀ x, (E.cells x).length = E.m
  plain : ∀ x N, AV.lts N (E.cells x)
  flat : ∀ x, flatL (E.cells x) = true
  put : ∀ x j vs y, E.put x j vs = some y → j + vs.length ≤ E.m ∧ ∀ ρ rs l, VRels ρ (E.cells x) l → VRels ρ vs rs → VRels ρ (E.cells y) (l.take j ++ (rs ++ l.drop (j + rs.length)))
  parse : ∀ vs y, E.parse vs = some y → ∀ ρ rs, VRels ρ vs rs → VRels ρ (E.cells y) rs
  zero : ∃ z, ((P.info? T).bind (·.zero)).map (·.cells.toList) = some z ∧ ∀ ρ, VRels ρ (E.cells E.d) z

structure SeatOk (S : Seat) : Prop where
  flat : ∀ T n, S.flat T = some n → FlatOk S.P T n
  hint : ∀ T x, S.hint T = some x → EncOk S.P T x.E
  mixed : S.P.follows .mixedOrders = true
  has : ∀ n, S.has n = true → ∃ fn, S.P.funcs[n]? = some fn ∧ fn.body.isSome = true ∧ (fn.name == "runtime.NumGoroutine") = false
  ext : ∀ n args K, S.ext n args K → ∀ (ρ : Loc) (rs : List Value) (w : World), VRels ρ args rs →
    ∃ v r, (callFunc n rs.toArray).run S.P w = .ok (.value r) w ∧ VRel ρ v r ∧ v.lt 0 ∧ K v

section
variable {S : Seat} {ρ : Loc} {N : Nat}

theorem run_und {T : TypeId} {d : TypeDesc} (h : S.P.underlying T = some d) (w : World) : (underlying T).run S.P w = .ok d w := run_underlying h w

theorem run_size {T : TypeId} (h : 0 < szA S T) (w : World) : (sizeOf T).run S.P w = .ok (szA S T) w := by
  unfold szA at h ⊢
  split at h
  · rename_i i hi
    simp [sizeOf, typeInfo, hi]
  · omega

theorem boolEq_sound {op : BinOp} {T : TypeId} {a b : AV} {x y : Value} {K : AV → Prop} (hT : S.P.underlying T = some .bool) (h : boolEqA a b (eqOp op K))
    (hx : VRel ρ a x) (hy : VRel ρ b y) : Tells S ρ N K (binOp op T x y) := by
  have key : ∀ (p q : Bool) (c : Prop), (p = q ↔ c) → eqOp op K c → x = .bool p → y = .bool q → Tells S ρ N K (binOp op T x y) := by
    intro p q c hc h ex ey
    subst ex; subst ey
    have hr : ∀ w, (Op.equal T (.bool p) (.bool q)).run S.P w = .ok (p == q) w := by
      intro w
      show (Op.equalIn (9999 + 1) T _ _).run S.P w = _
      rw [Op.equalIn]
      simp [run_und hT]
    cases op with
    | eql => exact .mk (v := .prop c) h (r := .bool (p == q)) ⟨_, rfl, by simpa using hc⟩ trivial fun w => by simp [binOp, hr]
    | neq => exact .mk (v := .prop (¬ c)) h (r := .bool (!(p == q))) ⟨_, rfl, by simp [← hc]⟩ trivial fun w => by simp [binOp, hr]
    | _ => exact h.elim
  unfold boolEqA at h
  split at h
  · exact key true true _ (by simp) h hx hy
  · exact key true false _ (by simp) h hx hy
  · exact key false true _ (by simp) h hx hy
  · exact key false false _ (by simp) h hx hy
  · obtain ⟨q, e, hq⟩ := hy; exact key _ _ _ (by rw [← hq]; exact eq_comm) h hx e
  · obtain ⟨q, e, hq⟩ := hy; exact key _ _ _ (by rw [← hq]; cases q <;> simp) h hx e
  · obtain ⟨q, e, hq⟩ := hx; exact key _ _ _ (by rw [← hq]) h e hy
  · obtain ⟨q, e, hq⟩ := hx; exact key _ _ _ (by rw [← hq]; cases q <;> simp) h e hy
  · obtain ⟨q, e, hq⟩ := hx; obtain ⟨q', e', hq'⟩ := hy; exact key _ _ _ (by rw [← hq, ← hq']; cases q <;> cases q' <;> simp) h e e'
  · exact h.elim

theorem nilEq_sound {op : BinOp} {T e : TypeId} {a : AV} {x : Value} {n c : Nat} {K : AV → Prop} (hT : S.P.underlying T = some (.slice e)) (h : nilEqA a (eqOp op K))
    (hx : VRel ρ a x) : Tells S ρ N K (binOp op T x (.slice none n c)) := by
  have key : ∀ (b : Option Addr) (l c' : Nat), x = .slice b l c' → (∀ p : Prop, (p → b = none) → (b = none → p) → eqOp op K p) → Tells S ρ N K (binOp op T x (.slice none n c)) := by
    intro b l c' ex h
    subst ex
    have hr : ∀ w, (Op.equal T (.slice b l c') (.slice none n c)).run S.P w = .ok b.isNone w := by
      intro w
      show (Op.equalIn (9999 + 1) T _ _).run S.P w = _
      rw [Op.equalIn]
      cases b <;> simp [run_und hT]
    have h := h (b = none) id id
    cases op with
    | eql => exact .mk (v := .prop (b = none)) h (r := .bool b.isNone) ⟨_, rfl, by simp⟩ trivial fun w => by simp [binOp, hr]
    | neq => exact .mk (v := .prop (¬ b = none)) h (r := .bool !b.isNone) ⟨_, rfl, by cases b <;> simp⟩ trivial fun w => by simp [binOp, hr]
    | _ => exact h.elim
  unfold nilEqA at h
  split at h
  · rcases hx with ⟨_, e1, _, a, e2⟩ | ⟨k, z, cap, off, _, _, _, _, _, _, _, e2⟩
    · exact key _ _ _ e2 fun p _ _ => h p fun _ => e1
    · exact key _ _ _ e2 fun p hp _ => h p fun q => by simpa using hp q
  · obtain ⟨b, e2⟩ := hx
    exact key _ _ _ e2 fun p _ _ => h p
  · exact h.elim

theorem intsEq_out : ∀ {a b : List AV} {K : Prop → Prop}, intsEqA a b K → ∃ as bs : List (IntKind × Int), as.length = a.length ∧ as.length = bs.length ∧ as.map (·.1) = bs.map (·.1) ∧
    a = as.map (fun x => AV.int x.1 x.2) ∧ b = bs.map (fun x => AV.int x.1 x.2) ∧ ∃ c : Prop, K c ∧ (c ↔ as = bs)
  | a, b, K, h => by
    unfold intsEqA at h
    split at h
    · rename_i k x k' y
      split at h
      · rename_i e
        obtain rfl := ik_eq e
        exact ⟨[(k, x)], [(k, y)], rfl, rfl, rfl, rfl, rfl, _, h, ⟨fun e => by rw [e], fun e => by injection e with e _; injection e⟩⟩
      · exact h.elim
    · rename_i k x r k' y s _
      split at h
      · rename_i e
        obtain rfl := ik_eq e
        obtain ⟨as, bs, h1, h2, h3, rfl, rfl, c, hc, e⟩ := intsEq_out h
        exact ⟨(k, x) :: as, (k, y) :: bs, by simp, by simp [h2], by simp [h3], rfl, rfl, _, hc,
          ⟨fun q => by rw [q.1, e.1 q.2], fun q => by injection q with q1 q2; injection q1 with _ q3; exact ⟨q3, e.2 q2⟩⟩⟩
      · exact h.elim
    · exact h.elim

theorem ints_rel {l : List (IntKind × Int)} : ∀ {rs : List Value}, VRels ρ (l.map fun x => AV.int x.1 x.2) rs → rs = l.map fun x => Value.int x.1 x.2 := by
  induction l with
  | nil => intro rs h; exact h
  | cons x l ih =>
    intro rs h
    obtain ⟨r, rs, rfl, h1, h2⟩ := h
    simp only [VRel] at h1
    rw [h1, ih h2]; rfl

theorem flatEq_sound {op : BinOp} {T : TypeId} {n : Nat} {a b : List AV} {x y : Value} {K : AV → Prop} (hF : FlatOk S.P T n) (hn : a.length = n) (h : intsEqA a b (eqOp op K))
    (hx : VRel ρ (.agg a) x) (hy : VRel ρ (.agg b) y) : Tells S ρ N K (binOp op T x y) := by
  obtain ⟨as, bs, h1, h2, h3, rfl, rfl, c, hc, e⟩ := intsEq_out h
  obtain ⟨xs, rfl, hx⟩ := hx
  obtain ⟨ys, rfl, hy⟩ := hy
  rw [ints_rel hx, ints_rel hy]
  have hr := fun w => hF.2 as bs (by simpa using hn) (by rw [← h2]; simpa using hn) h3 w
  cases op with
  | eql => exact .mk (v := .prop c) hc (r := .bool (decide (as = bs))) ⟨_, rfl, by simp [e]⟩ trivial fun w => by simp [binOp, hr]
  | neq => exact .mk (v := .prop (¬ c)) hc (r := .bool (!decide (as = bs))) ⟨_, rfl, by simp [e]⟩ trivial fun w => by simp [binOp, hr]
  | _ => exact hc.elim
end
end Go.Vm
