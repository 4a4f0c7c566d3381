/- An abstract machine over the loaded code: one step at a time. -/
import Derived.Test.YtfjodggmmokaaaaGreatDAI
import Derived.OrdersHeld
import Derived.Laws.Externs
import Derived.Lib.Bytealg
set_option linter.unusedSimpArgs false
set_option linter.unusedVariables false
set_option linter.constructorNameAsVariable false
namespace Go.Vm
open Go.RowKit
structure Seal (p : Prop) : Prop where
  out : p
theorem seal_eq (p : Prop) : Seal p = p := propext ⟨Seal.out, Seal.mk⟩
section
variable {S : Seat} {σ : St} {kn : St → Prop} {ke : Nat → St → Prop} {kr : St → Prop} {env : List (Nat × AV)} {H : Heap} {n lo : Nat}
theorem wpA_skip (hS : SeatOk S) (h : kn σ) : Wp S .skip σ kn ke kr := .of_wpA hS h
theorem wpA_seq (hS : SeatOk S) {x y : Code} (h : Seal (Wp S x σ (fun σ => Seal (Wp S y σ kn ke kr)) ke kr)) : Wp S (.seq x y) σ kn ke kr := by
  simp only [seal_eq] at h; exact .of_wpA hS h
theorem wpA_cond (hS : SeatOk S) {c : Operand} {x y : Code} (h : match evA env c with
    | .tt => Seal (Wp S x ⟨env, H, n, lo⟩ kn ke kr)
    | .ff => Seal (Wp S y ⟨env, H, n, lo⟩ kn ke kr)
    | .prop p => match c with
      | .tmp t => (p → Seal (Wp S x ⟨(t, .tt) :: env, H, n, lo⟩ kn ke kr)) ∧ (¬p → Seal (Wp S y ⟨(t, .ff) :: env, H, n, lo⟩ kn ke kr))
      | _ => (p → Seal (Wp S x ⟨env, H, n, lo⟩ kn ke kr)) ∧ (¬p → Seal (Wp S y ⟨env, H, n, lo⟩ kn ke kr))
    | _ => False) : Wp S (.cond c x y) ⟨env, H, n, lo⟩ kn ke kr := by
  simp only [seal_eq] at h; exact .of_wpA hS h
theorem wpA_block (hS : SeatOk S) {id : Nat} {x : Code} (h : Seal (Wp S x σ kn (fun i σ => match Nat.beq i id with | true => kn σ | false => ke i σ) kr)) : Wp S (.block id x) σ kn ke kr := by
  simp only [seal_eq] at h; exact .of_wpA hS h
theorem wpA_exit (hS : SeatOk S) {id : Nat} (h : ke id σ) : Wp S (.exit id) σ kn ke kr := .of_wpA hS h
theorem wpA_ret (hS : SeatOk S) (h : kr σ) : Wp S .ret σ kn ke kr := .of_wpA hS h
theorem wpA_region (hS : SeatOk S) {id : Nat} {ops : Array Oper} {l : List Oper} (hl : ops.toList = l) (h : Seal (opsA S l n lo l env H kn)) : Wp S (.region id ops false) ⟨env, H, n, lo⟩ kn ke kr := by
  subst hl; exact .of_wpA hS h.out
theorem opsA_cons {all : List Oper} {o : Oper} {r : List Oper} {K : St → Prop} (h : wantA all o env
      (fun env => stepA S o.op (evA env) H fun v H' => putK o.dst n v env fun env => Seal (opsA S all n lo r env H' K))
      (fun env => putK o.dst n (.tup []) env fun env => Seal (opsA S all n lo r env H K))) : opsA S all n lo (o :: r) env H K := by
  simp only [seal_eq] at h; exact h
end
section
variable (S : Seat)
def bodyS (fn : Func) (args : List AV) (H : Heap) (K : AV → Heap → Prop) : Prop :=
  match fn.body with
  | none => False
  | some c => match Nat.ble args.length fn.ntmps with
    | false => False
    | true => argsK (argsEnv 0 args) fun env => natK fn.ntmps fun n => match H with
      | ⟨l, nx⟩ => Seal (Wp S c ⟨env, ⟨l, nx⟩, n, nx⟩ (fun | ⟨env, H, n, lo⟩ => resA S fn.results.toList ⟨env, H, n, lo⟩ fun v => Seal (K v H)) (fun _ _ => False) (fun | ⟨env, H, n, lo⟩ => resA S fn.results.toList ⟨env, H, n, lo⟩ fun v => Seal (K v H)))
end
variable {S : Seat}
theorem bodyS_out {fn : Func} {args : List AV} {H : Heap} {K : AV → Heap → Prop} (h : bodyS S fn args H K) : bodyA S fn args H K := by
  unfold bodyS at h
  simp only [seal_eq] at h
  exact h
theorem CallA.ofS (hS : SeatOk S) {f : Nat} {fn : Func} {args : List AV} {H : Heap} {K : AV → Heap → Prop} (hf : S.P.funcs[f]? = some fn) (h : bodyS S fn args H K) : CallA S f args H K :=
  .of_body hS hf (bodyS_out h)
theorem CallA.ofC (hS : SeatOk S) {γ : Type} (R : γ → Prop) (vc : γ → AV) (Hc : γ → Heap) {f : Nat} {fn : Func} {args : List AV} {H : Heap} (hf : S.P.funcs[f]? = some fn)
    (h : bodyS S fn args H fun v H' => ∃ g, R g ∧ FitsT S (outSt v H' H.next) (outSt (vc g) (Hc g) H.next)) : CallA S f args H fun v H' => ∃ g, R g ∧ v = vc g ∧ H' = Hc g :=
  .canon hS R vc Hc (.ofS hS hf h)
end Go.Vm

namespace Go.Vm
open Go.RowKit
section
variable {P : Program} {ops : Array Oper} {Q : Exit → Act → World → Prop} {md : Region.Mode} {ds : List Nat}
def reachB (md : Region.Mode) (ops : Array Oper) (i : Nat) : Nat → Nat → Bool
  | 0, _ => false
  | fuel + 1, d => match ops[d]? with
    | some o => o.after.any fun e => Region.binds md e && (e.on == i || reachB md ops i fuel e.on)
    | none => false
def closedB (md : Region.Mode) (ops : Array Oper) (listed : Array Bool) : Bool :=
  (List.range ops.size).all fun j => !listed.getD j false || match ops[j]? with
    | some o => o.after.all fun e => !Region.binds md e || listed.getD e.on false
    | none => true
def lastB (md : Region.Mode) (ops : Array Oper) (listed : Array Bool) (ds : List Nat) (i : Nat) : Bool :=
  ds.all fun d => listed.getD d true || reachB md ops i ops.size d
def ListedClosed (md : Region.Mode) (ops : Array Oper) (listed : Array Bool) : Prop :=
  ∀ j oj, ops[j]? = some oj → listed.getD j false = true → ∀ e ∈ oj.after, Region.binds md e = true → listed.getD e.on false = true
theorem closedB_spec {listed : Array Bool} (h : closedB md ops listed = true) : ListedClosed md ops listed := by
  intro j oj hj hl e he hb
  have hlt : j < ops.size := (Array.getElem?_eq_some_iff.1 hj).1
  have h1 := List.all_eq_true.1 h j (List.mem_range.2 hlt)
  simp only [hl, hj, Bool.not_true, Bool.false_or] at h1
  have h2 := Array.all_eq_true_iff_forall_mem.1 h1 e he
  simpa [hb] using h2
theorem ListedClosed.set {listed : Array Bool} {i : Nat} (h : ListedClosed md ops listed) (hi : i ∈ Region.ready md ops listed) : ListedClosed md ops (listed.setIfInBounds i true) := by
  obtain ⟨_, oi, hoi, hall⟩ := mem_ready.1 hi
  intro j oj hj hl e he hb
  by_cases hij : i = j
  · subst hij
    have : oj = oi := Option.some.inj (hj.symm.trans hoi)
    subst this
    exact getD_set_true (hall e he hb)
  · rw [getD_set_ne false hij] at hl
    exact getD_set_true (h j oj hj hl e he hb)
theorem reach_listed {listed : Array Bool} {i : Nat} (hc : ListedClosed md ops listed) : ∀ (fuel d : Nat), reachB md ops i fuel d = true → listed.getD d false = true → listed.getD i false = true
  | 0, _, h, _ => by simp [reachB] at h
  | fuel + 1, d, h, hl => by
    unfold reachB at h
    cases ho : ops[d]? with
    | none => rw [ho] at h; simp at h
    | some o =>
      rw [ho] at h
      obtain ⟨e, he, h1⟩ := Array.any_eq_true'.1 h
      simp only [Bool.and_eq_true, Bool.or_eq_true, beq_iff_eq] at h1
      have hle := hc d o ho hl e he h1.1
      rcases h1.2 with h2 | h2
      · rw [← h2]; exact hle
      · exact reach_listed hc fuel e.on h2 hle
theorem reach_not_ready {listed : Array Bool} {i d fuel : Nat} (hc : ListedClosed md ops listed) (hr : reachB md ops i fuel d = true) (hun : listed.getD i true = false) : d ∉ Region.ready md ops listed := by
  intro hd
  obtain ⟨_, o, ho, hall⟩ := mem_ready.1 hd
  have hi : listed.getD i false = true := by
    cases fuel with
    | zero => simp [reachB] at hr
    | succ n =>
      unfold reachB at hr
      rw [ho] at hr
      obtain ⟨e, he, h1⟩ := Array.any_eq_true'.1 hr
      simp only [Bool.and_eq_true, Bool.or_eq_true, beq_iff_eq] at h1
      have hle := hall e he h1.1
      rcases h1.2 with h2 | h2
      · rw [← h2]; exact hle
      · exact reach_listed hc n e.on h2 hle
  rcases Nat.lt_or_ge i listed.size with h' | h'
  · simp [h'] at hun hi
    rw [hun] at hi
    cases hi
  · simp [Array.getElem?_eq_none h'] at hun
end
end Go.Vm

namespace Go.Vm
open Go.RowKit
inductive Plan where
  | done
  | quick (i : Nat) (r : Plan)
  | read (i : Nat) (r : Plan)
  | all (c : Plan)
  | step (i : Nat) (r : Plan)
  | fork (a b : Plan)
section
variable (S : Seat)
def drawA (all : List Oper) (n lo : Nat) : Plan → List (Nat × AV) → Heap → (St → Prop) → Prop
  | .done, env, H, K => K ⟨env, H, n, lo⟩
  | .quick i r, env, H, K => match all[i]? with
    | none => False
    | some o => wantA all o env
      (fun env => match kindOf S o.op with
        | .pure => pureA S o.op (evA env) fun v => putK o.dst n v env fun env => drawA all n lo r env H K
        | _ => False)
      (fun env => putK o.dst n (.tup []) env fun env => drawA all n lo r env H K)
  | .read i r, env, H, K => match all[i]? with
    | none => False
    | some o => wantA all o env
      (fun env => stillOpA S o.op (evA env) H fun v => putK o.dst n v env fun env => drawA all n lo r env H K)
      (fun env => putK o.dst n (.tup []) env fun env => drawA all n lo r env H K)
  | .all c, env, H, K => drawA all n lo c env H K
  | .step i r, env, H, K => match all[i]? with
    | none => False
    | some o => wantA all o env
      (fun env => stepA S o.op (evA env) H fun v H' => putK o.dst n v env fun env => drawA all n lo r env H' K)
      (fun env => putK o.dst n (.tup []) env fun env => drawA all n lo r env H K)
  | .fork a b, env, H, K => drawA all n lo a env H K ∧ drawA all n lo b env H K
end
section
variable {S : Seat} {ρ0 : Lay} {H0 : Heap} {w0 : World} {σ : St} {ρ : Lay} {a : Act} {w : World} {kn kn' : St → Prop} {ke ke' : Nat → St → Prop} {kr kr' : St → Prop} {n lo : Nat} {H : Heap}
end
end Go.Vm

namespace Go.Vm
open Go.RowKit
section
variable {S : Seat} {kn : St → Prop} {ke : Nat → St → Prop} {kr : St → Prop} {env : List (Nat × AV)} {H : Heap} {n lo : Nat} {all : List Oper} {K : St → Prop}
end
end Go.Vm

namespace Go.Vm
open Go.RowKit
theorem CallA.liftC {S : Seat} (hS : SeatOk S) {γ : Type} {R : γ → Prop} {vc : γ → AV} {Hc : γ → Heap} {fn k : Nat} {args0 args : List AV} {l0 : List Ent} {H : Heap} {K : AV → Heap → Prop}
    (hc : CallA S fn args0 ⟨l0, k⟩ fun v H' => ∃ g, R g ∧ v = vc g ∧ H' = Hc g)
    (h : liftA S args0 l0 k args H fun m => ∀ g, R g → backA (lookR m) k l0 H (vc g) (Hc g) K) : CallA S fn args H K := by
  refine .lift hS hc ?_
  unfold liftA at h ⊢
  have e : (fun m => ∀ v H', (∃ g, R g ∧ v = vc g ∧ H' = Hc g) → backA (lookR m) k l0 H v H' K) = fun m => ∀ g, R g → backA (lookR m) k l0 H (vc g) (Hc g) K := by
    funext m
    refine propext ⟨fun h g hg => h _ _ ⟨g, hg, rfl, rfl⟩, fun h v H' hv => ?_⟩
    obtain ⟨g, hg, rfl, rfl⟩ := hv
    exact h g hg
  rw [e]
  exact h
end Go.Vm

namespace Go.Vm
open Go.RowKit
end Go.Vm

namespace Go.Vm
open Go.RowKit
noncomputable def pb (p : Prop) : Bool := @decide p (Classical.propDecidable p)
theorem pb_iff (p : Prop) : pb p = true ↔ p := by
  unfold pb; exact @decide_eq_true_iff p (Classical.propDecidable p)
theorem pb_bool (b : Bool) : pb (b = true) = b := by
  rw [Bool.eq_iff_iff, pb_iff]
noncomputable def boolParse : List AV → Option Bool
  | [.tt] => some true
  | [.ff] => some false
  | [.prop p] => some (pb p)
  | _ => none
noncomputable def boolPut (_ : Bool) (j : Nat) (vs : List AV) : Option Bool := match j with
  | 0 => boolParse vs
  | _ => none
noncomputable def boolE : Enc Bool := { m := 1, d := false, cells := fun b => [.prop (b = true)], put := boolPut, parse := boolParse }
theorem boolParse_ok {vs : List AV} {y : Bool} (h : boolParse vs = some y) {ρ : Loc} {rs : List Value} (hr : VRels ρ vs rs) : VRels ρ [.prop (y = true)] rs ∧ vs.length = 1 := by
  unfold boolParse at h
  split at h
  · simp at h; subst h
    obtain ⟨r, rfl, h1⟩ := VRels.one hr
    exact ⟨⟨_, [], rfl, ⟨true, h1, by simp⟩, rfl⟩, rfl⟩
  · simp at h; subst h
    obtain ⟨r, rfl, h1⟩ := VRels.one hr
    exact ⟨⟨_, [], rfl, ⟨false, h1, by simp⟩, rfl⟩, rfl⟩
  · rename_i p
    simp at h; subst h
    obtain ⟨r, rfl, b, h1, h2⟩ := VRels.one hr
    exact ⟨⟨_, [], rfl, ⟨b, h1, by rw [h2, pb_iff]⟩, rfl⟩, rfl⟩
  · simp at h
theorem boolE_ok {P : Program} {T : TypeId} (hm : (P.info? T).map (·.size) = some 1) (hz : ((P.info? T).bind (·.zero)).map (·.cells.toList) = some [.bool false]) : EncOk P T boolE where
  m := hm
  pos := by decide
  len := fun _ => rfl
  plain := fun _ _ => ⟨trivial, trivial⟩
  flat := fun _ => rfl
  put := fun x j vs y h => by
    simp only [boolE, boolPut] at h
    split at h
    · have hlen : vs.length = 1 := by
        unfold boolParse at h
        split at h <;> first | rfl | simp at h
      refine ⟨by simp [boolE, hlen], fun ρ rs l h1 h2 => ?_⟩
      obtain ⟨h3, _⟩ := boolParse_ok h h2
      obtain ⟨r, rfl, h1⟩ := VRels.one h1
      obtain ⟨r', rfl, h4⟩ := VRels.one h3
      exact ⟨r', [], rfl, h4, rfl⟩
    · simp at h
  parse := fun vs y h ρ rs hr => (boolParse_ok h hr).1
  zero := ⟨_, hz, fun _ => ⟨_, [], rfl, ⟨false, rfl, by simp [boolE]⟩, rfl⟩⟩
def pairParse : List AV → Option (Int × Int)
  | [.int .i64 a, .int .i64 b] => some (a, b)
  | _ => none
def pairPut (x : Int × Int) (j : Nat) (vs : List AV) : Option (Int × Int) := match j with
  | 0 => match vs with
    | [.int .i64 a, .int .i64 b] => some (a, b)
    | [.int .i64 a] => some (a, x.2)
    | _ => none
  | 1 => match vs with
    | [.int .i64 b] => some (x.1, b)
    | _ => none
  | _ => none
def pairE : Enc (Int × Int) := { m := 2, d := (0, 0), cells := fun x => [.int .i64 x.1, .int .i64 x.2], put := pairPut, parse := pairParse }
theorem VRels.two {ρ : Loc} {a b : AV} {rs : List Value} (h : VRels ρ [a, b] rs) : ∃ x y, rs = [x, y] ∧ VRel ρ a x ∧ VRel ρ b y := by
  obtain ⟨x, _, rfl, h1, y, _, rfl, h2, rfl⟩ := h
  exact ⟨x, y, rfl, h1, h2⟩
theorem pairE_ok {P : Program} {T : TypeId} (hm : (P.info? T).map (·.size) = some 2) (hz : ((P.info? T).bind (·.zero)).map (·.cells.toList) = some [.int .i64 0, .int .i64 0]) : EncOk P T pairE where
  m := hm
  pos := by decide
  len := fun _ => rfl
  plain := fun _ _ => ⟨trivial, trivial, trivial⟩
  flat := fun _ => rfl
  put := fun x j vs y h => by
    simp only [pairE, pairPut] at h
    split at h
    · split at h
      · simp at h; subst h
        refine ⟨by simp [pairE], fun ρ rs l h1 h2 => ?_⟩
        obtain ⟨u, v, rfl, _, _⟩ := VRels.two h1
        obtain ⟨u', v', rfl, h3, h4⟩ := VRels.two h2
        exact ⟨u', [v'], rfl, h3, v', [], rfl, h4, rfl⟩
      · simp at h; subst h
        refine ⟨by simp [pairE], fun ρ rs l h1 h2 => ?_⟩
        obtain ⟨u, v, rfl, _, h5⟩ := VRels.two h1
        obtain ⟨u', rfl, h3⟩ := VRels.one h2
        exact ⟨u', [v], rfl, h3, v, [], rfl, h5, rfl⟩
      · simp at h
    · split at h
      · simp at h; subst h
        refine ⟨by simp [pairE], fun ρ rs l h1 h2 => ?_⟩
        obtain ⟨u, v, rfl, h5, _⟩ := VRels.two h1
        obtain ⟨u', rfl, h3⟩ := VRels.one h2
        exact ⟨u, [u'], rfl, h5, u', [], rfl, h3, rfl⟩
      · simp at h
    · simp at h
  parse := fun vs y h => by
    simp only [pairE, pairParse] at h
    split at h
    · simp at h; subst h
      exact fun _ _ h => h
    · simp at h
  zero := ⟨_, hz, fun _ => ⟨_, _, rfl, rfl, _, [], rfl, rfl, rfl⟩⟩
end Go.Vm

namespace Go.Vm
open Go.RowKit
abbrev Keeps (Fz : Foot) (w w' : World) : Prop := Kept Fz w w'
theorem Keeps.refl (Fz : Foot) (w : World) : Keeps Fz w w := Kept.refl Fz w
theorem Keeps.trans {Fz : Foot} {w w' w'' : World} (h : Keeps Fz w w') (h' : Keeps Fz w' w'') : Keeps Fz w w'' := Kept.trans h h' fun _ _ _ q => q
section
variable {P : Program} {ops : Array Oper} {Q : Exit → Act → World → Prop} {md : Region.Mode} {ds : List Nat} {Fz : Foot}
def wpAnyS (Fz : Foot) (P : Program) (md : Region.Mode) (ops : Array Oper) (Q : Exit → Act → World → Prop) (ds : List Nat) : Nat → Array Bool → Act → World → Prop
  | 0, listed, a, w => Region.ready md ops listed = [] ∧ Q .normal a w
  | fuel + 1, listed, a, w =>
    (Region.ready md ops listed = [] → Q .normal a w) ∧
    ∀ i ∈ Region.ready md ops listed, wpOp P ops Q i (fun a' w' => (i ∉ ds → w' = w) ∧ Keeps Fz w w' ∧ wpAnyS Fz P md ops Q ds fuel (listed.setIfInBounds i true) a' w') a w
theorem wpAny_of_S : ∀ (fuel : Nat) (listed : Array Bool) (a : Act) (w : World), wpAnyS Fz P md ops Q ds fuel listed a w → wpAny P md ops Q fuel listed a w
  | 0, _, _, _, h => h
  | fuel + 1, _, _, _, h => ⟨h.1, fun i hi => wpOp_mono (fun a' w' h' => wpAny_of_S fuel _ a' w' h'.2.2) (h.2 i hi)⟩
theorem wpAnyS_first {i : Nat} {oi : Oper} {v : Value} {T : World → Prop} (hi : ops[i]? = some oi) (hsel : ∀ (j : Nat) (o : Oper) cs b, ops[j]? = some o → o.op ≠ .select cs b)
    (hQ : ∀ c a w, Q (.panic c) (a.put oi.dst v) w → Q (.panic c) a w) (n : Nat) :
    ∀ (fuel : Nat) (listed : Array Bool) (a : Act) (w : World),
      (∀ j oj, ops[j]? = some oj → j ≠ i → listed.getD j true = false → (∀ e ∈ oj.after, Region.binds md e = true → e.on ≠ i) → oi.apart ops oj = true) →
      ListedClosed md ops listed → ((∀ w w', Keeps Fz w w' → T w → T w') ∨ ∀ d ∈ ds, listed.getD d true = false → reachB md ops i n d = true) →
      i ∈ Region.ready md ops listed → YieldsIf P ops T oi v a → T w →
      wpAnyS Fz P md ops Q ds fuel (listed.setIfInBounds i true) (a.put oi.dst v) w → wpAnyS Fz P md ops Q ds (fuel + 1) listed a w := by
  intro fuel
  induction fuel with
  | zero =>
    intro listed a w _ _ _ hr hy hS H
    refine ⟨fun h => (by rw [h] at hr; cases hr), fun j hj => ?_⟩
    by_cases hji : j = i
    · subst hji; exact hy.wpOp hi hS ⟨fun _ => rfl, .refl _ _, H⟩
    · have := ready_mono hj hji
      rw [H.1] at this
      cases this
  | succ fuel ih =>
    intro listed a w hfree hc hd hr hy hS H
    refine ⟨fun h => (by rw [h] at hr; cases hr), fun j hj => ?_⟩
    by_cases hji : j = i
    · subst hji; exact hy.wpOp hi hS ⟨fun _ => rfl, .refl _ _, H⟩
    · have h1 := H.2 j (ready_mono hj hji)
      obtain ⟨hjun, oj, hoj, hall⟩ := mem_ready.1 hj
      have hiun := (mem_ready.1 hr).1
      have hnot : ∀ e ∈ oj.after, Region.binds md e = true → e.on ≠ i := fun e he hb heq => by
        have h1 := hall e he hb
        rw [heq] at h1
        rcases Nat.lt_or_ge i listed.size with h' | h'
        · simp [h'] at hiun h1; rw [hiun] at h1; cases h1
        · simp [Array.getElem?_eq_none h'] at h1
      have hjd : (∀ w w', Keeps Fz w w' → T w → T w') ∨ j ∉ ds := hd.imp id fun hd hm => reach_not_ready hc (hd j hm hjun) hiun hj
      have h2 := wpOp_putIf hoj (hfree j oj hoj hji hjun hnot) (fun cs b => hsel i oi cs b hi) (fun cs b => hsel j oj cs b hoj) hQ hy h1
      have hfree' : ∀ k ok, ops[k]? = some ok → k ≠ i → (listed.setIfInBounds j true).getD k true = false →
          (∀ e ∈ ok.after, Region.binds md e = true → e.on ≠ i) → oi.apart ops ok = true := fun k ok hk hki hun hno => by
        refine hfree k ok hk hki ?_ hno
        by_cases hjk : j = k
        · subst hjk; exact hjun
        · rw [getD_set_ne true hjk] at hun; exact hun
      have hd' : (∀ w w', Keeps Fz w w' → T w → T w') ∨ ∀ d ∈ ds, (listed.setIfInBounds j true).getD d true = false → reachB md ops i n d = true := hd.imp id fun hd d hm hun => by
        refine hd d hm ?_
        by_cases hjk : j = d
        · subst hjk; exact hjun
        · rw [getD_set_ne true hjk] at hun; exact hun
      refine wpOp_mono (fun a' w' h3 => ⟨h3.2.1, h3.2.2.1, ih (listed.setIfInBounds j true) a' w' hfree' (hc.set hj) hd' (ready_mono hr (Ne.symm hji)) h3.1 (hjd.elim (fun q => q w w' h3.2.2.1 hS) fun q => by rw [h3.2.1 q]; exact hS) ?_⟩) h2
      rw [Array.setIfInBounds_comm _ _ hji]
      exact h3.2.2.2
end
section
variable {S : Seat} {ρ ρS : Lay} {H HS : Heap} {w wS : World}
def roE : List Ent → List Ent
  | [] => []
  | e :: r => match e.rw with
    | true => roE r
    | false => e :: roE r
theorem roE_sub : ∀ (l : List Ent), (roE l).Sublist l
  | [] => .refl _
  | e :: r => by
    unfold roE
    cases e.rw
    · exact (roE_sub r).cons_cons _
    · exact (roE_sub r).cons _
theorem roE_rw {e : Ent} : ∀ {l : List Ent}, e ∈ roE l → e.rw = false
  | [], h => by simp [roE] at h
  | a :: r, h => by
    unfold roE at h
    cases ha : a.rw with
    | true => rw [ha] at h; exact roE_rw h
    | false =>
      rw [ha] at h
      rcases List.mem_cons.1 h with rfl | h
      · exact ha
      · exact roE_rw h
def stableA (S : Seat) (o : Op) (ev : Operand → AV) (HS : Heap) (K : AV → Prop) : Prop :=
  match o with
  | .load T a => match ev a with
    | .ptr b m i j => b.isKey ∧ atA (roE HS.ents) b fun q c => elemA q b m i c fun l => partA S T l j K
    | _ => False
  | _ => False
def FzOf (ρS : Lay) (HS : Heap) (wS : World) : Foot := fun k c => k < wS.heap.size ∧ ¬ RwF ρS HS k c
theorem load_stable {N : Nat} {T : TypeId} {l : List AV} {rs : List Value} {j : Nat} {K : AV → Prop} {a : Addr} {W : World → Prop} (h : partA S T l j K) (hr : VRels ρ l rs) (hl : AV.lts N l)
    (hc : ∀ w, W w → ∀ j r, rs[j]? = some r → w.cell? ⟨a.block, a.off + j, none⟩ = some r) :
    ∃ r, Got ρ N K r ∧ ∀ w, W w → (loadVar T ⟨a.block, a.off + j, none⟩).run S.P w = .ok r w := by
  rcases part_rel h hr hl with ⟨ha', hp, hlen, hg⟩ | ⟨ha', r, hr', hg⟩
  · refine ⟨_, hg, fun w hw => ?_⟩
    simp only [loadVar, Sem.run_bind, isAgg_run ha', Result.andThen_ok, if_true, run_size hp]
    have hll : ((rs.drop j).take (szA S T)).length = szA S T := by simp; omega
    have := run_loadCells_list (P := S.P) w ⟨a.block, a.off + j, none⟩ ((rs.drop j).take (szA S T)) (fun i v hv => by
      rw [List.getElem?_take] at hv
      split at hv
      · rw [List.getElem?_drop] at hv
        have := hc w hw _ _ hv
        simp only [Addr.add]
        split
        · rename_i h0; subst h0; simpa using this
        · simpa [Nat.add_assoc] using this
      · simp at hv)
    rw [hll] at this
    simp [this]
  · refine ⟨_, hg, fun w hw => ?_⟩
    simp only [loadVar, Sem.run_bind, isAgg_run ha', Result.andThen_ok, Bool.false_eq_true, if_false, run_load, hc w hw _ _ hr']
theorem keys_ne {e e2 : Ent} : ∀ {l : List Ent}, l.Pairwise (fun e e' => e.b ≠ e'.b) → e ∈ l → e2 ∈ l → e ≠ e2 → e.b ≠ e2.b
  | [], _, h, _, _ => by cases h
  | a :: r, h, h1, h2, hne => by
    rw [List.pairwise_cons] at h
    rcases List.mem_cons.1 h1 with p1 | p1 <;> rcases List.mem_cons.1 h2 with p2 | p2
    · exact absurd (p1.trans p2.symm) hne
    · exact p1 ▸ h.1 _ p2
    · exact p2 ▸ fun q => h.1 _ p1 q.symm
    · exact keys_ne h.2 p1 p2 hne
theorem stable_sound {o : Oper} {ev : Operand → AV} {evr : Operand → Value} {K : AV → Prop} {N : Nat} (hH : HRel S ρS HS wS) (hag : Agree HS.next ρS ρ) (hN : HS.next ≤ N) (hev : ∀ x, VRel ρ (ev x) (evr x))
    (h : stableA S o.op ev HS K) : ∃ r, Got ρ N K r ∧ ∀ w', Keeps (FzOf ρS HS wS) wS w' → (execOp evr o).run S.P w' = .ok (.value r) w' := by
  obtain ⟨dst, op, ty, pos, after, g⟩ := o
  cases op with
  | load T a =>
    simp only [stableA] at h
    have hx := hev a
    split at h
    · rename_i b m i j e
      rw [e] at hx
      obtain ⟨k, z, h1, h2, er⟩ := hx
      obtain ⟨hkey, h⟩ := h
      obtain ⟨q, c, F, e', hc, he, hh, hok, hblt, hF, hq, hkb, _⟩ := at_sound (hH.sub (roE_sub _)) h
      have hmem := (roE_sub _).subset he
      have hb : ρS b = some (k, z) := by rw [← hag b hblt]; exact h1
      obtain ⟨l, rs, hl, hr, hlt, hcell⟩ := elem_sound hh hok hblt hb h2 hc
      have hfz : ∀ x, inZ z x → FzOf ρS HS wS k x := by
        intro x hx
        have hfoot : ρS.foot e'.b k x := hF k x (hh.reg.2 k x ⟨z, hb, hx⟩)
        refine ⟨hH.low e' hmem k x hfoot, ?_⟩
        rintro ⟨e2, he2, hrw2, hf2⟩
        have hne : e' ≠ e2 := fun q => by have := roE_rw he; rw [q, hrw2] at this; cases this
        exact hH.sep e' hmem e2 he2 (.inr hrw2) (keys_ne hH.keys hmem he2 hne) k x hfoot hf2
      obtain ⟨r, hg, hrun⟩ := load_stable (a := ⟨k, z.1 + (i.getD 0).toNat * m, none⟩) (W := fun w' => Keeps (FzOf ρS HS wS) wS w') hl (hr.agree hag hlt) (AV.lts.mono hN hlt) (fun w' hw j r hj => by
        obtain ⟨h3, h5⟩ := hcell j r hj
        have h6 : ∃ arr T fz, wS.heap[k]? = some (.cells arr T fz) ∧ arr[z.1 + ((i.getD 0).toNat * m + j)]? = some r := by
          simp only [World.cell?] at h3
          split at h3
          · rename_i e3; exact ⟨_, _, _, e3, by simpa using h3⟩
          · simp at h3
        obtain ⟨arr, T', fz, h6, h7⟩ := h6
        obtain ⟨arr', fz', g1, g2, g3, g4⟩ := hw.cells k arr T' fz h6
        have h8 := g4 _ (hfz _ h5)
        rw [h7] at h8
        simp only [World.cell?, g1]
        rw [Nat.add_assoc]
        simpa using h8)
      exact ⟨r, hg, fun w' hw => by simp only [execOp, Instr.loadAt, Instr.sureAddr, er, Sem.run_bind, Sem.run_pure, Result.andThen_ok, ← Nat.add_assoc, hrun w' hw]⟩
    · exact h.elim
  | _ => exact h.elim
end
inductive PlanS where
  | done
  | stable (i : Nat) (r : PlanS)
  | quick (i : Nat) (r : PlanS)
  | read (i : Nat) (r : PlanS)
  | all (c : PlanS)
  | step (i : Nat) (r : PlanS)
  | fork (a b : PlanS)
def PlanS.heads : PlanS → List Nat
  | .step i _ => [i]
  | .fork a b => a.heads ++ b.heads
  | _ => []
def PlanS.top : PlanS → Bool
  | .step _ _ => false
  | .fork _ _ => false
  | _ => true
def planSB (ops : Array Oper) (ds : List Nat) : PlanS → Nat → Array Bool → Bool
  | .done, _, listed => (Region.ready .any ops listed).isEmpty
  | .quick i r, fuel, listed => match fuel with
    | 0 => false
    | f + 1 => Region.free .any ops listed i && (Region.ready .any ops listed).contains i && closedB .any ops listed && r.top && planSB ops ds r f (listed.setIfInBounds i true)
  | .stable i r, fuel, listed => match fuel with
    | 0 => false
    | f + 1 => Region.free .any ops listed i && (Region.ready .any ops listed).contains i && closedB .any ops listed && r.top && planSB ops ds r f (listed.setIfInBounds i true)
  | .read i r, fuel, listed => match fuel with
    | 0 => false
    | f + 1 => Region.free .any ops listed i && (Region.ready .any ops listed).contains i && closedB .any ops listed && lastB .any ops listed ds i && r.top && planSB ops ds r f (listed.setIfInBounds i true)
  | .all c, fuel, listed => match fuel with
    | 0 => false
    | f + 1 => !c.top && !(Region.ready .any ops listed).isEmpty && ((Region.ready .any ops listed).all fun i => c.heads.contains i) && planSB ops ds c f listed
  | .step i r, f, listed => ds.contains i && r.top && planSB ops ds r f (listed.setIfInBounds i true)
  | .fork a b, f, listed => !a.top && !b.top && planSB ops ds a f listed && planSB ops ds b f listed
section
variable (S : Seat)
def drawS (HS : Heap) (all : List Oper) (n lo : Nat) : PlanS → List (Nat × AV) → Heap → (St → Prop) → Prop
  | .done, env, H, K => K ⟨env, H, n, lo⟩
  | .quick i r, env, H, K => match all[i]? with
    | none => False
    | some o => wantA all o env
      (fun env => match kindOf S o.op with
        | .pure => pureA S o.op (evA env) fun v => putK o.dst n v env fun env => drawS HS all n lo r env H K
        | _ => False)
      (fun env => putK o.dst n (.tup []) env fun env => drawS HS all n lo r env H K)
  | .stable i r, env, H, K => match all[i]? with
    | none => False
    | some o => wantA all o env
      (fun env => stableA S o.op (evA env) HS fun v => putK o.dst n v env fun env => drawS HS all n lo r env H K)
      (fun env => putK o.dst n (.tup []) env fun env => drawS HS all n lo r env H K)
  | .read i r, env, H, K => match all[i]? with
    | none => False
    | some o => wantA all o env
      (fun env => stillOpA S o.op (evA env) H fun v => putK o.dst n v env fun env => drawS HS all n lo r env H K)
      (fun env => putK o.dst n (.tup []) env fun env => drawS HS all n lo r env H K)
  | .all c, env, H, K => drawS HS all n lo c env H K
  | .step i r, env, H, K => match all[i]? with
    | none => False
    | some o => wantA all o env
      (fun env => stepA S o.op (evA env) H fun v H' => putK o.dst n v env fun env => drawS HS all n lo r env H' K)
      (fun env => putK o.dst n (.tup []) env fun env => drawS HS all n lo r env H K)
  | .fork a b, env, H, K => drawS HS all n lo a env H K ∧ drawS HS all n lo b env H K
end
section
variable {S : Seat} {ρ0 : Lay} {H0 : Heap} {w0 : World} {σ : St} {ρ : Lay} {a : Act} {w : World} {kn kn' : St → Prop} {ke ke' : Nat → St → Prop} {kr kr' : St → Prop} {n lo : Nat} {H HS : Heap} {ρS : Lay} {wS : World}
theorem keeps_of {ρS : Lay} {HS : Heap} {wS : World} {ρ' : Lay} {H' : Heap} {w' : World} (ht : After S ρS HS wS ρ H w) (ha : After S ρ H w ρ' H' w') : Keeps (FzOf ρS HS wS) w w' :=
  ha.frame.mono fun k c ⟨h1, h2⟩ q => by
    rcases ht.own k c q with q | q
    · omega
    · exact h2 q
theorem keeps_start {ρS : Lay} {HS : Heap} {wS : World} (ht : After S ρS HS wS ρ H w) : Keeps (FzOf ρS HS wS) wS w := ht.frame.mono fun k c q => q.2
def PicksS (Fz : Foot) (P : Program) (ops : Array Oper) (Q : Exit → Act → World → Prop) (ds : List Nat) (f : Nat) (listed : Array Bool) (a : Act) (w : World) (i : Nat) : Prop :=
  wpOp P ops Q i (fun a' w' => (i ∉ ds → w' = w) ∧ Keeps Fz w w' ∧ wpAnyS Fz P .any ops Q ds f (listed.setIfInBounds i true) a' w') a w
theorem drawS_sound (hS : SeatOk S) (hSt : HRel S ρS HS wS) {ops : Array Oper} {ds : List Nat} (hs : Region.noSelect ops = true) :
    ∀ (p : PlanS) (f : Nat) (listed : Array Bool) {env : List (Nat × AV)} {H : Heap} {ρ : Lay} {a : Act} {w : World}, planSB ops ds p f listed = true → drawS S HS ops.toList n lo p env H kn → Inv S ρ0 H0 w0 ⟨env, H, n, lo⟩ ρ a w → After S ρS HS wS ρ H w →
      (p.top = true → wpAnyS (FzOf ρS HS wS) S.P .any ops (QA S ρ0 H0 w0 kn ke kr) ds f listed a w) ∧ (p.top = false → ∀ i ∈ p.heads, PicksS (FzOf ρS HS wS) S.P ops (QA S ρ0 H0 w0 kn ke kr) ds f listed a w i)
  | .done, f, listed, env, H, ρ, a, w, hB, h, hi, ht => by
    refine ⟨fun _ => ?_, fun q => by simp [PlanS.top] at q⟩
    have hr : Region.ready .any ops listed = [] := by simpa [planSB] using hB
    have hq : QA S ρ0 H0 w0 kn ke kr .normal a w := ⟨_, ρ, h, hi⟩
    cases f with
    | zero => exact ⟨hr, hq⟩
    | succ f => exact ⟨fun _ => hq, by rw [hr]; simp⟩
  | .quick i r, f, listed, env, H, ρ, a, w, hB, h, hi, ht => by
    refine ⟨fun _ => ?_, fun q => by simp [PlanS.top] at q⟩
    cases f with
    | zero => simp [planSB] at hB
    | succ f =>
      simp only [planSB, Bool.and_eq_true] at hB
      obtain ⟨⟨⟨⟨h1, h2⟩, h3⟩, htop⟩, h4⟩ := hB
      simp only [drawS] at h
      split at h
      · exact h.elim
      · rename_i o ho
        have ho' : ops[i]? = some o := by simpa using ho
        obtain ⟨env1, hi1, hh⟩ := want_sound h hi
        have go : ∀ {v : AV} {x : Value}, YieldsIf S.P ops (fun _ => True) o x a → (putK o.dst n v env1 fun env => drawS S HS ops.toList n lo r env H kn) → VRel ρ v x → v.lt H.next →
            wpAnyS (FzOf ρS HS wS) S.P .any ops (QA S ρ0 H0 w0 kn ke kr) ds (f + 1) listed a w := by
          intro v x hy hK hv hl
          obtain ⟨env2, hK2, g1, g2, g3⟩ := put_env hK hi1.size hi1.env (.refl _ _) (Nat.le_refl _) hv hl
          exact wpAnyS_first (T := fun _ => True) ho' (Region.noSelect_spec hs) (fun c a w h => h.elim) 0 f listed a w (Region.free_spec ho' h1) (closedB_spec h3) (.inl fun _ _ _ _ => trivial) (by simpa using h2) hy trivial
            ((drawS_sound hS hSt hs r f (listed.setIfInBounds i true) h4 hK2 (ρ := ρ) (a := a.put o.dst x) (w := w) ⟨g1, g2, g3.trans hi1.defers, hi1.lo, hi1.after⟩ ht).1 htop)
        rcases hh with ⟨hw, h5⟩ | ⟨hw, h5⟩
        · split at h5
          · obtain ⟨x, ⟨v, hK, hv, hl⟩, hr⟩ := pure_sound hS (fun x => (hi1.ev x).1) (fun _ => rfl) (fun x => (hi1.ev x).2) h5
            exact go (.inl ⟨hw, fun w _ => hr w⟩) hK hv hl
          · exact h5.elim
        · exact go (v := .tup []) (x := undef) (.inr ⟨hw, rfl⟩) h5 ⟨[], rfl, rfl⟩ trivial
  | .stable i r, f, listed, env, H, ρ, a, w, hB, h, hi, ht => by
    refine ⟨fun _ => ?_, fun q => by simp [PlanS.top] at q⟩
    cases f with
    | zero => simp [planSB] at hB
    | succ f =>
      simp only [planSB, Bool.and_eq_true] at hB
      obtain ⟨⟨⟨⟨h1, h2⟩, h3⟩, htop⟩, h4⟩ := hB
      simp only [drawS] at h
      split at h
      · exact h.elim
      · rename_i o ho
        have ho' : ops[i]? = some o := by simpa using ho
        obtain ⟨env1, hi1, hh⟩ := want_sound h hi
        have go : ∀ {v : AV} {x : Value}, YieldsIf S.P ops (fun w' => Keeps (FzOf ρS HS wS) wS w') o x a → (putK o.dst n v env1 fun env => drawS S HS ops.toList n lo r env H kn) → VRel ρ v x → v.lt H.next →
            wpAnyS (FzOf ρS HS wS) S.P .any ops (QA S ρ0 H0 w0 kn ke kr) ds (f + 1) listed a w := by
          intro v x hy hK hv hl
          obtain ⟨env2, hK2, g1, g2, g3⟩ := put_env hK hi1.size hi1.env (.refl _ _) (Nat.le_refl _) hv hl
          exact wpAnyS_first (T := fun w' => Keeps (FzOf ρS HS wS) wS w') ho' (Region.noSelect_spec hs) (fun c a w h => h.elim) 0 f listed a w (Region.free_spec ho' h1) (closedB_spec h3) (.inl fun _ _ k t => t.trans k) (by simpa using h2) hy (keeps_start ht)
            ((drawS_sound hS hSt hs r f (listed.setIfInBounds i true) h4 hK2 (ρ := ρ) (a := a.put o.dst x) (w := w) ⟨g1, g2, g3.trans hi1.defers, hi1.lo, hi1.after⟩ ht).1 htop)
        rcases hh with ⟨hw, h5⟩ | ⟨hw, h5⟩
        · obtain ⟨x, ⟨v, hK, hv, hl⟩, hr⟩ := stable_sound hSt ht.agree ht.next (fun x => (hi1.ev x).1) h5
          exact go (.inl ⟨hw, hr⟩) hK hv hl
        · exact go (v := .tup []) (x := undef) (.inr ⟨hw, rfl⟩) h5 ⟨[], rfl, rfl⟩ trivial
  | .read i r, f, listed, env, H, ρ, a, w, hB, h, hi, ht => by
    refine ⟨fun _ => ?_, fun q => by simp [PlanS.top] at q⟩
    cases f with
    | zero => simp [planSB] at hB
    | succ f =>
      simp only [planSB, Bool.and_eq_true] at hB
      obtain ⟨⟨⟨⟨⟨h1, h2⟩, h3⟩, h6⟩, htop⟩, h4⟩ := hB
      simp only [drawS] at h
      split at h
      · exact h.elim
      · rename_i o ho
        have ho' : ops[i]? = some o := by simpa using ho
        obtain ⟨env1, hi1, hh⟩ := want_sound h hi
        have hlast : ∀ d ∈ ds, listed.getD d true = false → reachB .any ops i ops.size d = true := fun d hm hun => by
          have := List.all_eq_true.1 h6 d hm
          rw [hun] at this; simpa using this
        have go : ∀ {v : AV} {x : Value}, YieldsIf S.P ops (fun w' => w' = w) o x a → (putK o.dst n v env1 fun env => drawS S HS ops.toList n lo r env H kn) → VRel ρ v x → v.lt H.next →
            wpAnyS (FzOf ρS HS wS) S.P .any ops (QA S ρ0 H0 w0 kn ke kr) ds (f + 1) listed a w := by
          intro v x hy hK hv hl
          obtain ⟨env2, hK2, g1, g2, g3⟩ := put_env hK hi1.size hi1.env (.refl _ _) (Nat.le_refl _) hv hl
          exact wpAnyS_first (T := fun w' => w' = w) ho' (Region.noSelect_spec hs) (fun c a w h => h.elim) ops.size f listed a w (Region.free_spec ho' h1) (closedB_spec h3) (.inr hlast) (by simpa using h2) hy rfl
            ((drawS_sound hS hSt hs r f (listed.setIfInBounds i true) h4 hK2 (ρ := ρ) (a := a.put o.dst x) (w := w) ⟨g1, g2, g3.trans hi1.defers, hi1.lo, hi1.after⟩ ht).1 htop)
        rcases hh with ⟨hw, h5⟩ | ⟨hw, h5⟩
        · obtain ⟨x, v, hK, hv, hl, hr⟩ := stillOp_sound hS h5 hi1
          exact go (.inl ⟨hw, fun w' e => by rw [e]; exact hr⟩) hK hv hl
        · exact go (v := .tup []) (x := undef) (.inr ⟨hw, rfl⟩) h5 ⟨[], rfl, rfl⟩ trivial
  | .all c, f, listed, env, H, ρ, a, w, hB, h, hi, ht => by
    refine ⟨fun _ => ?_, fun q => by simp [PlanS.top] at q⟩
    cases f with
    | zero => simp [planSB] at hB
    | succ f =>
      simp only [planSB, Bool.and_eq_true] at hB
      obtain ⟨⟨⟨h1, h2⟩, h3⟩, h4⟩ := hB
      have hh := (drawS_sound hS hSt hs c f listed h4 h hi ht).2 (by simpa using h1)
      refine ⟨fun hr => ?_, fun i hm => ?_⟩
      · rw [hr] at h2; simp at h2
      · exact hh i (by have := List.all_eq_true.1 h3 i hm; simpa using this)
  | .step i r, f, listed, env, H, ρ, a, w, hB, h, hi, ht => by
    refine ⟨fun q => by simp [PlanS.top] at q, fun _ j hj => ?_⟩
    have hj : j = i := by simpa [PlanS.heads] using hj
    subst hj
    simp only [planSB, Bool.and_eq_true] at hB
    obtain ⟨⟨h1, htop⟩, h2⟩ := hB
    have h1 : j ∈ ds := by simpa using h1
    simp only [drawS] at h
    split at h
    · exact h.elim
    · rename_i o ho
      have ho' : ops[j]? = some o := by simpa using ho
      obtain ⟨env1, hi1, hh⟩ := want_sound h hi
      unfold PicksS wpOp
      simp only [ho']
      rcases hh with ⟨hw, h5⟩ | ⟨hw, h5⟩
      · rw [if_pos hw]
        refine .inl (step_sound hS hi1.after.heap (fun x => (hi1.ev x).1) (fun x => (hi1.ev x).2) h5 _ _ fun v r' H' ρ' w' hK hv hl ha => ⟨fun q => absurd h1 q, keeps_of ht ha, ?_⟩)
        obtain ⟨env2, hK2, g1, g2, g3⟩ := put_env hK hi1.size hi1.env ha.agree ha.next hv hl
        exact (drawS_sound hS hSt hs r f (listed.setIfInBounds j true) h2 hK2 ⟨g1, g2, g3.trans hi1.defers, hi1.lo, hi1.after.trans ha⟩ (ht.trans ha)).1 htop
      · rw [if_neg (by rw [hw]; simp)]
        obtain ⟨env2, hK2, g1, g2, g3⟩ := put_env (v := .tup []) (r := undef) h5 hi1.size hi1.env (.refl _ _) (Nat.le_refl _) ⟨[], rfl, rfl⟩ trivial
        exact ⟨fun q => absurd h1 q, .refl _ _, (drawS_sound hS hSt hs r f (listed.setIfInBounds j true) h2 hK2 ⟨g1, g2, g3.trans hi1.defers, hi1.lo, hi1.after⟩ ht).1 htop⟩
  | .fork x y, f, listed, env, H, ρ, a, w, hB, h, hi, ht => by
    refine ⟨fun q => by simp [PlanS.top] at q, fun _ j hj => ?_⟩
    simp only [planSB, Bool.and_eq_true] at hB
    obtain ⟨⟨⟨h1, h2⟩, h3⟩, h4⟩ := hB
    simp only [drawS] at h
    rcases List.mem_append.1 hj with q | q
    · exact (drawS_sound hS hSt hs x f listed h3 h.1 hi ht).2 (by simpa using h1) j q
    · exact (drawS_sound hS hSt hs y f listed h4 h.2 hi ht).2 (by simpa using h2) j q
end
section
variable {S : Seat} {kn : St → Prop} {ke : Nat → St → Prop} {kr : St → Prop} {env : List (Nat × AV)} {H HS : Heap} {n lo : Nat} {all : List Oper} {K : St → Prop}
theorem Wp.drawS (hS : SeatOk S) {id : Nat} {ops : Array Oper} {l : List Oper} (p : PlanS) (ds : List Nat) (hB : (Region.noSelect ops && p.top && planSB ops ds p ops.size (Array.replicate ops.size false)) = true)
    (hl : ops.toList = l) (h : Seal (drawS S H l n lo p env H kn)) : Wp S (.region id ops true) ⟨env, H, n, lo⟩ kn ke kr := by
  subst hl
  simp only [Bool.and_eq_true] at hB
  obtain ⟨⟨h1, h2⟩, h3⟩ := hB
  unfold Wp
  intro ρ0 H0 w0 ρ a w hi
  refine wp_region_any hS.mixed (wpAny_of_S (Fz := FzOf ρ H w) (ds := ds) _ _ _ _ ?_)
  have hd := hi.drew (w.drawn + 1)
  exact (drawS_sound hS hd.after.heap h1 p ops.size _ h3 h.out hd (.refl hd.after.heap)).1 h2
end
end Go.Vm

namespace Go.Vm
open Go.RowKit
section
variable {S : Seat} {ρ : Lay} {H : Heap} {w : World} {N : Nat}
end
end Go.Vm

namespace Go.Vm
open Go.RowKit
section
variable {S : Seat} {ρ : Lay} {H : Heap} {w : World} {N : Nat}
end
end Go.Vm

namespace Go.Vm
open Go.RowKit
section
variable (S : Seat)
def StepC : Code → St → (St → Prop) → (Nat → St → Prop) → (St → Prop) → Prop
  | .skip, σ, kn, _, _ => Seal (kn σ)
  | .seq x y, σ, kn, ke, kr => Seal (Wp S x σ (fun σ => Seal (Wp S y σ kn ke kr)) ke kr)
  | .cond c x y, ⟨env, H, n, lo⟩, kn, ke, kr => match evA env c with
    | .tt => Seal (Wp S x ⟨env, H, n, lo⟩ kn ke kr)
    | .ff => Seal (Wp S y ⟨env, H, n, lo⟩ kn ke kr)
    | .prop p => match c with
      | .tmp t => (p → Seal (Wp S x ⟨(t, .tt) :: env, H, n, lo⟩ kn ke kr)) ∧ (¬p → Seal (Wp S y ⟨(t, .ff) :: env, H, n, lo⟩ kn ke kr))
      | _ => (p → Seal (Wp S x ⟨env, H, n, lo⟩ kn ke kr)) ∧ (¬p → Seal (Wp S y ⟨env, H, n, lo⟩ kn ke kr))
    | _ => False
  | .block id x, σ, kn, ke, kr => Seal (Wp S x σ kn (fun i σ => match Nat.beq i id with | true => kn σ | false => ke i σ) kr)
  | .exit id, σ, _, ke, _ => ke id σ
  | .ret, σ, _, _, kr => kr σ
  | .region _ ops d, ⟨env, H, n, lo⟩, kn, _, _ => match d with
    | false => Seal (opsA S ops.toList n lo ops.toList env H kn)
    | true => False
  | _, _, _, _, _ => False
end
section
variable {S : Seat} {σ : St} {kn : St → Prop} {ke : Nat → St → Prop} {kr : St → Prop} {env : List (Nat × AV)} {H HS : Heap} {n lo : Nat} {all : List Oper} {K : St → Prop}
theorem Wp.step (hS : SeatOk S) : ∀ {c : Code} {σ : St}, StepC S c σ kn ke kr → Wp S c σ kn ke kr
  | .skip, σ, h => wpA_skip hS h.out
  | .seq x y, σ, h => wpA_seq hS h
  | .cond c x y, ⟨env, H, n, lo⟩, h => wpA_cond hS h
  | .block id x, σ, h => wpA_block hS h
  | .exit id, σ, h => wpA_exit hS h
  | .ret, σ, h => wpA_ret hS h
  | .region id ops d, ⟨env, H, n, lo⟩, h => by
    cases d with
    | false => exact wpA_region hS rfl h
    | true => exact h.elim
  | .loop _, _, h | .rangeFunc _ _ _ _, _, h | .scope _, _, h | .label _, _, h | .goto _, _, h | .refuse _, _, h => h.elim
theorem opsA_step {l : List Oper} (h : match l with
    | [] => Seal (K ⟨env, H, n, lo⟩)
    | o :: r => wantA all o env
      (fun env => stepA S o.op (evA env) H fun v H' => putK o.dst n v env fun env => Seal (opsA S all n lo r env H' K))
      (fun env => putK o.dst n (.tup []) env fun env => Seal (opsA S all n lo r env H K))) : opsA S all n lo l env H K := by
  cases l with
  | nil => exact h.out
  | cons o r => exact opsA_cons h
def drawStep (S : Seat) (HS : Heap) (all : List Oper) (n lo : Nat) (p : PlanS) (env : List (Nat × AV)) (H : Heap) (K : St → Prop) : Prop := match p with
  | .done => Seal (K ⟨env, H, n, lo⟩)
  | .quick i r => match all[i]? with
    | none => False
    | some o => wantA all o env
      (fun env => match kindOf S o.op with
        | .pure => pureA S o.op (evA env) fun v => putK o.dst n v env fun env => Seal (drawS S HS all n lo r env H K)
        | _ => False)
      (fun env => putK o.dst n (.tup []) env fun env => Seal (drawS S HS all n lo r env H K))
  | .stable i r => match all[i]? with
    | none => False
    | some o => wantA all o env
      (fun env => stableA S o.op (evA env) HS fun v => putK o.dst n v env fun env => Seal (drawS S HS all n lo r env H K))
      (fun env => putK o.dst n (.tup []) env fun env => Seal (drawS S HS all n lo r env H K))
  | .read i r => match all[i]? with
    | none => False
    | some o => wantA all o env
      (fun env => stillOpA S o.op (evA env) H fun v => putK o.dst n v env fun env => Seal (drawS S HS all n lo r env H K))
      (fun env => putK o.dst n (.tup []) env fun env => Seal (drawS S HS all n lo r env H K))
  | .all c => Seal (drawS S HS all n lo c env H K)
  | .step i r => match all[i]? with
    | none => False
    | some o => wantA all o env
      (fun env => stepA S o.op (evA env) H fun v H' => putK o.dst n v env fun env => Seal (drawS S HS all n lo r env H' K))
      (fun env => putK o.dst n (.tup []) env fun env => Seal (drawS S HS all n lo r env H K))
  | .fork a b => Seal (drawS S HS all n lo a env H K) ∧ Seal (drawS S HS all n lo b env H K)
theorem drawS_go {p : PlanS} (h : drawStep S HS all n lo p env H K) : drawS S HS all n lo p env H K := by
  cases p <;> simp only [drawStep, seal_eq] at h <;> (unfold drawS; exact h)
end
theorem inR_i64 {n : Int} (h : -9223372036854775808 ≤ n) (h' : n ≤ 9223372036854775807) : inR .i64 n := ⟨h, h'⟩
theorem leaf {P : Prop} (h : P := by
    first
    | exact trivial
    | exact not_false
    | with_reducible rfl
    | with_reducible assumption
    | (with_reducible refine inR_i64 ?_ ?_) <;> omega
    | (with_reducible refine inR_u8 ?_ ?_) <;> omega
    | omega
    | exact rfl
    | exact Iff.rfl
    | exact PreC.self _ _
    | exact NestC.self
    | exact ⟨rfl, hint_u8⟩ | exact ⟨rfl, hint_i64⟩ | exact ⟨rfl, hint_bool⟩ | exact ⟨rfl, hint_pair⟩ | exact ⟨rfl, hint_str⟩ | exact ⟨rfl, hint_quad⟩ | exact ⟨rfl, hint_bytesN⟩ | exact ⟨rfl, hint_conN⟩
    | (simp only [inR, IntKind.bits, Int.reduceToNat, Int.reducePow]; omega)
    | (simp only [List.length_append, List.length_take, List.length_drop]; omega)
    | exact PreC.of_eq (by with_reducible assumption)
    | exact PreC.of_eq' (by with_reducible assumption)
    | exact NestC.of_eq (by with_reducible assumption)
    | exact PreC.self' _ _ _
    | exact PreC.pre (by with_reducible assumption)
    | (simp; done)
    | (simp; omega)
    | (simp [bytesL]; done)
    | (simp [bytesL]; omega)) : P := h
end Go.Vm

namespace Go.Vm
open Go.RowKit
set_option maxRecDepth 20000
abbrev Qd := Int × Int × Int × Int
def quadParse : List AV → Option Qd
  | [.int .i64 a, .int .i64 b, .int .i64 c, .int .i64 d] => some (a, b, c, d)
  | _ => none
def quadPut (x : Qd) (j : Nat) (vs : List AV) : Option Qd := match j, vs with
  | 0, [.int .i64 a, .int .i64 b, .int .i64 c, .int .i64 d] => some (a, b, c, d)
  | 0, [.int .i64 a] => some (a, x.2)
  | 1, [.int .i64 a] => some (x.1, a, x.2.2)
  | 2, [.int .i64 a] => some (x.1, x.2.1, a, x.2.2.2)
  | 3, [.int .i64 a] => some (x.1, x.2.1, x.2.2.1, a)
  | 2, [.int .i64 a, .int .i64 b] => some (x.1, x.2.1, a, b)
  | _, _ => none
def quadE : Enc Qd := { m := 4, d := (0, 0, 0, 0), cells := fun x => [.int .i64 x.1, .int .i64 x.2.1, .int .i64 x.2.2.1, .int .i64 x.2.2.2], put := quadPut, parse := quadParse }
theorem VRels.four {ρ : Loc} {a b c d : AV} {rs : List Value} (h : VRels ρ [a, b, c, d] rs) : ∃ x y z u, rs = [x, y, z, u] ∧ VRel ρ a x ∧ VRel ρ b y ∧ VRel ρ c z ∧ VRel ρ d u := by
  obtain ⟨x, _, rfl, h1, y, _, rfl, h2, z, _, rfl, h3, u, _, rfl, h4, rfl⟩ := h
  exact ⟨x, y, z, u, rfl, h1, h2, h3, h4⟩
theorem VRels.mk4 {ρ : Loc} {a b c d : AV} {x y z u : Value} (h1 : VRel ρ a x) (h2 : VRel ρ b y) (h3 : VRel ρ c z) (h4 : VRel ρ d u) : VRels ρ [a, b, c, d] [x, y, z, u] :=
  ⟨x, _, rfl, h1, y, _, rfl, h2, z, _, rfl, h3, u, _, rfl, h4, rfl⟩
theorem quadE_ok {P : Program} {T : TypeId} (hm : (P.info? T).map (·.size) = some 4) (hz : ((P.info? T).bind (·.zero)).map (·.cells.toList) = some [.int .i64 0, .int .i64 0, .int .i64 0, .int .i64 0]) : EncOk P T quadE where
  m := hm
  pos := by decide
  len := fun _ => rfl
  plain := fun _ _ => ⟨trivial, trivial, trivial, trivial, trivial⟩
  flat := fun _ => rfl
  put := fun x j vs y h => by
    simp only [quadE, quadPut] at h
    split at h
    · injection h with h; subst h
      refine ⟨by simp [quadE], fun ρ rs l h1 h2 => ?_⟩
      obtain ⟨u1, u2, u3, u4, rfl, g1, g2, g3, g4⟩ := VRels.four h1
      obtain ⟨v1, v2, v3, v4, rfl, k1, k2, k3, k4⟩ := VRels.four h2; exact .mk4 k1 k2 k3 k4
    · injection h with h; subst h
      refine ⟨by simp [quadE], fun ρ rs l h1 h2 => ?_⟩
      obtain ⟨u1, u2, u3, u4, rfl, g1, g2, g3, g4⟩ := VRels.four h1
      obtain ⟨v1, rfl, k1⟩ := VRels.one h2; exact .mk4 k1 g2 g3 g4
    · injection h with h; subst h
      refine ⟨by simp [quadE], fun ρ rs l h1 h2 => ?_⟩
      obtain ⟨u1, u2, u3, u4, rfl, g1, g2, g3, g4⟩ := VRels.four h1
      obtain ⟨v1, rfl, k1⟩ := VRels.one h2; exact .mk4 g1 k1 g3 g4
    · injection h with h; subst h
      refine ⟨by simp [quadE], fun ρ rs l h1 h2 => ?_⟩
      obtain ⟨u1, u2, u3, u4, rfl, g1, g2, g3, g4⟩ := VRels.four h1
      obtain ⟨v1, rfl, k1⟩ := VRels.one h2; exact .mk4 g1 g2 k1 g4
    · injection h with h; subst h
      refine ⟨by simp [quadE], fun ρ rs l h1 h2 => ?_⟩
      obtain ⟨u1, u2, u3, u4, rfl, g1, g2, g3, g4⟩ := VRels.four h1
      obtain ⟨v1, rfl, k1⟩ := VRels.one h2; exact .mk4 g1 g2 g3 k1
    · injection h with h; subst h
      refine ⟨by simp [quadE], fun ρ rs l h1 h2 => ?_⟩
      obtain ⟨u1, u2, u3, u4, rfl, g1, g2, g3, g4⟩ := VRels.four h1
      obtain ⟨v1, v2, rfl, k1, k2⟩ := VRels.two h2; exact .mk4 g1 g2 k1 k2
    · exact nomatch h
  parse := fun vs y h => by
    simp only [quadE, quadParse] at h
    split at h
    · simp at h; subst h
      exact fun _ _ h => h
    · simp at h
  zero := ⟨_, hz, fun _ => VRels.mk4 rfl rfl rfl rfl⟩
@[reducible] def bytesG (n : Nat → Blk) (x : List Int) : List AV := [.sl (n 0) 1 none x.length]
@[reducible] def bytesF (x : List Int) (_ : Nat) : Cont := .arr (intE .u8) x
@[reducible] def bytesN (xs : List (List Int)) : Cont := .nest 1 [] bytesG [0] bytesF xs none
theorem bytesN_ok {P : Program} {T : TypeId} (hm : (P.info? T).map (·.size) = some 1) (hz : ((P.info? T).bind (·.zero)).map (·.cells.toList) = some [.slice none 0 0]) : NestOk P T 1 [] bytesG [0] bytesF where
  siz := hm
  pos := by decide
  len := fun _ _ => rfl
  flat := fun _ _ => rfl
  lt := fun N n x h => ⟨h 0 (by simp), trivial⟩
  ren := fun ρ ρ' n n' x rs h hr => by
    have h0 := h 0 (by simp)
    simpa only [bytesG, VRels, VRel, h0] using hr
  zero := ⟨_, hz, fun ρ n h => ⟨_, [], rfl, .inl ⟨h 0 (by simp), rfl, rfl, _, rfl⟩, rfl⟩⟩
  nil := fun j _ => rfl
structure Dec where
  left : Int
  low : Int
  value : Int
structure Par where
  mode : Int
  set : Int
  priv : Bool
  params : List Int
structure Grd where
  rows : Int
  width : Int
  cells : List (Int × Int)
  back : List (Int × Int)
@[reducible] def grdC (b0 : Blk) (b1 : Blk) (s : Grd) : List AV := [.int .i64 s.rows, .int .i64 s.width, .sl b0 2 none s.cells.length, .sl b1 2 none s.back.length]
@[reducible] noncomputable def grdH (w : Bool) (b0 : Blk) (b1 : Blk) (s : Grd) (r : List Ent) : List Ent := ⟨b0, w, .arr pairE s.cells⟩ :: ⟨b1, w, .arr pairE s.back⟩ :: r
structure Scr where
  grid : Grd
  y : Int
  x : Int
  wrap : Bool
  attr : Int
  top : Int
  bottom : Int
  origin : Bool
  autow : Bool
  insert : Bool
  tabs : List Bool
  keptY : Int
  keptX : Int
  keptA : Int
  sets : List Int
  shift : Int
  bells : Int
@[reducible] def scrC (b0 : Blk) (b1 : Blk) (b2 : Blk) (b3 : Blk) (s : Scr) : List AV := [.int .i64 s.grid.rows, .int .i64 s.grid.width, .sl b0 2 none s.grid.cells.length, .sl b1 2 none s.grid.back.length, .int .i64 s.y, .int .i64 s.x, .prop (s.wrap = true), .int .i64 s.attr, .int .i64 s.top, .int .i64 s.bottom, .prop (s.origin = true), .prop (s.autow = true), .prop (s.insert = true), .sl b2 1 none s.tabs.length, .int .i64 s.keptY, .int .i64 s.keptX, .int .i64 s.keptA, .sl b3 1 none s.sets.length, .int .i64 s.shift, .int .i64 s.bells]
@[reducible] noncomputable def scrH (w : Bool) (b0 : Blk) (b1 : Blk) (b2 : Blk) (b3 : Blk) (s : Scr) (r : List Ent) : List Ent := ⟨b0, w, .arr pairE s.grid.cells⟩ :: ⟨b1, w, .arr pairE s.grid.back⟩ :: ⟨b2, w, .arr boolE s.tabs⟩ :: ⟨b3, w, .arr (intE .i64) s.sets⟩ :: r
structure Vt where
  dec : Dec
  par : Par
  scr : Scr
structure Wy where
  flags : Int
  erase : Int
  kill : Int
  word : Int
  fin : Int
  brk : Int
  next : Int
structure Lin where
  ready : List (List Int)
  edit : List Int
  lit : Bool
  breaks : Int
structure Con where
  vt : Vt
  way : Wy
  lin : Lin
@[reducible] def conC (b0 : Blk) (b1 : Blk) (b2 : Blk) (b3 : Blk) (b4 : Blk) (b5 : Blk) (b6 : Blk) (s : Con) : List AV := [.int .i64 s.vt.dec.left, .int .i64 s.vt.dec.low, .int .i64 s.vt.dec.value, .int .i64 s.vt.par.mode, .int .i64 s.vt.par.set, .prop (s.vt.par.priv = true), .sl b0 1 none s.vt.par.params.length, .int .i64 s.vt.scr.grid.rows, .int .i64 s.vt.scr.grid.width, .sl b1 2 none s.vt.scr.grid.cells.length, .sl b2 2 none s.vt.scr.grid.back.length, .int .i64 s.vt.scr.y, .int .i64 s.vt.scr.x, .prop (s.vt.scr.wrap = true), .int .i64 s.vt.scr.attr, .int .i64 s.vt.scr.top, .int .i64 s.vt.scr.bottom, .prop (s.vt.scr.origin = true), .prop (s.vt.scr.autow = true), .prop (s.vt.scr.insert = true), .sl b3 1 none s.vt.scr.tabs.length, .int .i64 s.vt.scr.keptY, .int .i64 s.vt.scr.keptX, .int .i64 s.vt.scr.keptA, .sl b4 1 none s.vt.scr.sets.length, .int .i64 s.vt.scr.shift, .int .i64 s.vt.scr.bells, .int .i64 s.way.flags, .int .i64 s.way.erase, .int .i64 s.way.kill, .int .i64 s.way.word, .int .i64 s.way.fin, .int .i64 s.way.brk, .int .i64 s.way.next, .sl b5 1 none s.lin.ready.length, .sl b6 1 none s.lin.edit.length, .prop (s.lin.lit = true), .int .i64 s.lin.breaks]
def con0 : Con := ⟨⟨⟨0, 0, 0⟩, ⟨0, 0, false, []⟩, ⟨⟨0, 0, [], []⟩, 0, 0, false, 0, 0, 0, false, false, false, [], 0, 0, 0, [], 0, 0⟩⟩, ⟨0, 0, 0, 0, 0, 0, 0⟩, ⟨[], [], false, 0⟩⟩
@[reducible] def conG (n : Nat → Blk) (s : Con) : List AV := conC (n 0) (n 1) (n 2) (n 3) (n 4) (n 5) (n 6) s
@[reducible] noncomputable def conF (s : Con) (j : Nat) : Cont := match j with
  | 0 => .arr (intE .i64) s.vt.par.params
  | 1 => .arr pairE s.vt.scr.grid.cells
  | 2 => .arr pairE s.vt.scr.grid.back
  | 3 => .arr boolE s.vt.scr.tabs
  | 4 => .arr (intE .i64) s.vt.scr.sets
  | 5 => bytesN s.lin.ready
  | _ => .arr (intE .u8) s.lin.edit
theorem consN_ok {P : Program} {T : TypeId} (hm : (P.info? T).map (·.size) = some 38) (hz : ((P.info? T).bind (·.zero)).map (·.cells.toList) = some [.int .i64 0, .int .i64 0, .int .i64 0, .int .i64 0, .int .i64 0, .bool false, .slice none 0 0, .int .i64 0, .int .i64 0, .slice none 0 0, .slice none 0 0, .int .i64 0, .int .i64 0, .bool false, .int .i64 0, .int .i64 0, .int .i64 0, .bool false, .bool false, .bool false, .slice none 0 0, .int .i64 0, .int .i64 0, .int .i64 0, .slice none 0 0, .int .i64 0, .int .i64 0, .int .i64 0, .int .i64 0, .int .i64 0, .int .i64 0, .int .i64 0, .int .i64 0, .int .i64 0, .slice none 0 0, .slice none 0 0, .bool false, .int .i64 0]) : NestOk P T 38 con0 conG [0, 1, 2, 3, 4, 5, 6] conF where
  siz := hm
  pos := by decide
  len := fun _ _ => rfl
  flat := fun _ _ => rfl
  lt := fun N n x h => by
    have h0 := h 0 (by simp); have h1 := h 1 (by simp); have h2 := h 2 (by simp); have h3 := h 3 (by simp); have h4 := h 4 (by simp); have h5 := h 5 (by simp); have h6 := h 6 (by simp)
    simp only [conG, conC, AV.lts, AV.lt, and_true, true_and]
    exact ⟨h0, h1, h2, h3, h4, h5, h6⟩
  ren := fun ρ ρ' n n' x rs h hr => by
    have h0 := h 0 (by simp); have h1 := h 1 (by simp); have h2 := h 2 (by simp); have h3 := h 3 (by simp); have h4 := h 4 (by simp); have h5 := h 5 (by simp); have h6 := h 6 (by simp)
    simpa only [conG, conC, VRels, VRel, h0, h1, h2, h3, h4, h5, h6] using hr
  zero := ⟨_, hz, fun ρ n h => by
    have h0 := h 0 (by simp); have h1 := h 1 (by simp); have h2 := h 2 (by simp); have h3 := h 3 (by simp); have h4 := h 4 (by simp); have h5 := h 5 (by simp); have h6 := h 6 (by simp)
    have e : ∀ b m, ρ b = none → VRel ρ (.sl b m none 0) (.slice none 0 0) := fun b m h => .inl ⟨h, rfl, rfl, _, rfl⟩
    have f : VRel ρ (.prop (false = true)) (.bool false) := ⟨false, rfl, by simp⟩
    have i : VRel ρ (.int .i64 0) (.int .i64 0) := rfl
    have c : ∀ {v r vs rs}, VRel ρ v r → VRels ρ vs rs → VRels ρ (v :: vs) (r :: rs) := fun h1 h2 => ⟨_, _, rfl, h1, h2⟩
    have n0 : VRels ρ [] [] := rfl
    exact (c i (c i (c i (c i (c i (c f (c (e _ _ h0) (c i (c i (c (e _ _ h1) (c (e _ _ h2) (c i (c i (c f (c i (c i (c i (c f (c f (c f (c (e _ _ h3) (c i (c i (c i (c (e _ _ h4) (c i (c i (c i (c i (c i (c i (c i (c i (c i (c (e _ _ h5) (c (e _ _ h6) (c f (c i n0))))))))))))))))))))))))))))))))))))))⟩
  nil := fun j hj => by
    simp only [List.mem_cons, List.not_mem_nil, or_false] at hj
    rcases hj with rfl | rfl | rfl | rfl | rfl | rfl | rfl <;> first | rfl | exact ⟨rfl, rfl⟩
structure Act where
  kind : Int
  char : Int
  set : Int
  priv : Bool
  params : List Int
@[reducible] def actC (b0 : Blk) (s : Act) : List AV := [.int .i64 s.kind, .int .i64 s.char, .int .i64 s.set, .prop (s.priv = true), .sl b0 1 none s.params.length]
@[reducible] noncomputable def actH (w : Bool) (b0 : Blk) (s : Act) (r : List Ent) : List Ent := ⟨b0, w, .arr (intE .i64) s.params⟩ :: r
structure ScrR where
  code : Int
  scr : Scr
@[reducible] def scrRC (b0 : Blk) (b1 : Blk) (b2 : Blk) (b3 : Blk) (s : ScrR) : List AV := [.int .i64 s.code, .int .i64 s.scr.grid.rows, .int .i64 s.scr.grid.width, .sl b0 2 none s.scr.grid.cells.length, .sl b1 2 none s.scr.grid.back.length, .int .i64 s.scr.y, .int .i64 s.scr.x, .prop (s.scr.wrap = true), .int .i64 s.scr.attr, .int .i64 s.scr.top, .int .i64 s.scr.bottom, .prop (s.scr.origin = true), .prop (s.scr.autow = true), .prop (s.scr.insert = true), .sl b2 1 none s.scr.tabs.length, .int .i64 s.scr.keptY, .int .i64 s.scr.keptX, .int .i64 s.scr.keptA, .sl b3 1 none s.scr.sets.length, .int .i64 s.scr.shift, .int .i64 s.scr.bells]
@[reducible] noncomputable def scrRH (w : Bool) (b0 : Blk) (b1 : Blk) (b2 : Blk) (b3 : Blk) (s : ScrR) (r : List Ent) : List Ent := ⟨b0, w, .arr pairE s.scr.grid.cells⟩ :: ⟨b1, w, .arr pairE s.scr.grid.back⟩ :: ⟨b2, w, .arr boolE s.scr.tabs⟩ :: ⟨b3, w, .arr (intE .i64) s.scr.sets⟩ :: r
structure GrdB (s : Grd) : Prop where
  cells : s.cells.length ≤ 1048576
  back : s.back.length ≤ 1048576
structure ScrB (s : Scr) : Prop where
  grid : GrdB s.grid
  tabs : s.tabs.length ≤ 1048576
  sets : s.sets.length ≤ 1048576
structure ActB (s : Act) : Prop where
  params : s.params.length ≤ 1048576
structure ScrRB (s : ScrR) : Prop where
  scr : ScrB s.scr
end Go.Vm
