/- An abstract machine over the loaded code: the walk of a region that draws. -/
import Derived.Test.YtfndendpfahbcaaGreatDoorVm24
set_option linter.unusedSimpArgs false
set_option linter.unusedVariables false
namespace Go.Vm
open Go.RowKit

inductive Plan where
  | done
  | quick (i : Nat) (r : Plan)
  | read (i : Nat) (r : Plan)
  | all (c : Plan)
  | step (i : Nat) (r : Plan)
  | fork (a b : Plan)

def Plan.heads : Plan → List Nat
  | .step i _ => [i]
  | .fork a b => a.heads ++ b.heads
  | _ => []

def Plan.top : Plan → Bool
  | .step _ _ => false
  | .fork _ _ => false
  | _ => true

def planB (ops : Array Oper) (ds : List Nat) : Plan → Nat → Array Bool → Bool
  | .done, _, listed => (Region.ready .any ops listed).isEmpty
  | .quick i r, fuel, listed => match fuel with
    | 0 => false
    | f + 1 => Region.free .any ops listed i && (Region.ready .any ops listed).contains i && closedB .any ops listed && r.top && planB ops ds r f (listed.setIfInBounds i true)
  | .read i r, fuel, listed => match fuel with
    | 0 => false
    | f + 1 => Region.free .any ops listed i && (Region.ready .any ops listed).contains i && closedB .any ops listed && lastB .any ops listed ds i && r.top && planB ops ds r f (listed.setIfInBounds i true)
  | .all c, fuel, listed => match fuel with
    | 0 => false
    | f + 1 => !c.top && !(Region.ready .any ops listed).isEmpty && ((Region.ready .any ops listed).all fun i => c.heads.contains i) && planB ops ds c f listed
  | .step i r, f, listed => ds.contains i && r.top && planB ops ds r f (listed.setIfInBounds i true)
  | .fork a b, f, listed => !a.top && !b.top && planB ops ds a f listed && planB ops ds b f listed

section
variable (S : Seat)
def drawA (all : List Oper) (n lo : Nat) : Plan → List (Nat × AV) → Heap → (St → Prop) → Prop
  | .done, env, H, K => K ⟨env, H, n, lo⟩
  | .quick i r, env, H, K => match all[i]? with
    | none => False
    | some o => wantA all o env
      (fun env => match kindOf S o.op with
        | .pure => pureA S o.op (evA env) fun v => putK o.dst n v env fun env => drawA all n lo r env H K
        | _ => False)
      (fun env => putK o.dst n (.tup []) env fun env => drawA all n lo r env H K)
  | .read i r, env, H, K => match all[i]? with
    | none => False
    | some o => wantA all o env
      (fun env => stillOpA S o.op (evA env) H fun v => putK o.dst n v env fun env => drawA all n lo r env H K)
      (fun env => putK o.dst n (.tup []) env fun env => drawA all n lo r env H K)
  | .all c, env, H, K => drawA all n lo c env H K
  | .step i r, env, H, K => match all[i]? with
    | none => False
    | some o => wantA all o env
      (fun env => stepA S o.op (evA env) H fun v H' => putK o.dst n v env fun env => drawA all n lo r env H' K)
      (fun env => putK o.dst n (.tup []) env fun env => drawA all n lo r env H K)
  | .fork a b, env, H, K => drawA all n lo a env H K ∧ drawA all n lo b env H K
end

section
variable {S : Seat} {ρ0 : Loc} {H0 : Heap} {w0 : World} {σ : St} {ρ : Loc} {a : Act} {w : World} {kn kn' : St → Prop} {ke ke' : Nat → St → Prop} {kr kr' : St → Prop} {n lo : Nat} {H : Heap}

theorem contains_of_heads {c : Plan} {i : Nat} (h : c.heads.contains i = true) : i ∈ c.heads := by simpa using h

/-- the walk of the picked ones -/
def Picks (P : Program) (ops : Array Oper) (Q : Exit → Act → World → Prop) (ds : List Nat) (f : Nat) (listed : Array Bool) (a : Act) (w : World) (i : Nat) : Prop :=
  wpOp P ops Q i (fun a' w' => (i ∉ ds → w' = w) ∧ wpAnyR P .any ops Q ds f (listed.setIfInBounds i true) a' w') a w

theorem draw_sound (hS : SeatOk S) {ops : Array Oper} {ds : List Nat} (hs : Region.noSelect ops = true) :
    ∀ (p : Plan) (f : Nat) (listed : Array Bool) {env : List (Nat × AV)} {H : Heap} {ρ : Loc} {a : Act} {w : World}, planB ops ds p f listed = true → drawA S ops.toList n lo p env H kn → Inv S ρ0 H0 w0 ⟨env, H, n, lo⟩ ρ a w →
      (p.top = true → wpAnyR S.P .any ops (QA S ρ0 H0 w0 kn ke kr) ds f listed a w) ∧ (p.top = false → ∀ i ∈ p.heads, Picks S.P ops (QA S ρ0 H0 w0 kn ke kr) ds f listed a w i)
  | .done, f, listed, env, H, ρ, a, w, hB, h, hi => by
    refine ⟨fun _ => ?_, fun q => by simp [Plan.top] at q⟩
    have hr : Region.ready .any ops listed = [] := by simpa [planB] using hB
    have hq : QA S ρ0 H0 w0 kn ke kr .normal a w := ⟨_, ρ, h, hi⟩
    cases f with
    | zero => exact ⟨hr, hq⟩
    | succ f => exact ⟨fun _ => hq, by rw [hr]; simp⟩
  | .quick i r, f, listed, env, H, ρ, a, w, hB, h, hi => by
    refine ⟨fun _ => ?_, fun q => by simp [Plan.top] at q⟩
    cases f with
    | zero => simp [planB] at hB
    | succ f =>
      simp only [planB, Bool.and_eq_true] at hB
      obtain ⟨⟨⟨⟨h1, h2⟩, h3⟩, htop⟩, h4⟩ := hB
      simp only [drawA] at h
      split at h
      · exact h.elim
      · rename_i o ho
        have ho' : ops[i]? = some o := by simpa using ho
        obtain ⟨env1, hi1, hh⟩ := want_sound h hi
        have go : ∀ {v : AV} {x : Value}, YieldsIf S.P ops (fun _ => True) o x a → (putK o.dst n v env1 fun env => drawA S ops.toList n lo r env H kn) → VRel ρ v x → v.lt H.next →
            wpAnyR S.P .any ops (QA S ρ0 H0 w0 kn ke kr) ds (f + 1) listed a w := by
          intro v x hy hK hv hl
          obtain ⟨env2, hK2, g1, g2, g3⟩ := put_env hK hi1.size hi1.env (.refl _ _) (Nat.le_refl _) hv hl
          exact wpAnyR_first (T := fun _ => True) ho' (Region.noSelect_spec hs) (fun c a w h => h.elim) 0 f listed a w (Region.free_spec ho' h1) (closedB_spec h3) (.inl fun _ => trivial) (by simpa using h2) hy trivial
            ((draw_sound hS hs r f (listed.setIfInBounds i true) h4 hK2 (ρ := ρ) (a := a.put o.dst x) (w := w) ⟨g1, g2, g3.trans hi1.defers, hi1.lo, hi1.after⟩).1 htop)
        rcases hh with ⟨hw, h5⟩ | ⟨hw, h5⟩
        · split at h5
          · obtain ⟨x, ⟨v, hK, hv, hl⟩, hr⟩ := pure_sound hS (fun x => (hi1.ev x).1) (fun _ => rfl) (fun x => (hi1.ev x).2) h5
            exact go (.inl ⟨hw, fun w _ => hr w⟩) hK hv hl
          · exact h5.elim
        · exact go (v := .tup []) (x := undef) (.inr ⟨hw, rfl⟩) h5 ⟨[], rfl, rfl⟩ trivial
  | .read i r, f, listed, env, H, ρ, a, w, hB, h, hi => by
    refine ⟨fun _ => ?_, fun q => by simp [Plan.top] at q⟩
    cases f with
    | zero => simp [planB] at hB
    | succ f =>
      simp only [planB, Bool.and_eq_true] at hB
      obtain ⟨⟨⟨⟨⟨h1, h2⟩, h3⟩, h6⟩, htop⟩, h4⟩ := hB
      simp only [drawA] at h
      split at h
      · exact h.elim
      · rename_i o ho
        have ho' : ops[i]? = some o := by simpa using ho
        obtain ⟨env1, hi1, hh⟩ := want_sound h hi
        have hlast : ∀ d ∈ ds, listed.getD d true = false → reachB .any ops i ops.size d = true := fun d hm hun => by
          have := List.all_eq_true.1 h6 d hm
          rw [hun] at this; simpa using this
        have go : ∀ {v : AV} {x : Value}, YieldsIf S.P ops (fun w' => w' = w) o x a → (putK o.dst n v env1 fun env => drawA S ops.toList n lo r env H kn) → VRel ρ v x → v.lt H.next →
            wpAnyR S.P .any ops (QA S ρ0 H0 w0 kn ke kr) ds (f + 1) listed a w := by
          intro v x hy hK hv hl
          obtain ⟨env2, hK2, g1, g2, g3⟩ := put_env hK hi1.size hi1.env (.refl _ _) (Nat.le_refl _) hv hl
          exact wpAnyR_first (T := fun w' => w' = w) ho' (Region.noSelect_spec hs) (fun c a w h => h.elim) ops.size f listed a w (Region.free_spec ho' h1) (closedB_spec h3) (.inr hlast) (by simpa using h2) hy rfl
            ((draw_sound hS hs r f (listed.setIfInBounds i true) h4 hK2 (ρ := ρ) (a := a.put o.dst x) (w := w) ⟨g1, g2, g3.trans hi1.defers, hi1.lo, hi1.after⟩).1 htop)
        rcases hh with ⟨hw, h5⟩ | ⟨hw, h5⟩
        · obtain ⟨x, v, hK, hv, hl, hr⟩ := stillOp_sound hS h5 hi1
          exact go (.inl ⟨hw, fun w' e => by rw [e]; exact hr⟩) hK hv hl
        · exact go (v := .tup []) (x := undef) (.inr ⟨hw, rfl⟩) h5 ⟨[], rfl, rfl⟩ trivial
  | .all c, f, listed, env, H, ρ, a, w, hB, h, hi => by
    refine ⟨fun _ => ?_, fun q => by simp [Plan.top] at q⟩
    cases f with
    | zero => simp [planB] at hB
    | succ f =>
      simp only [planB, Bool.and_eq_true] at hB
      obtain ⟨⟨⟨h1, h2⟩, h3⟩, h4⟩ := hB
      have hh := (draw_sound hS hs c f listed h4 h hi).2 (by simpa using h1)
      refine ⟨fun hr => ?_, fun i hm => ?_⟩
      · rw [hr] at h2; simp at h2
      · exact hh i (by have := List.all_eq_true.1 h3 i hm; simpa using this)
  | .step i r, f, listed, env, H, ρ, a, w, hB, h, hi => by
    refine ⟨fun q => by simp [Plan.top] at q, fun _ j hj => ?_⟩
    have hj : j = i := by simpa [Plan.heads] using hj
    subst hj
    simp only [planB, Bool.and_eq_true] at hB
    obtain ⟨⟨h1, htop⟩, h2⟩ := hB
    have h1 : j ∈ ds := by simpa using h1
    simp only [drawA] at h
    split at h
    · exact h.elim
    · rename_i o ho
      have ho' : ops[j]? = some o := by simpa using ho
      obtain ⟨env1, hi1, hh⟩ := want_sound h hi
      unfold Picks wpOp
      simp only [ho']
      rcases hh with ⟨hw, h5⟩ | ⟨hw, h5⟩
      · rw [if_pos hw]
        refine .inl (step_sound hS hi1.after.heap (fun x => (hi1.ev x).1) (fun x => (hi1.ev x).2) h5 _ _ fun v r' H' ρ' w' hK hv hl ha => ⟨fun q => absurd h1 q, ?_⟩)
        obtain ⟨env2, hK2, g1, g2, g3⟩ := put_env hK hi1.size hi1.env ha.agree ha.next hv hl
        exact (draw_sound hS hs r f (listed.setIfInBounds j true) h2 hK2 ⟨g1, g2, g3.trans hi1.defers, hi1.lo, hi1.after.trans ha⟩).1 htop
      · rw [if_neg (by rw [hw]; simp)]
        obtain ⟨env2, hK2, g1, g2, g3⟩ := put_env (v := .tup []) (r := undef) h5 hi1.size hi1.env (.refl _ _) (Nat.le_refl _) ⟨[], rfl, rfl⟩ trivial
        exact ⟨fun q => absurd h1 q, (draw_sound hS hs r f (listed.setIfInBounds j true) h2 hK2 ⟨g1, g2, g3.trans hi1.defers, hi1.lo, hi1.after⟩).1 htop⟩
  | .fork x y, f, listed, env, H, ρ, a, w, hB, h, hi => by
    refine ⟨fun q => by simp [Plan.top] at q, fun _ j hj => ?_⟩
    simp only [planB, Bool.and_eq_true] at hB
    obtain ⟨⟨⟨h1, h2⟩, h3⟩, h4⟩ := hB
    simp only [drawA] at h
    rcases List.mem_append.1 hj with q | q
    · exact (draw_sound hS hs x f listed h3 h.1 hi).2 (by simpa using h1) j q
    · exact (draw_sound hS hs y f listed h4 h.2 hi).2 (by simpa using h2) j q
end
end Go.Vm
