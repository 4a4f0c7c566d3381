/- An abstract machine over the loaded code: regions that draw, one step at a time. -/
import Derived.Test.YtfndendpfahbcaaGreatDoorVm25
set_option linter.unusedSimpArgs false
set_option linter.unusedVariables false
namespace Go.Vm
open Go.RowKit
section
variable {S : Seat} {kn : St → Prop} {ke : Nat → St → Prop} {kr : St → Prop} {env : List (Nat × AV)} {H : Heap} {n lo : Nat} {all : List Oper} {K : St → Prop}

/-- a region that draws: any plan that the Bool takes -/
theorem Wp.draw (hS : SeatOk S) {id : Nat} {ops : Array Oper} {l : List Oper} (p : Plan) (ds : List Nat) (hB : (Region.noSelect ops && p.top && planB ops ds p ops.size (Array.replicate ops.size false)) = true)
    (hl : ops.toList = l) (h : Seal (drawA S l n lo p env H kn)) : Wp S (.region id ops true) ⟨env, H, n, lo⟩ kn ke kr := by
  subst hl
  simp only [Bool.and_eq_true] at hB
  obtain ⟨⟨h1, h2⟩, h3⟩ := hB
  unfold Wp
  intro ρ0 H0 w0 ρ a w hi
  refine wp_region_any hS.mixed (wpAny_of_R (ds := ds) _ _ _ _ ?_)
  exact (draw_sound hS h1 p ops.size _ h3 h.out (hi.drew (w.drawn + 1))).1 h2

theorem drawA_done (h : K ⟨env, H, n, lo⟩) : drawA S all n lo .done env H K := h
theorem drawA_quick {i : Nat} {o : Oper} {r : Plan} (ho : all[i]? = some o) (h : wantA all o env
      (fun env => match kindOf S o.op with
        | .pure => pureA S o.op (evA env) fun v => putK o.dst n v env fun env => Seal (drawA S all n lo r env H K)
        | _ => False)
      (fun env => putK o.dst n (.tup []) env fun env => Seal (drawA S all n lo r env H K))) : drawA S all n lo (.quick i r) env H K := by
  simp only [seal_eq] at h
  simp only [drawA, ho]
  exact h
theorem drawA_read {i : Nat} {o : Oper} {r : Plan} (ho : all[i]? = some o) (h : wantA all o env
      (fun env => stillOpA S o.op (evA env) H fun v => putK o.dst n v env fun env => Seal (drawA S all n lo r env H K))
      (fun env => putK o.dst n (.tup []) env fun env => Seal (drawA S all n lo r env H K))) : drawA S all n lo (.read i r) env H K := by
  simp only [seal_eq] at h
  simp only [drawA, ho]
  exact h
theorem drawA_all {c : Plan} (h : Seal (drawA S all n lo c env H K)) : drawA S all n lo (.all c) env H K := h.out
theorem drawA_step {i : Nat} {o : Oper} {r : Plan} (ho : all[i]? = some o) (h : wantA all o env
      (fun env => stepA S o.op (evA env) H fun v H' => putK o.dst n v env fun env => Seal (drawA S all n lo r env H' K))
      (fun env => putK o.dst n (.tup []) env fun env => Seal (drawA S all n lo r env H K))) : drawA S all n lo (.step i r) env H K := by
  simp only [seal_eq] at h
  simp only [drawA, ho]
  exact h
theorem drawA_fork2 {a b : Plan} (ha : Seal (drawA S all n lo a env H K)) (hb : Seal (drawA S all n lo b env H K)) : drawA S all n lo (.fork a b) env H K := by
  simp only [seal_eq] at ha hb; exact ⟨ha, hb⟩
theorem drawA_fork {a b : Plan} (h : Seal (drawA S all n lo a env H K) ∧ Seal (drawA S all n lo b env H K)) : drawA S all n lo (.fork a b) env H K := by
  simp only [seal_eq] at h; exact h
end
end Go.Vm
