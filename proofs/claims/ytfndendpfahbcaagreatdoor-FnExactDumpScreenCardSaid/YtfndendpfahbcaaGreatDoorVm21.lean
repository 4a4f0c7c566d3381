/- An abstract machine over the loaded code: contracts in one form. -/
import Derived.Test.YtfndendpfahbcaaGreatDoorVm20
set_option linter.unusedSimpArgs false
set_option linter.unusedVariables false
namespace Go.Vm
open Go.RowKit

/-- an outcome, seen as a state -/
def outSt (v : AV) (H : Heap) (lo : Nat) : St := ⟨[(0, v)], H, 1, lo⟩

section
variable {S : Seat} {H : Heap}

/-- a contract in one form -/
theorem CallA.canon (hS : SeatOk S) {γ : Type} (R : γ → Prop) (vc : γ → AV) (Hc : γ → Heap) {f : Nat} {args : List AV}
    (h : CallA S f args H fun v H' => ∃ g, R g ∧ fitsA S (outSt v H' H.next) (outSt (vc g) (Hc g) H.next) True) : CallA S f args H fun v H' => ∃ g, R g ∧ v = vc g ∧ H' = Hc g := by
  unfold CallA at h ⊢
  intro ρ w rs hH hr hl
  refine (h ρ w rs hH hr hl).mono ?_
  rintro e w' ⟨v, r, H', ρ', rfl, ⟨g, hg, hf⟩, hv, hvl, ha⟩
  have hi : Inv S ρ H w (outSt v H' H.next) ρ' ⟨#[r], []⟩ w' := by
    refine ⟨fun t => ?_, rfl, rfl, rfl, ha⟩
    simp only [outSt, look]
    split
    · rename_i e
      have e := Nat.eq_of_beq_eq_true e
      subst e
      exact ⟨hv, hvl⟩
    · exact ⟨trivial, trivial⟩
  obtain ⟨⟨ρ2, hi2⟩, _⟩ := fits_out hS hf hi
  have h0 := hi2.env 0
  exact ⟨vc g, r, Hc g, ρ2, rfl, ⟨g, hg, rfl, rfl⟩, h0.1, h0.2, hi2.after⟩

/-- a body, its outcome in one form -/
theorem CallA.of_canon (hS : SeatOk S) {γ : Type} (R : γ → Prop) (vc : γ → AV) (Hc : γ → Heap) {f : Nat} {fn : Func} {args : List AV} (hf : S.P.funcs[f]? = some fn)
    (h : bodyA S fn args H fun v H' => ∃ g, R g ∧ fitsA S (outSt v H' H.next) (outSt (vc g) (Hc g) H.next) True) : CallA S f args H fun v H' => ∃ g, R g ∧ v = vc g ∧ H' = Hc g :=
  .canon hS R vc Hc (.of_body hS hf h)
end
end Go.Vm
