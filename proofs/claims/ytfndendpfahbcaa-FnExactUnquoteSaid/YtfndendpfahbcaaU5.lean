/- The law on unquoting: the row. -/
import Derived.Test.YtfndendpfahbcaaU4
import Derived.Test.YtfndendpfahbcaaRows
import Derived.WalkKit
import Derived.ProofKit
import Derived.OpenShut
import Derived.ShutString
import Derived.ChangeOld
import Derived.Below
import Derived.SizedLaws
set_option linter.unusedSimpArgs false
set_option linter.unusedVariables false
namespace Go.Unquote
open Go Go.Vm Go.RowKit Go.Proofs
def rho0 : Vm.Loc := fun b => match b with
  | Blk.glob g => some (g, 0)
  | _ => none
theorem call_text {W : World} {a : ByteArray} (ha : a.size ≤ 9223372036854775807) : Calls Try.prog 4 #[.string a] W fun e W' => e = .returned (.bool true) ∧ Below W.heap.size W W' := by
  have h := lawUnquote (bytesL a) (fun b hb => by
    unfold bytesL at hb
    obtain ⟨x, _, rfl⟩ := List.mem_map.1 hb
    have := x.toNat_lt
    omega)
  unfold CallA at h
  refine (h rho0 W [.string a] ⟨fun e he => by simp at he, fun e he => by simp at he, fun e he => by simp at he, .nil, fun g => ⟨0, rfl⟩, fun e he => by simp at he⟩ ⟨_, [], rfl, ⟨a, rfl, rfl, ha⟩, rfl⟩ ⟨trivial, trivial⟩).mono ?_
  rintro e W' ⟨v, r', H', ρ', rfl, ⟨_, _, rfl, rfl⟩, hv, _, ha⟩
  have hv : r' = .bool true := hv
  subst hv
  refine ⟨rfl, ha.os, ha.tape, ha.output, ha.size, fun k hk => ha.frame k hk ?_⟩
  rintro ⟨e, he, hrw, _⟩
  simp at he
end Go.Unquote
namespace Go.Proofs.Ytfndendpfahbcaa.fnExactUnquote
open Go.ChangeShapes Go.WideShapes Go.ChangeAt Go.RowKit
open Go.ChangeMaps (open_string shut_string)
set_option linter.unusedVariables false
theorem own : ownKnob Try.prog.godebug = none := by kernel_rfl
theorem laidOut : laidOutB Try.prog = true := by kernel_rfl
set_option maxRecDepth 100000 in
theorem lifted (os : Os) (started : os.Started) (H : Type) (enc : TypeId × Value → H) :
    ReturnsInHanded {} Try.checked os 4 .any (Rows.fnExactUnquoteSpec.pre6 enc Try.prog Try.f4 Rows.fnExactUnquoteRow.domain false) (Rows.fnExactUnquoteSpec.post enc Try.prog Try.f4 false true false false) := by
  refine returnsInHanded_of_change_sized (C := Try.checked) own started (by kernel_rfl) Try.func4
    (ChangeSpec.witness6 (enc := enc) (C := Try.checked) false ⟨#[], #[.string ByteArray.empty], []⟩ 8 (by kernel_rfl) (by kernel_rfl) (by kernel_rfl) (by kernel_rfl)) ?_
  intro W base args ds gs before hval0 hW hcnd hsz0 _
  have hsz : (DataW.weightsEach Try.prog (Try.f4.params.toList ++ Rows.fnExactUnquoteSpec.plain.varTypes Try.prog) (ds ++ gs)).all (· ≤ reachBytes) = true := hsz0
  have hval : ∀ (j : Nat) t v, Try.f4.params[j]? = some t → args[j]? = some v → Value.okWide Try.prog W .any base t v := hval0
  have hW' := hW
  obtain ⟨p, q, hA0, hV, rfl, hfz, hnd⟩ := hW
  have hA : DataW.TrodAll enc Try.prog W 0 (fun _ => true) true Try.f4.params.toList args.toList ds p := hA0
  rw [Try.params4] at hA hval hsz
  obtain ⟨v0, vs0, d0, ds0, p0, q0, hargs, rfl, rfl, h0, r0⟩ := trodAll_cons hA
  obtain ⟨rfl, rfl, rfl⟩ := trodAll_nil r0
  obtain rfl : args = #[v0] := by cases args; simp_all
  obtain ⟨rfl, rfl⟩ := trodVars_none hV
  obtain ⟨a0, rfl, rfl, rfl, y0⟩ := open_string Try.underlying9 (hval 0 9 v0 rfl rfl) h0
  clear hA0 hval0 hsz0 hsz
  refine (Go.Unquote.call_text (Nat.le_trans y0 (by decide))).mono fun e W' ⟨he, bel⟩ => ?_
  subst he
  exact ⟨_, rfl, _, _, _, [], _, [], hW', trodAll_mk1 (shut_bool Try.underlying4 _), (trodAll_cons_mk (shut_string Try.underlying9 y0) trodAll_mk0), rfl, bel.frame _, fun h => by cases h⟩
theorem over : Rows.fnExactUnquoteRow.holds Try.pinned (OpenSpec.ofChange Rows.fnExactUnquoteSpec) :=
  OpenClaim.holds_of_wide 4 Try.f4 rfl rfl rfl rfl rfl rfl rfl ⟨rfl, rfl, rfl, rfl, rfl⟩ rfl rfl rfl rfl rfl (by kernel_rfl) Try.func4 (by kernel_rfl)
    (of_decide_eq_true (by kernel_rfl)) (by unfold Func.isWrapper; first | (rw [if_pos (by decide +kernel)]; kernel_rfl) | (rw [if_neg (by decide +kernel)]; exact ⟨rfl, rfl⟩))
    (fun os started H enc _ => lifted os started H enc)
theorem proved : Rows.FnExactUnquoteSaid := over
#print axioms proved
end Go.Proofs.Ytfndendpfahbcaa.fnExactUnquote
namespace Go.Proofs.Ytfndendpfahbcaa
/-- The row, under a short name, for the claim. -/
theorem fnExactUnquote_holds : Rows.FnExactUnquoteSaid := fnExactUnquote.proved
end Go.Proofs.Ytfndendpfahbcaa
