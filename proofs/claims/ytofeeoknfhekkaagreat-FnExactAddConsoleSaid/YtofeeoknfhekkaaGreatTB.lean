/- A mux with one more console. -/
import Derived.Test.YtofeeoknfhekkaaGreatTA
import Derived.Test.YtofeeoknfhekkaaGreatC5
import Derived.Test.YtofeeoknfhekkaaGreatN0
set_option linter.unusedSimpArgs false
set_option linter.unusedVariables false
set_option linter.constructorNameAsVariable false
namespace Go.Mu
open Go Go.Vm Go.RowKit Go.Proofs
attribute [local irreducible] wpA opsA stillA drawA drawS
set_option maxRecDepth 20000
set_option maxHeartbeats 40000000
theorem leafT20 {P : Prop} (h : P := by
  first
  | (rw [bytesCon]; omega)
  | exact leaf
  | exact PreC.of_eq rfl
  | rfl
  | exact Bool.false_ne_true
  | exact ⟨rfl, rfl⟩
  | exact PreC.of_eq (by simp)
  | fail) : P := h
noncomputable def addR (s : Mux) (r w : Int) : MuxR := open Classical in
  if muxF s = 0 then (if (1 ≤ r ∧ r ≤ 6) ∧ 2 ≤ w ∧ w ≤ 12 then (if s.cons.length < 3 then ⟨0, false, [], { s with cons := s.cons ++ [newC r.toNat w.toNat], polite := s.polite ++ [false] }⟩ else muxBad 2) else muxBad 3) else muxBad (muxF s)
theorem addR_ok {s : Mux} {r w : Int} (h1 : muxF s = 0) (h2 : (1 ≤ r ∧ r ≤ 6) ∧ 2 ≤ w ∧ w ≤ 12) (h3 : s.cons.length < 3) : addR s r w = ⟨0, false, [], { s with cons := s.cons ++ [newC r.toNat w.toNat], polite := s.polite ++ [false] }⟩ := by unfold addR; rw [if_pos h1, if_pos h2, if_pos h3]
theorem addR_n {s : Mux} {r w : Int} (h1 : muxF s = 0) (h2 : (1 ≤ r ∧ r ≤ 6) ∧ 2 ≤ w ∧ w ≤ 12) (h3 : ¬ s.cons.length < 3) : addR s r w = ⟨2, false, [], mux0⟩ := by unfold addR; rw [if_pos h1, if_pos h2, if_neg h3]
theorem addR_z {s : Mux} {r w : Int} (h1 : muxF s = 0) (h2 : ¬ ((1 ≤ r ∧ r ≤ 6) ∧ 2 ≤ w ∧ w ≤ 12)) : addR s r w = ⟨3, false, [], mux0⟩ := by unfold addR; rw [if_pos h1, if_neg h2]
theorem addR_m {s : Mux} {r w : Int} (h1 : ¬ muxF s = 0) : addR s r w = ⟨muxF s, false, [], mux0⟩ := by unfold addR; rw [if_neg h1]
theorem addR_W {s : Mux} (h : MuxB s) (r w : Int) : MuxRW (addR s r w) := by
  unfold addR
  split
  · rename_i hf
    obtain ⟨h0, h1, h2, h3, h4, h5, h6⟩ := h
    split
    · rename_i hn
      split
      · rename_i hl
        have hp := (muxF_ok hf).1.2
        refine muxRW_few (by simp) ⟨?_, ⟨fun x hx => ?_⟩, ?_, h3, h4, h5, h6⟩ ?_
        · simp only [List.length_append, List.length_cons, List.length_nil]; omega
        · rcases List.mem_append.1 hx with hx | hx
          · exact h1.all x hx
          · rw [List.mem_singleton.1 hx]
            exact newC_B (by omega) (by omega)
        · simp only [List.length_append, List.length_cons, List.length_nil]; omega
        · simp only [List.length_append, List.length_cons, List.length_nil]; omega
      · exact muxBad_W _
    · exact muxBad_W _
  · exact muxBad_W _
end Go.Mu

namespace Go.Mu
open Go Go.Vm Go.RowKit Go.Proofs
attribute [local irreducible] wpA opsA stillA drawA drawS
set_option maxRecDepth 20000
set_option maxHeartbeats 40000000
theorem leafT21 {P : Prop} (h : P := by
  first
  | (rw [bytesCon]; omega)
  | exact leaf
  | exact PreC.of_eq rfl
  | rfl
  | exact Bool.false_ne_true
  | exact ⟨rfl, rfl⟩
  | exact PreC.of_eq (by simp)
  | fail) : P := h
def regAt (id : Nat) : Code → Option (Array Oper)
  | .region i ops _ => if i == id then some ops else none
  | .seq x y => match regAt id x with | some o => some o | none => regAt id y
  | .cond _ x y => match regAt id x with | some o => some o | none => regAt id y
  | .block _ x => regAt id x
  | .loop x => regAt id x
  | _ => none
noncomputable def opsAdd : List Oper := match Tryz.f42.body with
  | some c => match regAt 5 c with | some o => o.toList | none => []
  | none => []
end Go.Mu
