/- Bounds of data out of their sizes. -/
import Derived.Test.YtofeeoknfhekkaaGreatLA
set_option linter.unusedSimpArgs false
set_option linter.unusedVariables false
set_option linter.constructorNameAsVariable false
namespace Go.Mu
open Go Go.Vm Go.RowKit Go.Proofs
theorem sumC_mem {α : Type} {cnt : α → Nat} : ∀ {xs : List α} {x : α}, x ∈ xs → cnt x ≤ sumC cnt xs
  | y :: r, x, h => by
    simp only [sumC]
    rcases List.mem_cons.1 h with rfl | h
    · omega
    · have := sumC_mem (cnt := cnt) h; omega
theorem conB_of {s : Con} (h : szC s ≤ 1048576) : ConB s := by
  unfold szC at h
  exact ⟨⟨⟨by omega⟩, ⟨⟨by omega, by omega⟩, by omega, by omega⟩⟩, ⟨by omega, by omega, by omega⟩⟩
theorem muxB_of {s : Mux} (h : s.cons.length + sumC szC s.cons + s.polite.length + s.binds.length + s.texts.length + sumC List.length s.texts + s.kbd.holds.length ≤ 1048576) : MuxB s :=
  ⟨by omega, ⟨fun x hx => conB_of (by have := sumC_mem (cnt := szC) hx; omega)⟩, by omega, by omega, by omega, by omega, ⟨by omega⟩⟩
end Go.Mu
