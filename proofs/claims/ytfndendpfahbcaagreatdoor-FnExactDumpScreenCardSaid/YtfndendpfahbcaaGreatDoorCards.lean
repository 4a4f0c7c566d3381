/-
  DERIVED. GIVEN WITH THE SEED: THE CARDS: each row of YtfndendpfahbcaaGreatDoorRows.lean that lists a variable, with what it lists TIED to the program's text (the seventh form; the later family's looks); each row that meets fmt, with fmt's text TOLD by the authors' own Lean function (tested against real Go, not proved from fmt's source: count such statements apart). THE CARD IS WHAT COUNTS. Prove the row's statement (the work); the ties are given (YtfndendpfahbcaaGreatDoorTie.lean); close each card by the builder's one call (the guide's Derived/Test/ToyasCard.lean, 'card_holds'). Laid BY PROGRAM, IN A SANDBOX (cutbox-door.mjs). By AI agents, Wed Nov 11 2026. No macro, syntax, notation, axiom, sorry.
-/
import Derived.Test.YtfndendpfahbcaaGreatDoorRows
import GoSem.ClaimSeven
namespace Go.Proofs.YtfndendpfahbcaaGreatDoor
namespace Rows

/-- THE TIED CARD OF 'laws.FnExactDumpScreen'. -/
def fnExactDumpScreenCard : Claim7 := { stood := { row := fnExactDumpScreenRow, standIns := [], harness := (true, "a0100d472f7b8ff5016bd9cc5e1ba58199fdb07face45d23e15bd9354d1d5108"), looks := false }, kinds := [], alts := [], laidByText := true, laidKinds := [.data, .data, .data], laidTests := true, laidLooks := .later }
def FnExactDumpScreenCardSaid : Prop := Claim7.holds Tryz.pinned (.plain (OpenSpec.ofChange fnExactDumpScreenSpec)) fnExactDumpScreenCard

/-- THE SECOND FORM's CARD OF 'laws.FnExactDumpScreen'. -/
def fnExactDumpScreenUptoCard : Claim7 := { stood := { row := fnExactDumpScreenUptoRow, standIns := [], harness := (true, "a0100d472f7b8ff5016bd9cc5e1ba58199fdb07face45d23e15bd9354d1d5108"), looks := false }, kinds := [], alts := [], laidByText := true, laidKinds := [.data, .data, .data], laidTests := true, laidLooks := .later }
def FnExactDumpScreenUptoCardSaid : Prop := Claim7.holds Tryz.pinned (.plain (OpenSpec.upto fnExactDumpScreenSpec)) fnExactDumpScreenUptoCard
end Rows
end Go.Proofs.YtfndendpfahbcaaGreatDoor
