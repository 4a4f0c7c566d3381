/-
  DERIVED. GIVEN WITH THE SEED: THE CARDS: each row of YtfndendpfahbcaaDoorRows.lean that lists a variable, with what it lists TIED to the program's text (the seventh form; the later family's looks); each row that meets fmt, with fmt's text TOLD by the authors' own Lean function (tested against real Go, not proved from fmt's source: count such statements apart). THE CARD IS WHAT COUNTS. Prove the row's statement (the work); the ties are given (YtfndendpfahbcaaDoorTie.lean); close each card by the builder's one call (the guide's Derived/Test/ToyasCard.lean, 'card_holds'). Laid BY PROGRAM, IN A SANDBOX (cutbox-door.mjs). By AI agents, Wed Nov 11 2026. No macro, syntax, notation, axiom, sorry.
-/
import Derived.Test.YtfndendpfahbcaaDoorRows
import GoSem.ClaimSeven
namespace Go.Proofs.YtfndendpfahbcaaDoor
namespace Rows

/-- THE TIED CARD OF 'laws.FnExactWordsOf'. -/
def fnExactWordsOfCard : Claim7 := { stood := { row := fnExactWordsOfRow, standIns := [], harness := (true, "ece84de1ba18d02264c833b90c8d83f6216d731c8b1304ad67d5add2637482e9"), looks := false }, kinds := [], alts := [], laidByText := true, laidKinds := [.data, .pinned], laidTests := true, laidLooks := .later }
def FnExactWordsOfCardSaid : Prop := Claim7.holds Tryd.pinned (.plain (OpenSpec.ofChange fnExactWordsOfSpec)) fnExactWordsOfCard

/-- THE TIED CARD OF 'laws.FnExactPressKey'. -/
def fnExactPressKeyCard : Claim7 := { stood := { row := fnExactPressKeyRow, standIns := [], harness := (true, "ece84de1ba18d02264c833b90c8d83f6216d731c8b1304ad67d5add2637482e9"), looks := false }, kinds := [], alts := [], laidByText := true, laidKinds := [.data, .data, .data], laidTests := true, laidLooks := .later }
def FnExactPressKeyCardSaid : Prop := Claim7.holds Tryd.pinned (.plain (OpenSpec.ofChange fnExactPressKeySpec)) fnExactPressKeyCard

/-- THE SECOND FORM's CARD OF 'laws.FnExactWordsOf'. -/
def fnExactWordsOfUptoCard : Claim7 := { stood := { row := fnExactWordsOfUptoRow, standIns := [], harness := (true, "ece84de1ba18d02264c833b90c8d83f6216d731c8b1304ad67d5add2637482e9"), looks := false }, kinds := [], alts := [], laidByText := true, laidKinds := [.data, .pinned], laidTests := true, laidLooks := .later }
def FnExactWordsOfUptoCardSaid : Prop := Claim7.holds Tryd.pinned (.plain (OpenSpec.upto fnExactWordsOfSpec)) fnExactWordsOfUptoCard

/-- THE SECOND FORM's CARD OF 'laws.FnExactPressKey'. -/
def fnExactPressKeyUptoCard : Claim7 := { stood := { row := fnExactPressKeyUptoRow, standIns := [], harness := (true, "ece84de1ba18d02264c833b90c8d83f6216d731c8b1304ad67d5add2637482e9"), looks := false }, kinds := [], alts := [], laidByText := true, laidKinds := [.data, .data, .data], laidTests := true, laidLooks := .later }
def FnExactPressKeyUptoCardSaid : Prop := Claim7.holds Tryd.pinned (.plain (OpenSpec.upto fnExactPressKeySpec)) fnExactPressKeyUptoCard
end Rows
end Go.Proofs.YtfndendpfahbcaaDoor
