/-
  No cell of these rows narrows 'for every input' (looked for: loops, veiled, ifaces, maps, wideKeys, modest, calm, conditions, laid).
  DERIVED. THE GIVEN ROWS OF THIS SEAT. 8 by the template 'for every input the law returns true; each argument reads behind the call as it read before'; 0 by the template 'total and deterministic' (their statements: YtofeeoknfhekkaaGreatTotals.lean).
  GIVEN WITH THE SEED: the statements are not yours to turn. If you find one false, say at which input.
  Laid BY PROGRAM, IN A SANDBOX (cutbox-rows.mjs): the forced cells as the released guide's own fill.sh prints them over the translation 7029ba65fdeeb218… (all of the seat's roots in one cut). By AI agents, Wed Nov 11 2026. No macro, syntax, notation, axiom, sorry.
-/
import Derived.Test.YtofeeoknfhekkaaGreatChecked
import GoSem.Claim
import GoSem.ClaimJoined
import GoSem.ClaimMapViews
import Derived.JoinedTies
import Derived.KernelRfl
namespace Go.Proofs.YtofeeoknfhekkaaGreat
/- THE CELL 'sum', in the pinned program and in every row, IS THE sha256 OF THE DUMP (.gsa) THAT YtofeeoknfhekkaaGreatProg.lean LOADS. Nothing in Lean hashes anything: it is a label: what it is worth is what the hold of that sum in a sandbox is worth. -/
noncomputable def Tryz.pinned : Pinned := { name := "ytofeeoknfhekkaagreat", sum := "7029ba65fdeeb218c340d5ea4509c768d56b707147c0527f61f95f7edaf0469e", checked := Tryz.checked }
namespace Rows
def none {H : Type} : Left H := { results := [], args := [] }

/-- 'laws.FnExactLoadMux': WHATEVER THE INPUT: true; the input reads as it did. -/
def fnExactLoadMuxSpec : ChangeSpec := { name := "fnExactLoadMux", fn := fun _ => fun
  | [d1, d2, d3] => { results := [.lit (.bool true)], args := [d1, d2, d3] }
  | _ => none }
def fnExactLoadMuxRow : OpenClaim := { program := "ytofeeoknfhekkaagreat", sum := "7029ba65fdeeb218c340d5ea4509c768d56b707147c0527f61f95f7edaf0469e", func := "loop.example/g00523/laws.FnExactLoadMux", spec := "fnExactLoadMux", unfollowed := true, recurses := true, apart := false }
def FnExactLoadMuxSaid : Prop := fnExactLoadMuxRow.holds Tryz.pinned (OpenSpec.ofChange fnExactLoadMuxSpec)

/-- ITS FALSE NEIGHBOUR: 'it returns false'. Refute it at one input. -/
def fnExactLoadMuxWrong : ChangeSpec := { name := "fnExactLoadMux", fn := fun _ => fun
  | [d1, d2, d3] => { results := [.lit (.bool false)], args := [d1, d2, d3] }
  | _ => none }
def FnExactLoadMuxWrongFalsely : Prop := fnExactLoadMuxRow.holds Tryz.pinned (OpenSpec.ofChange fnExactLoadMuxWrong)

/-- 'laws.FnExactAnswerMux': WHATEVER THE INPUT: true; the input reads as it did. -/
def fnExactAnswerMuxSpec : ChangeSpec := { name := "fnExactAnswerMux", fn := fun _ => fun
  | [d1, d2] => { results := [.lit (.bool true)], args := [d1, d2] }
  | _ => none }
def fnExactAnswerMuxRow : OpenClaim := { program := "ytofeeoknfhekkaagreat", sum := "7029ba65fdeeb218c340d5ea4509c768d56b707147c0527f61f95f7edaf0469e", func := "loop.example/g00523/laws.FnExactAnswerMux", spec := "fnExactAnswerMux", unfollowed := true, recurses := true, apart := false }
def FnExactAnswerMuxSaid : Prop := fnExactAnswerMuxRow.holds Tryz.pinned (OpenSpec.ofChange fnExactAnswerMuxSpec)

/-- ITS FALSE NEIGHBOUR: 'it returns false'. Refute it at one input. -/
def fnExactAnswerMuxWrong : ChangeSpec := { name := "fnExactAnswerMux", fn := fun _ => fun
  | [d1, d2] => { results := [.lit (.bool false)], args := [d1, d2] }
  | _ => none }
def FnExactAnswerMuxWrongFalsely : Prop := fnExactAnswerMuxRow.holds Tryz.pinned (OpenSpec.ofChange fnExactAnswerMuxWrong)

/-- 'laws.FnExactPoliteMux': WHATEVER THE INPUT: true; the input reads as it did. -/
def fnExactPoliteMuxSpec : ChangeSpec := { name := "fnExactPoliteMux", fn := fun _ => fun
  | [d1, d2, d3] => { results := [.lit (.bool true)], args := [d1, d2, d3] }
  | _ => none }
def fnExactPoliteMuxRow : OpenClaim := { program := "ytofeeoknfhekkaagreat", sum := "7029ba65fdeeb218c340d5ea4509c768d56b707147c0527f61f95f7edaf0469e", func := "loop.example/g00523/laws.FnExactPoliteMux", spec := "fnExactPoliteMux", unfollowed := true, recurses := true, apart := false }
def FnExactPoliteMuxSaid : Prop := fnExactPoliteMuxRow.holds Tryz.pinned (OpenSpec.ofChange fnExactPoliteMuxSpec)

/-- ITS FALSE NEIGHBOUR: 'it returns false'. Refute it at one input. -/
def fnExactPoliteMuxWrong : ChangeSpec := { name := "fnExactPoliteMux", fn := fun _ => fun
  | [d1, d2, d3] => { results := [.lit (.bool false)], args := [d1, d2, d3] }
  | _ => none }
def FnExactPoliteMuxWrongFalsely : Prop := fnExactPoliteMuxRow.holds Tryz.pinned (OpenSpec.ofChange fnExactPoliteMuxWrong)

/-- 'laws.FnExactSwitchMux': WHATEVER THE INPUT: true; the input reads as it did. -/
def fnExactSwitchMuxSpec : ChangeSpec := { name := "fnExactSwitchMux", fn := fun _ => fun
  | [d1, d2] => { results := [.lit (.bool true)], args := [d1, d2] }
  | _ => none }
def fnExactSwitchMuxRow : OpenClaim := { program := "ytofeeoknfhekkaagreat", sum := "7029ba65fdeeb218c340d5ea4509c768d56b707147c0527f61f95f7edaf0469e", func := "loop.example/g00523/laws.FnExactSwitchMux", spec := "fnExactSwitchMux", unfollowed := true, recurses := true, apart := false }
def FnExactSwitchMuxSaid : Prop := fnExactSwitchMuxRow.holds Tryz.pinned (OpenSpec.ofChange fnExactSwitchMuxSpec)

/-- ITS FALSE NEIGHBOUR: 'it returns false'. Refute it at one input. -/
def fnExactSwitchMuxWrong : ChangeSpec := { name := "fnExactSwitchMux", fn := fun _ => fun
  | [d1, d2] => { results := [.lit (.bool false)], args := [d1, d2] }
  | _ => none }
def FnExactSwitchMuxWrongFalsely : Prop := fnExactSwitchMuxRow.holds Tryz.pinned (OpenSpec.ofChange fnExactSwitchMuxWrong)

/-- 'laws.FnExactSetMux': WHATEVER THE INPUT: true; the input reads as it did. -/
def fnExactSetMuxSpec : ChangeSpec := { name := "fnExactSetMux", fn := fun _ => fun
  | [d1, d2, d3] => { results := [.lit (.bool true)], args := [d1, d2, d3] }
  | _ => none }
def fnExactSetMuxRow : OpenClaim := { program := "ytofeeoknfhekkaagreat", sum := "7029ba65fdeeb218c340d5ea4509c768d56b707147c0527f61f95f7edaf0469e", func := "loop.example/g00523/laws.FnExactSetMux", spec := "fnExactSetMux", unfollowed := true, recurses := true, apart := false }
def FnExactSetMuxSaid : Prop := fnExactSetMuxRow.holds Tryz.pinned (OpenSpec.ofChange fnExactSetMuxSpec)

/-- ITS FALSE NEIGHBOUR: 'it returns false'. Refute it at one input. -/
def fnExactSetMuxWrong : ChangeSpec := { name := "fnExactSetMux", fn := fun _ => fun
  | [d1, d2, d3] => { results := [.lit (.bool false)], args := [d1, d2, d3] }
  | _ => none }
def FnExactSetMuxWrongFalsely : Prop := fnExactSetMuxRow.holds Tryz.pinned (OpenSpec.ofChange fnExactSetMuxWrong)

/-- 'laws.FnSwitches': WHATEVER THE INPUT: true; the input reads as it did. -/
def fnSwitchesSpec : ChangeSpec := { name := "fnSwitches", fn := fun _ => fun
  | [d] => { results := [.lit (.bool true)], args := [d] }
  | _ => none }
def fnSwitchesRow : OpenClaim := { program := "ytofeeoknfhekkaagreat", sum := "7029ba65fdeeb218c340d5ea4509c768d56b707147c0527f61f95f7edaf0469e", func := "loop.example/g00523/laws.FnSwitches", spec := "fnSwitches", unfollowed := true, recurses := true, apart := false }
def FnSwitchesSaid : Prop := fnSwitchesRow.holds Tryz.pinned (OpenSpec.ofChange fnSwitchesSpec)

/-- ITS FALSE NEIGHBOUR: 'it returns false'. Refute it at one input. -/
def fnSwitchesWrong : ChangeSpec := { name := "fnSwitches", fn := fun _ => fun
  | [d] => { results := [.lit (.bool false)], args := [d] }
  | _ => none }
def FnSwitchesWrongFalsely : Prop := fnSwitchesRow.holds Tryz.pinned (OpenSpec.ofChange fnSwitchesWrong)

/-- 'laws.FnExactAddConsole': WHATEVER THE INPUT: true; the input reads as it did. -/
def fnExactAddConsoleSpec : ChangeSpec := { name := "fnExactAddConsole", fn := fun _ => fun
  | [d1, d2, d3] => { results := [.lit (.bool true)], args := [d1, d2, d3] }
  | _ => none }
def fnExactAddConsoleRow : OpenClaim := { program := "ytofeeoknfhekkaagreat", sum := "7029ba65fdeeb218c340d5ea4509c768d56b707147c0527f61f95f7edaf0469e", func := "loop.example/g00523/laws.FnExactAddConsole", spec := "fnExactAddConsole", unfollowed := true, recurses := true, apart := false }
def FnExactAddConsoleSaid : Prop := fnExactAddConsoleRow.holds Tryz.pinned (OpenSpec.ofChange fnExactAddConsoleSpec)

/-- ITS FALSE NEIGHBOUR: 'it returns false'. Refute it at one input. -/
def fnExactAddConsoleWrong : ChangeSpec := { name := "fnExactAddConsole", fn := fun _ => fun
  | [d1, d2, d3] => { results := [.lit (.bool false)], args := [d1, d2, d3] }
  | _ => none }
def FnExactAddConsoleWrongFalsely : Prop := fnExactAddConsoleRow.holds Tryz.pinned (OpenSpec.ofChange fnExactAddConsoleWrong)

/-- 'laws.FnExactReadMux': WHATEVER THE INPUT: true; the input reads as it did. -/
def fnExactReadMuxSpec : ChangeSpec := { name := "fnExactReadMux", fn := fun _ => fun
  | [d1, d2, d3] => { results := [.lit (.bool true)], args := [d1, d2, d3] }
  | _ => none }
def fnExactReadMuxRow : OpenClaim := { program := "ytofeeoknfhekkaagreat", sum := "7029ba65fdeeb218c340d5ea4509c768d56b707147c0527f61f95f7edaf0469e", func := "loop.example/g00523/laws.FnExactReadMux", spec := "fnExactReadMux", unfollowed := true, recurses := true, apart := false }
def FnExactReadMuxSaid : Prop := fnExactReadMuxRow.holds Tryz.pinned (OpenSpec.ofChange fnExactReadMuxSpec)

/-- ITS FALSE NEIGHBOUR: 'it returns false'. Refute it at one input. -/
def fnExactReadMuxWrong : ChangeSpec := { name := "fnExactReadMux", fn := fun _ => fun
  | [d1, d2, d3] => { results := [.lit (.bool false)], args := [d1, d2, d3] }
  | _ => none }
def FnExactReadMuxWrongFalsely : Prop := fnExactReadMuxRow.holds Tryz.pinned (OpenSpec.ofChange fnExactReadMuxWrong)

/- THE SECOND FORM. 'bulk': how many values and letters a reading holds, each counted each time it is reached (what is shared counts as often as it is met; a slice's spare places count too). A statement '..UptoSaid' is the law's where the arguments, and the package variables that the reading takes, are together of bulk at most 1048576: NARROWER than '..Said'. Prove '..Said' where nothing that the law and all that it calls make is longer than what came in: it says more and counts as full. Else prove '..UptoSaid'. A law counts once. -/
mutual
def uptoBulk {H : Type} : DataW H → Nat
  | .lit (.string bytes) => bytes.length + 1
  | .lit _ => 1
  | .nil => 1
  | .ptr d => uptoBulk d + 1
  | .slice elems spare => uptoBulkAll elems + uptoBulkAll spare + 1
  | .agg parts => uptoBulkAll parts + 1
  | .iface _ d => uptoBulk d + 1
  | .map entries => uptoBulkEntries entries + 1
  | .held _ => 1
def uptoBulkAll {H : Type} : List (DataW H) → Nat
  | [] => 0
  | d :: r => uptoBulk d + uptoBulkAll r
def uptoBulkEntries {H : Type} : List (Lit × DataW H) → Nat
  | [] => 0
  | x :: r => uptoBulkEntry x + uptoBulkEntries r
def uptoBulkEntry {H : Type} : Lit × DataW H → Nat
  | (.string bytes, d) => bytes.length + uptoBulk d + 1
  | (_, d) => uptoBulk d + 1
 end
def uptoSmall : (H : Type) → List (DataW H) → Bool := fun _ ds => decide (uptoBulkAll ds ≤ 1048576)
def OpenSpec.upto (s : _root_.Go.ChangeSpec) : _root_.Go.OpenSpec := { _root_.Go.OpenSpec.ofChange s with cond := some uptoSmall }

/-- 'laws.FnExactLoadMux', WHERE WHAT IT READS IS OF BULK AT MOST 1048576: true; the input reads as it did. -/
def fnExactLoadMuxUptoRow : OpenClaim := { program := "ytofeeoknfhekkaagreat", sum := "7029ba65fdeeb218c340d5ea4509c768d56b707147c0527f61f95f7edaf0469e", func := "loop.example/g00523/laws.FnExactLoadMux", spec := "fnExactLoadMux", unfollowed := true, recurses := true, apart := false, narrowed := true }
def FnExactLoadMuxUptoSaid : Prop := fnExactLoadMuxUptoRow.holds Tryz.pinned (OpenSpec.upto fnExactLoadMuxSpec)

/-- 'laws.FnExactAnswerMux', WHERE WHAT IT READS IS OF BULK AT MOST 1048576: true; the input reads as it did. -/
def fnExactAnswerMuxUptoRow : OpenClaim := { program := "ytofeeoknfhekkaagreat", sum := "7029ba65fdeeb218c340d5ea4509c768d56b707147c0527f61f95f7edaf0469e", func := "loop.example/g00523/laws.FnExactAnswerMux", spec := "fnExactAnswerMux", unfollowed := true, recurses := true, apart := false, narrowed := true }
def FnExactAnswerMuxUptoSaid : Prop := fnExactAnswerMuxUptoRow.holds Tryz.pinned (OpenSpec.upto fnExactAnswerMuxSpec)

/-- 'laws.FnExactPoliteMux', WHERE WHAT IT READS IS OF BULK AT MOST 1048576: true; the input reads as it did. -/
def fnExactPoliteMuxUptoRow : OpenClaim := { program := "ytofeeoknfhekkaagreat", sum := "7029ba65fdeeb218c340d5ea4509c768d56b707147c0527f61f95f7edaf0469e", func := "loop.example/g00523/laws.FnExactPoliteMux", spec := "fnExactPoliteMux", unfollowed := true, recurses := true, apart := false, narrowed := true }
def FnExactPoliteMuxUptoSaid : Prop := fnExactPoliteMuxUptoRow.holds Tryz.pinned (OpenSpec.upto fnExactPoliteMuxSpec)

/-- 'laws.FnExactSwitchMux', WHERE WHAT IT READS IS OF BULK AT MOST 1048576: true; the input reads as it did. -/
def fnExactSwitchMuxUptoRow : OpenClaim := { program := "ytofeeoknfhekkaagreat", sum := "7029ba65fdeeb218c340d5ea4509c768d56b707147c0527f61f95f7edaf0469e", func := "loop.example/g00523/laws.FnExactSwitchMux", spec := "fnExactSwitchMux", unfollowed := true, recurses := true, apart := false, narrowed := true }
def FnExactSwitchMuxUptoSaid : Prop := fnExactSwitchMuxUptoRow.holds Tryz.pinned (OpenSpec.upto fnExactSwitchMuxSpec)

/-- 'laws.FnExactSetMux', WHERE WHAT IT READS IS OF BULK AT MOST 1048576: true; the input reads as it did. -/
def fnExactSetMuxUptoRow : OpenClaim := { program := "ytofeeoknfhekkaagreat", sum := "7029ba65fdeeb218c340d5ea4509c768d56b707147c0527f61f95f7edaf0469e", func := "loop.example/g00523/laws.FnExactSetMux", spec := "fnExactSetMux", unfollowed := true, recurses := true, apart := false, narrowed := true }
def FnExactSetMuxUptoSaid : Prop := fnExactSetMuxUptoRow.holds Tryz.pinned (OpenSpec.upto fnExactSetMuxSpec)

/-- 'laws.FnSwitches', WHERE WHAT IT READS IS OF BULK AT MOST 1048576: true; the input reads as it did. -/
def fnSwitchesUptoRow : OpenClaim := { program := "ytofeeoknfhekkaagreat", sum := "7029ba65fdeeb218c340d5ea4509c768d56b707147c0527f61f95f7edaf0469e", func := "loop.example/g00523/laws.FnSwitches", spec := "fnSwitches", unfollowed := true, recurses := true, apart := false, narrowed := true }
def FnSwitchesUptoSaid : Prop := fnSwitchesUptoRow.holds Tryz.pinned (OpenSpec.upto fnSwitchesSpec)

/-- 'laws.FnExactAddConsole', WHERE WHAT IT READS IS OF BULK AT MOST 1048576: true; the input reads as it did. -/
def fnExactAddConsoleUptoRow : OpenClaim := { program := "ytofeeoknfhekkaagreat", sum := "7029ba65fdeeb218c340d5ea4509c768d56b707147c0527f61f95f7edaf0469e", func := "loop.example/g00523/laws.FnExactAddConsole", spec := "fnExactAddConsole", unfollowed := true, recurses := true, apart := false, narrowed := true }
def FnExactAddConsoleUptoSaid : Prop := fnExactAddConsoleUptoRow.holds Tryz.pinned (OpenSpec.upto fnExactAddConsoleSpec)

/-- 'laws.FnExactReadMux', WHERE WHAT IT READS IS OF BULK AT MOST 1048576: true; the input reads as it did. -/
def fnExactReadMuxUptoRow : OpenClaim := { program := "ytofeeoknfhekkaagreat", sum := "7029ba65fdeeb218c340d5ea4509c768d56b707147c0527f61f95f7edaf0469e", func := "loop.example/g00523/laws.FnExactReadMux", spec := "fnExactReadMux", unfollowed := true, recurses := true, apart := false, narrowed := true }
def FnExactReadMuxUptoSaid : Prop := fnExactReadMuxUptoRow.holds Tryz.pinned (OpenSpec.upto fnExactReadMuxSpec)

end Rows
end Go.Proofs.YtofeeoknfhekkaaGreat
