/-
  No cell of these rows narrows 'for every input' (looked for: loops, veiled, ifaces, maps, wideKeys, modest, calm, conditions, laid).
  DERIVED. THE GIVEN ROWS OF THIS SEAT. 5 by the template 'for every input the law returns true; each argument reads behind the call as it read before'; 0 by the template 'total and deterministic' (their statements: YtfjodggmmokaaaaGreatTotals.lean).
  GIVEN WITH THE SEED: the statements are not yours to turn. If you find one false, say at which input.
  Laid BY PROGRAM, IN A SANDBOX (cutbox-rows.mjs): the forced cells as the released guide's own fill.sh prints them over the translation c600296e2d752baa… (all of the seat's roots in one cut). By AI agents, Wed Nov 11 2026. No macro, syntax, notation, axiom, sorry.
-/
import Derived.Test.YtfjodggmmokaaaaGreatChecked
import GoSem.Claim
import GoSem.ClaimJoined
import GoSem.ClaimMapViews
import Derived.JoinedTies
import Derived.KernelRfl
namespace Go.Proofs.YtfjodggmmokaaaaGreat
/- THE CELL 'sum', in the pinned program and in every row, IS THE sha256 OF THE DUMP (.gsa) THAT YtfjodggmmokaaaaGreatProg.lean LOADS. Nothing in Lean hashes anything: it is a label: what it is worth is what the hold of that sum in a sandbox is worth. -/
noncomputable def Tryz.pinned : Pinned := { name := "ytfjodggmmokaaaagreat", sum := "c600296e2d752baae40137e829c7a77b3c3f58acade5d864bac580fd2dc2704b", checked := Tryz.checked }
namespace Rows
def none {H : Type} : Left H := { results := [], args := [] }

/-- 'laws.FnExactDoAction': WHATEVER THE INPUT: true; the input reads as it did. -/
def fnExactDoActionSpec : ChangeSpec := { name := "fnExactDoAction", fn := fun _ => fun
  | [d1, d2] => { results := [.lit (.bool true)], args := [d1, d2] }
  | _ => none }
def fnExactDoActionRow : OpenClaim := { program := "ytfjodggmmokaaaagreat", sum := "c600296e2d752baae40137e829c7a77b3c3f58acade5d864bac580fd2dc2704b", func := "loop.example/g00523/laws.FnExactDoAction", spec := "fnExactDoAction", unfollowed := true, recurses := true, apart := false }
def FnExactDoActionSaid : Prop := fnExactDoActionRow.holds Tryz.pinned (OpenSpec.ofChange fnExactDoActionSpec)

/-- ITS FALSE NEIGHBOUR: 'it returns false'. Refute it at one input. -/
def fnExactDoActionWrong : ChangeSpec := { name := "fnExactDoAction", fn := fun _ => fun
  | [d1, d2] => { results := [.lit (.bool false)], args := [d1, d2] }
  | _ => none }
def FnExactDoActionWrongFalsely : Prop := fnExactDoActionRow.holds Tryz.pinned (OpenSpec.ofChange fnExactDoActionWrong)

/-- 'laws.FnExactWriteVt': WHATEVER THE INPUT: true; the input reads as it did. -/
def fnExactWriteVtSpec : ChangeSpec := { name := "fnExactWriteVt", fn := fun _ => fun
  | [d1, d2] => { results := [.lit (.bool true)], args := [d1, d2] }
  | _ => none }
def fnExactWriteVtRow : OpenClaim := { program := "ytfjodggmmokaaaagreat", sum := "c600296e2d752baae40137e829c7a77b3c3f58acade5d864bac580fd2dc2704b", func := "loop.example/g00523/laws.FnExactWriteVt", spec := "fnExactWriteVt", unfollowed := true, recurses := true, apart := false }
def FnExactWriteVtSaid : Prop := fnExactWriteVtRow.holds Tryz.pinned (OpenSpec.ofChange fnExactWriteVtSpec)

/-- ITS FALSE NEIGHBOUR: 'it returns false'. Refute it at one input. -/
def fnExactWriteVtWrong : ChangeSpec := { name := "fnExactWriteVt", fn := fun _ => fun
  | [d1, d2] => { results := [.lit (.bool false)], args := [d1, d2] }
  | _ => none }
def FnExactWriteVtWrongFalsely : Prop := fnExactWriteVtRow.holds Tryz.pinned (OpenSpec.ofChange fnExactWriteVtWrong)

/-- 'laws.FnExactWriteConsole': WHATEVER THE INPUT: true; the input reads as it did. -/
def fnExactWriteConsoleSpec : ChangeSpec := { name := "fnExactWriteConsole", fn := fun _ => fun
  | [d1, d2] => { results := [.lit (.bool true)], args := [d1, d2] }
  | _ => none }
def fnExactWriteConsoleRow : OpenClaim := { program := "ytfjodggmmokaaaagreat", sum := "c600296e2d752baae40137e829c7a77b3c3f58acade5d864bac580fd2dc2704b", func := "loop.example/g00523/laws.FnExactWriteConsole", spec := "fnExactWriteConsole", unfollowed := true, recurses := true, apart := false }
def FnExactWriteConsoleSaid : Prop := fnExactWriteConsoleRow.holds Tryz.pinned (OpenSpec.ofChange fnExactWriteConsoleSpec)

/-- ITS FALSE NEIGHBOUR: 'it returns false'. Refute it at one input. -/
def fnExactWriteConsoleWrong : ChangeSpec := { name := "fnExactWriteConsole", fn := fun _ => fun
  | [d1, d2] => { results := [.lit (.bool false)], args := [d1, d2] }
  | _ => none }
def FnExactWriteConsoleWrongFalsely : Prop := fnExactWriteConsoleRow.holds Tryz.pinned (OpenSpec.ofChange fnExactWriteConsoleWrong)

/-- 'laws.FnExactTypeConsole': WHATEVER THE INPUT: true; the input reads as it did. -/
def fnExactTypeConsoleSpec : ChangeSpec := { name := "fnExactTypeConsole", fn := fun _ => fun
  | [d1, d2] => { results := [.lit (.bool true)], args := [d1, d2] }
  | _ => none }
def fnExactTypeConsoleRow : OpenClaim := { program := "ytfjodggmmokaaaagreat", sum := "c600296e2d752baae40137e829c7a77b3c3f58acade5d864bac580fd2dc2704b", func := "loop.example/g00523/laws.FnExactTypeConsole", spec := "fnExactTypeConsole", unfollowed := true, recurses := true, apart := false }
def FnExactTypeConsoleSaid : Prop := fnExactTypeConsoleRow.holds Tryz.pinned (OpenSpec.ofChange fnExactTypeConsoleSpec)

/-- ITS FALSE NEIGHBOUR: 'it returns false'. Refute it at one input. -/
def fnExactTypeConsoleWrong : ChangeSpec := { name := "fnExactTypeConsole", fn := fun _ => fun
  | [d1, d2] => { results := [.lit (.bool false)], args := [d1, d2] }
  | _ => none }
def FnExactTypeConsoleWrongFalsely : Prop := fnExactTypeConsoleRow.holds Tryz.pinned (OpenSpec.ofChange fnExactTypeConsoleWrong)

/-- 'laws.FnExactWriteMux': WHATEVER THE INPUT: true; the input reads as it did. -/
def fnExactWriteMuxSpec : ChangeSpec := { name := "fnExactWriteMux", fn := fun _ => fun
  | [d1, d2, d3] => { results := [.lit (.bool true)], args := [d1, d2, d3] }
  | _ => none }
def fnExactWriteMuxRow : OpenClaim := { program := "ytfjodggmmokaaaagreat", sum := "c600296e2d752baae40137e829c7a77b3c3f58acade5d864bac580fd2dc2704b", func := "loop.example/g00523/laws.FnExactWriteMux", spec := "fnExactWriteMux", unfollowed := true, recurses := true, apart := false }
def FnExactWriteMuxSaid : Prop := fnExactWriteMuxRow.holds Tryz.pinned (OpenSpec.ofChange fnExactWriteMuxSpec)

/-- ITS FALSE NEIGHBOUR: 'it returns false'. Refute it at one input. -/
def fnExactWriteMuxWrong : ChangeSpec := { name := "fnExactWriteMux", fn := fun _ => fun
  | [d1, d2, d3] => { results := [.lit (.bool false)], args := [d1, d2, d3] }
  | _ => none }
def FnExactWriteMuxWrongFalsely : Prop := fnExactWriteMuxRow.holds Tryz.pinned (OpenSpec.ofChange fnExactWriteMuxWrong)

/- THE SECOND FORM. 'bulk': how many values and letters a reading holds, each counted each time it is reached (what is shared counts as often as it is met; a slice's spare places count too). A statement '..UptoSaid' is the law's where the arguments, and the package variables that the reading takes, are together of bulk at most 1048576: NARROWER than '..Said'. Prove '..Said' where nothing that the law and all that it calls make is longer than what came in: it says more and counts as full. Else prove '..UptoSaid'. A law counts once. -/
mutual
def uptoBulk {H : Type} : DataW H → Nat
  | .lit (.string bytes) => bytes.length + 1
  | .lit _ => 1
  | .nil => 1
  | .ptr d => uptoBulk d + 1
  | .slice elems spare => uptoBulkAll elems + uptoBulkAll spare + 1
  | .agg parts => uptoBulkAll parts + 1
  | .iface _ d => uptoBulk d + 1
  | .map entries => uptoBulkEntries entries + 1
  | .held _ => 1
def uptoBulkAll {H : Type} : List (DataW H) → Nat
  | [] => 0
  | d :: r => uptoBulk d + uptoBulkAll r
def uptoBulkEntries {H : Type} : List (Lit × DataW H) → Nat
  | [] => 0
  | x :: r => uptoBulkEntry x + uptoBulkEntries r
def uptoBulkEntry {H : Type} : Lit × DataW H → Nat
  | (.string bytes, d) => bytes.length + uptoBulk d + 1
  | (_, d) => uptoBulk d + 1
 end
def uptoSmall : (H : Type) → List (DataW H) → Bool := fun _ ds => decide (uptoBulkAll ds ≤ 1048576)
def OpenSpec.upto (s : _root_.Go.ChangeSpec) : _root_.Go.OpenSpec := { _root_.Go.OpenSpec.ofChange s with cond := some uptoSmall }

/-- 'laws.FnExactDoAction', WHERE WHAT IT READS IS OF BULK AT MOST 1048576: true; the input reads as it did. -/
def fnExactDoActionUptoRow : OpenClaim := { program := "ytfjodggmmokaaaagreat", sum := "c600296e2d752baae40137e829c7a77b3c3f58acade5d864bac580fd2dc2704b", func := "loop.example/g00523/laws.FnExactDoAction", spec := "fnExactDoAction", unfollowed := true, recurses := true, apart := false, narrowed := true }
def FnExactDoActionUptoSaid : Prop := fnExactDoActionUptoRow.holds Tryz.pinned (OpenSpec.upto fnExactDoActionSpec)

/-- 'laws.FnExactWriteVt', WHERE WHAT IT READS IS OF BULK AT MOST 1048576: true; the input reads as it did. -/
def fnExactWriteVtUptoRow : OpenClaim := { program := "ytfjodggmmokaaaagreat", sum := "c600296e2d752baae40137e829c7a77b3c3f58acade5d864bac580fd2dc2704b", func := "loop.example/g00523/laws.FnExactWriteVt", spec := "fnExactWriteVt", unfollowed := true, recurses := true, apart := false, narrowed := true }
def FnExactWriteVtUptoSaid : Prop := fnExactWriteVtUptoRow.holds Tryz.pinned (OpenSpec.upto fnExactWriteVtSpec)

/-- 'laws.FnExactWriteConsole', WHERE WHAT IT READS IS OF BULK AT MOST 1048576: true; the input reads as it did. -/
def fnExactWriteConsoleUptoRow : OpenClaim := { program := "ytfjodggmmokaaaagreat", sum := "c600296e2d752baae40137e829c7a77b3c3f58acade5d864bac580fd2dc2704b", func := "loop.example/g00523/laws.FnExactWriteConsole", spec := "fnExactWriteConsole", unfollowed := true, recurses := true, apart := false, narrowed := true }
def FnExactWriteConsoleUptoSaid : Prop := fnExactWriteConsoleUptoRow.holds Tryz.pinned (OpenSpec.upto fnExactWriteConsoleSpec)

/-- 'laws.FnExactTypeConsole', WHERE WHAT IT READS IS OF BULK AT MOST 1048576: true; the input reads as it did. -/
def fnExactTypeConsoleUptoRow : OpenClaim := { program := "ytfjodggmmokaaaagreat", sum := "c600296e2d752baae40137e829c7a77b3c3f58acade5d864bac580fd2dc2704b", func := "loop.example/g00523/laws.FnExactTypeConsole", spec := "fnExactTypeConsole", unfollowed := true, recurses := true, apart := false, narrowed := true }
def FnExactTypeConsoleUptoSaid : Prop := fnExactTypeConsoleUptoRow.holds Tryz.pinned (OpenSpec.upto fnExactTypeConsoleSpec)

/-- 'laws.FnExactWriteMux', WHERE WHAT IT READS IS OF BULK AT MOST 1048576: true; the input reads as it did. -/
def fnExactWriteMuxUptoRow : OpenClaim := { program := "ytfjodggmmokaaaagreat", sum := "c600296e2d752baae40137e829c7a77b3c3f58acade5d864bac580fd2dc2704b", func := "loop.example/g00523/laws.FnExactWriteMux", spec := "fnExactWriteMux", unfollowed := true, recurses := true, apart := false, narrowed := true }
def FnExactWriteMuxUptoSaid : Prop := fnExactWriteMuxUptoRow.holds Tryz.pinned (OpenSpec.upto fnExactWriteMuxSpec)

end Rows
end Go.Proofs.YtfjodggmmokaaaaGreat
