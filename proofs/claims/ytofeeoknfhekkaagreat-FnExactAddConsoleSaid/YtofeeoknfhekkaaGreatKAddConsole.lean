/- The law FnExactAddConsole: its row and its card. -/
import Derived.Test.YtofeeoknfhekkaaGreatT18
import Derived.Test.YtofeeoknfhekkaaGreatO1
import Derived.Test.YtofeeoknfhekkaaGreatJA
import Derived.Test.YtofeeoknfhekkaaGreatJB
import Derived.Test.YtofeeoknfhekkaaGreatJC
import Derived.Test.YtofeeoknfhekkaaGreatJD
import Derived.Test.YtofeeoknfhekkaaGreatRows
import Derived.WalkKit
import Derived.ProofKit
import Derived.OpenShut
import Derived.ShutString
import Derived.ChangeOld
import Derived.Below
import Derived.SizedLaws
set_option linter.unusedSimpArgs false
set_option linter.unusedVariables false
set_option linter.constructorNameAsVariable false
namespace Go.Proofs.YtofeeoknfhekkaaGreat.fnExactAddConsole
open Go Go.Vm Go.Mu
open Go.ChangeShapes Go.WideShapes Go.ChangeAt Go.RowKit
open Go.ChangeMaps (open_string shut_string)
set_option linter.unusedVariables false
set_option linter.unusedSimpArgs false
theorem own : ownKnob Tryz.prog.godebug = none := by kernel_rfl
theorem laidOut : laidOutB Tryz.prog = true := factLaidOut
theorem okNest {x : NestAny} (h : ∃ T, S.nest T = some x) (xs : List x.α) : ContOk S (.nest x.m x.d x.cells x.s x.sub xs none) := by
  obtain ⟨T, h⟩ := h
  exact ⟨⟨T, (hS.nest _ _ h).1⟩, (hS.nest _ _ h).2⟩
theorem agg_ofMux {W : World} {base : Nat} {v : Value} (h : Value.okWide Tryz.prog W .any base 30 v) : ∃ cs, v = .agg cs := by
  cases v <;> simp [Value.okWide, Cell.okWide, Tryz.underlying30, Cell.ok] at h
  exact ⟨_, rfl⟩
set_option maxRecDepth 100000 in
theorem lifted (os : Os) (started : os.Started) (H : Type) (enc : TypeId × Value → H) :
    ReturnsInHanded {} Tryz.checked os 9 .any (Rows.fnExactAddConsoleSpec.pre6 enc Tryz.prog Tryz.f9 Rows.fnExactAddConsoleRow.domain false) (Rows.fnExactAddConsoleSpec.post enc Tryz.prog Tryz.f9 false true false false) := by
  refine returnsInHanded_of_change_sized (C := Tryz.checked) own started (by kernel_rfl) Tryz.func9
    (ChangeSpec.witness6 (enc := enc) (C := Tryz.checked) false ⟨#[], #[.agg #[.slice none 0 0, .slice none 0 0, .int .i64 0, .int .i64 0, .int .i64 0, .slice none 0 0, .slice none 0 0, .slice none 0 0, .bool false, .int .i64 0], .int .i64 0, .int .i64 0], []⟩ 8 (by kernel_rfl) (by kernel_rfl) (by kernel_rfl) (by kernel_rfl)) ?_
  intro W base args ds gs before hval0 hW hcnd hsz0 _
  have hval : ∀ (j : Nat) t v, Tryz.f9.params[j]? = some t → args[j]? = some v → Value.okWide Tryz.prog W .any base t v := hval0
  have hW' := hW
  obtain ⟨p, q, hA0, hV, rfl, _, _⟩ := hW
  have hA : DataW.TrodAll enc Tryz.prog W 0 (fun _ => true) true Tryz.f9.params.toList args.toList ds p := hA0
  rw [Tryz.params9] at hA hval
  obtain ⟨v0, vs0, d0, ds0, p0, z0, hargs0, rfl, rfl, h0, r0⟩ := trodAll_cons hA
  obtain ⟨v1, vs1, d1, ds1, p1, z1, hargs1, rfl, rfl, h1, r1⟩ := trodAll_cons r0
  obtain ⟨v2, vs2, d2, ds2, p2, z2, hargs2, rfl, rfl, h2, r2⟩ := trodAll_cons r1
  subst hargs1
  subst hargs2
  obtain ⟨rfl, rfl, rfl⟩ := trodAll_nil r2
  obtain rfl : args = #[v0, v1, v2] := by cases args; simp_all
  obtain ⟨rfl, rfl⟩ := trodVars_none hV
  have k0 := h0
  have lt0 : ∀ x ∈ p0, x.block < W.heap.size := by obtain ⟨m, hm⟩ := k0; exact DataW.trod_lt m _ _ _ hm
  have k1 := h1
  have lt1 : ∀ x ∈ p1, x.block < W.heap.size := by obtain ⟨m, hm⟩ := k1; exact DataW.trod_lt m _ _ _ hm
  have k2 := h2
  have lt2 : ∀ x ∈ p2, x.block < W.heap.size := by obtain ⟨m, hm⟩ := k2; exact DataW.trod_lt m _ _ _ hm
  obtain ⟨cs0, rfl⟩ := agg_ofMux (hval 0 30 v0 rfl rfl)
  obtain ⟨fuel0, hf0⟩ := h0
  obtain ⟨s0, q0, q1, q2, q3, q4, o0⟩ := open_mux hf0
  obtain ⟨n1, rfl, _, _, wf1⟩ := open_int Tryz.underlying2 (hval 1 2 v1 rfl rfl) h1
  obtain ⟨n2, rfl, _, _, wf2⟩ := open_int Tryz.underlying2 (hval 2 2 v2 rfl rfl) h2
  have x0 := o0 (argLoc [q0, q1, q2, q3, q4]) (.loc 0) (.loc 1) (.loc 2) (.loc 3) (.loc 4) (argLoc_at _ 0) (argLoc_at _ 1) (argLoc_at _ 2) (argLoc_at _ 3) (argLoc_at _ 4)
  obtain ⟨y0, g0, g1, g2, g3, g4⟩ := x0
  have hcall := call_ro (l := [q0, q1, q2, q3, q4]) (W := W) (es := [⟨.loc 0, false, consN s0.cons⟩, ⟨.loc 1, false, .arr boolE s0.polite⟩, ⟨.loc 2, false, .arr quadE s0.binds⟩, ⟨.loc 3, false, .arr strE s0.texts⟩, ⟨.loc 4, false, .arr pairE s0.kbd.holds⟩]) (N := 5) (rs := [.agg cs0, .int .i64 n1, .int .i64 n2]) (lawAddConsole s0 n1 n2) ?hl (by simp) ⟨_, _, rfl, ⟨cs0.toList, rfl, y0⟩, ⟨_, _, rfl, rfl, ⟨_, _, rfl, rfl, rfl⟩⟩⟩ ?hlt
  case hl =>
    intro e he
    simp only [List.mem_cons, List.not_mem_nil, or_false] at he
    have hlt : ∀ n, n < 5 → Blk.lt 5 (.loc n) := fun n hn m hm => by simp [Blk.root] at hm; omega
    rcases he with rfl | rfl | rfl | rfl | rfl
    · exact ⟨rfl, by first | trivial | rfl, okNest hint_conN _, g0, hlt _ (by decide), trivial⟩
    · exact ⟨rfl, by first | trivial | rfl, ⟨_, ok4⟩, g1, hlt _ (by decide), trivial⟩
    · exact ⟨rfl, by first | trivial | rfl, ⟨_, ok95⟩, g2, hlt _ (by decide), trivial⟩
    · exact ⟨rfl, by first | trivial | rfl, ⟨_, ok9⟩, g3, hlt _ (by decide), trivial⟩
    · exact ⟨rfl, by first | trivial | rfl, ⟨_, ok225⟩, g4, hlt _ (by decide), trivial⟩
  case hlt =>
    have hlt : ∀ n, n < 5 → Blk.lt 5 (.loc n) := fun n hn m hm => by simp [Blk.root] at hm; omega
    repeat' (first | exact trivial | exact hlt _ (by decide) | apply And.intro)
  refine hcall.mono fun e W' ⟨he, bel⟩ => ?_
  subst he
  exact ⟨_, rfl, _, _, _, [], _, [], hW', trodAll_mk1 (shut_bool Tryz.underlying4 _), (trodAll_cons_mk (Below.trod laidOut (by kernel_rfl) (of_decide_eq_true (by kernel_rfl)) k0 bel lt0) (trodAll_cons_mk (Below.trod laidOut (by kernel_rfl) (of_decide_eq_true (by kernel_rfl)) k1 bel lt1) (trodAll_cons_mk (Below.trod laidOut (by kernel_rfl) (of_decide_eq_true (by kernel_rfl)) k2 bel lt2) trodAll_mk0))), rfl, bel.frame _, fun h => by cases h⟩
theorem closed10 : (Rows.fnExactAddConsoleRow.inPlace == Tryz.pinned.checked.prog.inPlace 9) = true := by kernel_rfl
theorem closed11 : (Rows.fnExactAddConsoleRow.unfollowed == Tryz.pinned.checked.prog.unfollowed 9) = true := by kernel_rfl
theorem closed12 : (Rows.fnExactAddConsoleRow.recurses == Tryz.pinned.checked.prog.recurses 9) = true := by kernel_rfl
theorem closed13 : (Rows.fnExactAddConsoleRow.named == Tryz.pinned.checked.prog.varsNamed 9) = true := by kernel_rfl
theorem closed : joinedFacts Tryz.pinned.checked.prog 9 Tryz.f9 Rows.fnExactAddConsoleSpec Rows.fnExactAddConsoleRow = true :=
  and_mk (and_mk (and_mk (and_mk (and_mk (and_mk (and_mk (and_mk (and_mk (and_mk (and_mk (and_mk (and_mk (and_mk (and_mk (and_mk (and_mk (and_mk (and_mk (and_mk (and_mk (and_mk (and_mk (and_mk (and_mk (and_mk (and_mk (and_mk (and_mk (and_mk (and_mk ((by kernel_rfl)) factLaidOut) factMapsRowed) (by kernel_rfl)) (by kernel_rfl)) (by kernel_rfl)) factStops) (by kernel_rfl)) factStopKnobs) closed10) closed11) closed12) closed13) (by kernel_rfl)) (by kernel_rfl)) (by kernel_rfl)) (by kernel_rfl)) (by kernel_rfl)) (by kernel_rfl)) (by kernel_rfl)) (by kernel_rfl)) (by kernel_rfl)) (by kernel_rfl)) (by kernel_rfl)) factHeard) factMay) factLift) factMake) (by kernel_rfl)) (by kernel_rfl)) (by kernel_rfl)) (by kernel_rfl)
theorem over : Rows.FnExactAddConsoleSaid :=
  OpenClaim.holds_of_wide 9 Tryz.f9 rfl rfl rfl rfl rfl rfl rfl ⟨rfl, rfl, rfl, rfl, rfl⟩ rfl rfl rfl rfl rfl (by kernel_rfl) Tryz.func9 closed
    (of_decide_eq_true (by kernel_rfl)) (by unfold Func.isWrapper; first | (rw [if_pos (by decide +kernel)]; kernel_rfl) | (rw [if_neg (by decide +kernel)]; exact ⟨rfl, rfl⟩))
    (fun os started H enc _ => lifted os started H enc)
theorem proved : Rows.FnExactAddConsoleSaid := over
#print axioms proved
end Go.Proofs.YtofeeoknfhekkaaGreat.fnExactAddConsole
namespace Go.Proofs.YtofeeoknfhekkaaGreat
/-- The row, under a short name, for the claim. -/
theorem fnExactAddConsole_holds : Rows.FnExactAddConsoleSaid := fnExactAddConsole.proved
end Go.Proofs.YtofeeoknfhekkaaGreat
