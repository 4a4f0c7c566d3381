/- The law on dumps: its argument opened, its row and its card. -/
import Derived.Test.YtfndendpfahbcaaGreatDoorD16
import Derived.Test.YtfndendpfahbcaaGreatDoorD17
import Derived.Test.YtfndendpfahbcaaGreatDoorVm31
import Derived.Test.YtfndendpfahbcaaGreatDoorRows
import Derived.Test.YtfndendpfahbcaaGreatDoorCards
import Derived.Test.YtfndendpfahbcaaGreatDoorTie
import Derived.WalkKit
import Derived.ProofKit
import Derived.OpenShut
import Derived.LaidMore
import Derived.Lay
import Derived.SevenTiedAt
import Derived.Stop.Joined
import Derived.ShutString
import Derived.ChangeOld
import Derived.Below
import Derived.SizedLaws
set_option linter.unusedSimpArgs false
set_option linter.unusedVariables false
namespace Go.Dump
open Go Go.Vm Go.RowKit Go.Proofs
attribute [local irreducible] wpA opsA stillA drawA drawS
set_option maxRecDepth 20000
set_option maxHeartbeats 4000000

theorem kc2 : Tryz.prog.cellsOf 2 = 1 := by kernel_rfl
theorem kc4 : Tryz.prog.cellsOf 4 = 1 := by kernel_rfl
theorem kc24 : Tryz.prog.cellsOf 24 = 4 := by kernel_rfl
theorem kc25 : Tryz.prog.cellsOf 25 = 1 := by kernel_rfl
theorem kc26 : Tryz.prog.cellsOf 26 = 1 := by kernel_rfl
theorem kc22 : Tryz.prog.cellsOf 22 = 1 := by kernel_rfl
theorem kc28 : Tryz.prog.cellsOf 28 = 20 := by kernel_rfl
theorem law (s : Scr) : CallA S 3 [.agg [.int .i64 s.rows, .int .i64 s.width, .sl (.loc 0) 2 none s.cells.length, .sl (.loc 1) 2 none s.back.length, .int .i64 s.y, .int .i64 s.x, .prop (s.wrap = true), .int .i64 s.attr, .int .i64 s.top, .int .i64 s.bottom, .prop (s.origin = true), .prop (s.autow = true), .prop (s.insert = true), .sl (.loc 2) 1 none s.tabs.length, .int .i64 s.keptY, .int .i64 s.keptX, .int .i64 s.keptA, .sl (.loc 3) 1 none s.sets.length, .int .i64 s.shift, .int .i64 s.bells]] ⟨[⟨.loc 0, false, .arr pairE s.cells⟩, ⟨.loc 1, false, .arr pairE s.back⟩, ⟨.loc 2, false, .arr boolE s.tabs⟩, ⟨.loc 3, false, .arr (intE .i64) s.sets⟩], 4⟩ fun v H' =>
    ∃ _ : Unit, True ∧ v = .tt ∧ H' = ⟨[], 4⟩ := by
  by_cases hf : scrF s = 0
  · exact lawGood s hf
  · exact lawBad s hf
theorem flatCell {H : Type} : FlatT H Tryz.prog 96 pairE (fun p => (Lit.int .i64 p.1).wf = true ∧ (Lit.int .i64 p.2).wf = true) :=
  flat_pair Tryz.underlying96 (by kernel_rfl) rfl rfl rfl rfl Tryz.underlying2 kc2
theorem okCell : EncOk Tryz.prog 96 pairE := pairE_ok (by kernel_rfl) (by kernel_rfl)
theorem okBool : EncOk Tryz.prog 4 boolE := boolE_ok (by kernel_rfl) (by kernel_rfl)
theorem okInt : EncOk Tryz.prog 2 (intE .i64) := intE_ok (by kernel_rfl) (by kernel_rfl)

theorem open_screen {H : Type} {enc : TypeId × Value → H} {W : World} {base : Nat} {held : Bool} {fuel : Nat} {cs : List Value} {x : DataW H × List MemPlace}
    (h : DataW.trod enc Tryz.prog W base (fun _ => true) held fuel 28 cs = some x) : ∃ (s : Scr) (q0 q1 q2 q3 : Option (Nat × (Nat × Nat))), ∀ (ρ : Vm.Loc) (N : Nat), ρ (.loc 0) = q0 → ρ (.loc 1) = q1 → ρ (.loc 2) = q2 → ρ (.loc 3) = q3 →
      VRels ρ [.int .i64 s.rows, .int .i64 s.width, .sl (.loc 0) 2 none s.cells.length, .sl (.loc 1) 2 none s.back.length, .int .i64 s.y, .int .i64 s.x, .prop (s.wrap = true), .int .i64 s.attr, .int .i64 s.top, .int .i64 s.bottom, .prop (s.origin = true), .prop (s.autow = true), .prop (s.insert = true), .sl (.loc 2) 1 none s.tabs.length, .int .i64 s.keptY, .int .i64 s.keptX, .int .i64 s.keptA, .sl (.loc 3) 1 none s.sets.length, .int .i64 s.shift, .int .i64 s.bells] cs ∧ Lies ρ N W false (.loc 0) (.arr pairE s.cells) ∧ Lies ρ N W false (.loc 1) (.arr pairE s.back) ∧ Lies ρ N W false (.loc 2) (.arr boolE s.tabs) ∧ Lies ρ N W false (.loc 3) (.arr (intE .i64) s.sets) := by
  obtain ⟨xs, k, hk, hxy, hl, hxl, hfs⟩ := DataW.trod_struct Tryz.underlying28 h
  rw [kc28] at hl
  match xs, hxl, cs, hl with
  | [y0, y1, y2, y3, y4, y5, y6, y7, y8, y9, y10, y11, y12, y13, y14, y15, y16], _, [c0, c1, c2, c3, c4, c5, c6, c7, c8, c9, c10, c11, c12, c13, c14, c15, c16, c17, c18, c19], _ =>
    have g0 : DataW.trod enc Tryz.prog W base (fun _ => true) held k 24 (([c0, c1, c2, c3, c4, c5, c6, c7, c8, c9, c10, c11, c12, c13, c14, c15, c16, c17, c18, c19].drop 0).take (Tryz.prog.cellsOf 24)) = some y0 := hfs 0 _ rfl
    rw [kc24] at g0
    replace g0 : DataW.trod enc Tryz.prog W base (fun _ => true) held k 24 [c0, c1, c2, c3] = some y0 := g0
    have g1 : DataW.trod enc Tryz.prog W base (fun _ => true) held k 2 (([c0, c1, c2, c3, c4, c5, c6, c7, c8, c9, c10, c11, c12, c13, c14, c15, c16, c17, c18, c19].drop 4).take (Tryz.prog.cellsOf 2)) = some y1 := hfs 1 _ rfl
    rw [kc2] at g1
    replace g1 : DataW.trod enc Tryz.prog W base (fun _ => true) held k 2 [c4] = some y1 := g1
    have g2 : DataW.trod enc Tryz.prog W base (fun _ => true) held k 2 (([c0, c1, c2, c3, c4, c5, c6, c7, c8, c9, c10, c11, c12, c13, c14, c15, c16, c17, c18, c19].drop 5).take (Tryz.prog.cellsOf 2)) = some y2 := hfs 2 _ rfl
    rw [kc2] at g2
    replace g2 : DataW.trod enc Tryz.prog W base (fun _ => true) held k 2 [c5] = some y2 := g2
    have g3 : DataW.trod enc Tryz.prog W base (fun _ => true) held k 4 (([c0, c1, c2, c3, c4, c5, c6, c7, c8, c9, c10, c11, c12, c13, c14, c15, c16, c17, c18, c19].drop 6).take (Tryz.prog.cellsOf 4)) = some y3 := hfs 3 _ rfl
    rw [kc4] at g3
    replace g3 : DataW.trod enc Tryz.prog W base (fun _ => true) held k 4 [c6] = some y3 := g3
    have g4 : DataW.trod enc Tryz.prog W base (fun _ => true) held k 2 (([c0, c1, c2, c3, c4, c5, c6, c7, c8, c9, c10, c11, c12, c13, c14, c15, c16, c17, c18, c19].drop 7).take (Tryz.prog.cellsOf 2)) = some y4 := hfs 4 _ rfl
    rw [kc2] at g4
    replace g4 : DataW.trod enc Tryz.prog W base (fun _ => true) held k 2 [c7] = some y4 := g4
    have g5 : DataW.trod enc Tryz.prog W base (fun _ => true) held k 2 (([c0, c1, c2, c3, c4, c5, c6, c7, c8, c9, c10, c11, c12, c13, c14, c15, c16, c17, c18, c19].drop 8).take (Tryz.prog.cellsOf 2)) = some y5 := hfs 5 _ rfl
    rw [kc2] at g5
    replace g5 : DataW.trod enc Tryz.prog W base (fun _ => true) held k 2 [c8] = some y5 := g5
    have g6 : DataW.trod enc Tryz.prog W base (fun _ => true) held k 2 (([c0, c1, c2, c3, c4, c5, c6, c7, c8, c9, c10, c11, c12, c13, c14, c15, c16, c17, c18, c19].drop 9).take (Tryz.prog.cellsOf 2)) = some y6 := hfs 6 _ rfl
    rw [kc2] at g6
    replace g6 : DataW.trod enc Tryz.prog W base (fun _ => true) held k 2 [c9] = some y6 := g6
    have g7 : DataW.trod enc Tryz.prog W base (fun _ => true) held k 4 (([c0, c1, c2, c3, c4, c5, c6, c7, c8, c9, c10, c11, c12, c13, c14, c15, c16, c17, c18, c19].drop 10).take (Tryz.prog.cellsOf 4)) = some y7 := hfs 7 _ rfl
    rw [kc4] at g7
    replace g7 : DataW.trod enc Tryz.prog W base (fun _ => true) held k 4 [c10] = some y7 := g7
    have g8 : DataW.trod enc Tryz.prog W base (fun _ => true) held k 4 (([c0, c1, c2, c3, c4, c5, c6, c7, c8, c9, c10, c11, c12, c13, c14, c15, c16, c17, c18, c19].drop 11).take (Tryz.prog.cellsOf 4)) = some y8 := hfs 8 _ rfl
    rw [kc4] at g8
    replace g8 : DataW.trod enc Tryz.prog W base (fun _ => true) held k 4 [c11] = some y8 := g8
    have g9 : DataW.trod enc Tryz.prog W base (fun _ => true) held k 4 (([c0, c1, c2, c3, c4, c5, c6, c7, c8, c9, c10, c11, c12, c13, c14, c15, c16, c17, c18, c19].drop 12).take (Tryz.prog.cellsOf 4)) = some y9 := hfs 9 _ rfl
    rw [kc4] at g9
    replace g9 : DataW.trod enc Tryz.prog W base (fun _ => true) held k 4 [c12] = some y9 := g9
    have g10 : DataW.trod enc Tryz.prog W base (fun _ => true) held k 25 (([c0, c1, c2, c3, c4, c5, c6, c7, c8, c9, c10, c11, c12, c13, c14, c15, c16, c17, c18, c19].drop 13).take (Tryz.prog.cellsOf 25)) = some y10 := hfs 10 _ rfl
    rw [kc25] at g10
    replace g10 : DataW.trod enc Tryz.prog W base (fun _ => true) held k 25 [c13] = some y10 := g10
    have g11 : DataW.trod enc Tryz.prog W base (fun _ => true) held k 2 (([c0, c1, c2, c3, c4, c5, c6, c7, c8, c9, c10, c11, c12, c13, c14, c15, c16, c17, c18, c19].drop 14).take (Tryz.prog.cellsOf 2)) = some y11 := hfs 11 _ rfl
    rw [kc2] at g11
    replace g11 : DataW.trod enc Tryz.prog W base (fun _ => true) held k 2 [c14] = some y11 := g11
    have g12 : DataW.trod enc Tryz.prog W base (fun _ => true) held k 2 (([c0, c1, c2, c3, c4, c5, c6, c7, c8, c9, c10, c11, c12, c13, c14, c15, c16, c17, c18, c19].drop 15).take (Tryz.prog.cellsOf 2)) = some y12 := hfs 12 _ rfl
    rw [kc2] at g12
    replace g12 : DataW.trod enc Tryz.prog W base (fun _ => true) held k 2 [c15] = some y12 := g12
    have g13 : DataW.trod enc Tryz.prog W base (fun _ => true) held k 2 (([c0, c1, c2, c3, c4, c5, c6, c7, c8, c9, c10, c11, c12, c13, c14, c15, c16, c17, c18, c19].drop 16).take (Tryz.prog.cellsOf 2)) = some y13 := hfs 13 _ rfl
    rw [kc2] at g13
    replace g13 : DataW.trod enc Tryz.prog W base (fun _ => true) held k 2 [c16] = some y13 := g13
    have g14 : DataW.trod enc Tryz.prog W base (fun _ => true) held k 26 (([c0, c1, c2, c3, c4, c5, c6, c7, c8, c9, c10, c11, c12, c13, c14, c15, c16, c17, c18, c19].drop 17).take (Tryz.prog.cellsOf 26)) = some y14 := hfs 14 _ rfl
    rw [kc26] at g14
    replace g14 : DataW.trod enc Tryz.prog W base (fun _ => true) held k 26 [c17] = some y14 := g14
    have g15 : DataW.trod enc Tryz.prog W base (fun _ => true) held k 2 (([c0, c1, c2, c3, c4, c5, c6, c7, c8, c9, c10, c11, c12, c13, c14, c15, c16, c17, c18, c19].drop 18).take (Tryz.prog.cellsOf 2)) = some y15 := hfs 15 _ rfl
    rw [kc2] at g15
    replace g15 : DataW.trod enc Tryz.prog W base (fun _ => true) held k 2 [c18] = some y15 := g15
    have g16 : DataW.trod enc Tryz.prog W base (fun _ => true) held k 2 (([c0, c1, c2, c3, c4, c5, c6, c7, c8, c9, c10, c11, c12, c13, c14, c15, c16, c17, c18, c19].drop 19).take (Tryz.prog.cellsOf 2)) = some y16 := hfs 16 _ rfl
    rw [kc2] at g16
    replace g16 : DataW.trod enc Tryz.prog W base (fun _ => true) held k 2 [c19] = some y16 := g16
    obtain ⟨xs', k', hk', hxy', hl', hxl', hfs'⟩ := DataW.trod_struct Tryz.underlying24 g0
    match xs', hxl' with
    | [z0, z1, z2, z3], _ =>
      have f0 : DataW.trod enc Tryz.prog W base (fun _ => true) held k' 2 (([c0, c1, c2, c3].drop 0).take (Tryz.prog.cellsOf 2)) = some z0 := hfs' 0 _ rfl
      rw [kc2] at f0
      replace f0 : DataW.trod enc Tryz.prog W base (fun _ => true) held k' 2 [c0] = some z0 := f0
      have f1 : DataW.trod enc Tryz.prog W base (fun _ => true) held k' 2 (([c0, c1, c2, c3].drop 1).take (Tryz.prog.cellsOf 2)) = some z1 := hfs' 1 _ rfl
      rw [kc2] at f1
      replace f1 : DataW.trod enc Tryz.prog W base (fun _ => true) held k' 2 [c1] = some z1 := f1
      have f2 : DataW.trod enc Tryz.prog W base (fun _ => true) held k' 22 (([c0, c1, c2, c3].drop 2).take (Tryz.prog.cellsOf 22)) = some z2 := hfs' 2 _ rfl
      rw [kc22] at f2
      replace f2 : DataW.trod enc Tryz.prog W base (fun _ => true) held k' 22 [c2] = some z2 := f2
      have f3 : DataW.trod enc Tryz.prog W base (fun _ => true) held k' 22 (([c0, c1, c2, c3].drop 3).take (Tryz.prog.cellsOf 22)) = some z3 := hfs' 3 _ rfl
      rw [kc22] at f3
      replace f3 : DataW.trod enc Tryz.prog W base (fun _ => true) held k' 22 [c3] = some z3 := f3
      obtain ⟨nrows, er, _⟩ := DataW.trod_int Tryz.underlying2 f0
      obtain ⟨nwidth, ew, _⟩ := DataW.trod_int Tryz.underlying2 f1
      obtain ⟨lcells, q0, _, k0⟩ := open_sl Tryz.underlying22 okCell flatCell f2
      obtain ⟨lback, q1, _, k1⟩ := open_sl Tryz.underlying22 okCell flatCell f3
      obtain ⟨ny, e1, _⟩ := DataW.trod_int Tryz.underlying2 g1
      obtain ⟨nx, e2, _⟩ := DataW.trod_int Tryz.underlying2 g2
      obtain ⟨nwrap, e3, _⟩ := DataW.trod_bool Tryz.underlying4 g3
      obtain ⟨nattr, e4, _⟩ := DataW.trod_int Tryz.underlying2 g4
      obtain ⟨ntop, e5, _⟩ := DataW.trod_int Tryz.underlying2 g5
      obtain ⟨nbottom, e6, _⟩ := DataW.trod_int Tryz.underlying2 g6
      obtain ⟨norigin, e7, _⟩ := DataW.trod_bool Tryz.underlying4 g7
      obtain ⟨nautow, e8, _⟩ := DataW.trod_bool Tryz.underlying4 g8
      obtain ⟨ninsert, e9, _⟩ := DataW.trod_bool Tryz.underlying4 g9
      obtain ⟨nkeptY, e11, _⟩ := DataW.trod_int Tryz.underlying2 g11
      obtain ⟨nkeptX, e12, _⟩ := DataW.trod_int Tryz.underlying2 g12
      obtain ⟨nkeptA, e13, _⟩ := DataW.trod_int Tryz.underlying2 g13
      obtain ⟨nshift, e15, _⟩ := DataW.trod_int Tryz.underlying2 g15
      obtain ⟨nbells, e16, _⟩ := DataW.trod_int Tryz.underlying2 g16
      obtain ⟨ltabs, q2, _, k2⟩ := open_sl Tryz.underlying25 okBool (flat_bool Tryz.underlying4 kc4) g10
      obtain ⟨lsets, q3, _, k3⟩ := open_sl Tryz.underlying26 okInt (flat_int Tryz.underlying2 kc2) g14
      simp only [List.cons.injEq, and_true] at er; subst er
      simp only [List.cons.injEq, and_true] at ew; subst ew
      simp only [List.cons.injEq, and_true] at e1; subst e1
      simp only [List.cons.injEq, and_true] at e2; subst e2
      simp only [List.cons.injEq, and_true] at e3; subst e3
      simp only [List.cons.injEq, and_true] at e4; subst e4
      simp only [List.cons.injEq, and_true] at e5; subst e5
      simp only [List.cons.injEq, and_true] at e6; subst e6
      simp only [List.cons.injEq, and_true] at e7; subst e7
      simp only [List.cons.injEq, and_true] at e8; subst e8
      simp only [List.cons.injEq, and_true] at e9; subst e9
      simp only [List.cons.injEq, and_true] at e11; subst e11
      simp only [List.cons.injEq, and_true] at e12; subst e12
      simp only [List.cons.injEq, and_true] at e13; subst e13
      simp only [List.cons.injEq, and_true] at e15; subst e15
      simp only [List.cons.injEq, and_true] at e16; subst e16
      refine ⟨⟨nrows, nwidth, lcells, lback, ny, nx, nwrap, nattr, ntop, nbottom, norigin, nautow, ninsert, ltabs, nkeptY, nkeptX, nkeptA, lsets, nshift, nbells⟩, q0, q1, q2, q3, fun ρ N h0 h1 h2 h3 => ⟨?_, (k0 ρ 0 N h0).2, (k1 ρ 1 N h1).2, (k2 ρ 2 N h2).2, (k3 ρ 3 N h3).2⟩⟩
      exact ⟨_, _, rfl, rfl, ⟨_, _, rfl, rfl, ⟨_, _, rfl, (k0 ρ 0 N h0).1, ⟨_, _, rfl, (k1 ρ 1 N h1).1, ⟨_, _, rfl, rfl, ⟨_, _, rfl, rfl, ⟨_, _, rfl, ⟨_, rfl, Iff.rfl⟩, ⟨_, _, rfl, rfl, ⟨_, _, rfl, rfl, ⟨_, _, rfl, rfl, ⟨_, _, rfl, ⟨_, rfl, Iff.rfl⟩, ⟨_, _, rfl, ⟨_, rfl, Iff.rfl⟩, ⟨_, _, rfl, ⟨_, rfl, Iff.rfl⟩, ⟨_, _, rfl, (k2 ρ 2 N h2).1, ⟨_, _, rfl, rfl, ⟨_, _, rfl, rfl, ⟨_, _, rfl, rfl, ⟨_, _, rfl, (k3 ρ 3 N h3).1, ⟨_, _, rfl, rfl, ⟨_, _, rfl, rfl, rfl⟩⟩⟩⟩⟩⟩⟩⟩⟩⟩⟩⟩⟩⟩⟩⟩⟩⟩⟩⟩

theorem call_screen {H : Type} {enc : TypeId × Value → H} {W : World} {base : Nat} {held : Bool} {v : Value} {cs : Array Value} (hv : v = .agg cs) {fuel : Nat} {x : DataW H × List MemPlace}
    (h : DataW.trod enc Tryz.prog W base (fun _ => true) held fuel 28 cs.toList = some x) : Calls Tryz.prog 3 #[v] W fun e W' => e = .returned (.bool true) ∧ Below W.heap.size W W' := by
  obtain ⟨s, q0, q1, q2, q3, hq⟩ := open_screen h
  obtain ⟨h0, h1, h2, h3, h4⟩ := hq (argLoc [q0, q1, q2, q3]) 4 rfl rfl rfl rfl
  have hc := law s
  unfold CallA at hc
  have hH : HRel S (argLoc [q0, q1, q2, q3]) ⟨[⟨.loc 0, false, .arr pairE s.cells⟩, ⟨.loc 1, false, .arr pairE s.back⟩, ⟨.loc 2, false, .arr boolE s.tabs⟩, ⟨.loc 3, false, .arr (intE .i64) s.sets⟩], 4⟩ W := by
    refine hrel_ro ?_ ?_ (fun g => ⟨0, rfl⟩)
    · intro e he
      simp only [List.mem_cons, List.not_mem_nil, or_false] at he
      have hlt : ∀ n, n < 4 → Blk.lt 4 (.loc n) := fun n hn m hm => by simp [Blk.root] at hm; omega
      rcases he with rfl | rfl | rfl | rfl
      · exact ⟨rfl, trivial, ⟨_, okCell⟩, h1, hlt _ (by decide), trivial⟩
      · exact ⟨rfl, trivial, ⟨_, okCell⟩, h2, hlt _ (by decide), trivial⟩
      · exact ⟨rfl, trivial, ⟨_, okBool⟩, h3, hlt _ (by decide), trivial⟩
      · exact ⟨rfl, trivial, ⟨_, okInt⟩, h4, hlt _ (by decide), trivial⟩
    · simp
  have hltA : AV.lts 4 [.agg [.int .i64 s.rows, .int .i64 s.width, .sl (.loc 0) 2 none s.cells.length, .sl (.loc 1) 2 none s.back.length, .int .i64 s.y, .int .i64 s.x, .prop (s.wrap = true), .int .i64 s.attr, .int .i64 s.top, .int .i64 s.bottom, .prop (s.origin = true), .prop (s.autow = true), .prop (s.insert = true), .sl (.loc 2) 1 none s.tabs.length, .int .i64 s.keptY, .int .i64 s.keptX, .int .i64 s.keptA, .sl (.loc 3) 1 none s.sets.length, .int .i64 s.shift, .int .i64 s.bells]] := by
    have hlt : ∀ n, n < 4 → Blk.lt 4 (.loc n) := fun n hn m hm => by simp [Blk.root] at hm; omega
    exact ⟨⟨trivial, trivial, hlt _ (by decide), hlt _ (by decide), trivial, trivial, trivial, trivial, trivial, trivial, trivial, trivial, trivial, hlt _ (by decide), trivial, trivial, trivial, hlt _ (by decide), trivial, trivial, trivial⟩, trivial⟩
  refine (hc _ W [v] hH ⟨v, [], rfl, ⟨cs.toList, by rw [hv], h0⟩, rfl⟩ hltA).mono ?_
  rintro e W' ⟨v', r', H', ρ', rfl, ⟨_, _, rfl, rfl⟩, hv', _, ha⟩
  have hv' : r' = .bool true := hv'
  subst hv'
  refine ⟨rfl, ha.os, ha.tape, ha.output, ha.size, fun k hk => ha.frame k hk (noRw ?_ k)⟩
  intro e he
  simp only [List.mem_cons, List.not_mem_nil, or_false] at he
  rcases he with rfl | rfl | rfl | rfl <;> rfl
end Go.Dump
