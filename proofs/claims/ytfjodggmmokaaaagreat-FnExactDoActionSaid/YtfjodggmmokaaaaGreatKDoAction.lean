/- The law FnExactDoAction: its row and its card. -/
import Derived.Test.YtfjodggmmokaaaaGreatDAK
import Derived.Test.YtfjodggmmokaaaaGreatDBY
import Derived.Test.YtfjodggmmokaaaaGreatDCA
import Derived.Test.YtfjodggmmokaaaaGreatDCB
import Derived.Test.YtfjodggmmokaaaaGreatDCC
import Derived.Test.YtfjodggmmokaaaaGreatDCD
import Derived.Test.YtfjodggmmokaaaaGreatRows
import Derived.WalkKit
import Derived.ProofKit
import Derived.OpenShut
import Derived.ShutString
import Derived.ChangeOld
import Derived.Below
import Derived.SizedLaws
set_option linter.unusedSimpArgs false
set_option linter.unusedVariables false
set_option linter.constructorNameAsVariable false
namespace Go.Mu
open Go Go.Vm Go.RowKit Go.Proofs
set_option maxRecDepth 20000
set_option maxHeartbeats 4000000
theorem VRels.sing {ρ : Vm.Loc} {v : AV} {r : Value} {l : List Value} (h : VRel ρ v r) (e : l = [r]) : VRels ρ [v] l := by subst e; exact ⟨r, [], rfl, h, rfl⟩
theorem VRels.join {ρ : Vm.Loc} : ∀ {A B : List AV} {l k : List Value}, VRels ρ A l → VRels ρ B k → VRels ρ (A ++ B) (l ++ k)
  | [], _, _, _, h, g => by
    have h : _ = _ := h
    subst h
    exact g
  | _ :: _, _, _, _, ⟨r, rs, e, h1, h2⟩, g => by subst e; exact ⟨r, _, rfl, h1, VRels.join h2 g⟩
theorem VRels.seg {ρ : Vm.Loc} {A B : List AV} {cs : List Value} {o c : Nat} (m : Nat) (h : VRels ρ A ((cs.drop o).take c)) (hc : c = m) (g : VRels ρ B (cs.drop (o + m))) : VRels ρ (A ++ B) (cs.drop o) := by
  subst hc
  rw [← List.take_append_drop c (cs.drop o)]
  refine VRels.join h ?_
  rw [List.drop_drop]
  exact g
theorem VRels.done {ρ : Vm.Loc} {cs : List Value} {o n : Nat} (hn : n = o) (hl : cs.length = n) : VRels ρ [] (cs.drop o) := by
  show _ = _
  rw [List.drop_eq_nil_iff]; omega
theorem trod_fields {H : Type} {enc : TypeId × Value → H} {P : Program} {w : World} {base : Nat} {spare : Nat → Bool} {held : Bool} {fuel : Nat} {t : TypeId} {cs : List Value} {x : DataW H × List MemPlace} {fs : Array Field}
    (ht : P.underlying t = some (.struct fs)) (h : DataW.trod enc P w base spare held fuel t cs = some x) :
    ∃ n, cs.length = P.cellsOf t ∧ ∀ (i : Nat) (f : Field), fs[i]? = some f → ∃ y, DataW.trod enc P w base spare held n f.type ((cs.drop f.offset).take (P.cellsOf f.type)) = some y := by
  obtain ⟨ys, n, _, _, hl, hyl, hf⟩ := DataW.trod_struct ht h
  refine ⟨n, hl, fun i f hi => ?_⟩
  have h1 := hf i f hi
  have h2 : i < ys.length := by rw [hyl]; exact (Array.getElem?_eq_some_iff.1 hi).1
  exact ⟨ys[i], by rw [h1]; simp [h2]⟩
theorem kc_int64 : Tryz.prog.cellsOf 2 = 1 := by kernel_rfl
theorem kc_bool : Tryz.prog.cellsOf 4 = 1 := by kernel_rfl
theorem kc_Cell : Tryz.prog.cellsOf 272 = 2 := by kernel_rfl
theorem kc_s_bool : Tryz.prog.cellsOf 25 = 1 := by kernel_rfl
theorem kc_s_int64 : Tryz.prog.cellsOf 26 = 1 := by kernel_rfl
theorem kc_s_Cell : Tryz.prog.cellsOf 22 = 1 := by kernel_rfl
theorem kc_Grid : Tryz.prog.cellsOf 24 = 4 := by kernel_rfl
theorem kc_Screen : Tryz.prog.cellsOf 28 = 20 := by kernel_rfl
theorem kc_Action : Tryz.prog.cellsOf 30 = 5 := by kernel_rfl
theorem flat_i64 {H : Type} : FlatT H Tryz.prog 2 (intE .i64) := flat_int Tryz.underlying2 kc_int64
theorem flat_b {H : Type} : FlatT H Tryz.prog 4 (boolE) := flat_bool Tryz.underlying4 kc_bool
theorem flat_cell {H : Type} : FlatT H Tryz.prog 272 pairE := flat_pair Tryz.underlying272 kc_Cell rfl rfl rfl rfl Tryz.underlying2 kc_int64
theorem open_grd {H : Type} {enc : TypeId × Value → H} {W : World} {base : Nat} {held : Bool} {fuel : Nat} {cs : List Value} {x : DataW H × List MemPlace}
    (h : DataW.trod enc Tryz.prog W base (fun _ => true) held fuel 24 cs = some x) : ∃ (s : Grd) (q0 q1 : Pm), ∀ (ρ : Vm.Loc) (b0 b1 : Blk), AtQ ρ b0 q0 → AtQ ρ b1 q1 → VRels ρ (grdC b0 b1 s) cs ∧ OpenAt ρ W (.arr pairE s.cells) b0 ∧ OpenAt ρ W (.arr pairE s.back) b1 := by
  obtain ⟨n, hl, hf⟩ := trod_fields Tryz.underlying24 h
  rw [kc_Grid] at hl
  obtain ⟨y0, g0⟩ := hf 0 _ rfl
  obtain ⟨v0, e0, _, _⟩ := DataW.trod_int Tryz.underlying2 g0
  obtain ⟨y1, g1⟩ := hf 1 _ rfl
  obtain ⟨v1, e1, _, _⟩ := DataW.trod_int Tryz.underlying2 g1
  obtain ⟨y2, g2⟩ := hf 2 _ rfl
  obtain ⟨v2, p0, r2, e2, k2⟩ := open_sl Tryz.underlying22 ok272 flat_cell g2
  obtain ⟨y3, g3⟩ := hf 3 _ rfl
  obtain ⟨v3, p1, r3, e3, k3⟩ := open_sl Tryz.underlying22 ok272 flat_cell g3
  refine ⟨⟨v0, v1, v2, v3⟩, p0, p1, fun ρ b0 b1 h0 h1 => ?_⟩
  have hv := VRels.seg (o := 0) 1 ((VRels.sing (ρ := ρ) (v := .int .i64 v0) rfl e0)) kc_int64 (VRels.seg (o := 1) 1 ((VRels.sing (ρ := ρ) (v := .int .i64 v1) rfl e1)) kc_int64 (VRels.seg (o := 2) 1 ((VRels.sing (k2 ρ b0 h0).1 e2)) kc_s_Cell (VRels.seg (o := 3) 1 ((VRels.sing (k3 ρ b1 h1).1 e3)) kc_s_Cell (VRels.done (ρ := ρ) (o := 4) rfl hl))))
  exact ⟨hv, (k2 ρ b0 h0).2, (k3 ρ b1 h1).2⟩
theorem open_scr {H : Type} {enc : TypeId × Value → H} {W : World} {base : Nat} {held : Bool} {fuel : Nat} {cs : List Value} {x : DataW H × List MemPlace}
    (h : DataW.trod enc Tryz.prog W base (fun _ => true) held fuel 28 cs = some x) : ∃ (s : Scr) (q0 q1 q2 q3 : Pm), ∀ (ρ : Vm.Loc) (b0 b1 b2 b3 : Blk), AtQ ρ b0 q0 → AtQ ρ b1 q1 → AtQ ρ b2 q2 → AtQ ρ b3 q3 → VRels ρ (scrC b0 b1 b2 b3 s) cs ∧ OpenAt ρ W (.arr pairE s.grid.cells) b0 ∧ OpenAt ρ W (.arr pairE s.grid.back) b1 ∧ OpenAt ρ W (.arr boolE s.tabs) b2 ∧ OpenAt ρ W (.arr (intE .i64) s.sets) b3 := by
  obtain ⟨n, hl, hf⟩ := trod_fields Tryz.underlying28 h
  rw [kc_Screen] at hl
  obtain ⟨y0, g0⟩ := hf 0 _ rfl
  obtain ⟨v0, p0, p1, k0⟩ := open_grd g0
  obtain ⟨y1, g1⟩ := hf 1 _ rfl
  obtain ⟨v1, e1, _, _⟩ := DataW.trod_int Tryz.underlying2 g1
  obtain ⟨y2, g2⟩ := hf 2 _ rfl
  obtain ⟨v2, e2, _, _⟩ := DataW.trod_int Tryz.underlying2 g2
  obtain ⟨y3, g3⟩ := hf 3 _ rfl
  obtain ⟨v3, e3, _⟩ := DataW.trod_bool Tryz.underlying4 g3
  obtain ⟨y4, g4⟩ := hf 4 _ rfl
  obtain ⟨v4, e4, _, _⟩ := DataW.trod_int Tryz.underlying2 g4
  obtain ⟨y5, g5⟩ := hf 5 _ rfl
  obtain ⟨v5, e5, _, _⟩ := DataW.trod_int Tryz.underlying2 g5
  obtain ⟨y6, g6⟩ := hf 6 _ rfl
  obtain ⟨v6, e6, _, _⟩ := DataW.trod_int Tryz.underlying2 g6
  obtain ⟨y7, g7⟩ := hf 7 _ rfl
  obtain ⟨v7, e7, _⟩ := DataW.trod_bool Tryz.underlying4 g7
  obtain ⟨y8, g8⟩ := hf 8 _ rfl
  obtain ⟨v8, e8, _⟩ := DataW.trod_bool Tryz.underlying4 g8
  obtain ⟨y9, g9⟩ := hf 9 _ rfl
  obtain ⟨v9, e9, _⟩ := DataW.trod_bool Tryz.underlying4 g9
  obtain ⟨y10, g10⟩ := hf 10 _ rfl
  obtain ⟨v10, p2, r10, e10, k10⟩ := open_sl Tryz.underlying25 ok4 flat_b g10
  obtain ⟨y11, g11⟩ := hf 11 _ rfl
  obtain ⟨v11, e11, _, _⟩ := DataW.trod_int Tryz.underlying2 g11
  obtain ⟨y12, g12⟩ := hf 12 _ rfl
  obtain ⟨v12, e12, _, _⟩ := DataW.trod_int Tryz.underlying2 g12
  obtain ⟨y13, g13⟩ := hf 13 _ rfl
  obtain ⟨v13, e13, _, _⟩ := DataW.trod_int Tryz.underlying2 g13
  obtain ⟨y14, g14⟩ := hf 14 _ rfl
  obtain ⟨v14, p3, r14, e14, k14⟩ := open_sl Tryz.underlying26 ok2 flat_i64 g14
  obtain ⟨y15, g15⟩ := hf 15 _ rfl
  obtain ⟨v15, e15, _, _⟩ := DataW.trod_int Tryz.underlying2 g15
  obtain ⟨y16, g16⟩ := hf 16 _ rfl
  obtain ⟨v16, e16, _, _⟩ := DataW.trod_int Tryz.underlying2 g16
  refine ⟨⟨v0, v1, v2, v3, v4, v5, v6, v7, v8, v9, v10, v11, v12, v13, v14, v15, v16⟩, p0, p1, p2, p3, fun ρ b0 b1 b2 b3 h0 h1 h2 h3 => ?_⟩
  have hv := VRels.seg (o := 0) 4 ((k0 ρ b0 b1 h0 h1).1) kc_Grid (VRels.seg (o := 4) 1 ((VRels.sing (ρ := ρ) (v := .int .i64 v1) rfl e1)) kc_int64 (VRels.seg (o := 5) 1 ((VRels.sing (ρ := ρ) (v := .int .i64 v2) rfl e2)) kc_int64 (VRels.seg (o := 6) 1 ((VRels.sing (ρ := ρ) (v := .prop (v3 = true)) ⟨v3, rfl, Iff.rfl⟩ e3)) kc_bool (VRels.seg (o := 7) 1 ((VRels.sing (ρ := ρ) (v := .int .i64 v4) rfl e4)) kc_int64 (VRels.seg (o := 8) 1 ((VRels.sing (ρ := ρ) (v := .int .i64 v5) rfl e5)) kc_int64 (VRels.seg (o := 9) 1 ((VRels.sing (ρ := ρ) (v := .int .i64 v6) rfl e6)) kc_int64 (VRels.seg (o := 10) 1 ((VRels.sing (ρ := ρ) (v := .prop (v7 = true)) ⟨v7, rfl, Iff.rfl⟩ e7)) kc_bool (VRels.seg (o := 11) 1 ((VRels.sing (ρ := ρ) (v := .prop (v8 = true)) ⟨v8, rfl, Iff.rfl⟩ e8)) kc_bool (VRels.seg (o := 12) 1 ((VRels.sing (ρ := ρ) (v := .prop (v9 = true)) ⟨v9, rfl, Iff.rfl⟩ e9)) kc_bool (VRels.seg (o := 13) 1 ((VRels.sing (k10 ρ b2 h2).1 e10)) kc_s_bool (VRels.seg (o := 14) 1 ((VRels.sing (ρ := ρ) (v := .int .i64 v11) rfl e11)) kc_int64 (VRels.seg (o := 15) 1 ((VRels.sing (ρ := ρ) (v := .int .i64 v12) rfl e12)) kc_int64 (VRels.seg (o := 16) 1 ((VRels.sing (ρ := ρ) (v := .int .i64 v13) rfl e13)) kc_int64 (VRels.seg (o := 17) 1 ((VRels.sing (k14 ρ b3 h3).1 e14)) kc_s_int64 (VRels.seg (o := 18) 1 ((VRels.sing (ρ := ρ) (v := .int .i64 v15) rfl e15)) kc_int64 (VRels.seg (o := 19) 1 ((VRels.sing (ρ := ρ) (v := .int .i64 v16) rfl e16)) kc_int64 (VRels.done (ρ := ρ) (o := 20) rfl hl)))))))))))))))))
  exact ⟨hv, (k0 ρ b0 b1 h0 h1).2.1, (k0 ρ b0 b1 h0 h1).2.2, (k10 ρ b2 h2).2, (k14 ρ b3 h3).2⟩
theorem open_act {H : Type} {enc : TypeId × Value → H} {W : World} {base : Nat} {held : Bool} {fuel : Nat} {cs : List Value} {x : DataW H × List MemPlace}
    (h : DataW.trod enc Tryz.prog W base (fun _ => true) held fuel 30 cs = some x) : ∃ (s : Vm.Act) (q0 : Pm), ∀ (ρ : Vm.Loc) (b0 : Blk), AtQ ρ b0 q0 → VRels ρ (actC b0 s) cs ∧ OpenAt ρ W (.arr (intE .i64) s.params) b0 := by
  obtain ⟨n, hl, hf⟩ := trod_fields Tryz.underlying30 h
  rw [kc_Action] at hl
  obtain ⟨y0, g0⟩ := hf 0 _ rfl
  obtain ⟨v0, e0, _, _⟩ := DataW.trod_int Tryz.underlying2 g0
  obtain ⟨y1, g1⟩ := hf 1 _ rfl
  obtain ⟨v1, e1, _, _⟩ := DataW.trod_int Tryz.underlying2 g1
  obtain ⟨y2, g2⟩ := hf 2 _ rfl
  obtain ⟨v2, e2, _, _⟩ := DataW.trod_int Tryz.underlying2 g2
  obtain ⟨y3, g3⟩ := hf 3 _ rfl
  obtain ⟨v3, e3, _⟩ := DataW.trod_bool Tryz.underlying4 g3
  obtain ⟨y4, g4⟩ := hf 4 _ rfl
  obtain ⟨v4, p0, r4, e4, k4⟩ := open_sl Tryz.underlying26 ok2 flat_i64 g4
  refine ⟨⟨v0, v1, v2, v3, v4⟩, p0, fun ρ b0 h0 => ?_⟩
  have hv := VRels.seg (o := 0) 1 ((VRels.sing (ρ := ρ) (v := .int .i64 v0) rfl e0)) kc_int64 (VRels.seg (o := 1) 1 ((VRels.sing (ρ := ρ) (v := .int .i64 v1) rfl e1)) kc_int64 (VRels.seg (o := 2) 1 ((VRels.sing (ρ := ρ) (v := .int .i64 v2) rfl e2)) kc_int64 (VRels.seg (o := 3) 1 ((VRels.sing (ρ := ρ) (v := .prop (v3 = true)) ⟨v3, rfl, Iff.rfl⟩ e3)) kc_bool (VRels.seg (o := 4) 1 ((VRels.sing (k4 ρ b0 h0).1 e4)) kc_s_int64 (VRels.done (ρ := ρ) (o := 5) rfl hl)))))
  exact ⟨hv, (k4 ρ b0 h0).2⟩
end Go.Mu
set_option linter.unusedSimpArgs false
set_option linter.unusedVariables false
set_option linter.constructorNameAsVariable false
namespace Go.Proofs.YtfjodggmmokaaaaGreat.fnExactDoAction
open Go Go.Vm Go.Mu
open Go.ChangeShapes Go.WideShapes Go.ChangeAt Go.RowKit
open Go.ChangeMaps (open_string shut_string)
set_option linter.unusedVariables false
set_option linter.unusedSimpArgs false
theorem own : ownKnob Tryz.prog.godebug = none := by kernel_rfl
theorem laidOut : laidOutB Tryz.prog = true := factLaidOut
theorem agg_ofAct {W : World} {base : Nat} {v : Value} (h : Value.okWide Tryz.prog W .any base 30 v) : ∃ cs, v = .agg cs := by
  cases v <;> simp [Value.okWide, Cell.okWide, Tryz.underlying30, Cell.ok] at h
  exact ⟨_, rfl⟩
theorem agg_ofScr {W : World} {base : Nat} {v : Value} (h : Value.okWide Tryz.prog W .any base 28 v) : ∃ cs, v = .agg cs := by
  cases v <;> simp [Value.okWide, Cell.okWide, Tryz.underlying28, Cell.ok] at h
  exact ⟨_, rfl⟩
set_option maxRecDepth 100000 in
theorem lifted (os : Os) (started : os.Started) (H : Type) (enc : TypeId × Value → H) :
    ReturnsInHanded {} Tryz.checked os 3 .any (Rows.fnExactDoActionSpec.pre6 enc Tryz.prog Tryz.f3 Rows.fnExactDoActionRow.domain false) (Rows.fnExactDoActionSpec.post enc Tryz.prog Tryz.f3 false true false false) := by
  refine returnsInHanded_of_change_sized (C := Tryz.checked) own started (by kernel_rfl) Tryz.func3
    (ChangeSpec.witness6 (enc := enc) (C := Tryz.checked) false ⟨#[], #[.agg #[.int .i64 0, .int .i64 0, .slice none 0 0, .slice none 0 0, .int .i64 0, .int .i64 0, .bool false, .int .i64 0, .int .i64 0, .int .i64 0, .bool false, .bool false, .bool false, .slice none 0 0, .int .i64 0, .int .i64 0, .int .i64 0, .slice none 0 0, .int .i64 0, .int .i64 0], .agg #[.int .i64 0, .int .i64 0, .int .i64 0, .bool false, .slice none 0 0]], []⟩ 8 (by kernel_rfl) (by kernel_rfl) (by kernel_rfl) (by kernel_rfl)) ?_
  intro W base args ds gs before hval0 hW hcnd hsz0 _
  have hval : ∀ (j : Nat) t v, Tryz.f3.params[j]? = some t → args[j]? = some v → Value.okWide Tryz.prog W .any base t v := hval0
  have hW' := hW
  obtain ⟨p, q, hA0, hV, rfl, _, _⟩ := hW
  have hA : DataW.TrodAll enc Tryz.prog W 0 (fun _ => true) true Tryz.f3.params.toList args.toList ds p := hA0
  rw [Tryz.params3] at hA hval
  obtain ⟨v0, vs0, d0, ds0, p0, z0, hargs0, rfl, rfl, h0, r0⟩ := trodAll_cons hA
  obtain ⟨v1, vs1, d1, ds1, p1, z1, hargs1, rfl, rfl, h1, r1⟩ := trodAll_cons r0
  subst hargs1
  obtain ⟨rfl, rfl, rfl⟩ := trodAll_nil r1
  obtain rfl : args = #[v0, v1] := by cases args; simp_all
  obtain ⟨rfl, rfl⟩ := trodVars_none hV
  have k0 := h0
  have lt0 : ∀ x ∈ p0, x.block < W.heap.size := by obtain ⟨m, hm⟩ := k0; exact DataW.trod_lt m _ _ _ hm
  have k1 := h1
  have lt1 : ∀ x ∈ p1, x.block < W.heap.size := by obtain ⟨m, hm⟩ := k1; exact DataW.trod_lt m _ _ _ hm
  obtain ⟨cs0, rfl⟩ := agg_ofScr (hval 0 28 v0 rfl rfl)
  obtain ⟨fuel0, hf0⟩ := h0
  obtain ⟨s0, q0, q1, q2, q3, o0⟩ := open_scr hf0
  obtain ⟨cs1, rfl⟩ := agg_ofAct (hval 1 30 v1 rfl rfl)
  obtain ⟨fuel1, hf1⟩ := h1
  obtain ⟨s1, q4, o1⟩ := open_act hf1
  have x0 := o0 (argLoc [q0, q1, q2, q3, q4]) (.loc 0) (.loc 1) (.loc 2) (.loc 3) (argLoc_at _ 0) (argLoc_at _ 1) (argLoc_at _ 2) (argLoc_at _ 3)
  obtain ⟨y0, g0, g1, g2, g3⟩ := x0
  have x1 := o1 (argLoc [q0, q1, q2, q3, q4]) (.loc 4) (argLoc_at _ 4)
  obtain ⟨y1, g4⟩ := x1
  have hcall := call_ro (l := [q0, q1, q2, q3, q4]) (W := W) (es := [⟨.loc 0, false, .arr pairE s0.grid.cells⟩, ⟨.loc 1, false, .arr pairE s0.grid.back⟩, ⟨.loc 2, false, .arr boolE s0.tabs⟩, ⟨.loc 3, false, .arr (intE .i64) s0.sets⟩, ⟨.loc 4, false, .arr (intE .i64) s1.params⟩]) (N := 5) (rs := [.agg cs0, .agg cs1]) (lawDoAction s0 s1) ?hl (by simp) ⟨_, _, rfl, ⟨cs0.toList, rfl, y0⟩, ⟨_, _, rfl, ⟨cs1.toList, rfl, y1⟩, rfl⟩⟩ ?hlt
  case hl =>
    intro e he
    simp only [List.mem_cons, List.not_mem_nil, or_false] at he
    have hlt : ∀ n, n < 5 → Blk.lt 5 (.loc n) := fun n hn m hm => by simp [Blk.root] at hm; omega
    rcases he with rfl | rfl | rfl | rfl | rfl
    · exact ⟨rfl, by first | trivial | rfl, ⟨_, ok272⟩, g0, hlt _ (by decide), trivial⟩
    · exact ⟨rfl, by first | trivial | rfl, ⟨_, ok272⟩, g1, hlt _ (by decide), trivial⟩
    · exact ⟨rfl, by first | trivial | rfl, ⟨_, ok4⟩, g2, hlt _ (by decide), trivial⟩
    · exact ⟨rfl, by first | trivial | rfl, ⟨_, ok2⟩, g3, hlt _ (by decide), trivial⟩
    · exact ⟨rfl, by first | trivial | rfl, ⟨_, ok2⟩, g4, hlt _ (by decide), trivial⟩
  case hlt =>
    have hlt : ∀ n, n < 5 → Blk.lt 5 (.loc n) := fun n hn m hm => by simp [Blk.root] at hm; omega
    repeat' (first | exact trivial | exact hlt _ (by decide) | apply And.intro)
  refine hcall.mono fun e W' ⟨he, bel⟩ => ?_
  subst he
  exact ⟨_, rfl, _, _, _, [], _, [], hW', trodAll_mk1 (shut_bool Tryz.underlying4 _), (trodAll_cons_mk (Below.trod laidOut (by kernel_rfl) (of_decide_eq_true (by kernel_rfl)) k0 bel lt0) (trodAll_cons_mk (Below.trod laidOut (by kernel_rfl) (of_decide_eq_true (by kernel_rfl)) k1 bel lt1) trodAll_mk0)), rfl, bel.frame _, fun h => by cases h⟩
theorem closed10 : (Rows.fnExactDoActionRow.inPlace == Tryz.pinned.checked.prog.inPlace 3) = true := by kernel_rfl
theorem closed11 : (Rows.fnExactDoActionRow.unfollowed == Tryz.pinned.checked.prog.unfollowed 3) = true := by kernel_rfl
theorem closed12 : (Rows.fnExactDoActionRow.recurses == Tryz.pinned.checked.prog.recurses 3) = true := by kernel_rfl
theorem closed13 : (Rows.fnExactDoActionRow.named == Tryz.pinned.checked.prog.varsNamed 3) = true := by kernel_rfl
theorem closed : joinedFacts Tryz.pinned.checked.prog 3 Tryz.f3 Rows.fnExactDoActionSpec Rows.fnExactDoActionRow = true :=
  and_mk (and_mk (and_mk (and_mk (and_mk (and_mk (and_mk (and_mk (and_mk (and_mk (and_mk (and_mk (and_mk (and_mk (and_mk (and_mk (and_mk (and_mk (and_mk (and_mk (and_mk (and_mk (and_mk (and_mk (and_mk (and_mk (and_mk (and_mk (and_mk (and_mk (and_mk ((by kernel_rfl)) factLaidOut) factMapsRowed) (by kernel_rfl)) (by kernel_rfl)) (by kernel_rfl)) factStops) (by kernel_rfl)) factStopKnobs) closed10) closed11) closed12) closed13) (by kernel_rfl)) (by kernel_rfl)) (by kernel_rfl)) (by kernel_rfl)) (by kernel_rfl)) (by kernel_rfl)) (by kernel_rfl)) (by kernel_rfl)) (by kernel_rfl)) (by kernel_rfl)) (by kernel_rfl)) factHeard) factMay) factLift) factMake) (by kernel_rfl)) (by kernel_rfl)) (by kernel_rfl)) (by kernel_rfl)
theorem over : Rows.FnExactDoActionSaid :=
  OpenClaim.holds_of_wide 3 Tryz.f3 rfl rfl rfl rfl rfl rfl rfl ⟨rfl, rfl, rfl, rfl, rfl⟩ rfl rfl rfl rfl rfl (by kernel_rfl) Tryz.func3 closed
    (of_decide_eq_true (by kernel_rfl)) (by unfold Func.isWrapper; first | (rw [if_pos (by decide +kernel)]; kernel_rfl) | (rw [if_neg (by decide +kernel)]; exact ⟨rfl, rfl⟩))
    (fun os started H enc _ => lifted os started H enc)
theorem proved : Rows.FnExactDoActionSaid := over
#print axioms proved
end Go.Proofs.YtfjodggmmokaaaaGreat.fnExactDoAction
namespace Go.Proofs.YtfjodggmmokaaaaGreat
theorem fnExactDoAction_holds : Rows.FnExactDoActionSaid := fnExactDoAction.proved
end Go.Proofs.YtfjodggmmokaaaaGreat
