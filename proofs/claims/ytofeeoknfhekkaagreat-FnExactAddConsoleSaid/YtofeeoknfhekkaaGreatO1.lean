/- Arguments of the laws opened. -/
import Derived.Test.YtofeeoknfhekkaaGreatLA
import Derived.Test.YtofeeoknfhekkaaGreatVmH
set_option linter.unusedSimpArgs false
set_option linter.unusedVariables false
set_option linter.constructorNameAsVariable false
namespace Go.Mu
open Go Go.Vm Go.RowKit Go.Proofs
set_option maxRecDepth 20000
set_option maxHeartbeats 4000000

theorem VRels.sing {ρ : Vm.Loc} {v : AV} {r : Value} {l : List Value} (h : VRel ρ v r) (e : l = [r]) : VRels ρ [v] l := by subst e; exact ⟨r, [], rfl, h, rfl⟩
theorem VRels.join {ρ : Vm.Loc} : ∀ {A B : List AV} {l k : List Value}, VRels ρ A l → VRels ρ B k → VRels ρ (A ++ B) (l ++ k)
  | [], _, _, _, h, g => by
    have h : _ = _ := h
    subst h
    exact g
  | _ :: _, _, _, _, ⟨r, rs, e, h1, h2⟩, g => by subst e; exact ⟨r, _, rfl, h1, VRels.join h2 g⟩
theorem VRels.seg {ρ : Vm.Loc} {A B : List AV} {cs : List Value} {o c : Nat} (m : Nat) (h : VRels ρ A ((cs.drop o).take c)) (hc : c = m) (g : VRels ρ B (cs.drop (o + m))) : VRels ρ (A ++ B) (cs.drop o) := by
  subst hc
  rw [← List.take_append_drop c (cs.drop o)]
  refine VRels.join h ?_
  rw [List.drop_drop]
  exact g
theorem VRels.done {ρ : Vm.Loc} {cs : List Value} {o n : Nat} (hn : n = o) (hl : cs.length = n) : VRels ρ [] (cs.drop o) := by
  show _ = _
  rw [List.drop_eq_nil_iff]; omega
theorem trod_fields {H : Type} {enc : TypeId × Value → H} {P : Program} {w : World} {base : Nat} {spare : Nat → Bool} {held : Bool} {fuel : Nat} {t : TypeId} {cs : List Value} {x : DataW H × List MemPlace} {fs : Array Field}
    (ht : P.underlying t = some (.struct fs)) (h : DataW.trod enc P w base spare held fuel t cs = some x) :
    ∃ n, cs.length = P.cellsOf t ∧ ∀ (i : Nat) (f : Field), fs[i]? = some f → ∃ y, DataW.trod enc P w base spare held n f.type ((cs.drop f.offset).take (P.cellsOf f.type)) = some y := by
  obtain ⟨ys, n, _, _, hl, hyl, hf⟩ := DataW.trod_struct ht h
  refine ⟨n, hl, fun i f hi => ?_⟩
  have h1 := hf i f hi
  have h2 : i < ys.length := by rw [hyl]; exact (Array.getElem?_eq_some_iff.1 hi).1
  exact ⟨ys[i], by rw [h1]; simp [h2]⟩
theorem kc_int64 : Tryz.prog.cellsOf 2 = 1 := by kernel_rfl
theorem kc_bool : Tryz.prog.cellsOf 4 = 1 := by kernel_rfl
theorem kc_string : Tryz.prog.cellsOf 9 = 1 := by kernel_rfl
theorem kc_uint8 : Tryz.prog.cellsOf 5 = 1 := by kernel_rfl
theorem kc_Cell : Tryz.prog.cellsOf 357 = 2 := by kernel_rfl
theorem kc_Hold : Tryz.prog.cellsOf 225 = 2 := by kernel_rfl
theorem kc_Bind : Tryz.prog.cellsOf 95 = 4 := by kernel_rfl
theorem kc_Sym : Tryz.prog.cellsOf 93 = 2 := by kernel_rfl
theorem kc_s_s_uint8 : Tryz.prog.cellsOf 128 = 1 := by kernel_rfl
theorem kc_s_bool : Tryz.prog.cellsOf 23 = 1 := by kernel_rfl
theorem kc_s_int64 : Tryz.prog.cellsOf 118 = 1 := by kernel_rfl
theorem kc_s_Bind : Tryz.prog.cellsOf 24 = 1 := by kernel_rfl
theorem kc_s_Cell : Tryz.prog.cellsOf 153 = 1 := by kernel_rfl
theorem kc_s_Console : Tryz.prog.cellsOf 22 = 1 := by kernel_rfl
theorem kc_s_Hold : Tryz.prog.cellsOf 26 = 1 := by kernel_rfl
theorem kc_s_string : Tryz.prog.cellsOf 25 = 1 := by kernel_rfl
theorem kc_s_uint8 : Tryz.prog.cellsOf 34 = 1 := by kernel_rfl
theorem kc_Decoder : Tryz.prog.cellsOf 151 = 3 := by kernel_rfl
theorem kc_Parser : Tryz.prog.cellsOf 152 = 4 := by kernel_rfl
theorem kc_Grid : Tryz.prog.cellsOf 155 = 4 := by kernel_rfl
theorem kc_Screen : Tryz.prog.cellsOf 157 = 20 := by kernel_rfl
theorem kc_Vt : Tryz.prog.cellsOf 159 = 27 := by kernel_rfl
theorem kc_Way : Tryz.prog.cellsOf 63 = 7 := by kernel_rfl
theorem kc_Line : Tryz.prog.cellsOf 160 = 4 := by kernel_rfl
theorem kc_Console : Tryz.prog.cellsOf 162 = 38 := by kernel_rfl
theorem kc_Keyboard : Tryz.prog.cellsOf 28 = 3 := by kernel_rfl
theorem kc_Mux : Tryz.prog.cellsOf 30 = 10 := by kernel_rfl
theorem flat_i64 {H : Type} : FlatT H Tryz.prog 2 (intE .i64) := flat_int Tryz.underlying2 kc_int64
theorem flat_u8 {H : Type} : FlatT H Tryz.prog 5 (intE .u8) := flat_int Tryz.underlying5 kc_uint8
theorem flat_b {H : Type} : FlatT H Tryz.prog 4 (boolE) := flat_bool Tryz.underlying4 kc_bool
theorem flat_s {H : Type} : FlatT H Tryz.prog 9 (strE) := flat_str Tryz.underlying9 kc_string
theorem flat_cell {H : Type} : FlatT H Tryz.prog 357 pairE := flat_pair Tryz.underlying357 kc_Cell rfl rfl rfl rfl Tryz.underlying2 kc_int64
theorem flat_hold {H : Type} : FlatT H Tryz.prog 225 pairE := flat_pair Tryz.underlying225 kc_Hold rfl rfl rfl rfl Tryz.underlying2 kc_int64
theorem flat_bind {H : Type} : FlatT H Tryz.prog 95 quadE := ⟨kc_Bind, fun _ _ _ _ _ cs _ h => by
  obtain ⟨n, hl, hf⟩ := trod_fields Tryz.underlying95 h
  rw [kc_Bind] at hl
  obtain ⟨y0, g0⟩ := hf 0 _ rfl
  obtain ⟨y1, g1⟩ := hf 1 _ rfl
  obtain ⟨y2, g2⟩ := hf 2 _ rfl
  obtain ⟨v0, e0, _, _⟩ := DataW.trod_int Tryz.underlying2 g0
  obtain ⟨v1, e1, _, _⟩ := DataW.trod_int Tryz.underlying2 g1
  obtain ⟨n', hl', hf'⟩ := trod_fields Tryz.underlying93 g2
  rw [kc_Sym] at hl'
  obtain ⟨y3, g3⟩ := hf' 0 _ rfl
  obtain ⟨y4, g4⟩ := hf' 1 _ rfl
  obtain ⟨v2, e2, _, _⟩ := DataW.trod_int Tryz.underlying2 g3
  obtain ⟨v3, e3, _, _⟩ := DataW.trod_int Tryz.underlying2 g4
  refine ⟨(v0, v1, v2, v3), fun ρ => ?_⟩
  have hs := VRels.seg (o := 0) 1 (VRels.sing (ρ := ρ) (v := .int .i64 v2) rfl e2) kc_int64 (VRels.seg (o := 1) 1 (VRels.sing (ρ := ρ) (v := .int .i64 v3) rfl e3) kc_int64 (VRels.done (ρ := ρ) (o := 2) rfl hl'))
  have hv := VRels.seg (o := 0) 1 (VRels.sing (ρ := ρ) (v := .int .i64 v0) rfl e0) kc_int64 (VRels.seg (o := 1) 1 (VRels.sing (ρ := ρ) (v := .int .i64 v1) rfl e1) kc_int64 (VRels.seg (o := 2) 2 hs kc_Sym (VRels.done (ρ := ρ) (o := 4) rfl hl)))
  exact hv⟩
theorem nest_u8 {H : Type} : NestT H Tryz.prog 34 1 bytesG [0] bytesF := nest_bytes Tryz.underlying34 kc_s_uint8 ok5 flat_u8
theorem open_dec {H : Type} {enc : TypeId × Value → H} {W : World} {base : Nat} {held : Bool} {fuel : Nat} {cs : List Value} {x : DataW H × List MemPlace}
    (h : DataW.trod enc Tryz.prog W base (fun _ => true) held fuel 151 cs = some x) : ∃ (s : Dec), ∀ (ρ : Vm.Loc), VRels ρ (decC s) cs := by
  obtain ⟨n, hl, hf⟩ := trod_fields Tryz.underlying151 h
  rw [kc_Decoder] at hl
  obtain ⟨y0, g0⟩ := hf 0 _ rfl
  obtain ⟨v0, e0, _, _⟩ := DataW.trod_int Tryz.underlying2 g0
  obtain ⟨y1, g1⟩ := hf 1 _ rfl
  obtain ⟨v1, e1, _, _⟩ := DataW.trod_int Tryz.underlying2 g1
  obtain ⟨y2, g2⟩ := hf 2 _ rfl
  obtain ⟨v2, e2, _, _⟩ := DataW.trod_int Tryz.underlying2 g2
  refine ⟨⟨v0, v1, v2⟩, fun ρ => ?_⟩
  have hv := VRels.seg (o := 0) 1 ((VRels.sing (ρ := ρ) (v := .int .i64 v0) rfl e0)) kc_int64 (VRels.seg (o := 1) 1 ((VRels.sing (ρ := ρ) (v := .int .i64 v1) rfl e1)) kc_int64 (VRels.seg (o := 2) 1 ((VRels.sing (ρ := ρ) (v := .int .i64 v2) rfl e2)) kc_int64 (VRels.done (ρ := ρ) (o := 3) rfl hl)))
  exact hv
theorem open_par {H : Type} {enc : TypeId × Value → H} {W : World} {base : Nat} {held : Bool} {fuel : Nat} {cs : List Value} {x : DataW H × List MemPlace}
    (h : DataW.trod enc Tryz.prog W base (fun _ => true) held fuel 152 cs = some x) : ∃ (s : Par) (q0 : Pm), ∀ (ρ : Vm.Loc) (b0 : Blk), AtQ ρ b0 q0 → VRels ρ (parC b0 s) cs ∧ OpenAt ρ W (.arr (intE .i64) s.params) b0 := by
  obtain ⟨n, hl, hf⟩ := trod_fields Tryz.underlying152 h
  rw [kc_Parser] at hl
  obtain ⟨y0, g0⟩ := hf 0 _ rfl
  obtain ⟨v0, e0, _, _⟩ := DataW.trod_int Tryz.underlying2 g0
  obtain ⟨y1, g1⟩ := hf 1 _ rfl
  obtain ⟨v1, e1, _, _⟩ := DataW.trod_int Tryz.underlying2 g1
  obtain ⟨y2, g2⟩ := hf 2 _ rfl
  obtain ⟨v2, e2, _⟩ := DataW.trod_bool Tryz.underlying4 g2
  obtain ⟨y3, g3⟩ := hf 3 _ rfl
  obtain ⟨v3, p0, r3, e3, k3⟩ := open_sl Tryz.underlying118 ok2 flat_i64 g3
  refine ⟨⟨v0, v1, v2, v3⟩, p0, fun ρ b0 h0 => ?_⟩
  have hv := VRels.seg (o := 0) 1 ((VRels.sing (ρ := ρ) (v := .int .i64 v0) rfl e0)) kc_int64 (VRels.seg (o := 1) 1 ((VRels.sing (ρ := ρ) (v := .int .i64 v1) rfl e1)) kc_int64 (VRels.seg (o := 2) 1 ((VRels.sing (ρ := ρ) (v := .prop (v2 = true)) ⟨v2, rfl, Iff.rfl⟩ e2)) kc_bool (VRels.seg (o := 3) 1 ((VRels.sing (k3 ρ b0 h0).1 e3)) kc_s_int64 (VRels.done (ρ := ρ) (o := 4) rfl hl))))
  exact ⟨hv, (k3 ρ b0 h0).2⟩
theorem open_grd {H : Type} {enc : TypeId × Value → H} {W : World} {base : Nat} {held : Bool} {fuel : Nat} {cs : List Value} {x : DataW H × List MemPlace}
    (h : DataW.trod enc Tryz.prog W base (fun _ => true) held fuel 155 cs = some x) : ∃ (s : Grd) (q0 q1 : Pm), ∀ (ρ : Vm.Loc) (b0 b1 : Blk), AtQ ρ b0 q0 → AtQ ρ b1 q1 → VRels ρ (grdC b0 b1 s) cs ∧ OpenAt ρ W (.arr pairE s.cells) b0 ∧ OpenAt ρ W (.arr pairE s.back) b1 := by
  obtain ⟨n, hl, hf⟩ := trod_fields Tryz.underlying155 h
  rw [kc_Grid] at hl
  obtain ⟨y0, g0⟩ := hf 0 _ rfl
  obtain ⟨v0, e0, _, _⟩ := DataW.trod_int Tryz.underlying2 g0
  obtain ⟨y1, g1⟩ := hf 1 _ rfl
  obtain ⟨v1, e1, _, _⟩ := DataW.trod_int Tryz.underlying2 g1
  obtain ⟨y2, g2⟩ := hf 2 _ rfl
  obtain ⟨v2, p0, r2, e2, k2⟩ := open_sl Tryz.underlying153 ok357 flat_cell g2
  obtain ⟨y3, g3⟩ := hf 3 _ rfl
  obtain ⟨v3, p1, r3, e3, k3⟩ := open_sl Tryz.underlying153 ok357 flat_cell g3
  refine ⟨⟨v0, v1, v2, v3⟩, p0, p1, fun ρ b0 b1 h0 h1 => ?_⟩
  have hv := VRels.seg (o := 0) 1 ((VRels.sing (ρ := ρ) (v := .int .i64 v0) rfl e0)) kc_int64 (VRels.seg (o := 1) 1 ((VRels.sing (ρ := ρ) (v := .int .i64 v1) rfl e1)) kc_int64 (VRels.seg (o := 2) 1 ((VRels.sing (k2 ρ b0 h0).1 e2)) kc_s_Cell (VRels.seg (o := 3) 1 ((VRels.sing (k3 ρ b1 h1).1 e3)) kc_s_Cell (VRels.done (ρ := ρ) (o := 4) rfl hl))))
  exact ⟨hv, (k2 ρ b0 h0).2, (k3 ρ b1 h1).2⟩
theorem open_scr {H : Type} {enc : TypeId × Value → H} {W : World} {base : Nat} {held : Bool} {fuel : Nat} {cs : List Value} {x : DataW H × List MemPlace}
    (h : DataW.trod enc Tryz.prog W base (fun _ => true) held fuel 157 cs = some x) : ∃ (s : Scr) (q0 q1 q2 q3 : Pm), ∀ (ρ : Vm.Loc) (b0 b1 b2 b3 : Blk), AtQ ρ b0 q0 → AtQ ρ b1 q1 → AtQ ρ b2 q2 → AtQ ρ b3 q3 → VRels ρ (scrC b0 b1 b2 b3 s) cs ∧ OpenAt ρ W (.arr pairE s.grid.cells) b0 ∧ OpenAt ρ W (.arr pairE s.grid.back) b1 ∧ OpenAt ρ W (.arr boolE s.tabs) b2 ∧ OpenAt ρ W (.arr (intE .i64) s.sets) b3 := by
  obtain ⟨n, hl, hf⟩ := trod_fields Tryz.underlying157 h
  rw [kc_Screen] at hl
  obtain ⟨y0, g0⟩ := hf 0 _ rfl
  obtain ⟨v0, p0, p1, k0⟩ := open_grd g0
  obtain ⟨y1, g1⟩ := hf 1 _ rfl
  obtain ⟨v1, e1, _, _⟩ := DataW.trod_int Tryz.underlying2 g1
  obtain ⟨y2, g2⟩ := hf 2 _ rfl
  obtain ⟨v2, e2, _, _⟩ := DataW.trod_int Tryz.underlying2 g2
  obtain ⟨y3, g3⟩ := hf 3 _ rfl
  obtain ⟨v3, e3, _⟩ := DataW.trod_bool Tryz.underlying4 g3
  obtain ⟨y4, g4⟩ := hf 4 _ rfl
  obtain ⟨v4, e4, _, _⟩ := DataW.trod_int Tryz.underlying2 g4
  obtain ⟨y5, g5⟩ := hf 5 _ rfl
  obtain ⟨v5, e5, _, _⟩ := DataW.trod_int Tryz.underlying2 g5
  obtain ⟨y6, g6⟩ := hf 6 _ rfl
  obtain ⟨v6, e6, _, _⟩ := DataW.trod_int Tryz.underlying2 g6
  obtain ⟨y7, g7⟩ := hf 7 _ rfl
  obtain ⟨v7, e7, _⟩ := DataW.trod_bool Tryz.underlying4 g7
  obtain ⟨y8, g8⟩ := hf 8 _ rfl
  obtain ⟨v8, e8, _⟩ := DataW.trod_bool Tryz.underlying4 g8
  obtain ⟨y9, g9⟩ := hf 9 _ rfl
  obtain ⟨v9, e9, _⟩ := DataW.trod_bool Tryz.underlying4 g9
  obtain ⟨y10, g10⟩ := hf 10 _ rfl
  obtain ⟨v10, p2, r10, e10, k10⟩ := open_sl Tryz.underlying23 ok4 flat_b g10
  obtain ⟨y11, g11⟩ := hf 11 _ rfl
  obtain ⟨v11, e11, _, _⟩ := DataW.trod_int Tryz.underlying2 g11
  obtain ⟨y12, g12⟩ := hf 12 _ rfl
  obtain ⟨v12, e12, _, _⟩ := DataW.trod_int Tryz.underlying2 g12
  obtain ⟨y13, g13⟩ := hf 13 _ rfl
  obtain ⟨v13, e13, _, _⟩ := DataW.trod_int Tryz.underlying2 g13
  obtain ⟨y14, g14⟩ := hf 14 _ rfl
  obtain ⟨v14, p3, r14, e14, k14⟩ := open_sl Tryz.underlying118 ok2 flat_i64 g14
  obtain ⟨y15, g15⟩ := hf 15 _ rfl
  obtain ⟨v15, e15, _, _⟩ := DataW.trod_int Tryz.underlying2 g15
  obtain ⟨y16, g16⟩ := hf 16 _ rfl
  obtain ⟨v16, e16, _, _⟩ := DataW.trod_int Tryz.underlying2 g16
  refine ⟨⟨v0, v1, v2, v3, v4, v5, v6, v7, v8, v9, v10, v11, v12, v13, v14, v15, v16⟩, p0, p1, p2, p3, fun ρ b0 b1 b2 b3 h0 h1 h2 h3 => ?_⟩
  have hv := VRels.seg (o := 0) 4 ((k0 ρ b0 b1 h0 h1).1) kc_Grid (VRels.seg (o := 4) 1 ((VRels.sing (ρ := ρ) (v := .int .i64 v1) rfl e1)) kc_int64 (VRels.seg (o := 5) 1 ((VRels.sing (ρ := ρ) (v := .int .i64 v2) rfl e2)) kc_int64 (VRels.seg (o := 6) 1 ((VRels.sing (ρ := ρ) (v := .prop (v3 = true)) ⟨v3, rfl, Iff.rfl⟩ e3)) kc_bool (VRels.seg (o := 7) 1 ((VRels.sing (ρ := ρ) (v := .int .i64 v4) rfl e4)) kc_int64 (VRels.seg (o := 8) 1 ((VRels.sing (ρ := ρ) (v := .int .i64 v5) rfl e5)) kc_int64 (VRels.seg (o := 9) 1 ((VRels.sing (ρ := ρ) (v := .int .i64 v6) rfl e6)) kc_int64 (VRels.seg (o := 10) 1 ((VRels.sing (ρ := ρ) (v := .prop (v7 = true)) ⟨v7, rfl, Iff.rfl⟩ e7)) kc_bool (VRels.seg (o := 11) 1 ((VRels.sing (ρ := ρ) (v := .prop (v8 = true)) ⟨v8, rfl, Iff.rfl⟩ e8)) kc_bool (VRels.seg (o := 12) 1 ((VRels.sing (ρ := ρ) (v := .prop (v9 = true)) ⟨v9, rfl, Iff.rfl⟩ e9)) kc_bool (VRels.seg (o := 13) 1 ((VRels.sing (k10 ρ b2 h2).1 e10)) kc_s_bool (VRels.seg (o := 14) 1 ((VRels.sing (ρ := ρ) (v := .int .i64 v11) rfl e11)) kc_int64 (VRels.seg (o := 15) 1 ((VRels.sing (ρ := ρ) (v := .int .i64 v12) rfl e12)) kc_int64 (VRels.seg (o := 16) 1 ((VRels.sing (ρ := ρ) (v := .int .i64 v13) rfl e13)) kc_int64 (VRels.seg (o := 17) 1 ((VRels.sing (k14 ρ b3 h3).1 e14)) kc_s_int64 (VRels.seg (o := 18) 1 ((VRels.sing (ρ := ρ) (v := .int .i64 v15) rfl e15)) kc_int64 (VRels.seg (o := 19) 1 ((VRels.sing (ρ := ρ) (v := .int .i64 v16) rfl e16)) kc_int64 (VRels.done (ρ := ρ) (o := 20) rfl hl)))))))))))))))))
  exact ⟨hv, (k0 ρ b0 b1 h0 h1).2.1, (k0 ρ b0 b1 h0 h1).2.2, (k10 ρ b2 h2).2, (k14 ρ b3 h3).2⟩
theorem open_vt {H : Type} {enc : TypeId × Value → H} {W : World} {base : Nat} {held : Bool} {fuel : Nat} {cs : List Value} {x : DataW H × List MemPlace}
    (h : DataW.trod enc Tryz.prog W base (fun _ => true) held fuel 159 cs = some x) : ∃ (s : Vt) (q0 q1 q2 q3 q4 : Pm), ∀ (ρ : Vm.Loc) (b0 b1 b2 b3 b4 : Blk), AtQ ρ b0 q0 → AtQ ρ b1 q1 → AtQ ρ b2 q2 → AtQ ρ b3 q3 → AtQ ρ b4 q4 → VRels ρ (vtC b0 b1 b2 b3 b4 s) cs ∧ OpenAt ρ W (.arr (intE .i64) s.par.params) b0 ∧ OpenAt ρ W (.arr pairE s.scr.grid.cells) b1 ∧ OpenAt ρ W (.arr pairE s.scr.grid.back) b2 ∧ OpenAt ρ W (.arr boolE s.scr.tabs) b3 ∧ OpenAt ρ W (.arr (intE .i64) s.scr.sets) b4 := by
  obtain ⟨n, hl, hf⟩ := trod_fields Tryz.underlying159 h
  rw [kc_Vt] at hl
  obtain ⟨y0, g0⟩ := hf 0 _ rfl
  obtain ⟨v0, k0⟩ := open_dec g0
  obtain ⟨y1, g1⟩ := hf 1 _ rfl
  obtain ⟨v1, p0, k1⟩ := open_par g1
  obtain ⟨y2, g2⟩ := hf 2 _ rfl
  obtain ⟨v2, p1, p2, p3, p4, k2⟩ := open_scr g2
  refine ⟨⟨v0, v1, v2⟩, p0, p1, p2, p3, p4, fun ρ b0 b1 b2 b3 b4 h0 h1 h2 h3 h4 => ?_⟩
  have hv := VRels.seg (o := 0) 3 ((k0 ρ  )) kc_Decoder (VRels.seg (o := 3) 4 ((k1 ρ b0 h0).1) kc_Parser (VRels.seg (o := 7) 20 ((k2 ρ b1 b2 b3 b4 h1 h2 h3 h4).1) kc_Screen (VRels.done (ρ := ρ) (o := 27) rfl hl)))
  exact ⟨hv, (k1 ρ b0 h0).2, (k2 ρ b1 b2 b3 b4 h1 h2 h3 h4).2.1, (k2 ρ b1 b2 b3 b4 h1 h2 h3 h4).2.2.1, (k2 ρ b1 b2 b3 b4 h1 h2 h3 h4).2.2.2.1, (k2 ρ b1 b2 b3 b4 h1 h2 h3 h4).2.2.2.2⟩
theorem open_wy {H : Type} {enc : TypeId × Value → H} {W : World} {base : Nat} {held : Bool} {fuel : Nat} {cs : List Value} {x : DataW H × List MemPlace}
    (h : DataW.trod enc Tryz.prog W base (fun _ => true) held fuel 63 cs = some x) : ∃ (s : Wy), ∀ (ρ : Vm.Loc), VRels ρ (wyC s) cs := by
  obtain ⟨n, hl, hf⟩ := trod_fields Tryz.underlying63 h
  rw [kc_Way] at hl
  obtain ⟨y0, g0⟩ := hf 0 _ rfl
  obtain ⟨v0, e0, _, _⟩ := DataW.trod_int Tryz.underlying2 g0
  obtain ⟨y1, g1⟩ := hf 1 _ rfl
  obtain ⟨v1, e1, _, _⟩ := DataW.trod_int Tryz.underlying2 g1
  obtain ⟨y2, g2⟩ := hf 2 _ rfl
  obtain ⟨v2, e2, _, _⟩ := DataW.trod_int Tryz.underlying2 g2
  obtain ⟨y3, g3⟩ := hf 3 _ rfl
  obtain ⟨v3, e3, _, _⟩ := DataW.trod_int Tryz.underlying2 g3
  obtain ⟨y4, g4⟩ := hf 4 _ rfl
  obtain ⟨v4, e4, _, _⟩ := DataW.trod_int Tryz.underlying2 g4
  obtain ⟨y5, g5⟩ := hf 5 _ rfl
  obtain ⟨v5, e5, _, _⟩ := DataW.trod_int Tryz.underlying2 g5
  obtain ⟨y6, g6⟩ := hf 6 _ rfl
  obtain ⟨v6, e6, _, _⟩ := DataW.trod_int Tryz.underlying2 g6
  refine ⟨⟨v0, v1, v2, v3, v4, v5, v6⟩, fun ρ => ?_⟩
  have hv := VRels.seg (o := 0) 1 ((VRels.sing (ρ := ρ) (v := .int .i64 v0) rfl e0)) kc_int64 (VRels.seg (o := 1) 1 ((VRels.sing (ρ := ρ) (v := .int .i64 v1) rfl e1)) kc_int64 (VRels.seg (o := 2) 1 ((VRels.sing (ρ := ρ) (v := .int .i64 v2) rfl e2)) kc_int64 (VRels.seg (o := 3) 1 ((VRels.sing (ρ := ρ) (v := .int .i64 v3) rfl e3)) kc_int64 (VRels.seg (o := 4) 1 ((VRels.sing (ρ := ρ) (v := .int .i64 v4) rfl e4)) kc_int64 (VRels.seg (o := 5) 1 ((VRels.sing (ρ := ρ) (v := .int .i64 v5) rfl e5)) kc_int64 (VRels.seg (o := 6) 1 ((VRels.sing (ρ := ρ) (v := .int .i64 v6) rfl e6)) kc_int64 (VRels.done (ρ := ρ) (o := 7) rfl hl)))))))
  exact hv
theorem open_lin {H : Type} {enc : TypeId × Value → H} {W : World} {base : Nat} {held : Bool} {fuel : Nat} {cs : List Value} {x : DataW H × List MemPlace}
    (h : DataW.trod enc Tryz.prog W base (fun _ => true) held fuel 160 cs = some x) : ∃ (s : Lin) (q0 q1 : Pm), ∀ (ρ : Vm.Loc) (b0 b1 : Blk), AtQ ρ b0 q0 → AtQ ρ b1 q1 → VRels ρ (linC b0 b1 s) cs ∧ OpenAt ρ W (bytesN s.ready) b0 ∧ OpenAt ρ W (.arr (intE .u8) s.edit) b1 := by
  obtain ⟨n, hl, hf⟩ := trod_fields Tryz.underlying160 h
  rw [kc_Line] at hl
  obtain ⟨y0, g0⟩ := hf 0 _ rfl
  obtain ⟨v0, p0, r0, e0, k0⟩ := open_nest (d := ([] : List Int)) Tryz.underlying128 (by decide) nest_u8 g0
  obtain ⟨y1, g1⟩ := hf 1 _ rfl
  obtain ⟨v1, p1, r1, e1, k1⟩ := open_sl Tryz.underlying34 ok5 flat_u8 g1
  obtain ⟨y2, g2⟩ := hf 2 _ rfl
  obtain ⟨v2, e2, _⟩ := DataW.trod_bool Tryz.underlying4 g2
  obtain ⟨y3, g3⟩ := hf 3 _ rfl
  obtain ⟨v3, e3, _, _⟩ := DataW.trod_int Tryz.underlying2 g3
  refine ⟨⟨v0, v1, v2, v3⟩, p0, p1, fun ρ b0 b1 h0 h1 => ?_⟩
  have hv := VRels.seg (o := 0) 1 ((VRels.sing (k0 ρ b0 h0).1 e0)) kc_s_s_uint8 (VRels.seg (o := 1) 1 ((VRels.sing (k1 ρ b1 h1).1 e1)) kc_s_uint8 (VRels.seg (o := 2) 1 ((VRels.sing (ρ := ρ) (v := .prop (v2 = true)) ⟨v2, rfl, Iff.rfl⟩ e2)) kc_bool (VRels.seg (o := 3) 1 ((VRels.sing (ρ := ρ) (v := .int .i64 v3) rfl e3)) kc_int64 (VRels.done (ρ := ρ) (o := 4) rfl hl))))
  exact ⟨hv, (k0 ρ b0 h0).2, (k1 ρ b1 h1).2⟩
theorem open_con {H : Type} {enc : TypeId × Value → H} {W : World} {base : Nat} {held : Bool} {fuel : Nat} {cs : List Value} {x : DataW H × List MemPlace}
    (h : DataW.trod enc Tryz.prog W base (fun _ => true) held fuel 162 cs = some x) : ∃ (s : Con) (q0 q1 q2 q3 q4 q5 q6 : Pm), ∀ (ρ : Vm.Loc) (b0 b1 b2 b3 b4 b5 b6 : Blk), AtQ ρ b0 q0 → AtQ ρ b1 q1 → AtQ ρ b2 q2 → AtQ ρ b3 q3 → AtQ ρ b4 q4 → AtQ ρ b5 q5 → AtQ ρ b6 q6 → VRels ρ (conC b0 b1 b2 b3 b4 b5 b6 s) cs ∧ OpenAt ρ W (.arr (intE .i64) s.vt.par.params) b0 ∧ OpenAt ρ W (.arr pairE s.vt.scr.grid.cells) b1 ∧ OpenAt ρ W (.arr pairE s.vt.scr.grid.back) b2 ∧ OpenAt ρ W (.arr boolE s.vt.scr.tabs) b3 ∧ OpenAt ρ W (.arr (intE .i64) s.vt.scr.sets) b4 ∧ OpenAt ρ W (bytesN s.lin.ready) b5 ∧ OpenAt ρ W (.arr (intE .u8) s.lin.edit) b6 := by
  obtain ⟨n, hl, hf⟩ := trod_fields Tryz.underlying162 h
  rw [kc_Console] at hl
  obtain ⟨y0, g0⟩ := hf 0 _ rfl
  obtain ⟨v0, p0, p1, p2, p3, p4, k0⟩ := open_vt g0
  obtain ⟨y1, g1⟩ := hf 1 _ rfl
  obtain ⟨v1, k1⟩ := open_wy g1
  obtain ⟨y2, g2⟩ := hf 2 _ rfl
  obtain ⟨v2, p5, p6, k2⟩ := open_lin g2
  refine ⟨⟨v0, v1, v2⟩, p0, p1, p2, p3, p4, p5, p6, fun ρ b0 b1 b2 b3 b4 b5 b6 h0 h1 h2 h3 h4 h5 h6 => ?_⟩
  have hv := VRels.seg (o := 0) 27 ((k0 ρ b0 b1 b2 b3 b4 h0 h1 h2 h3 h4).1) kc_Vt (VRels.seg (o := 27) 7 ((k1 ρ  )) kc_Way (VRels.seg (o := 34) 4 ((k2 ρ b5 b6 h5 h6).1) kc_Line (VRels.done (ρ := ρ) (o := 38) rfl hl)))
  exact ⟨hv, (k0 ρ b0 b1 b2 b3 b4 h0 h1 h2 h3 h4).2.1, (k0 ρ b0 b1 b2 b3 b4 h0 h1 h2 h3 h4).2.2.1, (k0 ρ b0 b1 b2 b3 b4 h0 h1 h2 h3 h4).2.2.2.1, (k0 ρ b0 b1 b2 b3 b4 h0 h1 h2 h3 h4).2.2.2.2.1, (k0 ρ b0 b1 b2 b3 b4 h0 h1 h2 h3 h4).2.2.2.2.2, (k2 ρ b5 b6 h5 h6).2.1, (k2 ρ b5 b6 h5 h6).2.2⟩
theorem nest_con {H : Type} : NestT H Tryz.prog 162 38 conG [0, 1, 2, 3, 4, 5, 6] conF :=
  ⟨kc_Console, fun _ _ _ _ _ _ _ h => by
    obtain ⟨s, q0, q1, q2, q3, q4, q5, q6, k⟩ := open_con h
    refine ⟨s, fun j => match j with | 0 => q0 | 1 => q1 | 2 => q2 | 3 => q3 | 4 => q4 | 5 => q5 | _ => q6, fun ρ n hn => ?_⟩
    obtain ⟨h1, h2⟩ := k ρ (n 0) (n 1) (n 2) (n 3) (n 4) (n 5) (n 6) (hn 0 (by simp)) (hn 1 (by simp)) (hn 2 (by simp)) (hn 3 (by simp)) (hn 4 (by simp)) (hn 5 (by simp)) (hn 6 (by simp))
    refine ⟨h1, fun j hj => ?_⟩
    obtain ⟨g0, g1, g2, g3, g4, g5, g6⟩ := h2
    simp only [List.mem_cons, List.not_mem_nil, or_false] at hj
    rcases hj with rfl | rfl | rfl | rfl | rfl | rfl | rfl
    · exact g0
    · exact g1
    · exact g2
    · exact g3
    · exact g4
    · exact g5
    · exact g6⟩
theorem open_kbd {H : Type} {enc : TypeId × Value → H} {W : World} {base : Nat} {held : Bool} {fuel : Nat} {cs : List Value} {x : DataW H × List MemPlace}
    (h : DataW.trod enc Tryz.prog W base (fun _ => true) held fuel 28 cs = some x) : ∃ (s : Kbd) (q0 : Pm), ∀ (ρ : Vm.Loc) (b0 : Blk), AtQ ρ b0 q0 → VRels ρ (kbdC b0 s) cs ∧ OpenAt ρ W (.arr pairE s.holds) b0 := by
  obtain ⟨n, hl, hf⟩ := trod_fields Tryz.underlying28 h
  rw [kc_Keyboard] at hl
  obtain ⟨y0, g0⟩ := hf 0 _ rfl
  obtain ⟨v0, p0, r0, e0, k0⟩ := open_sl Tryz.underlying26 ok225 flat_hold g0
  obtain ⟨y1, g1⟩ := hf 1 _ rfl
  obtain ⟨v1, e1, _⟩ := DataW.trod_bool Tryz.underlying4 g1
  obtain ⟨y2, g2⟩ := hf 2 _ rfl
  obtain ⟨v2, e2, _, _⟩ := DataW.trod_int Tryz.underlying2 g2
  refine ⟨⟨v0, v1, v2⟩, p0, fun ρ b0 h0 => ?_⟩
  have hv := VRels.seg (o := 0) 1 ((VRels.sing (k0 ρ b0 h0).1 e0)) kc_s_Hold (VRels.seg (o := 1) 1 ((VRels.sing (ρ := ρ) (v := .prop (v1 = true)) ⟨v1, rfl, Iff.rfl⟩ e1)) kc_bool (VRels.seg (o := 2) 1 ((VRels.sing (ρ := ρ) (v := .int .i64 v2) rfl e2)) kc_int64 (VRels.done (ρ := ρ) (o := 3) rfl hl)))
  exact ⟨hv, (k0 ρ b0 h0).2⟩
theorem open_mux {H : Type} {enc : TypeId × Value → H} {W : World} {base : Nat} {held : Bool} {fuel : Nat} {cs : List Value} {x : DataW H × List MemPlace}
    (h : DataW.trod enc Tryz.prog W base (fun _ => true) held fuel 30 cs = some x) : ∃ (s : Mux) (q0 q1 q2 q3 q4 : Pm), ∀ (ρ : Vm.Loc) (b0 b1 b2 b3 b4 : Blk), AtQ ρ b0 q0 → AtQ ρ b1 q1 → AtQ ρ b2 q2 → AtQ ρ b3 q3 → AtQ ρ b4 q4 → VRels ρ (muxC b0 b1 b2 b3 b4 s) cs ∧ OpenAt ρ W (consN s.cons) b0 ∧ OpenAt ρ W (.arr boolE s.polite) b1 ∧ OpenAt ρ W (.arr quadE s.binds) b2 ∧ OpenAt ρ W (.arr strE s.texts) b3 ∧ OpenAt ρ W (.arr pairE s.kbd.holds) b4 := by
  obtain ⟨n, hl, hf⟩ := trod_fields Tryz.underlying30 h
  rw [kc_Mux] at hl
  obtain ⟨y0, g0⟩ := hf 0 _ rfl
  obtain ⟨v0, p0, r0, e0, k0⟩ := open_nest (d := con0) Tryz.underlying22 (by decide) nest_con g0
  obtain ⟨y1, g1⟩ := hf 1 _ rfl
  obtain ⟨v1, p1, r1, e1, k1⟩ := open_sl Tryz.underlying23 ok4 flat_b g1
  obtain ⟨y2, g2⟩ := hf 2 _ rfl
  obtain ⟨v2, e2, _, _⟩ := DataW.trod_int Tryz.underlying2 g2
  obtain ⟨y3, g3⟩ := hf 3 _ rfl
  obtain ⟨v3, e3, _, _⟩ := DataW.trod_int Tryz.underlying2 g3
  obtain ⟨y4, g4⟩ := hf 4 _ rfl
  obtain ⟨v4, e4, _, _⟩ := DataW.trod_int Tryz.underlying2 g4
  obtain ⟨y5, g5⟩ := hf 5 _ rfl
  obtain ⟨v5, p2, r5, e5, k5⟩ := open_sl Tryz.underlying24 ok95 flat_bind g5
  obtain ⟨y6, g6⟩ := hf 6 _ rfl
  obtain ⟨v6, p3, r6, e6, k6⟩ := open_sl Tryz.underlying25 ok9 flat_s g6
  obtain ⟨y7, g7⟩ := hf 7 _ rfl
  obtain ⟨v7, p4, k7⟩ := open_kbd g7
  refine ⟨⟨v0, v1, v2, v3, v4, v5, v6, v7⟩, p0, p1, p2, p3, p4, fun ρ b0 b1 b2 b3 b4 h0 h1 h2 h3 h4 => ?_⟩
  have hv := VRels.seg (o := 0) 1 ((VRels.sing (k0 ρ b0 h0).1 e0)) kc_s_Console (VRels.seg (o := 1) 1 ((VRels.sing (k1 ρ b1 h1).1 e1)) kc_s_bool (VRels.seg (o := 2) 1 ((VRels.sing (ρ := ρ) (v := .int .i64 v2) rfl e2)) kc_int64 (VRels.seg (o := 3) 1 ((VRels.sing (ρ := ρ) (v := .int .i64 v3) rfl e3)) kc_int64 (VRels.seg (o := 4) 1 ((VRels.sing (ρ := ρ) (v := .int .i64 v4) rfl e4)) kc_int64 (VRels.seg (o := 5) 1 ((VRels.sing (k5 ρ b2 h2).1 e5)) kc_s_Bind (VRels.seg (o := 6) 1 ((VRels.sing (k6 ρ b3 h3).1 e6)) kc_s_string (VRels.seg (o := 7) 3 ((k7 ρ b4 h4).1) kc_Keyboard (VRels.done (ρ := ρ) (o := 10) rfl hl))))))))
  exact ⟨hv, (k0 ρ b0 h0).2, (k1 ρ b1 h1).2, (k5 ρ b2 h2).2, (k6 ρ b3 h3).2, (k7 ρ b4 h4).2⟩
end Go.Mu
