/- An abstract machine over the loaded code: the data of this program. -/
import Derived.Test.YtofeeoknfhekkaaGreatVmG
import Derived.Deep.Slices
import Derived.Deep.SlicePairs
import Derived.ChangeArms
import Derived.Below
set_option linter.unusedSimpArgs false
set_option linter.unusedVariables false
set_option linter.constructorNameAsVariable false
namespace Go.Vm
open Go.RowKit
set_option maxRecDepth 20000

abbrev Qd := Int × Int × Int × Int
def quadParse : List AV → Option Qd
  | [.int .i64 a, .int .i64 b, .int .i64 c, .int .i64 d] => some (a, b, c, d)
  | _ => none
def quadPut (x : Qd) (j : Nat) (vs : List AV) : Option Qd := match j, vs with
  | 0, [.int .i64 a, .int .i64 b, .int .i64 c, .int .i64 d] => some (a, b, c, d)
  | 0, [.int .i64 a] => some (a, x.2)
  | 1, [.int .i64 a] => some (x.1, a, x.2.2)
  | 2, [.int .i64 a] => some (x.1, x.2.1, a, x.2.2.2)
  | 3, [.int .i64 a] => some (x.1, x.2.1, x.2.2.1, a)
  | 2, [.int .i64 a, .int .i64 b] => some (x.1, x.2.1, a, b)
  | _, _ => none
/-- structs of four whole numbers -/
def quadE : Enc Qd := { m := 4, d := (0, 0, 0, 0), cells := fun x => [.int .i64 x.1, .int .i64 x.2.1, .int .i64 x.2.2.1, .int .i64 x.2.2.2], put := quadPut, parse := quadParse }
theorem VRels.four {ρ : Loc} {a b c d : AV} {rs : List Value} (h : VRels ρ [a, b, c, d] rs) : ∃ x y z u, rs = [x, y, z, u] ∧ VRel ρ a x ∧ VRel ρ b y ∧ VRel ρ c z ∧ VRel ρ d u := by
  obtain ⟨x, _, rfl, h1, y, _, rfl, h2, z, _, rfl, h3, u, _, rfl, h4, rfl⟩ := h
  exact ⟨x, y, z, u, rfl, h1, h2, h3, h4⟩
theorem VRels.mk4 {ρ : Loc} {a b c d : AV} {x y z u : Value} (h1 : VRel ρ a x) (h2 : VRel ρ b y) (h3 : VRel ρ c z) (h4 : VRel ρ d u) : VRels ρ [a, b, c, d] [x, y, z, u] :=
  ⟨x, _, rfl, h1, y, _, rfl, h2, z, _, rfl, h3, u, _, rfl, h4, rfl⟩
theorem quadE_ok {P : Program} {T : TypeId} (hm : (P.info? T).map (·.size) = some 4) (hz : ((P.info? T).bind (·.zero)).map (·.cells.toList) = some [.int .i64 0, .int .i64 0, .int .i64 0, .int .i64 0]) : EncOk P T quadE where
  m := hm
  pos := by decide
  len := fun _ => rfl
  plain := fun _ _ => ⟨trivial, trivial, trivial, trivial, trivial⟩
  flat := fun _ => rfl
  put := fun x j vs y h => by
    simp only [quadE, quadPut] at h
    split at h
    · injection h with h; subst h
      refine ⟨by simp [quadE], fun ρ rs l h1 h2 => ?_⟩
      obtain ⟨u1, u2, u3, u4, rfl, g1, g2, g3, g4⟩ := VRels.four h1
      obtain ⟨v1, v2, v3, v4, rfl, k1, k2, k3, k4⟩ := VRels.four h2; exact .mk4 k1 k2 k3 k4
    · injection h with h; subst h
      refine ⟨by simp [quadE], fun ρ rs l h1 h2 => ?_⟩
      obtain ⟨u1, u2, u3, u4, rfl, g1, g2, g3, g4⟩ := VRels.four h1
      obtain ⟨v1, rfl, k1⟩ := VRels.one h2; exact .mk4 k1 g2 g3 g4
    · injection h with h; subst h
      refine ⟨by simp [quadE], fun ρ rs l h1 h2 => ?_⟩
      obtain ⟨u1, u2, u3, u4, rfl, g1, g2, g3, g4⟩ := VRels.four h1
      obtain ⟨v1, rfl, k1⟩ := VRels.one h2; exact .mk4 g1 k1 g3 g4
    · injection h with h; subst h
      refine ⟨by simp [quadE], fun ρ rs l h1 h2 => ?_⟩
      obtain ⟨u1, u2, u3, u4, rfl, g1, g2, g3, g4⟩ := VRels.four h1
      obtain ⟨v1, rfl, k1⟩ := VRels.one h2; exact .mk4 g1 g2 k1 g4
    · injection h with h; subst h
      refine ⟨by simp [quadE], fun ρ rs l h1 h2 => ?_⟩
      obtain ⟨u1, u2, u3, u4, rfl, g1, g2, g3, g4⟩ := VRels.four h1
      obtain ⟨v1, rfl, k1⟩ := VRels.one h2; exact .mk4 g1 g2 g3 k1
    · injection h with h; subst h
      refine ⟨by simp [quadE], fun ρ rs l h1 h2 => ?_⟩
      obtain ⟨u1, u2, u3, u4, rfl, g1, g2, g3, g4⟩ := VRels.four h1
      obtain ⟨v1, v2, rfl, k1, k2⟩ := VRels.two h2; exact .mk4 g1 g2 k1 k2
    · exact nomatch h
  parse := fun vs y h => by
    simp only [quadE, quadParse] at h
    split at h
    · simp at h; subst h
      exact fun _ _ h => h
    · simp at h
  zero := ⟨_, hz, fun _ => VRels.mk4 rfl rfl rfl rfl⟩

/-- bytes of elements -/
@[reducible] def bytesG (n : Nat → Blk) (x : List Int) : List AV := [.sl (n 0) 1 none x.length]
@[reducible] def bytesF (x : List Int) (_ : Nat) : Cont := .arr (intE .u8) x
@[reducible] def bytesN (xs : List (List Int)) : Cont := .nest 1 [] bytesG [0] bytesF xs none
theorem bytesN_ok {P : Program} {T : TypeId} (hm : (P.info? T).map (·.size) = some 1) (hz : ((P.info? T).bind (·.zero)).map (·.cells.toList) = some [.slice none 0 0]) : NestOk P T 1 [] bytesG [0] bytesF where
  siz := hm
  pos := by decide
  len := fun _ _ => rfl
  flat := fun _ _ => rfl
  lt := fun N n x h => ⟨h 0 (by simp), trivial⟩
  ren := fun ρ ρ' n n' x rs h hr => by
    have h0 := h 0 (by simp)
    simpa only [bytesG, VRels, VRel, h0] using hr
  zero := ⟨_, hz, fun ρ n h => ⟨_, [], rfl, .inl ⟨h 0 (by simp), rfl, rfl, _, rfl⟩, rfl⟩⟩
  nil := fun j _ => rfl
structure Dec where
  left : Int
  low : Int
  value : Int
@[reducible] def decC (s : Dec) : List AV := [.int .i64 s.left, .int .i64 s.low, .int .i64 s.value]
structure Par where
  mode : Int
  set : Int
  priv : Bool
  params : List Int
@[reducible] def parC (b0 : Blk) (s : Par) : List AV := [.int .i64 s.mode, .int .i64 s.set, .prop (s.priv = true), .sl b0 1 none s.params.length]
@[reducible] noncomputable def parH (w : Bool) (b0 : Blk) (s : Par) (r : List Ent) : List Ent := ⟨b0, w, .arr (intE .i64) s.params⟩ :: r
structure Grd where
  rows : Int
  width : Int
  cells : List (Int × Int)
  back : List (Int × Int)
@[reducible] def grdC (b0 : Blk) (b1 : Blk) (s : Grd) : List AV := [.int .i64 s.rows, .int .i64 s.width, .sl b0 2 none s.cells.length, .sl b1 2 none s.back.length]
@[reducible] noncomputable def grdH (w : Bool) (b0 : Blk) (b1 : Blk) (s : Grd) (r : List Ent) : List Ent := ⟨b0, w, .arr pairE s.cells⟩ :: ⟨b1, w, .arr pairE s.back⟩ :: r
structure Scr where
  grid : Grd
  y : Int
  x : Int
  wrap : Bool
  attr : Int
  top : Int
  bottom : Int
  origin : Bool
  autow : Bool
  insert : Bool
  tabs : List Bool
  keptY : Int
  keptX : Int
  keptA : Int
  sets : List Int
  shift : Int
  bells : Int
@[reducible] def scrC (b0 : Blk) (b1 : Blk) (b2 : Blk) (b3 : Blk) (s : Scr) : List AV := [.int .i64 s.grid.rows, .int .i64 s.grid.width, .sl b0 2 none s.grid.cells.length, .sl b1 2 none s.grid.back.length, .int .i64 s.y, .int .i64 s.x, .prop (s.wrap = true), .int .i64 s.attr, .int .i64 s.top, .int .i64 s.bottom, .prop (s.origin = true), .prop (s.autow = true), .prop (s.insert = true), .sl b2 1 none s.tabs.length, .int .i64 s.keptY, .int .i64 s.keptX, .int .i64 s.keptA, .sl b3 1 none s.sets.length, .int .i64 s.shift, .int .i64 s.bells]
@[reducible] noncomputable def scrH (w : Bool) (b0 : Blk) (b1 : Blk) (b2 : Blk) (b3 : Blk) (s : Scr) (r : List Ent) : List Ent := ⟨b0, w, .arr pairE s.grid.cells⟩ :: ⟨b1, w, .arr pairE s.grid.back⟩ :: ⟨b2, w, .arr boolE s.tabs⟩ :: ⟨b3, w, .arr (intE .i64) s.sets⟩ :: r
structure Vt where
  dec : Dec
  par : Par
  scr : Scr
@[reducible] def vtC (b0 : Blk) (b1 : Blk) (b2 : Blk) (b3 : Blk) (b4 : Blk) (s : Vt) : List AV := [.int .i64 s.dec.left, .int .i64 s.dec.low, .int .i64 s.dec.value, .int .i64 s.par.mode, .int .i64 s.par.set, .prop (s.par.priv = true), .sl b0 1 none s.par.params.length, .int .i64 s.scr.grid.rows, .int .i64 s.scr.grid.width, .sl b1 2 none s.scr.grid.cells.length, .sl b2 2 none s.scr.grid.back.length, .int .i64 s.scr.y, .int .i64 s.scr.x, .prop (s.scr.wrap = true), .int .i64 s.scr.attr, .int .i64 s.scr.top, .int .i64 s.scr.bottom, .prop (s.scr.origin = true), .prop (s.scr.autow = true), .prop (s.scr.insert = true), .sl b3 1 none s.scr.tabs.length, .int .i64 s.scr.keptY, .int .i64 s.scr.keptX, .int .i64 s.scr.keptA, .sl b4 1 none s.scr.sets.length, .int .i64 s.scr.shift, .int .i64 s.scr.bells]
@[reducible] noncomputable def vtH (w : Bool) (b0 : Blk) (b1 : Blk) (b2 : Blk) (b3 : Blk) (b4 : Blk) (s : Vt) (r : List Ent) : List Ent := ⟨b0, w, .arr (intE .i64) s.par.params⟩ :: ⟨b1, w, .arr pairE s.scr.grid.cells⟩ :: ⟨b2, w, .arr pairE s.scr.grid.back⟩ :: ⟨b3, w, .arr boolE s.scr.tabs⟩ :: ⟨b4, w, .arr (intE .i64) s.scr.sets⟩ :: r
structure Wy where
  flags : Int
  erase : Int
  kill : Int
  word : Int
  fin : Int
  brk : Int
  next : Int
@[reducible] def wyC (s : Wy) : List AV := [.int .i64 s.flags, .int .i64 s.erase, .int .i64 s.kill, .int .i64 s.word, .int .i64 s.fin, .int .i64 s.brk, .int .i64 s.next]
structure Lin where
  ready : List (List Int)
  edit : List Int
  lit : Bool
  breaks : Int
@[reducible] def linC (b0 : Blk) (b1 : Blk) (s : Lin) : List AV := [.sl b0 1 none s.ready.length, .sl b1 1 none s.edit.length, .prop (s.lit = true), .int .i64 s.breaks]
@[reducible] noncomputable def linH (w : Bool) (b0 : Blk) (b1 : Blk) (s : Lin) (r : List Ent) : List Ent := ⟨b0, w, bytesN s.ready⟩ :: ⟨b1, w, .arr (intE .u8) s.edit⟩ :: r
structure Con where
  vt : Vt
  way : Wy
  lin : Lin
@[reducible] def conC (b0 : Blk) (b1 : Blk) (b2 : Blk) (b3 : Blk) (b4 : Blk) (b5 : Blk) (b6 : Blk) (s : Con) : List AV := [.int .i64 s.vt.dec.left, .int .i64 s.vt.dec.low, .int .i64 s.vt.dec.value, .int .i64 s.vt.par.mode, .int .i64 s.vt.par.set, .prop (s.vt.par.priv = true), .sl b0 1 none s.vt.par.params.length, .int .i64 s.vt.scr.grid.rows, .int .i64 s.vt.scr.grid.width, .sl b1 2 none s.vt.scr.grid.cells.length, .sl b2 2 none s.vt.scr.grid.back.length, .int .i64 s.vt.scr.y, .int .i64 s.vt.scr.x, .prop (s.vt.scr.wrap = true), .int .i64 s.vt.scr.attr, .int .i64 s.vt.scr.top, .int .i64 s.vt.scr.bottom, .prop (s.vt.scr.origin = true), .prop (s.vt.scr.autow = true), .prop (s.vt.scr.insert = true), .sl b3 1 none s.vt.scr.tabs.length, .int .i64 s.vt.scr.keptY, .int .i64 s.vt.scr.keptX, .int .i64 s.vt.scr.keptA, .sl b4 1 none s.vt.scr.sets.length, .int .i64 s.vt.scr.shift, .int .i64 s.vt.scr.bells, .int .i64 s.way.flags, .int .i64 s.way.erase, .int .i64 s.way.kill, .int .i64 s.way.word, .int .i64 s.way.fin, .int .i64 s.way.brk, .int .i64 s.way.next, .sl b5 1 none s.lin.ready.length, .sl b6 1 none s.lin.edit.length, .prop (s.lin.lit = true), .int .i64 s.lin.breaks]
@[reducible] noncomputable def conH (w : Bool) (b0 : Blk) (b1 : Blk) (b2 : Blk) (b3 : Blk) (b4 : Blk) (b5 : Blk) (b6 : Blk) (s : Con) (r : List Ent) : List Ent := ⟨b0, w, .arr (intE .i64) s.vt.par.params⟩ :: ⟨b1, w, .arr pairE s.vt.scr.grid.cells⟩ :: ⟨b2, w, .arr pairE s.vt.scr.grid.back⟩ :: ⟨b3, w, .arr boolE s.vt.scr.tabs⟩ :: ⟨b4, w, .arr (intE .i64) s.vt.scr.sets⟩ :: ⟨b5, w, bytesN s.lin.ready⟩ :: ⟨b6, w, .arr (intE .u8) s.lin.edit⟩ :: r
def con0 : Con := ⟨⟨⟨0, 0, 0⟩, ⟨0, 0, false, []⟩, ⟨⟨0, 0, [], []⟩, 0, 0, false, 0, 0, 0, false, false, false, [], 0, 0, 0, [], 0, 0⟩⟩, ⟨0, 0, 0, 0, 0, 0, 0⟩, ⟨[], [], false, 0⟩⟩
@[reducible] def conG (n : Nat → Blk) (s : Con) : List AV := conC (n 0) (n 1) (n 2) (n 3) (n 4) (n 5) (n 6) s
@[reducible] noncomputable def conF (s : Con) (j : Nat) : Cont := match j with
  | 0 => .arr (intE .i64) s.vt.par.params
  | 1 => .arr pairE s.vt.scr.grid.cells
  | 2 => .arr pairE s.vt.scr.grid.back
  | 3 => .arr boolE s.vt.scr.tabs
  | 4 => .arr (intE .i64) s.vt.scr.sets
  | 5 => bytesN s.lin.ready
  | _ => .arr (intE .u8) s.lin.edit
@[reducible] noncomputable def consN (xs : List Con) : Cont := .nest 38 con0 conG [0, 1, 2, 3, 4, 5, 6] conF xs none
theorem consN_ok {P : Program} {T : TypeId} (hm : (P.info? T).map (·.size) = some 38) (hz : ((P.info? T).bind (·.zero)).map (·.cells.toList) = some [.int .i64 0, .int .i64 0, .int .i64 0, .int .i64 0, .int .i64 0, .bool false, .slice none 0 0, .int .i64 0, .int .i64 0, .slice none 0 0, .slice none 0 0, .int .i64 0, .int .i64 0, .bool false, .int .i64 0, .int .i64 0, .int .i64 0, .bool false, .bool false, .bool false, .slice none 0 0, .int .i64 0, .int .i64 0, .int .i64 0, .slice none 0 0, .int .i64 0, .int .i64 0, .int .i64 0, .int .i64 0, .int .i64 0, .int .i64 0, .int .i64 0, .int .i64 0, .int .i64 0, .slice none 0 0, .slice none 0 0, .bool false, .int .i64 0]) : NestOk P T 38 con0 conG [0, 1, 2, 3, 4, 5, 6] conF where
  siz := hm
  pos := by decide
  len := fun _ _ => rfl
  flat := fun _ _ => rfl
  lt := fun N n x h => by
    have h0 := h 0 (by simp); have h1 := h 1 (by simp); have h2 := h 2 (by simp); have h3 := h 3 (by simp); have h4 := h 4 (by simp); have h5 := h 5 (by simp); have h6 := h 6 (by simp)
    simp only [conG, conC, AV.lts, AV.lt, and_true, true_and]
    exact ⟨h0, h1, h2, h3, h4, h5, h6⟩
  ren := fun ρ ρ' n n' x rs h hr => by
    have h0 := h 0 (by simp); have h1 := h 1 (by simp); have h2 := h 2 (by simp); have h3 := h 3 (by simp); have h4 := h 4 (by simp); have h5 := h 5 (by simp); have h6 := h 6 (by simp)
    simpa only [conG, conC, VRels, VRel, h0, h1, h2, h3, h4, h5, h6] using hr
  zero := ⟨_, hz, fun ρ n h => by
    have h0 := h 0 (by simp); have h1 := h 1 (by simp); have h2 := h 2 (by simp); have h3 := h 3 (by simp); have h4 := h 4 (by simp); have h5 := h 5 (by simp); have h6 := h 6 (by simp)
    have e : ∀ b m, ρ b = none → VRel ρ (.sl b m none 0) (.slice none 0 0) := fun b m h => .inl ⟨h, rfl, rfl, _, rfl⟩
    have f : VRel ρ (.prop (false = true)) (.bool false) := ⟨false, rfl, by simp⟩
    have i : VRel ρ (.int .i64 0) (.int .i64 0) := rfl
    have c : ∀ {v r vs rs}, VRel ρ v r → VRels ρ vs rs → VRels ρ (v :: vs) (r :: rs) := fun h1 h2 => ⟨_, _, rfl, h1, h2⟩
    have n0 : VRels ρ [] [] := rfl
    exact (c i (c i (c i (c i (c i (c f (c (e _ _ h0) (c i (c i (c (e _ _ h1) (c (e _ _ h2) (c i (c i (c f (c i (c i (c i (c f (c f (c f (c (e _ _ h3) (c i (c i (c i (c (e _ _ h4) (c i (c i (c i (c i (c i (c i (c i (c i (c i (c (e _ _ h5) (c (e _ _ h6) (c f (c i n0))))))))))))))))))))))))))))))))))))))⟩
  nil := fun j hj => by
    simp only [List.mem_cons, List.not_mem_nil, or_false] at hj
    rcases hj with rfl | rfl | rfl | rfl | rfl | rfl | rfl <;> first | rfl | exact ⟨rfl, rfl⟩
structure Kbd where
  holds : List (Int × Int)
  caps : Bool
  accent : Int
@[reducible] def kbdC (b0 : Blk) (s : Kbd) : List AV := [.sl b0 2 none s.holds.length, .prop (s.caps = true), .int .i64 s.accent]
@[reducible] noncomputable def kbdH (w : Bool) (b0 : Blk) (s : Kbd) (r : List Ent) : List Ent := ⟨b0, w, .arr pairE s.holds⟩ :: r
structure Mux where
  cons : List Con
  polite : List Bool
  active : Int
  pending : Int
  asked : Int
  binds : List Qd
  texts : List (List Int)
  kbd : Kbd
@[reducible] def muxC (b0 : Blk) (b1 : Blk) (b2 : Blk) (b3 : Blk) (b4 : Blk) (s : Mux) : List AV := [.sl b0 38 none s.cons.length, .sl b1 1 none s.polite.length, .int .i64 s.active, .int .i64 s.pending, .int .i64 s.asked, .sl b2 4 none s.binds.length, .sl b3 1 none s.texts.length, .sl b4 2 none s.kbd.holds.length, .prop (s.kbd.caps = true), .int .i64 s.kbd.accent]
@[reducible] noncomputable def muxH (w : Bool) (b0 : Blk) (b1 : Blk) (b2 : Blk) (b3 : Blk) (b4 : Blk) (s : Mux) (r : List Ent) : List Ent := ⟨b0, w, consN s.cons⟩ :: ⟨b1, w, .arr boolE s.polite⟩ :: ⟨b2, w, .arr quadE s.binds⟩ :: ⟨b3, w, .arr strE s.texts⟩ :: ⟨b4, w, .arr pairE s.kbd.holds⟩ :: r
structure VtR where
  code : Int
  vt : Vt
@[reducible] def vtRC (b0 : Blk) (b1 : Blk) (b2 : Blk) (b3 : Blk) (b4 : Blk) (s : VtR) : List AV := [.int .i64 s.code, .int .i64 s.vt.dec.left, .int .i64 s.vt.dec.low, .int .i64 s.vt.dec.value, .int .i64 s.vt.par.mode, .int .i64 s.vt.par.set, .prop (s.vt.par.priv = true), .sl b0 1 none s.vt.par.params.length, .int .i64 s.vt.scr.grid.rows, .int .i64 s.vt.scr.grid.width, .sl b1 2 none s.vt.scr.grid.cells.length, .sl b2 2 none s.vt.scr.grid.back.length, .int .i64 s.vt.scr.y, .int .i64 s.vt.scr.x, .prop (s.vt.scr.wrap = true), .int .i64 s.vt.scr.attr, .int .i64 s.vt.scr.top, .int .i64 s.vt.scr.bottom, .prop (s.vt.scr.origin = true), .prop (s.vt.scr.autow = true), .prop (s.vt.scr.insert = true), .sl b3 1 none s.vt.scr.tabs.length, .int .i64 s.vt.scr.keptY, .int .i64 s.vt.scr.keptX, .int .i64 s.vt.scr.keptA, .sl b4 1 none s.vt.scr.sets.length, .int .i64 s.vt.scr.shift, .int .i64 s.vt.scr.bells]
@[reducible] noncomputable def vtRH (w : Bool) (b0 : Blk) (b1 : Blk) (b2 : Blk) (b3 : Blk) (b4 : Blk) (s : VtR) (r : List Ent) : List Ent := ⟨b0, w, .arr (intE .i64) s.vt.par.params⟩ :: ⟨b1, w, .arr pairE s.vt.scr.grid.cells⟩ :: ⟨b2, w, .arr pairE s.vt.scr.grid.back⟩ :: ⟨b3, w, .arr boolE s.vt.scr.tabs⟩ :: ⟨b4, w, .arr (intE .i64) s.vt.scr.sets⟩ :: r
structure LinR where
  code : Int
  hit : Bool
  bytes : List Int
  echo : List Int
  lin : Lin
@[reducible] def linRC (b0 : Blk) (b1 : Blk) (b2 : Blk) (b3 : Blk) (s : LinR) : List AV := [.int .i64 s.code, .prop (s.hit = true), .sl b0 1 none s.bytes.length, .sl b1 1 none s.echo.length, .sl b2 1 none s.lin.ready.length, .sl b3 1 none s.lin.edit.length, .prop (s.lin.lit = true), .int .i64 s.lin.breaks]
@[reducible] noncomputable def linRH (w : Bool) (b0 : Blk) (b1 : Blk) (b2 : Blk) (b3 : Blk) (s : LinR) (r : List Ent) : List Ent := ⟨b0, w, .arr (intE .u8) s.bytes⟩ :: ⟨b1, w, .arr (intE .u8) s.echo⟩ :: ⟨b2, w, bytesN s.lin.ready⟩ :: ⟨b3, w, .arr (intE .u8) s.lin.edit⟩ :: r
structure ConR where
  code : Int
  hit : Bool
  bytes : List Int
  con : Con
@[reducible] def conRC (b0 : Blk) (b1 : Blk) (b2 : Blk) (b3 : Blk) (b4 : Blk) (b5 : Blk) (b6 : Blk) (b7 : Blk) (s : ConR) : List AV := [.int .i64 s.code, .prop (s.hit = true), .sl b0 1 none s.bytes.length, .int .i64 s.con.vt.dec.left, .int .i64 s.con.vt.dec.low, .int .i64 s.con.vt.dec.value, .int .i64 s.con.vt.par.mode, .int .i64 s.con.vt.par.set, .prop (s.con.vt.par.priv = true), .sl b1 1 none s.con.vt.par.params.length, .int .i64 s.con.vt.scr.grid.rows, .int .i64 s.con.vt.scr.grid.width, .sl b2 2 none s.con.vt.scr.grid.cells.length, .sl b3 2 none s.con.vt.scr.grid.back.length, .int .i64 s.con.vt.scr.y, .int .i64 s.con.vt.scr.x, .prop (s.con.vt.scr.wrap = true), .int .i64 s.con.vt.scr.attr, .int .i64 s.con.vt.scr.top, .int .i64 s.con.vt.scr.bottom, .prop (s.con.vt.scr.origin = true), .prop (s.con.vt.scr.autow = true), .prop (s.con.vt.scr.insert = true), .sl b4 1 none s.con.vt.scr.tabs.length, .int .i64 s.con.vt.scr.keptY, .int .i64 s.con.vt.scr.keptX, .int .i64 s.con.vt.scr.keptA, .sl b5 1 none s.con.vt.scr.sets.length, .int .i64 s.con.vt.scr.shift, .int .i64 s.con.vt.scr.bells, .int .i64 s.con.way.flags, .int .i64 s.con.way.erase, .int .i64 s.con.way.kill, .int .i64 s.con.way.word, .int .i64 s.con.way.fin, .int .i64 s.con.way.brk, .int .i64 s.con.way.next, .sl b6 1 none s.con.lin.ready.length, .sl b7 1 none s.con.lin.edit.length, .prop (s.con.lin.lit = true), .int .i64 s.con.lin.breaks]
@[reducible] noncomputable def conRH (w : Bool) (b0 : Blk) (b1 : Blk) (b2 : Blk) (b3 : Blk) (b4 : Blk) (b5 : Blk) (b6 : Blk) (b7 : Blk) (s : ConR) (r : List Ent) : List Ent := ⟨b0, w, .arr (intE .u8) s.bytes⟩ :: ⟨b1, w, .arr (intE .i64) s.con.vt.par.params⟩ :: ⟨b2, w, .arr pairE s.con.vt.scr.grid.cells⟩ :: ⟨b3, w, .arr pairE s.con.vt.scr.grid.back⟩ :: ⟨b4, w, .arr boolE s.con.vt.scr.tabs⟩ :: ⟨b5, w, .arr (intE .i64) s.con.vt.scr.sets⟩ :: ⟨b6, w, bytesN s.con.lin.ready⟩ :: ⟨b7, w, .arr (intE .u8) s.con.lin.edit⟩ :: r
structure MuxR where
  code : Int
  hit : Bool
  bytes : List Int
  mux : Mux
@[reducible] def muxRC (b0 : Blk) (b1 : Blk) (b2 : Blk) (b3 : Blk) (b4 : Blk) (b5 : Blk) (s : MuxR) : List AV := [.int .i64 s.code, .prop (s.hit = true), .sl b0 1 none s.bytes.length, .sl b1 38 none s.mux.cons.length, .sl b2 1 none s.mux.polite.length, .int .i64 s.mux.active, .int .i64 s.mux.pending, .int .i64 s.mux.asked, .sl b3 4 none s.mux.binds.length, .sl b4 1 none s.mux.texts.length, .sl b5 2 none s.mux.kbd.holds.length, .prop (s.mux.kbd.caps = true), .int .i64 s.mux.kbd.accent]
@[reducible] noncomputable def muxRH (w : Bool) (b0 : Blk) (b1 : Blk) (b2 : Blk) (b3 : Blk) (b4 : Blk) (b5 : Blk) (s : MuxR) (r : List Ent) : List Ent := ⟨b0, w, .arr (intE .u8) s.bytes⟩ :: ⟨b1, w, consN s.mux.cons⟩ :: ⟨b2, w, .arr boolE s.mux.polite⟩ :: ⟨b3, w, .arr quadE s.mux.binds⟩ :: ⟨b4, w, .arr strE s.mux.texts⟩ :: ⟨b5, w, .arr pairE s.mux.kbd.holds⟩ :: r
/-- a sum over a list -/
def sumC {α : Type} (cnt : α → Nat) : List α → Nat
  | [] => 0
  | x :: r => cnt x + sumC cnt r
structure ParB (s : Par) : Prop where
  params : s.params.length ≤ 1048576
structure GrdB (s : Grd) : Prop where
  cells : s.cells.length ≤ 1048576
  back : s.back.length ≤ 1048576
structure ScrB (s : Scr) : Prop where
  grid : GrdB s.grid
  tabs : s.tabs.length ≤ 1048576
  sets : s.sets.length ≤ 1048576
structure VtB (s : Vt) : Prop where
  par : ParB s.par
  scr : ScrB s.scr
structure LinB (s : Lin) : Prop where
  ready : s.ready.length ≤ 1048576
  readyS : sumC List.length s.ready ≤ 1048576
  edit : s.edit.length ≤ 1048576
structure ConB (s : Con) : Prop where
  vt : VtB s.vt
  lin : LinB s.lin
structure AllCon (xs : List Con) : Prop where
  all : ∀ x ∈ xs, ConB x
structure KbdB (s : Kbd) : Prop where
  holds : s.holds.length ≤ 1048576
structure MuxB (s : Mux) : Prop where
  cons : s.cons.length ≤ 1048576
  consB : AllCon s.cons
  polite : s.polite.length ≤ 1048576
  binds : s.binds.length ≤ 1048576
  texts : s.texts.length ≤ 1048576
  textsS : sumC List.length s.texts ≤ 1048576
  kbd : KbdB s.kbd
structure VtRB (s : VtR) : Prop where
  vt : VtB s.vt
structure LinRB (s : LinR) : Prop where
  bytes : s.bytes.length ≤ 1048576
  echo : s.echo.length ≤ 1048576
  lin : LinB s.lin
structure ConRB (s : ConR) : Prop where
  bytes : s.bytes.length ≤ 1048576
  con : ConB s.con
structure MuxRB (s : MuxR) : Prop where
  bytes : s.bytes.length ≤ 1048576
  mux : MuxB s.mux
end Go.Vm

namespace Go.Vm
open Go.RowKit

/-- where the blocks within a block lie, by their paths -/
abbrev Pm := List (Int × Nat) → Option (Nat × (Nat × Nat))
def AtQ (ρ : Loc) (b : Blk) (q : Pm) : Prop := ∀ p, ρ (ext b p) = q p
theorem AtQ.self {ρ : Loc} {b : Blk} {q : Pm} (h : AtQ ρ b q) : ρ b = q [] := h []
theorem AtQ.sub {ρ : Loc} {b : Blk} {q : Pm} (h : AtQ ρ b q) (i : Int) (j : Nat) : AtQ ρ (.sub b i j) (fun p => q ((i, j) :: p)) := fun p => h ((i, j) :: p)
def allF (W : World) : Foot := fun k _ => k < W.heap.size

/-- what is known of an argument's block -/
def OpenAt (ρ : Loc) (W : World) (c : Cont) (b : Blk) : Prop := ∀ N, Holds ρ N W false c b (allF W)

theorem lies_all {ρ : Loc} {N : Nat} {W : World} {b : Blk} {c : Cont} (h : Lies ρ N W false b c) : ∀ k c', regF (ρ b) k c' → allF W k c' := by
  rintro k c' ⟨z, hz, _⟩
  unfold Lies at h
  rw [hz] at h
  obtain ⟨arr, T, fz, h1, _⟩ := h
  exact (Array.getElem?_eq_some_iff.1 h1).1

/-- a type whose cells an encoding tells -/
def FlatT (H : Type) (P : Program) (e : TypeId) {α : Type} (E : Enc α) : Prop :=
  P.cellsOf e = E.m ∧ ∀ (enc : TypeId × Value → H) (w : World) (base : Nat) (held : Bool) (fuel : Nat) (cs : List Value) (x : DataW H × List MemPlace),
    DataW.trod enc P w base (fun _ => true) held fuel e cs = some x → ∃ a, ∀ ρ, VRels ρ (E.cells a) cs

theorem flat_int {H : Type} {P : Program} {e : TypeId} {k : IntKind} (he : P.underlying e = some (.int k)) (hc : P.cellsOf e = 1) : FlatT H P e (intE k) :=
  ⟨hc, fun _ _ _ _ _ _ _ h => by
    obtain ⟨n, rfl, _, hw⟩ := DataW.trod_int he h
    exact ⟨n, fun ρ => ⟨_, [], rfl, rfl, rfl⟩⟩⟩
theorem flat_bool {H : Type} {P : Program} {e : TypeId} (he : P.underlying e = some .bool) (hc : P.cellsOf e = 1) : FlatT H P e boolE :=
  ⟨hc, fun _ _ _ _ _ _ _ h => by
    obtain ⟨b, rfl, _⟩ := DataW.trod_bool he h
    exact ⟨b, fun ρ => ⟨_, [], rfl, ⟨b, rfl, Iff.rfl⟩, rfl⟩⟩⟩
theorem flat_str {H : Type} {P : Program} {e : TypeId} (he : P.underlying e = some .string) (hc : P.cellsOf e = 1) : FlatT H P e strE :=
  ⟨hc, fun _ _ _ _ _ _ _ h => by
    obtain ⟨s, rfl, _, hs⟩ := DataW.trod_string he h
    exact ⟨bytesL s, fun ρ => ⟨_, [], rfl, ⟨s, rfl, rfl, Nat.le_trans hs (by decide)⟩, rfl⟩⟩⟩
theorem flat_pair {H : Type} {P : Program} {e f : TypeId} {f0 f1 : Field} (he : P.underlying e = some (.struct #[f0, f1])) (hc : P.cellsOf e = 2) (h0 : f0.type = f) (h1 : f1.type = f)
    (o0 : f0.offset = 0) (o1 : f1.offset = 1) (hf : P.underlying f = some (.int .i64)) (hfc : P.cellsOf f = 1) : FlatT H P e pairE :=
  ⟨hc, fun _ _ _ _ _ cs _ h => by
    obtain ⟨xs, k, hk, hxy, hl, hxl, hfs⟩ := DataW.trod_struct he h
    have g0 := hfs 0 f0 rfl
    have g1 := hfs 1 f1 rfl
    rw [hc] at hl
    match xs, hxl, cs, hl with
    | [y0, y1], _, [v0, v1], _ =>
      simp [o0, o1, h0, h1, hfc] at g0 g1
      obtain ⟨a, e0, _, w0⟩ := DataW.trod_int hf g0
      obtain ⟨b, e1, _, w1⟩ := DataW.trod_int hf g1
      simp only [List.cons.injEq, and_true] at e0 e1
      subst e0; subst e1
      exact ⟨(a, b), fun ρ => ⟨_, _, rfl, rfl, ⟨_, [], rfl, rfl, rfl⟩⟩⟩⟩
theorem flat_quad {H : Type} {P : Program} {e f : TypeId} {f0 f1 f2 f3 : Field} (he : P.underlying e = some (.struct #[f0, f1, f2, f3])) (hc : P.cellsOf e = 4) (h0 : f0.type = f) (h1 : f1.type = f) (h2 : f2.type = f) (h3 : f3.type = f)
    (o0 : f0.offset = 0) (o1 : f1.offset = 1) (o2 : f2.offset = 2) (o3 : f3.offset = 3) (hf : P.underlying f = some (.int .i64)) (hfc : P.cellsOf f = 1) {E : Enc (Int × Int × Int × Int)} (hE : E.m = 4)
    (hcell : ∀ x, E.cells x = [.int .i64 x.1, .int .i64 x.2.1, .int .i64 x.2.2.1, .int .i64 x.2.2.2]) : FlatT H P e E :=
  ⟨by rw [hc, hE], fun _ _ _ _ _ cs _ h => by
    obtain ⟨xs, k, hk, hxy, hl, hxl, hfs⟩ := DataW.trod_struct he h
    have g0 := hfs 0 f0 rfl
    have g1 := hfs 1 f1 rfl
    have g2 := hfs 2 f2 rfl
    have g3 := hfs 3 f3 rfl
    rw [hc] at hl
    match xs, hxl, cs, hl with
    | [y0, y1, y2, y3], _, [v0, v1, v2, v3], _ =>
      simp [o0, o1, o2, o3, h0, h1, h2, h3, hfc] at g0 g1 g2 g3
      obtain ⟨a, e0, _, w0⟩ := DataW.trod_int hf g0
      obtain ⟨b, e1, _, w1⟩ := DataW.trod_int hf g1
      obtain ⟨c, e2, _, w2⟩ := DataW.trod_int hf g2
      obtain ⟨d, e3, _, w3⟩ := DataW.trod_int hf g3
      simp only [List.cons.injEq, and_true] at e0 e1 e2 e3
      subst e0; subst e1; subst e2; subst e3
      refine ⟨(a, b, c, d), fun ρ => ?_⟩
      rw [hcell]
      exact ⟨_, _, rfl, rfl, ⟨_, _, rfl, rfl, ⟨_, _, rfl, rfl, ⟨_, [], rfl, rfl, rfl⟩⟩⟩⟩⟩

/-- a slice's header, and where its elements lie -/
theorem open_raw {H : Type} {enc : TypeId × Value → H} {P : Program} {W : World} {base : Nat} {held : Bool} {fuel : Nat} {t e : TypeId} {cs : List Value} {x : DataW H × List MemPlace} {m : Nat}
    (ht : P.underlying t = some (.slice e)) (hm : P.cellsOf e = m) (hpos : 0 < m) (h : DataW.trod enc P W base (fun _ => true) held fuel t cs = some x) :
    (∃ a, cs = [.slice a 0 0]) ∨ ∃ k off len cap c T fz n, cs = [.slice (some ⟨k, off, none⟩) len cap] ∧ len ≤ cap ∧ cap ≤ 9223372036854775807 ∧ W.heap[k]? = some (.cells c T fz) ∧ off + cap * m ≤ c.size ∧
      ∀ i, i < cap → ∃ y, DataW.trod enc P W base (fun _ => true) held n e (((own c (off, cap * m)).toList.drop (i * m)).take m) = some y := by
  rcases Go.Deep.open_slice ht h with ⟨hcs, _⟩ | ⟨a, len, cap, mm, n0, D, Pl, hcs, hb, hl, hcm, hmm, _, hel⟩
  · exact .inl ⟨_, hcs⟩
  · simp only [if_true] at hmm
    subst hmm
    rw [hm] at hel
    rcases Nat.eq_zero_or_pos mm with h0 | hpos'
    · have : len = 0 := by omega
      subst h0; subst this
      exact .inl ⟨_, hcs⟩
    · -- the block
      obtain ⟨cs0, hc0, _⟩ := hel 0 hpos'
      obtain ⟨_, hlen0, hcell0⟩ := World.cells?_some hc0
      have h00 := hcell0 0 hpos
      obtain ⟨k, off, spot⟩ := a
      have hsome : cs0[0]? = some (cs0[0]'(by omega)) := by simp [hlen0, hpos]
      rw [hsome] at h00
      simp only [Nat.zero_mul, Addr.add, if_true] at h00
      unfold World.cell? at h00
      simp only at h00
      split at h00
      · rename_i c T fz hh
        split at h00
        · simp at h00
        · rename_i hsp
          have hsp : spot = none := by simpa using hsp
          subst hsp
          have hcell : ∀ i, i < mm → ∃ cs', cs'.length = m ∧ (∃ y, DataW.trod enc P W base (fun _ => true) held n0 e cs' = some y) ∧ ∀ j, j < m → c[off + (i * m + j)]? = cs'[j]? := by
            intro i hi
            obtain ⟨cs', h1, h2⟩ := hel i hi
            obtain ⟨_, h3, h4⟩ := World.cells?_some h1
            refine ⟨cs', h3, ⟨_, h2⟩, fun j hj => ?_⟩
            have h5 := h4 j hj
            have e5 : ((⟨k, off, none⟩ : Addr).add (i * m)).add j = ⟨k, off + (i * m + j), none⟩ := by
              unfold Addr.add
              split
              · split <;> simp_all
              · split <;> simp_all [Nat.add_assoc]
            rw [e5] at h5
            simpa [World.cell?, hh] using h5
          have hsize : off + mm * m ≤ c.size := by
            obtain ⟨cs', h1, _, h3⟩ := hcell (mm - 1) (by omega)
            have h4 := h3 (m - 1) (by omega)
            rw [show cs'[m - 1]? = some (cs'[m - 1]'(by omega)) by simp [h1, hpos]] at h4
            have h5 := (Array.getElem?_eq_some_iff.1 h4).1
            have h6 : (mm - 1) * m + m = mm * m := by
              rw [← Nat.succ_mul]; congr 1; omega
            omega
          refine .inr ⟨k, off, len, mm, c, T, fz, n0, hcs, hl, Nat.le_trans hcm (by decide), hh, hsize, fun i hi => ?_⟩
          obtain ⟨cs', g1, ⟨y, g2⟩, g3⟩ := hcell i hi
          have e1 : ((own c (off, mm * m)).toList.drop (i * m)).take m = cs' := by
            apply List.ext_getElem?
            intro j
            rw [List.getElem?_take]
            split
            · rename_i hj
              rw [List.getElem?_drop]
              have hj2 : i * m + j < mm * m := by
                have : (i + 1) * m ≤ mm * m := Nat.mul_le_mul_right _ (by omega)
                rw [Nat.succ_mul] at this
                omega
              unfold own
              simp only
              rw [List.getElem?_take, if_pos hj2, List.getElem?_drop]
              simpa using g3 j hj
            · rename_i hj
              rw [List.getElem?_eq_none (by omega)]
          rw [e1]
          exact ⟨y, g2⟩
      · simp at h00

theorem vrel_sl {ρ : Loc} {b : Blk} {k off len cap m : Nat} (hb : ρ b = some (k, (off, cap * m))) (h1 : len ≤ cap) (h2 : cap ≤ 9223372036854775807) : VRel ρ (.sl b m none len) (.slice (some ⟨k, off, none⟩) len cap) :=
  .inr ⟨k, (off, cap * m), cap, off, hb, by simp, by simp, by simpa using h1, h2, by simp, .inr (by simp), by simp⟩
theorem vrel_sl0 {ρ : Loc} {b : Blk} {m : Nat} {a : Option Addr} (hb : ρ b = none) : VRel ρ (.sl b m none ((0 : Nat) : Int)) (.slice a 0 0) :=
  .inl ⟨hb, rfl, rfl, a, rfl⟩

theorem open_sl {H : Type} {enc : TypeId × Value → H} {P : Program} {W : World} {base : Nat} {held : Bool} {fuel : Nat} {t e : TypeId} {cs : List Value} {x : DataW H × List MemPlace} {α : Type} {E : Enc α}
    (ht : P.underlying t = some (.slice e)) (hE : EncOk P e E) (hF : FlatT H P e E) (h : DataW.trod enc P W base (fun _ => true) held fuel t cs = some x) :
    ∃ (xs : List α) (q : Pm) (v : Value), cs = [v] ∧ ∀ (ρ : Loc) (b : Blk), AtQ ρ b q → VRel ρ (.sl b E.m none xs.length) v ∧ OpenAt ρ W (.arr E xs) b := by
  rcases open_raw ht hF.1 hE.pos h with ⟨a, rfl⟩ | ⟨k, off, len, cap, c, T, fz, n, rfl, hl, hcap, hh, hsize, hel⟩
  · refine ⟨[], fun _ => none, _, rfl, fun ρ b hq => ⟨vrel_sl0 hq.self, fun N => ?_⟩⟩
    have hL : Lies ρ N W false b (.arr E []) := by unfold Lies; rw [hq.self]; rfl
    exact ⟨hL, lies_all hL⟩
  · haveI : Inhabited α := ⟨E.d⟩
    obtain ⟨A, hA⟩ := Go.Deep.choose_lt (p := fun i y => ∀ ρ, VRels ρ (E.cells y) (((own c (off, cap * E.m)).toList.drop (i * E.m)).take E.m)) (fun i hi => by
      obtain ⟨y, hy⟩ := hel i hi
      exact hF.2 _ _ _ _ _ _ _ hy)
    refine ⟨(List.range len).map A, fun p => match p with | [] => some (k, (off, cap * E.m)) | _ => none, _, rfl, fun ρ b hq => ?_⟩
    have hb : ρ b = some (k, (off, cap * E.m)) := hq.self
    refine ⟨by simpa using vrel_sl hb hl hcap, fun N => ?_⟩
    have hL : Lies ρ N W false b (.arr E ((List.range len).map A)) := by
      unfold Lies
      simp only [hb]
      refine ⟨c, T, fz, hh, hsize, (fun q => by cases q), ?_, fun i hi => ⟨?_, hE.plain _ _⟩⟩
      · rw [own_size hsize]; simpa using Nat.mul_le_mul_right _ hl
      · have hi : i < len := by simpa using hi
        have e2 : ((List.range len).map A).getD i E.d = A i := by simp [List.getD_eq_getElem?_getD, hi]
        show VRels ρ (E.cells (((List.range len).map A).getD i E.d)) _
        rw [e2]
        exact hA i (by omega) ρ
    exact ⟨hL, lies_all hL⟩

/-- a type whose elements have blocks of their own -/
def NestT (H : Type) (P : Program) (e : TypeId) {α : Type} (m : Nat) (g : (Nat → Blk) → α → List AV) (s : List Nat) (f : α → Nat → Cont) : Prop :=
  P.cellsOf e = m ∧ ∀ (enc : TypeId × Value → H) (w : World) (base : Nat) (held : Bool) (fuel : Nat) (cs : List Value) (x : DataW H × List MemPlace),
    DataW.trod enc P w base (fun _ => true) held fuel e cs = some x → ∃ (a : α) (q : Nat → Pm), ∀ (ρ : Loc) (n : Nat → Blk), (∀ j, j ∈ s → AtQ ρ (n j) (q j)) → VRels ρ (g n a) cs ∧ ∀ j, j ∈ s → OpenAt ρ w (f a j) (n j)

theorem open_nest {H : Type} {enc : TypeId × Value → H} {P : Program} {W : World} {base : Nat} {held : Bool} {fuel : Nat} {t e : TypeId} {cs : List Value} {x : DataW H × List MemPlace} {α : Type} {m : Nat} {d : α} {g : (Nat → Blk) → α → List AV} {s : List Nat} {f : α → Nat → Cont}
    (ht : P.underlying t = some (.slice e)) (hpos : 0 < m) (hF : NestT H P e m g s f) (h : DataW.trod enc P W base (fun _ => true) held fuel t cs = some x) :
    ∃ (xs : List α) (q : Pm) (v : Value), cs = [v] ∧ ∀ (ρ : Loc) (b : Blk), AtQ ρ b q → VRel ρ (.sl b m none xs.length) v ∧ OpenAt ρ W (.nest m d g s f xs none) b := by
  rcases open_raw ht hF.1 hpos h with ⟨a, rfl⟩ | ⟨k, off, len, cap, c, T, fz, n, rfl, hl, hcap, hh, hsize, hel⟩
  · refine ⟨[], fun _ => none, _, rfl, fun ρ b hq => ⟨vrel_sl0 hq.self, fun N => ?_⟩⟩
    have hL : Lies ρ N W false b (.nest m d g s f [] none) := by unfold Lies; rw [hq.self]; exact ⟨rfl, rfl⟩
    exact ⟨⟨hL, lies_all hL⟩, fun _ _ _ _ => False, fun i hi => absurd hi (by simp), fun i hi => absurd hi (by simp), (fun q => by cases q)⟩
  · haveI : Inhabited (α × (Nat → Pm)) := ⟨(d, fun _ _ => none)⟩
    obtain ⟨A, hA⟩ := Go.Deep.choose_lt (p := fun i (y : α × (Nat → Pm)) => ∀ (ρ : Loc) (n : Nat → Blk), (∀ j, j ∈ s → AtQ ρ (n j) (y.2 j)) → VRels ρ (g n y.1) (((own c (off, cap * m)).toList.drop (i * m)).take m) ∧ ∀ j, j ∈ s → OpenAt ρ W (f y.1 j) (n j)) (fun i hi => by
      obtain ⟨y, hy⟩ := hel i hi
      obtain ⟨a, q, hq⟩ := hF.2 _ _ _ _ _ _ _ hy
      exact ⟨(a, q), hq⟩)
    refine ⟨(List.range len).map fun i => (A i).1, fun p => match p with | [] => some (k, (off, cap * m)) | (i, j) :: r => (A i.toNat).2 j r, _, rfl, fun ρ b hq => ?_⟩
    have hb : ρ b = some (k, (off, cap * m)) := hq.self
    have hel2 : ∀ i : Nat, i < len → VRels ρ (g (fun j => .sub b i j) (A i).1) (((own c (off, cap * m)).toList.drop (i * m)).take m) ∧ ∀ j, j ∈ s → OpenAt ρ W (f (A i).1 j) (.sub b i j) := by
      intro i hi
      refine hA i (by omega) ρ (fun j => .sub b i j) fun j hj => ?_
      exact hq.sub i j
    have e2 : ∀ i : Nat, i < len → ((List.range len).map fun i => (A i).1).getD i d = (A i).1 := by
      intro i hi
      simp [List.getD_eq_getElem?_getD, hi]
    refine ⟨by simpa using vrel_sl hb hl hcap, fun N => ?_⟩
    have hL : Lies ρ N W false b (.nest m d g s f ((List.range len).map fun i => (A i).1) none) := by
      unfold Lies
      simp only [hb]
      refine ⟨c, T, fz, hh, hsize, (fun q => by cases q), ?_, fun i hi _ => ?_⟩
      · rw [own_size hsize]; simpa [totalN] using Nat.mul_le_mul_right m hl
      · have hi : i < len := by simpa using hi
        rw [e2 i hi]
        exact (hel2 i hi).1
    refine ⟨⟨hL, lies_all hL⟩, fun _ _ => allF W, fun i hi _ j hj => ?_, fun _ _ _ _ _ _ _ hc => hc, (fun q => by cases q)⟩
    have hi : i < len := by simpa using hi
    rw [e2 i hi]
    exact (hel2 i hi).2 j hj N

/-- elements that are slices of flat elements -/
theorem nest_bytes {H : Type} {P : Program} {e e' : TypeId} (he : P.underlying e = some (.slice e')) (hc : P.cellsOf e = 1) (hE : EncOk P e' (intE .u8)) (hF : FlatT H P e' (intE .u8)) : NestT H P e 1 bytesG [0] bytesF :=
  ⟨hc, fun _ _ _ _ _ _ _ h => by
    obtain ⟨xs, q, v, rfl, hq⟩ := open_sl he hE hF h
    refine ⟨xs, fun _ => q, fun ρ n hn => ?_⟩
    obtain ⟨h1, h2⟩ := hq ρ (n 0) (hn 0 (by simp))
    refine ⟨⟨v, [], rfl, h1, rfl⟩, fun j hj => ?_⟩
    obtain rfl : j = 0 := by simpa using hj
    exact h2⟩

theorem holds_ro {ρ : Loc} {N : Nat} {w : World} {c : Cont} {b : Blk} {F : Foot} (hc : c.closed ∨ ∃ vs, c = .raw vs) (h : Holds ρ N w false c b F) : HoldsE ρ N w false c b F := by
  rcases hc with hc | ⟨vs, rfl⟩
  · exact h.toE hc
  · exact h

theorem hrel_ro {S : Seat} {ρ : Loc} {W : World} {es : List Ent} {N : Nat} (hl : ∀ e ∈ es, e.rw = false ∧ e.c.closed ∧ ContOk S e.c ∧ OpenAt ρ W e.c e.b ∧ e.b.lt N ∧ e.b.isKey)
    (hk : es.Pairwise fun e e' => e.b ≠ e'.b) (hg : ∀ g, ∃ n, ρ (.glob g) = some (g, (0, n))) : HRel S ⟨ρ, fun _ => allF W⟩ ⟨es, N⟩ W where
  holds := fun e he => by
    obtain ⟨h1, h2, _, h4, _⟩ := hl e he
    rw [h1]
    exact (h4 N).toE h2
  key := fun e he => (hl e he).2.2.2.2
  sep := fun e he e' he' hor => by
    rw [(hl e he).1, (hl e' he').1] at hor
    simp at hor
  keys := hk
  glob := hg
  enc := fun e he => (hl e he).2.2.1
  low := fun e he k c h => h
  root := fun e he h => by
    rw [(hl e he).1] at h
    cases h

/-- places of arguments -/
def argAt (l : List Pm) : Blk → List (Int × Nat) → Option (Nat × (Nat × Nat))
  | .loc n, p => l.getD n (fun _ => none) p
  | .glob g, p => match p with
    | [] => some (g, (0, 0))
    | _ => none
  | .sub b i j, p => argAt l b ((i, j) :: p)
def argLoc (l : List Pm) : Loc := fun b => argAt l b []
theorem argAt_ext (l : List Pm) : ∀ (p r : List (Int × Nat)) (b : Blk), argAt l (ext b p) r = argAt l b (p ++ r)
  | [], _, _ => rfl
  | (i, j) :: p, r, b => by
    show argAt l (ext (.sub b i j) p) r = _
    rw [argAt_ext l p r]
    rfl
theorem argLoc_at (l : List Pm) (n : Nat) : AtQ (argLoc l) (.loc n) (l.getD n fun _ => none) := fun p => by
  show argAt l (ext (.loc n) p) [] = _
  rw [argAt_ext, List.append_nil]
  rfl
/-- a law over arguments that are only read -/
theorem call_ro {S : Seat} {f : Nat} {es : List Ent} {N : Nat} {args : List AV} {rs : List Value} {l : List Pm} {W : World} {H' : Heap} (hlaw : CallA S f args ⟨es, N⟩ fun v H => ∃ _ : Unit, True ∧ v = .tt ∧ H = H')
    (hl : ∀ e ∈ es, e.rw = false ∧ e.c.closed ∧ ContOk S e.c ∧ OpenAt (argLoc l) W e.c e.b ∧ e.b.lt N ∧ e.b.isKey) (hk : es.Pairwise fun e e' => e.b ≠ e'.b) (hargs : VRels (argLoc l) args rs) (hlt : AV.lts N args) :
    Calls S.P f rs.toArray W fun e W' => e = .returned (.bool true) ∧ Below W.heap.size W W' := by
  unfold CallA at hlaw
  refine (hlaw ⟨argLoc l, fun _ => allF W⟩ W rs (hrel_ro hl hk fun g => ⟨0, rfl⟩) hargs hlt).mono ?_
  rintro e W' ⟨v', r', H', ρ', rfl, ⟨_, _, rfl, rfl⟩, hv', _, ha⟩
  have hv' : r' = .bool true := hv'
  subst hv'
  refine ⟨rfl, ha.os, ha.tape, ha.output, ha.size, fun k hk => ?_⟩
  obtain ⟨o, ho⟩ : ∃ o, W.heap[k]? = some o := ⟨_, Array.getElem?_eq_getElem hk⟩
  rw [ho]
  refine ha.frame.obj k o ho fun c => ?_
  rintro ⟨e, he, hrw, _⟩
  rw [(hl e he).1] at hrw
  cases hrw
end Go.Vm
