/- An abstract machine over the loaded code: more kinds of elements. -/
import Derived.Test.YtfndendpfahbcaaGreatDoorVm28
set_option linter.unusedSimpArgs false
set_option linter.unusedVariables false
namespace Go.Vm
open Go.RowKit
/-- a proposition as a bool -/
noncomputable def pb (p : Prop) : Bool := @decide p (Classical.propDecidable p)
theorem pb_iff (p : Prop) : pb p = true ↔ p := by
  unfold pb; exact @decide_eq_true_iff p (Classical.propDecidable p)
theorem pb_bool (b : Bool) : pb (b = true) = b := by
  rw [Bool.eq_iff_iff, pb_iff]
noncomputable def boolParse : List AV → Option Bool
  | [.tt] => some true
  | [.ff] => some false
  | [.prop p] => some (pb p)
  | _ => none
noncomputable def boolPut (_ : Bool) (j : Nat) (vs : List AV) : Option Bool := match j with
  | 0 => boolParse vs
  | _ => none
/-- bools -/
noncomputable def boolE : Enc Bool := { m := 1, d := false, cells := fun b => [.prop (b = true)], put := boolPut, parse := boolParse }
theorem boolParse_ok {vs : List AV} {y : Bool} (h : boolParse vs = some y) {ρ : Loc} {rs : List Value} (hr : VRels ρ vs rs) : VRels ρ [.prop (y = true)] rs ∧ vs.length = 1 := by
  unfold boolParse at h
  split at h
  · simp at h; subst h
    obtain ⟨r, rfl, h1⟩ := VRels.one hr
    exact ⟨⟨_, [], rfl, ⟨true, h1, by simp⟩, rfl⟩, rfl⟩
  · simp at h; subst h
    obtain ⟨r, rfl, h1⟩ := VRels.one hr
    exact ⟨⟨_, [], rfl, ⟨false, h1, by simp⟩, rfl⟩, rfl⟩
  · rename_i p
    simp at h; subst h
    obtain ⟨r, rfl, b, h1, h2⟩ := VRels.one hr
    exact ⟨⟨_, [], rfl, ⟨b, h1, by rw [h2, pb_iff]⟩, rfl⟩, rfl⟩
  · simp at h
theorem boolE_ok {P : Program} {T : TypeId} (hm : (P.info? T).map (·.size) = some 1) (hz : ((P.info? T).bind (·.zero)).map (·.cells.toList) = some [.bool false]) : EncOk P T boolE where
  m := hm
  pos := by decide
  len := fun _ => rfl
  plain := fun _ _ => ⟨trivial, trivial⟩
  flat := fun _ => rfl
  put := fun x j vs y h => by
    simp only [boolE, boolPut] at h
    split at h
    · have hlen : vs.length = 1 := by
        unfold boolParse at h
        split at h <;> first | rfl | simp at h
      refine ⟨by simp [boolE, hlen], fun ρ rs l h1 h2 => ?_⟩
      obtain ⟨h3, _⟩ := boolParse_ok h h2
      obtain ⟨r, rfl, h1⟩ := VRels.one h1
      obtain ⟨r', rfl, h4⟩ := VRels.one h3
      exact ⟨r', [], rfl, h4, rfl⟩
    · simp at h
  parse := fun vs y h ρ rs hr => (boolParse_ok h hr).1
  zero := ⟨_, hz, fun _ => ⟨_, [], rfl, ⟨false, rfl, by simp [boolE]⟩, rfl⟩⟩

def pairParse : List AV → Option (Int × Int)
  | [.int .i64 a, .int .i64 b] => some (a, b)
  | _ => none
def pairPut (x : Int × Int) (j : Nat) (vs : List AV) : Option (Int × Int) := match j with
  | 0 => match vs with
    | [.int .i64 a, .int .i64 b] => some (a, b)
    | [.int .i64 a] => some (a, x.2)
    | _ => none
  | 1 => match vs with
    | [.int .i64 b] => some (x.1, b)
    | _ => none
  | _ => none
/-- structs of two whole numbers -/
def pairE : Enc (Int × Int) := { m := 2, d := (0, 0), cells := fun x => [.int .i64 x.1, .int .i64 x.2], put := pairPut, parse := pairParse }
theorem VRels.two {ρ : Loc} {a b : AV} {rs : List Value} (h : VRels ρ [a, b] rs) : ∃ x y, rs = [x, y] ∧ VRel ρ a x ∧ VRel ρ b y := by
  obtain ⟨x, _, rfl, h1, y, _, rfl, h2, rfl⟩ := h
  exact ⟨x, y, rfl, h1, h2⟩
theorem pairE_ok {P : Program} {T : TypeId} (hm : (P.info? T).map (·.size) = some 2) (hz : ((P.info? T).bind (·.zero)).map (·.cells.toList) = some [.int .i64 0, .int .i64 0]) : EncOk P T pairE where
  m := hm
  pos := by decide
  len := fun _ => rfl
  plain := fun _ _ => ⟨trivial, trivial, trivial⟩
  flat := fun _ => rfl
  put := fun x j vs y h => by
    simp only [pairE, pairPut] at h
    split at h
    · split at h
      · simp at h; subst h
        refine ⟨by simp [pairE], fun ρ rs l h1 h2 => ?_⟩
        obtain ⟨u, v, rfl, _, _⟩ := VRels.two h1
        obtain ⟨u', v', rfl, h3, h4⟩ := VRels.two h2
        exact ⟨u', [v'], rfl, h3, v', [], rfl, h4, rfl⟩
      · simp at h; subst h
        refine ⟨by simp [pairE], fun ρ rs l h1 h2 => ?_⟩
        obtain ⟨u, v, rfl, _, h5⟩ := VRels.two h1
        obtain ⟨u', rfl, h3⟩ := VRels.one h2
        exact ⟨u', [v], rfl, h3, v, [], rfl, h5, rfl⟩
      · simp at h
    · split at h
      · simp at h; subst h
        refine ⟨by simp [pairE], fun ρ rs l h1 h2 => ?_⟩
        obtain ⟨u, v, rfl, h5, _⟩ := VRels.two h1
        obtain ⟨u', rfl, h3⟩ := VRels.one h2
        exact ⟨u, [u'], rfl, h5, u', [], rfl, h3, rfl⟩
      · simp at h
    · simp at h
  parse := fun vs y h => by
    simp only [pairE, pairParse] at h
    split at h
    · simp at h; subst h
      exact fun _ _ h => h
    · simp at h
  zero := ⟨_, hz, fun _ => ⟨_, _, rfl, rfl, _, [], rfl, rfl, rfl⟩⟩
end Go.Vm
