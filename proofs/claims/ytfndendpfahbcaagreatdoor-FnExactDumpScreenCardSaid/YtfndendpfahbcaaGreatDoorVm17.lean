/- An abstract machine over the loaded code: encodings of elements. -/
import Derived.Test.YtfndendpfahbcaaGreatDoorVm16
set_option linter.unusedSimpArgs false
set_option linter.unusedVariables false
namespace Go.Vm
open Go.RowKit

def intPut (k : IntKind) (_ : Int) (j : Nat) (vs : List AV) : Option Int :=
  match j with
  | 0 => match vs with
    | [.int k' n] => match k' == k with
      | true => some n
      | false => none
    | _ => none
  | _ + 1 => none
def intParse (k : IntKind) (vs : List AV) : Option Int :=
  match vs with
  | [.int k' n] => match k' == k with
    | true => some n
    | false => none
  | _ => none
/-- whole numbers -/
def intE (k : IntKind) : Enc Int := ⟨1, 0, fun n => [.int k n], intPut k, intParse k⟩

def strPut (_ : List Int) (j : Nat) (vs : List AV) : Option (List Int) :=
  match j with
  | 0 => match vs with
    | [.str s] => some s
    | _ => none
  | _ + 1 => none
def strParse (vs : List AV) : Option (List Int) :=
  match vs with
  | [.str s] => some s
  | _ => none
/-- texts -/
def strE : Enc (List Int) := ⟨1, [], fun s => [.str s], strPut, strParse⟩

def boolAV (p : Bool) : AV := match p with | true => .tt | false => .ff

theorem VRels.one {ρ : Loc} {v : AV} {l : List Value} (h : VRels ρ [v] l) : ∃ r, l = [r] ∧ VRel ρ v r := by
  obtain ⟨r, rs, e, h1, h2⟩ := h
  have h2 : rs = [] := h2
  subst h2
  exact ⟨r, e, h1⟩

theorem intE_ok {P : Program} {T : TypeId} {k : IntKind} (hm : (P.info? T).map (·.size) = some 1) (hz : ((P.info? T).bind (·.zero)).map (·.cells.toList) = some [.int k 0]) : EncOk P T (intE k) where
  m := hm
  pos := Nat.one_pos
  len := fun _ => rfl
  plain := fun _ _ => ⟨trivial, trivial⟩
  flat := fun _ => rfl
  put := fun x j vs y h => by
    simp only [intE, intPut] at h
    split at h
    · split at h
      · rename_i k' n
        split at h
        · rename_i e
          have e : k' = k := by simpa using e
          simp at h; subst h; subst e
          refine ⟨by simp [intE], fun ρ rs l h1 h2 => ?_⟩
          obtain ⟨r, rfl, h1⟩ := VRels.one h1
          obtain ⟨r', rfl, h3⟩ := VRels.one h2
          exact ⟨r', [], rfl, h3, rfl⟩
        · simp at h
      · simp at h
    · simp at h
  parse := fun vs y h => by
    simp only [intE, intParse] at h
    split at h
    · rename_i k' n
      split at h
      · rename_i e
        have e : k' = k := by simpa using e
        simp at h; subst h; subst e
        exact fun _ _ h => h
      · simp at h
    · simp at h
  zero := ⟨_, hz, fun _ => ⟨_, [], rfl, rfl, rfl⟩⟩

theorem strE_ok {P : Program} {T : TypeId} (hm : (P.info? T).map (·.size) = some 1) (hz : ((P.info? T).bind (·.zero)).map (·.cells.toList) = some [.string .empty]) : EncOk P T strE where
  m := hm
  pos := by decide
  len := fun _ => rfl
  plain := fun _ _ => ⟨trivial, trivial⟩
  flat := fun _ => rfl
  put := fun x j vs y h => by
    simp only [strE, strPut] at h
    split at h
    · split at h
      · rename_i n
        simp at h; subst h
        refine ⟨by simp [strE], fun ρ rs l h1 h2 => ?_⟩
        obtain ⟨r, rfl, h1⟩ := VRels.one h1
        obtain ⟨r', rfl, h3⟩ := VRels.one h2
        exact ⟨r', [], rfl, h3, rfl⟩
      · simp at h
    · simp at h
  parse := fun vs y h => by
    simp only [strE, strParse] at h
    split at h
    · simp at h; subst h
      exact fun _ _ h => h
    · simp at h
  zero := ⟨_, hz, fun _ => ⟨_, [], rfl, ⟨_, rfl, rfl, by decide⟩, rfl⟩⟩
end Go.Vm
