/- An abstract machine over the loaded code: operations upon values alone do what is said of them. -/
import Derived.Test.YtfndendpfahbcaaGreatDoorVm5
set_option linter.unusedSimpArgs false
set_option linter.unusedVariables false
namespace Go.Vm
open Go.RowKit
section
variable {S : Seat} {ρ : Loc} {N : Nat}

/-- an operation that tells a value and turns nothing -/
def TellsOp (S : Seat) (ρ : Loc) (N : Nat) (K : AV → Prop) (evr : Operand → Value) (o : Oper) : Prop :=
  ∃ r, Got ρ N K r ∧ ∀ w, (execOp evr o).run S.P w = .ok (.value r) w

theorem Tells.op {K : AV → Prop} {x : Sem Value} {evr : Operand → Value} {o : Oper} (h : Tells S ρ N K x) (e : execOp evr o = (do pure (.value (← x)))) : TellsOp S ρ N K evr o := by
  obtain ⟨r, g, hr⟩ := h
  exact ⟨r, g, fun w => by rw [e]; simp [hr]⟩

theorem TellsOp.mk {K : AV → Prop} {v : AV} {r : Value} {evr : Operand → Value} {o : Oper} (h : K v) (hr : VRel ρ v r) (hl : v.lt N)
    (e : ∀ w, (execOp evr o).run S.P w = .ok (.value r) w) : TellsOp S ρ N K evr o := ⟨r, ⟨v, h, hr, hl⟩, e⟩

theorem int_rel {k : IntKind} {n : Int} {r : Value} (h : VRel ρ (.int k n) r) : r = .int k n := h

theorem eqGuard_pure {op : BinOp} {T : TypeId} {x y : Operand} {a b : Value} (ha : ∀ l, a ≠ .agg l) (hn : a ≠ .nilIface) (w : World) : (eqGuard op T x y a b).run S.P w = .ok () w := by
  cases op <;> first
    | rfl
    | (cases a <;> first | (exact absurd rfl hn) | (exact absurd rfl (ha _)) | rfl | (cases b <;> rfl))

theorem Tells.guard {K : AV → Prop} {op : BinOp} {T U : TypeId} {x y : Operand} {dst : Option Tmp} {ty : TypeId} {pos : String} {after : Array Edge} {g : Option (Nat × Bool)} {evr : Operand → Value}
    (hg : ∀ w, (eqGuard op T x y (evr x) (evr y)).run S.P w = .ok () w) (h : Tells S ρ N K (binOp op T (evr x) (evr y))) :
    TellsOp S ρ N K evr ⟨dst, .binOp op T x y U, ty, pos, after, g⟩ := by
  obtain ⟨r, g, hr⟩ := h
  exact ⟨r, g, fun w => by simp [execOp, hg, hr]⟩

theorem bytesL_get {s : ByteArray} {k : Int} (h0 : 0 ≤ k) (h : k < (bytesL s).length) : s[k.toNat]? = some ((bytesL s).getD k.toNat 0).toNat.toUInt8 ∧ (((bytesL s).getD k.toNat 0).toNat.toUInt8.toNat : Int) = (bytesL s).getD k.toNat 0 := by
  have hlt : k.toNat < s.size := by rw [← bytesL_length]; omega
  have e : (bytesL s).getD k.toNat 0 = (s[k.toNat].toNat : Int) := by
    unfold bytesL
    rw [List.getD_eq_getElem?_getD, List.getElem?_map, List.getElem?_eq_getElem (by simpa using hlt)]
    rfl
  rw [e]
  constructor
  · rw [getElem?_pos s k.toNat hlt]
    simp
  · simp

theorem bytesL_extract (s : ByteArray) (l h : Nat) : bytesL (s.extract l h) = ((bytesL s).take h).drop l := by
  unfold bytesL
  rw [ByteArray.data_extract, Array.toList_extract, List.extract_eq_take_drop, List.map_take, List.map_drop, ← List.map_take, ← List.map_drop, List.map_drop, List.map_take, List.drop_take]

theorem bound_run {k : IntKind} {n : Int} {y : Nat} {c : BoundsCode} (h0 : 0 ≤ n) (h : n.toNat ≤ y) (w : World) : (Instr.sliceBound (.int k n) y c).run S.P w = .ok n.toNat w := by
  simp only [Instr.sliceBound, asIntOf, Sem.run_bind, Sem.run_pure, Result.andThen_ok]
  rw [if_pos (by omega)]
  rfl

theorem bounds_run {b : Bool} {n cap : Nat} {lo hi : Option Value} {l h : Nat} (w : World)
    (hl : lo = none ∧ l = 0 ∨ ∃ k n, lo = some (.int k n) ∧ 0 ≤ n ∧ l = n.toNat) (hh : hi = none ∧ h = n ∨ ∃ k n', hi = some (.int k n') ∧ 0 ≤ n' ∧ h = n'.toNat) (h1 : l ≤ h) (h2 : h ≤ cap) :
    (Instr.sliceBounds b n cap lo hi none).run S.P w = .ok (l, h, cap) w := by
  rcases hl with ⟨rfl, rfl⟩ | ⟨k, n, rfl, hn, rfl⟩ <;> rcases hh with ⟨rfl, rfl⟩ | ⟨k', n', rfl, hn', rfl⟩
  · rfl
  · simp only [Instr.sliceBounds, Sem.run_bind, Sem.run_pure, Result.andThen_ok, bound_run hn' h2]
  · simp only [Instr.sliceBounds, Sem.run_bind, Sem.run_pure, Result.andThen_ok, bound_run hn h1]
  · simp only [Instr.sliceBounds, Sem.run_bind, Sem.run_pure, Result.andThen_ok, bound_run hn' h2, bound_run hn h1]

theorem slice_str {T : TypeId} {s : ByteArray} {lo hi : Option Value} {l h : Nat} (hT : S.P.underlying T = some .string) (w : World)
    (hl : lo = none ∧ l = 0 ∨ ∃ k n, lo = some (.int k n) ∧ 0 ≤ n ∧ l = n.toNat) (hh : hi = none ∧ h = s.size ∨ ∃ k n, hi = some (.int k n) ∧ 0 ≤ n ∧ h = n.toNat) (h1 : l ≤ h) (h2 : h ≤ s.size) :
    (Instr.sliceAt T (.string s) lo hi none).run S.P w = .ok (.string (s.extract l h)) w := by
  simp [Instr.sliceAt, Instr.slice, run_und hT, bounds_run w hl hh h1 h2]

theorem slice_sl {T e : TypeId} {a : Option Addr} {n cap m : Nat} {lo hi : Option Value} {l h : Nat} (hT : S.P.underlying T = some (.slice e)) (hm : m = szA S e) (hp : 0 < szA S e) (w : World)
    (hl : lo = none ∧ l = 0 ∨ ∃ k n, lo = some (.int k n) ∧ 0 ≤ n ∧ l = n.toNat) (hh : hi = none ∧ h = n ∨ ∃ k n', hi = some (.int k n') ∧ 0 ≤ n' ∧ h = n'.toNat) (h1 : l ≤ h) (h2 : h ≤ cap) :
    (Instr.sliceAt T (.slice a n cap) lo hi none).run S.P w = .ok (.slice (if cap = l then a else a.map (·.add (l * m))) (h - l) (cap - l)) w := by
  subst hm
  simp [Instr.sliceAt, Instr.slice, run_und hT, bounds_run w hl hh h1 h2, run_size hp]

/-- a piece of a slice is a slice -/
theorem sub_rel {b : Blk} {m : Nat} {i : Option Int} {n : Int} {r : Value} (h : VRel ρ (.sl b m i n) r) {l h' : Int} (h0 : 0 ≤ l) (h1 : l ≤ h') (h2 : h' ≤ n) (j : Option Int) (hj : j.getD 0 = i.getD 0 + l) :
    ∃ a len cap, r = .slice a len cap ∧ (len : Int) = n ∧ len ≤ cap ∧
      VRel ρ (.sl b m j (h' - l)) (.slice (if cap = l.toNat then a else a.map (·.add (l.toNat * m))) (h'.toNat - l.toNat) (cap - l.toNat)) := by
  rcases h with ⟨e1, e2, e3, a, rfl⟩ | ⟨k, z, cap, off, e1, e2, e3, e4, e5, e6, e7, rfl⟩
  · subst e2
    obtain rfl : l = 0 := by omega
    obtain rfl : h' = 0 := by omega
    exact ⟨a, 0, 0, rfl, rfl, Nat.le_refl _, .inl ⟨e1, rfl, by omega, a, rfl⟩⟩
  · refine ⟨_, _, _, rfl, by omega, e4, .inr ⟨k, z, cap - l.toNat, if cap = l.toNat then off else off + l.toNat * m, e1, by omega, by omega, by omega, by omega, ?_, ?_, ?_⟩⟩
    · have : (j.getD 0).toNat = (i.getD 0).toNat + l.toNat := by omega
      rw [this, Nat.add_mul, Nat.sub_mul]
      have : l.toNat * m ≤ cap * m := Nat.mul_le_mul_right _ (by omega)
      omega
    · by_cases hc : cap = l.toNat
      · left; omega
      · right
        rw [if_neg hc]
        have : (j.getD 0).toNat = (i.getD 0).toNat + l.toNat := by omega
        rw [this, Nat.add_mul]
        rcases e7 with e7 | e7
        · omega
        · rw [e7]; omega
    · have e : (h' - l).toNat = h'.toNat - l.toNat := by omega
      rw [e]
      by_cases hc : cap = l.toNat
      · simp [hc]
      · simp only [if_neg hc, Option.map_some, Addr.add]
        by_cases hz : l.toNat * m = 0
        · simp [hz]
        · simp [hz]
end
end Go.Vm

namespace Go.Vm
open Go.RowKit
section
variable {S : Seat} {ρ : Loc} {N : Nat}
theorem bounds_out {ev : Operand → AV} {evr : Operand → Value} (hev : ∀ x, VRel ρ (ev x) (evr x)) {lo hi : Option Operand} {n : Int} {K : Int → Int → Prop} (hn : 0 ≤ n) (h : boundsA ev lo hi n K) :
    ∃ l h : Int, (lo.map evr = none ∧ l.toNat = 0 ∨ ∃ k x, lo.map evr = some (.int k x) ∧ 0 ≤ x ∧ l.toNat = x.toNat) ∧
      (hi.map evr = none ∧ h = n ∨ ∃ k x, hi.map evr = some (.int k x) ∧ 0 ≤ x ∧ h.toNat = x.toNat) ∧ 0 ≤ l ∧ l ≤ h ∧ h ≤ n ∧ K l h := by
  unfold boundsA at h
  split at h
  · exact ⟨0, n, .inl ⟨rfl, rfl⟩, .inl ⟨rfl, rfl⟩, by omega, hn, by omega, h hn⟩
  · rename_i x
    split at h
    · rename_i k l e
      have hx := hev x; rw [e] at hx
      obtain ⟨⟨h1, h2⟩, h⟩ := h
      exact ⟨l, n, .inr ⟨k, l, congrArg some (int_rel hx), h1, rfl⟩, .inl ⟨rfl, rfl⟩, h1, h2, by omega, h⟩
    · exact h.elim
  · rename_i x
    split at h
    · rename_i k l e
      have hx := hev x; rw [e] at hx
      obtain ⟨⟨h1, h2⟩, h⟩ := h
      exact ⟨0, l, .inl ⟨rfl, rfl⟩, .inr ⟨k, l, congrArg some (int_rel hx), h1, rfl⟩, by omega, h1, h2, h⟩
    · exact h.elim
  · rename_i x y
    split at h
    · rename_i k l e
      have hx := hev x; rw [e] at hx
      split at h
      · rename_i k' l' e'
        have hy := hev y; rw [e'] at hy
        obtain ⟨⟨h1, h2, h3⟩, h⟩ := h
        exact ⟨l, l', .inr ⟨k, l, congrArg some (int_rel hx), h1, rfl⟩, .inr ⟨k', l', congrArg some (int_rel hy), by omega, rfl⟩, h1, h2, h3, h⟩
      · exact h.elim
    · exact h.elim
end
end Go.Vm
