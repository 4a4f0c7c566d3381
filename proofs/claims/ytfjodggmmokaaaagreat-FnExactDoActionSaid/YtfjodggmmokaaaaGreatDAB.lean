/- An abstract machine over the loaded code: operations upon values alone do what is said of them. -/
import Derived.Test.YtfjodggmmokaaaaGreatDAA
import Derived.Laws.Cells
set_option linter.unusedSimpArgs false
set_option linter.unusedVariables false
set_option linter.constructorNameAsVariable false
namespace Go.Vm
open Go.RowKit
section
variable {S : Seat} {ρ : Loc} {N : Nat}
def TellsOp (S : Seat) (ρ : Loc) (N : Nat) (K : AV → Prop) (evr : Operand → Value) (o : Oper) : Prop :=
  ∃ r, Got ρ N K r ∧ ∀ w, (execOp evr o).run S.P w = .ok (.value r) w
theorem TellsOp.mk {K : AV → Prop} {v : AV} {r : Value} {evr : Operand → Value} {o : Oper} (h : K v) (hr : VRel ρ v r) (hl : v.lt N)
    (e : ∀ w, (execOp evr o).run S.P w = .ok (.value r) w) : TellsOp S ρ N K evr o := ⟨r, ⟨v, h, hr, hl⟩, e⟩
theorem int_rel {k : IntKind} {n : Int} {r : Value} (h : VRel ρ (.int k n) r) : r = .int k n := h
theorem eqGuard_pure {op : BinOp} {T : TypeId} {x y : Operand} {a b : Value} (ha : ∀ l, a ≠ .agg l) (hn : a ≠ .nilIface) (w : World) : (eqGuard op T x y a b).run S.P w = .ok () w := by
  cases op <;> first
    | rfl
    | (cases a <;> first | (exact absurd rfl hn) | (exact absurd rfl (ha _)) | rfl | (cases b <;> rfl))
theorem Tells.guard {K : AV → Prop} {op : BinOp} {T U : TypeId} {x y : Operand} {dst : Option Tmp} {ty : TypeId} {pos : String} {after : Array Edge} {g : Option (Nat × Bool)} {evr : Operand → Value}
    (hg : ∀ w, (eqGuard op T x y (evr x) (evr y)).run S.P w = .ok () w) (h : Tells S ρ N K (binOp op T (evr x) (evr y))) :
    TellsOp S ρ N K evr ⟨dst, .binOp op T x y U, ty, pos, after, g⟩ := by
  obtain ⟨r, g, hr⟩ := h
  exact ⟨r, g, fun w => by simp [execOp, hg, hr]⟩
theorem bytesL_get {s : ByteArray} {k : Int} (h0 : 0 ≤ k) (h : k < (bytesL s).length) : s[k.toNat]? = some ((bytesL s).getD k.toNat 0).toNat.toUInt8 ∧ (((bytesL s).getD k.toNat 0).toNat.toUInt8.toNat : Int) = (bytesL s).getD k.toNat 0 := by
  have hlt : k.toNat < s.size := by rw [← bytesL_length]; omega
  have e : (bytesL s).getD k.toNat 0 = (s[k.toNat].toNat : Int) := by
    unfold bytesL
    rw [List.getD_eq_getElem?_getD, List.getElem?_map, List.getElem?_eq_getElem (by simpa using hlt)]
    rfl
  rw [e]
  constructor
  · rw [getElem?_pos s k.toNat hlt]
    simp
  · simp
theorem bytesL_extract (s : ByteArray) (l h : Nat) : bytesL (s.extract l h) = ((bytesL s).take h).drop l := by
  unfold bytesL
  rw [ByteArray.data_extract, Array.toList_extract, List.extract_eq_take_drop, List.map_take, List.map_drop, ← List.map_take, ← List.map_drop, List.map_drop, List.map_take, List.drop_take]
theorem bound_run {k : IntKind} {n : Int} {y : Nat} {c : BoundsCode} (h0 : 0 ≤ n) (h : n.toNat ≤ y) (w : World) : (Instr.sliceBound (.int k n) y c).run S.P w = .ok n.toNat w := by
  simp only [Instr.sliceBound, asIntOf, Sem.run_bind, Sem.run_pure, Result.andThen_ok]
  rw [if_pos (by omega)]
  rfl
theorem bounds_run {b : Bool} {n cap : Nat} {lo hi : Option Value} {l h : Nat} (w : World)
    (hl : lo = none ∧ l = 0 ∨ ∃ k n, lo = some (.int k n) ∧ 0 ≤ n ∧ l = n.toNat) (hh : hi = none ∧ h = n ∨ ∃ k n', hi = some (.int k n') ∧ 0 ≤ n' ∧ h = n'.toNat) (h1 : l ≤ h) (h2 : h ≤ cap) :
    (Instr.sliceBounds b n cap lo hi none).run S.P w = .ok (l, h, cap) w := by
  rcases hl with ⟨rfl, rfl⟩ | ⟨k, n, rfl, hn, rfl⟩ <;> rcases hh with ⟨rfl, rfl⟩ | ⟨k', n', rfl, hn', rfl⟩
  · rfl
  · simp only [Instr.sliceBounds, Sem.run_bind, Sem.run_pure, Result.andThen_ok, bound_run hn' h2]
  · simp only [Instr.sliceBounds, Sem.run_bind, Sem.run_pure, Result.andThen_ok, bound_run hn h1]
  · simp only [Instr.sliceBounds, Sem.run_bind, Sem.run_pure, Result.andThen_ok, bound_run hn' h2, bound_run hn h1]
theorem slice_str {T : TypeId} {s : ByteArray} {lo hi : Option Value} {l h : Nat} (hT : S.P.underlying T = some .string) (w : World)
    (hl : lo = none ∧ l = 0 ∨ ∃ k n, lo = some (.int k n) ∧ 0 ≤ n ∧ l = n.toNat) (hh : hi = none ∧ h = s.size ∨ ∃ k n, hi = some (.int k n) ∧ 0 ≤ n ∧ h = n.toNat) (h1 : l ≤ h) (h2 : h ≤ s.size) :
    (Instr.sliceAt T (.string s) lo hi none).run S.P w = .ok (.string (s.extract l h)) w := by
  simp [Instr.sliceAt, Instr.slice, run_und hT, bounds_run w hl hh h1 h2]
theorem slice_sl {T e : TypeId} {a : Option Addr} {n cap m : Nat} {lo hi : Option Value} {l h : Nat} (hT : S.P.underlying T = some (.slice e)) (hm : m = szA S e) (hp : 0 < szA S e) (w : World)
    (hl : lo = none ∧ l = 0 ∨ ∃ k n, lo = some (.int k n) ∧ 0 ≤ n ∧ l = n.toNat) (hh : hi = none ∧ h = n ∨ ∃ k n', hi = some (.int k n') ∧ 0 ≤ n' ∧ h = n'.toNat) (h1 : l ≤ h) (h2 : h ≤ cap) :
    (Instr.sliceAt T (.slice a n cap) lo hi none).run S.P w = .ok (.slice (if cap = l then a else a.map (·.add (l * m))) (h - l) (cap - l)) w := by
  subst hm
  simp [Instr.sliceAt, Instr.slice, run_und hT, bounds_run w hl hh h1 h2, run_size hp]
theorem sub_rel {b : Blk} {m : Nat} {i : Option Int} {n : Int} {r : Value} (h : VRel ρ (.sl b m i n) r) {l h' : Int} (h0 : 0 ≤ l) (h1 : l ≤ h') (h2 : h' ≤ n) (j : Option Int) (hj : j.getD 0 = i.getD 0 + l) :
    ∃ a len cap, r = .slice a len cap ∧ (len : Int) = n ∧ len ≤ cap ∧
      VRel ρ (.sl b m j (h' - l)) (.slice (if cap = l.toNat then a else a.map (·.add (l.toNat * m))) (h'.toNat - l.toNat) (cap - l.toNat)) := by
  rcases h with ⟨e1, e2, e3, a, rfl⟩ | ⟨k, z, cap, off, e1, e2, e3, e4, e5, e6, e7, rfl⟩
  · subst e2
    obtain rfl : l = 0 := by omega
    obtain rfl : h' = 0 := by omega
    exact ⟨a, 0, 0, rfl, rfl, Nat.le_refl _, .inl ⟨e1, rfl, by omega, a, rfl⟩⟩
  · refine ⟨_, _, _, rfl, by omega, e4, .inr ⟨k, z, cap - l.toNat, if cap = l.toNat then off else off + l.toNat * m, e1, by omega, by omega, by omega, by omega, ?_, ?_, ?_⟩⟩
    · have : (j.getD 0).toNat = (i.getD 0).toNat + l.toNat := by omega
      rw [this, Nat.add_mul, Nat.sub_mul]
      have : l.toNat * m ≤ cap * m := Nat.mul_le_mul_right _ (by omega)
      omega
    · by_cases hc : cap = l.toNat
      · left; omega
      · right
        rw [if_neg hc]
        have : (j.getD 0).toNat = (i.getD 0).toNat + l.toNat := by omega
        rw [this, Nat.add_mul]
        rcases e7 with e7 | e7
        · omega
        · rw [e7]; omega
    · have e : (h' - l).toNat = h'.toNat - l.toNat := by omega
      rw [e]
      by_cases hc : cap = l.toNat
      · simp [hc]
      · simp only [if_neg hc, Option.map_some, Addr.add]
        by_cases hz : l.toNat * m = 0
        · simp [hz]
        · simp [hz]
end
end Go.Vm
namespace Go.Vm
open Go.RowKit
section
variable {S : Seat} {ρ : Loc} {N : Nat}
theorem bounds_out {ev : Operand → AV} {evr : Operand → Value} (hev : ∀ x, VRel ρ (ev x) (evr x)) {lo hi : Option Operand} {n : Int} {K : Int → Int → Prop} (hn : 0 ≤ n) (h : boundsA ev lo hi n K) :
    ∃ l h : Int, (lo.map evr = none ∧ l.toNat = 0 ∨ ∃ k x, lo.map evr = some (.int k x) ∧ 0 ≤ x ∧ l.toNat = x.toNat) ∧
      (hi.map evr = none ∧ h = n ∨ ∃ k x, hi.map evr = some (.int k x) ∧ 0 ≤ x ∧ h.toNat = x.toNat) ∧ 0 ≤ l ∧ l ≤ h ∧ h ≤ n ∧ K l h := by
  unfold boundsA at h
  split at h
  · exact ⟨0, n, .inl ⟨rfl, rfl⟩, .inl ⟨rfl, rfl⟩, by omega, hn, by omega, h hn⟩
  · rename_i x
    split at h
    · rename_i k l e
      have hx := hev x; rw [e] at hx
      obtain ⟨⟨h1, h2⟩, h⟩ := h
      exact ⟨l, n, .inr ⟨k, l, congrArg some (int_rel hx), h1, rfl⟩, .inl ⟨rfl, rfl⟩, h1, h2, by omega, h⟩
    · exact h.elim
  · rename_i x
    split at h
    · rename_i k l e
      have hx := hev x; rw [e] at hx
      obtain ⟨⟨h1, h2⟩, h⟩ := h
      exact ⟨0, l, .inl ⟨rfl, rfl⟩, .inr ⟨k, l, congrArg some (int_rel hx), h1, rfl⟩, by omega, h1, h2, h⟩
    · exact h.elim
  · rename_i x y
    split at h
    · rename_i k l e
      have hx := hev x; rw [e] at hx
      split at h
      · rename_i k' l' e'
        have hy := hev y; rw [e'] at hy
        obtain ⟨⟨h1, h2, h3⟩, h⟩ := h
        exact ⟨l, l', .inr ⟨k, l, congrArg some (int_rel hx), h1, rfl⟩, .inr ⟨k', l', congrArg some (int_rel hy), by omega, rfl⟩, h1, h2, h3, h⟩
      · exact h.elim
    · exact h.elim
end
end Go.Vm

namespace Go.Vm
open Go.RowKit
section
variable {S : Seat} {ρ : Loc} {N : Nat}
theorem map_rel {ev : Operand → AV} {evr : Operand → Value} (hev : ∀ x, VRel ρ (ev x) (evr x)) : ∀ l : List Operand, VRels ρ (l.map ev) (l.map evr)
  | [] => rfl
  | x :: l => ⟨_, _, rfl, hev x, map_rel hev l⟩
theorem map_lt {ev : Operand → AV} (hlt : ∀ x, (ev x).lt N) : ∀ l : List Operand, AV.lts N (l.map ev)
  | [] => trivial
  | x :: l => ⟨hlt x, map_lt hlt l⟩
theorem call_builtin {o : Oper} {c : Call} {b : Builtin} {evr : Operand → Value} (ho : o.op = .call c) (hb : c.callee = .builtin b) :
    execOp evr o = builtin b c.argTypes o.type (c.args.map fun | .const _ => true | _ => false) (c.args.map evr) := by
  obtain ⟨dst, op, ty, pos, after, g⟩ := o
  obtain ⟨callee, args, argTypes⟩ := c
  simp only at ho hb
  subst ho; subst hb
  rfl
theorem encode_one {n : Int} (h0 : 0 ≤ n) (h : n < 128) : bytesL (Utf8.encode n) = [n] ∧ (Utf8.encode n).size ≤ 9223372036854775807 := by
  have hv : Utf8.valid n = true := by simp [Utf8.valid]; omega
  have hl : n.toNat < 128 := by omega
  have e : Utf8.encode n = ⟨#[UInt8.ofNat n.toNat]⟩ := by
    unfold Utf8.encode
    simp only [hv, if_true]
    rw [if_pos hl]
  rw [e]
  refine ⟨?_, by show 1 ≤ _; omega⟩
  simp [bytesL]
  omega
theorem zero_of {a : AV} {r : Value} (h : isZero a = true) (hr : VRel ρ a r) : ∃ k, r = .int k 0 := by
  unfold isZero at h
  split at h
  · rename_i k n
    have := Nat.eq_of_beq_eq_true h
    subst this
    exact ⟨k, hr⟩
  · simp at h
theorem slice_zero {T e : TypeId} {a : Option Addr} {n cap : Nat} {k k' : IntKind} (hT : S.P.underlying T = some (.slice e)) (hp : 0 < szA S e) (w : World) :
    (Instr.sliceAt T (.slice a n cap) none (some (.int k 0)) (some (.int k' 0))).run S.P w = .ok (.slice a 0 0) w := by
  simp [Instr.sliceAt, Instr.slice, Instr.sliceBounds, run_und hT, bound_run, run_size hp]
theorem zeroPiece_out {ev : Operand → AV} {evr : Operand → Value} (hev : ∀ x, VRel ρ (ev x) (evr x)) {lo hi : Option Operand} {mx : Operand} {K : AV → Prop} (h : zeroPieceA ev lo hi mx K) :
    K .nils ∧ ∃ x k k', lo = none ∧ hi = some x ∧ evr x = .int k 0 ∧ evr mx = .int k' 0 := by
  unfold zeroPieceA at h
  split at h
  · exact h.elim
  split at h
  · exact h.elim
  rename_i x
  split at h
  · exact h.elim
  rename_i z1
  split at h
  · exact h.elim
  rename_i z2
  obtain ⟨k1, q1⟩ := zero_of z1 (hev x)
  obtain ⟨k2, q2⟩ := zero_of z2 (hev mx)
  exact ⟨h, x, k1, k2, rfl, rfl, q1, q2⟩
theorem slice_sound {T : TypeId} {x : Operand} {lo hi mx : Option Operand} {dst : Option Tmp} {ty : TypeId} {pos : String} {after : Array Edge} {g : Option (Nat × Bool)} {ev : Operand → AV} {evr : Operand → Value} {K : AV → Prop} (hev : ∀ x, VRel ρ (ev x) (evr x)) (hlt : ∀ x, (ev x).lt N)
    (h : sliceA S T ev x lo hi mx K) : TellsOp S ρ N K evr ⟨dst, .slice T x lo hi mx, ty, pos, after, g⟩ := by
  unfold sliceA at h
  split at h
  · exact h.elim
  · rename_i hT
    split at h
    · rename_i s e
      have hx := hev x
      rw [e] at hx
      obtain ⟨a, er, rfl, hb⟩ := hx
      split at h
      · exact h.elim
      obtain ⟨l, h', hl, hh, h0, h1, h2, h⟩ := bounds_out hev (Int.natCast_nonneg _) h
      rw [bytesL_length] at hh h2
      have hr := fun w => slice_str (S := S) (s := a) hT w (l := l.toNat) (h := h'.toNat) hl (by rcases hh with ⟨q, rfl⟩ | q; exact .inl ⟨q, by simp⟩; exact .inr q) (by omega) (by omega)
      refine .mk h (r := .string (a.extract l.toNat h'.toNat)) ⟨_, rfl, (bytesL_extract _ _ _).symm, ?_⟩ trivial fun w => by simp [execOp, er, hr]
      rw [ByteArray.size_extract]; omega
    · exact h.elim
  · rename_i el hT
    split at h
    · rename_i b m i n e
      have hx := hev x
      have hl' := hlt x
      rw [e] at hx hl'
      split at h
      · rename_i hm hp
        have hm := Nat.eq_of_beq_eq_true hm
        have hp := Nat.le_of_ble_eq_true hp
        have hs : ∃ a len cap, evr x = .slice a len cap ∧ 0 ≤ n := by
          rcases hx with ⟨_, q, _, _, e2⟩ | ⟨k, z, cap, off, _, _, q, _, _, _, _, e2⟩
          · exact ⟨_, _, _, e2, by omega⟩
          · exact ⟨_, _, _, e2, q⟩
        obtain ⟨a0, len0, cap0, es, hn⟩ := hs
        split at h
        · obtain ⟨hK, hi, k1, k2, rfl, rfl, q1, q2⟩ := zeroPiece_out hev h
          exact .mk hK (r := .slice a0 0 0) ⟨_, rfl⟩ trivial fun w => by simp [execOp, es, q1, q2, slice_zero hT (show 0 < szA S el by omega)]
        obtain ⟨l, h', hl, hh, h0, h1, h2, h⟩ := bounds_out hev hn h
        have h := offK_out h
        obtain ⟨a, len, cap, er, e1, e2, hr⟩ := sub_rel hx h0 h1 h2 (subOff i l) (by cases i <;> simp [subOff])
        have hrun := fun w => slice_sl (S := S) (a := a) (n := len) (cap := cap) hT hm (by omega) w (l := l.toNat) (h := h'.toNat) hl (by rcases hh with ⟨q, rfl⟩ | q; exact .inl ⟨q, by omega⟩; exact .inr q) (by omega) (by omega)
        exact .mk h hr hl' fun w => by simp [execOp, er, hrun]
      · exact h.elim
    · rename_i e
      have hx := hev x
      rw [e] at hx
      obtain ⟨a, er⟩ := hx
      split at h
      · rename_i hp
        have hp := Nat.le_of_ble_eq_true hp
        split at h
        · obtain ⟨hK, hi, k1, k2, rfl, rfl, q1, q2⟩ := zeroPiece_out hev h
          exact .mk hK (r := .slice a 0 0) ⟨_, rfl⟩ trivial fun w => by simp [execOp, er, q1, q2, slice_zero hT (show 0 < szA S el by omega)]
        · obtain ⟨l, h', hl, hh, h0, h1, h2, h⟩ := bounds_out hev (Int.le_refl 0) h
          have hrun := fun w => slice_sl (S := S) (a := a) (n := 0) (cap := 0) hT rfl (show 0 < szA S el by omega) w (l := l.toNat) (h := h'.toNat) hl (by rcases hh with ⟨q, rfl⟩ | q; exact .inl ⟨q, by omega⟩; exact .inr q) (by omega) (by omega)
          have e0 : l.toNat = 0 := by omega
          have e1 : h'.toNat = 0 := by omega
          rw [e0, e1] at hrun
          exact .mk h (r := .slice a 0 0) ⟨_, rfl⟩ trivial fun w => by simp [execOp, er, hrun]
      · exact h.elim
    · exact h.elim
  · exact h.elim
theorem minmax_sound (isMax : Bool) {c : Call} {dst : Option Tmp} {ty : TypeId} {pos : String} {after : Array Edge} {g : Option (Nat × Bool)} {ev : Operand → AV} {evr : Operand → Value} {K : AV → Prop} (hev : ∀ x, VRel ρ (ev x) (evr x))
    (hb : c.callee = .builtin (if isMax then .max else .min)) (h : minmaxA isMax (c.args.toList.map ev) K) : TellsOp S ρ N K evr ⟨dst, .call c, ty, pos, after, g⟩ := by
  have hm := map_rel hev c.args.toList
  unfold minmaxA at h
  split at h
  · rename_i k a k' b hargs
    rw [hargs] at hm
    obtain ⟨r, rs, hl, hx, r', rs', rfl, hy, rfl⟩ := hm
    have ea : c.args.map evr = #[.int k a, .int k' b] := by rw [← Array.toList_inj]; rw [int_rel hx, int_rel hy] at hl; simpa using hl
    split at h
    · refine .mk h (r := .int k (max a b)) rfl trivial fun w => ?_
      rw [call_builtin (c := c) rfl hb, ea]
      simp [builtin, Builtin.max_, Builtin.max2]
      omega
    · refine .mk h (r := .int k (min a b)) rfl trivial fun w => ?_
      rw [call_builtin (c := c) rfl hb, ea]
      simp [builtin, Builtin.min_, Builtin.min2]
      omega
  · exact h.elim
theorem lenmin_sound {c : Call} {dst : Option Tmp} {ty : TypeId} {pos : String} {after : Array Edge} {g : Option (Nat × Bool)} {ev : Operand → AV} {evr : Operand → Value} {K : AV → Prop} (hev : ∀ x, VRel ρ (ev x) (evr x)) (hlt : ∀ x, (ev x).lt N)
    (h : lenminA S c ev K) : TellsOp S ρ N K evr ⟨dst, .call c, ty, pos, after, g⟩ := by
  unfold lenminA at h
  have hm := map_rel hev c.args.toList
  split at h
  · rename_i hb
    split at h
    · rename_i x T hargs htypes
      rw [hargs] at hm
      obtain ⟨r, rs, hl, hx, rfl⟩ := hm
      have ea : c.args.map evr = #[r] := by rw [← Array.toList_inj]; simpa using hl
      have et : c.argTypes = #[T] := by rw [← Array.toList_inj]; simpa using htypes
      split at h
      · rename_i s hT
        obtain ⟨a, er, rfl, hb'⟩ := hx
        rw [bytesL_length] at h
        refine .mk (h (by omega)) (r := .int .i64 a.size) rfl trivial fun w => ?_
        rw [call_builtin (c := c) rfl hb, ea, et, er]
        simp [builtin, Builtin.len_, run_und hT, goInt]
      · rename_i el b m i n hT
        rcases hx with ⟨e1, e2, e3, _, er⟩ | ⟨k, z, cap, off, e1, e2, e3, e4, e5, e6, e7, er⟩
        · subst e2
          refine .mk (h (by omega) (by omega)) (r := .int .i64 0) rfl trivial fun w => ?_
          rw [call_builtin (c := c) rfl hb, ea, et, er]
          simp [builtin, Builtin.len_, run_und hT, goInt]
        · refine .mk (h e3 (by omega)) (r := .int .i64 n) rfl trivial fun w => ?_
          rw [call_builtin (c := c) rfl hb, ea, et, er]
          simp [builtin, Builtin.len_, run_und hT, goInt]
          omega
      · rename_i el hT
        obtain ⟨a, er⟩ := hx
        refine .mk h (r := .int .i64 0) rfl trivial fun w => ?_
        rw [call_builtin (c := c) rfl hb, ea, et, er]
        simp [builtin, Builtin.len_, run_und hT, goInt]
      · exact h.elim
    · exact h.elim
  · rename_i hb
    split at h
    · rename_i x T hargs htypes
      rw [hargs] at hm
      obtain ⟨r, rs, hl, hx, rfl⟩ := hm
      have ea : c.args.map evr = #[r] := by rw [← Array.toList_inj]; simpa using hl
      have et : c.argTypes = #[T] := by rw [← Array.toList_inj]; simpa using htypes
      split at h
      · rename_i el hT
        obtain ⟨a, er⟩ := hx
        refine .mk h (r := .int .i64 0) rfl trivial fun w => ?_
        rw [call_builtin (c := c) rfl hb, ea, et, er]
        simp [builtin, Builtin.cap_, run_und hT, goInt]
      · exact h.elim
    · exact h.elim
  · rename_i hb
    exact minmax_sound false hev hb h
  · rename_i hb
    exact minmax_sound true hev hb h
  · exact h.elim
set_option maxHeartbeats 2000000 in
theorem pure_sound (hS : SeatOk S) {o : Oper} {ev : Operand → AV} {evr : Operand → Value} {K : AV → Prop} (hev : ∀ x, VRel ρ (ev x) (evr x)) (hc : ∀ v, evr (.const v) = v) (hlt : ∀ x, (ev x).lt N)
    (h : pureA S o.op ev K) : TellsOp S ρ N K evr o := by
  obtain ⟨dst, op, ty, pos, after, g⟩ := o
  cases op with
  | move x => exact .mk (forceV_out h) (hev x) (hlt x) fun w => rfl
  | assign x => exact .mk (forceV_out h) (hev x) (hlt x) fun w => rfl
  | pick c a b =>
    simp only [pureA] at h
    have hx := hev c
    split at h <;> rename_i e <;> (try rw [e] at hx)
    · exact .mk (forceV_out h) (hev a) (hlt a) fun w => by simp [execOp, asBool, show evr c = .bool true from hx]
    · exact .mk (forceV_out h) (hev b) (hlt b) fun w => by simp [execOp, asBool, show evr c = .bool false from hx]
    · obtain ⟨t, et, hp⟩ := hx
      by_cases hq : t = true
      · subst hq
        exact .mk (forceV_out (h.1 (hp.1 rfl))) (hev a) (hlt a) fun w => by simp [execOp, asBool, et]
      · have hq' : t = false := by simpa using hq
        subst hq'
        exact .mk (forceV_out (h.2 fun q => hq (hp.2 q))) (hev b) (hlt b) fun w => by simp [execOp, asBool, et]
    · exact h.elim
  | build T ps =>
    simp only [pureA] at h
    split at h
    · rename_i fs hfs
      split at h
      · rename_i places hpl
        obtain ⟨i, z, hi, hz, h⟩ := zero_out h
        obtain ⟨z', cells', hK, hfill, hz', hl', _⟩ := fill_run hev hlt (cells := z.cells) h (by exact map_cst_rel _) (map_cst_lt _)
        refine .mk (v := .agg z') (r := .agg cells') hK ⟨cells'.toList, by simp, hz'⟩ hl' fun w => ?_
        have hb : S.P.built T (ps.map fun (x : Nat × Operand) => (x.1, evr x.2)).toList = some cells' := by
          unfold Program.built
          simp only [hi, hfs, hz, placesL_mapM hpl]
          rw [← hfill]
          simp
        simp [execOp, run_build w T _ cells' hb]
      · exact h.elim
    · exact h.elim
  | nilCheck x =>
    simp only [pureA] at h
    have hx := hev x
    have hl := hlt x
    split at h <;> rename_i e <;> (try rw [e] at hx hl)
    · obtain ⟨k, z, h1, h2, er⟩ := hx
      exact .mk h ⟨k, z, h1, h2, rfl⟩ hl fun w => by simp [execOp, er]
    · obtain ⟨cs, er, h1⟩ := hx
      exact .mk h ⟨cs, rfl, h1⟩ hl fun w => by simp [execOp, er]
    · exact h.elim
  | binOp bop T x y U =>
    simp only [pureA] at h
    have hx := hev x
    have hy := hev y
    split at h
    · rename_i k hT
      unfold binA at h
      split at h
      · rename_i k1 a k2 b e1 e2
        rw [e1] at hx; rw [e2] at hy
        have hx := int_rel hx
        have hy := int_rel hy
        refine Tells.guard (fun w => eqGuard_pure (by rw [hx]; simp) (by rw [hx]; simp) w) ?_
        rw [hx, hy]
        exact binInt h
      · rename_i a b e1 e2
        rw [e1] at hx; rw [e2] at hy
        refine Tells.guard (fun w => eqGuard_pure (by obtain ⟨_, e, _⟩ := hx; rw [e]; simp) (by obtain ⟨_, e, _⟩ := hx; rw [e]; simp) w) ?_
        exact binStr h hx hy
      · exact h.elim
    · rename_i hT
      unfold binA at h
      split at h
      · rename_i k1 a k2 b e1 e2
        rw [e1] at hx; rw [e2] at hy
        have hx := int_rel hx
        have hy := int_rel hy
        refine Tells.guard (fun w => eqGuard_pure (by rw [hx]; simp) (by rw [hx]; simp) w) ?_
        rw [hx, hy]
        exact binInt h
      · rename_i a b e1 e2
        rw [e1] at hx; rw [e2] at hy
        refine Tells.guard (fun w => eqGuard_pure (by obtain ⟨_, e, _⟩ := hx; rw [e]; simp) (by obtain ⟨_, e, _⟩ := hx; rw [e]; simp) w) ?_
        exact binStr h hx hy
      · exact h.elim
    · rename_i hT
      have hb : ∃ b, evr x = .bool b := by
        unfold boolEqA at h
        split at h <;> rename_i e1 e2 <;> (try rw [e1] at hx) <;> first
          | exact ⟨_, hx⟩
          | (obtain ⟨b, e, _⟩ := hx; exact ⟨b, e⟩)
          | exact h.elim
      obtain ⟨b, hb⟩ := hb
      exact Tells.guard (fun w => eqGuard_pure (by rw [hb]; simp) (by rw [hb]; simp) w) (boolEq_sound hT h hx hy)
    · rename_i e hT
      split at h
      · rename_i n c
        have hs : ∃ a l c', evr x = .slice a l c' := by
          unfold nilEqA at h
          split at h <;> rename_i e1 <;> (try rw [e1] at hx)
          · rcases hx with ⟨_, _, _, _, e2⟩ | ⟨k, z, cap, off, _, _, _, _, _, _, _, e2⟩ <;> exact ⟨_, _, _, e2⟩
          · obtain ⟨a, e2⟩ := hx; exact ⟨_, _, _, e2⟩
          · exact h.elim
        obtain ⟨a, l, c', hs⟩ := hs
        refine Tells.guard (fun w => eqGuard_pure (by rw [hs]; simp) (by rw [hs]; simp) w) ?_
        rw [hc]
        exact nilEq_sound hT h hx
      · exact h.elim
    · rename_i fs hT
      split at h
      · rename_i n a b hn e1 e2
        rw [e1] at hx; rw [e2] at hy
        split at h
        · rename_i hlen
          have hF := hS.flat _ _ hn
          refine Tells.guard (fun w => ?_) (flatEq_sound hF (Nat.eq_of_beq_eq_true hlen) h hx hy)
          obtain ⟨xs, ex, _⟩ := hx
          obtain ⟨ys, ey, _⟩ := hy
          rw [ex, ey]
          cases bop <;> simp [eqGuard, hF.1]
        · exact h.elim
      · exact h.elim
    · exact h.elim
  | unOp uop T x =>
    simp only [pureA] at h
    have hx := hev x
    split at h <;> rename_i e <;> (try rw [e] at hx)
    · exact .mk h (r := .bool false) rfl trivial fun w => by simp [execOp, Op.unary, show evr x = .bool true from hx]
    · exact .mk h (r := .bool true) rfl trivial fun w => by simp [execOp, Op.unary, show evr x = .bool false from hx]
    · obtain ⟨b, er, hb⟩ := hx
      exact .mk h (r := .bool (!b)) ⟨_, rfl, by rw [← hb]; simp⟩ trivial fun w => by simp [execOp, Op.unary, er]
    · exact .mk h.2 (r := .int _ _) rfl trivial fun w => by
        simp [execOp, Op.unary, int_rel hx, Op.intArith, wrap_in h.1]
    · exact h.elim
  | convert T U x =>
    simp only [pureA] at h
    have hx := hev x
    split at h
    · exact h.elim
    rename_i d hT
    split at h
    · rename_i k k' n hU e
      rw [e] at hx
      have hx := int_rel hx
      rcases h with h | h
      · exact .mk h.2 (r := .int k n) rfl trivial fun w => by simp [execOp, convert, run_und hT, run_und hU, hx, Conv.intToInt, wrap_in h.1]
      · exact .mk h (r := .int k (k.wrap n)) rfl trivial fun w => by simp [execOp, convert, run_und hT, run_und hU, hx, Conv.intToInt]
    · rename_i k' n hU e
      rw [e] at hx
      have hx := int_rel hx
      obtain ⟨⟨h1, h2⟩, h⟩ := h
      obtain ⟨g1, g2⟩ := encode_one h1 h2
      exact .mk h (r := .string (Utf8.encode n)) ⟨_, rfl, g1.symm, g2⟩ trivial fun w => by simp [execOp, convert, run_und hT, run_und hU, hx, Conv.intToString]
    · rename_i s hU e
      rw [e] at hx
      obtain ⟨a, er, ha, hb⟩ := hx
      refine .mk h (r := .string a) ⟨_, rfl, ha, hb⟩ trivial fun w => ?_
      cases d <;> simp [execOp, convert, run_und hT, run_und hU, er]
    · exact h.elim
  | makeFunc f first cap =>
    simp only [pureA] at h
    split at h
    · rename_i f'
      split at h
      · rename_i e
        have h := forceL_out h
        refine .mk h (r := .func (.func f') #[] (cap.map evr)) ⟨(cap.map evr).toList, rfl, by rw [Array.toList_map]; exact map_rel hev cap.toList⟩ (map_lt hlt _) fun w => ?_
        have : first = #[] := by cases first; simp_all
        subst this
        simp [execOp, Instr.makeFunc]
      · exact h.elim
    · exact h.elim
  | fieldAddr T x f =>
    simp only [pureA] at h
    have hx := hev x
    have hl := hlt x
    split at h
    · rename_i b m i j e
      rw [e] at hx hl
      split at h
      · rename_i fs hfs
        split at h
        · rename_i fd hfd
          split at h
          · rename_i hle
            have h := natK_out h
            have hle := Nat.le_of_ble_eq_true hle
            obtain ⟨k, z, h1, h2, er⟩ := hx
            refine .mk h (r := .pointer (some ⟨k, z.1 + ((i.getD 0).toNat * m + (j + fd.offset)), none⟩)) ⟨k, z, h1, h2, rfl⟩ hl fun w => ?_
            have hfd' : fs[f]? = some fd := by simpa using hfd
            have hz : ¬ szA S fd.type = 0 := by omega
            simp only [execOp, Instr.fieldAt, Instr.sureAddr, fieldPlace, run_und hfs, hfd', er, Sem.run_bind, Sem.run_pure, Result.andThen_ok, run_size hle, if_neg hz]
            simp only [Addr.add]
            split
            · rename_i h0; simp [h0]
            · simp [Nat.add_assoc]
          · exact h.elim
        · exact h.elim
      · exact h.elim
    · exact h.elim
  | field T x f =>
    simp only [pureA] at h
    have hx := hev x
    have hl := hlt x
    split at h
    · rename_i l e
      rw [e] at hx hl
      split at h
      · rename_i fs hfs
        split at h
        · rename_i fd hfd
          split at h
          · rename_i hle
            have hle := Nat.le_of_ble_eq_true hle
            obtain ⟨cs, er, hcs⟩ := hx
            have hfd' : fs[f]? = some fd := by simpa using hfd
            rcases part_rel h hcs hl with ⟨ha, hp', hlen, hg⟩ | ⟨ha, r, hr, hg⟩
            · refine ⟨_, hg, fun w => ?_⟩
              simp [execOp, Instr.field, run_und hfs, hfd', er, asAgg, part, isAgg_run ha, run_size hle, List.drop_take, List.extract_eq_take_drop]
            · refine ⟨_, hg, fun w => ?_⟩
              simp [execOp, Instr.field, run_und hfs, hfd', er, asAgg, part, isAgg_run ha, hr]
          · exact h.elim
        · exact h.elim
      · exact h.elim
    · exact h.elim
  | indexAddr T x ix =>
    simp only [pureA] at h
    have hx := hev x
    have hl := hlt x
    have hi := hev ix
    split at h
    · rename_i el b m i n k' k hT e1 e2
      rw [e1] at hx hl
      rw [e2] at hi
      have hi := int_rel hi
      split at h
      · rename_i hm hp
        have hm := Nat.eq_of_beq_eq_true hm
        have hp := Nat.le_of_ble_eq_true hp
        obtain ⟨⟨h0, h1⟩, h⟩ := h
        have h := offK_out h
        rcases hx with ⟨_, e, _, _, _⟩ | ⟨kk, z, cap, off, r1, r2, r3, r4, r5, r6, r7, er⟩
        · omega
        have hoff : off = z.1 + (i.getD 0).toNat * m := by
          rcases r7 with r7 | r7
          · omega
          · exact r7
        have hp : 0 < szA S el := by omega
        have hg : (subOff i k).getD 0 = i.getD 0 + k := by cases i <;> simp [subOff]
        refine .mk h (r := .pointer (some ⟨kk, off + k.toNat * m, none⟩)) ⟨kk, z, r1, by rw [hg]; omega, ?_⟩ hl fun w => ?_
        · rw [hg, hoff, Int.toNat_add r2 h0, Nat.add_mul]; simp [Nat.add_assoc]
        · simp only [execOp, Instr.indexAt, asIntOf, run_und hT, hi, er, Sem.run_bind, Sem.run_pure, Result.andThen_ok, run_size hp]
          rw [if_pos (by omega)]
          simp only [Sem.run_bind, Sem.run_pure, Result.andThen_ok, run_size hp, Addr.add, ← hm]
          split
          · rename_i q; simp [q]
          · rfl
      · exact h.elim
    · exact h.elim
  | index T x ix =>
    simp only [pureA] at h
    have hx := hev x
    have hi := hev ix
    split at h
    · rename_i s k' k hT e1 e2
      rw [e1] at hx
      rw [e2] at hi
      have hi := int_rel hi
      obtain ⟨a, er, rfl, _⟩ := hx
      obtain ⟨⟨h0, h1⟩, h⟩ := h
      obtain ⟨g1, g2⟩ := bytesL_get h0 h1
      refine .mk h (r := .int .u8 _) rfl trivial fun w => ?_
      simp only [execOp, Instr.index, asIntOf, run_und hT, hi, er, Sem.run_bind, Sem.run_pure, Result.andThen_ok]
      rw [if_pos h0, g1]
      show Result.ok (Next.value (.int .u8 ((((bytesL a).getD k.toNat 0).toNat.toUInt8.toNat : Nat) : Int))) w = _
      rw [g2]
    · exact h.elim
  | slice T x lo hi mx =>
    simp only [pureA] at h
    exact slice_sound hev hlt h
  | extract x i =>
    simp only [pureA] at h
    have hx := hev x
    have hl := hlt x
    split at h
    · rename_i vs e
      rw [e] at hx hl
      split at h
      · rename_i v hv
        obtain ⟨cs, er, hcs⟩ := hx
        obtain ⟨r, hr, hvr⟩ := hcs.get hv
        exact .mk (forceV_out h) hvr (lts_get hl hv) fun w => by simp [execOp, Instr.extract, er, hr]
      · exact h.elim
    · exact h.elim
  | call c =>
    simp only [pureA] at h
    exact lenmin_sound hev hlt h
  | _ => exact h.elim
end
end Go.Vm

namespace Go.Vm
open Go.RowKit
def Under (b : Blk) : Blk → Prop
  | .sub c _ _ => c = b ∨ Under b c
  | _ => False
def Off (b : Blk) (ρ ρ' : Loc) : Prop := ∀ b', ¬ Under b b' → ρ' b' = ρ b'
abbrev Foot := Nat → Nat → Prop
def inZ (z : Nat × Nat) (c : Nat) : Prop := z.1 ≤ c ∧ c < z.1 + z.2
def regF (p : Option (Nat × (Nat × Nat))) : Foot := fun k c => ∃ z, p = some (k, z) ∧ inZ z c
def Disj (F G : Foot) : Prop := ∀ k c, F k c → G k c → False
theorem Disj.symm {F G : Foot} (h : Disj F G) : Disj G F := fun k c a b => h k c b a
structure Lay where
  loc : Loc
  foot : Blk → Foot
instance : Coe Lay Loc := ⟨Lay.loc⟩
instance : CoeFun Lay (fun _ => Blk → Option (Nat × (Nat × Nat))) := ⟨Lay.loc⟩
def own (arr : Array Value) (z : Nat × Nat) : Array Value := ((arr.toList.drop z.1).take z.2).toArray
theorem own_size {arr : Array Value} {z : Nat × Nat} (h : z.1 + z.2 ≤ arr.size) : (own arr z).size = z.2 := by
  simp [own]; omega
theorem own_all (arr : Array Value) : own arr (0, arr.size) = arr := by
  unfold own
  simp only [List.drop_zero]
  rw [List.take_of_length_le (by simp)]
theorem own_get {arr : Array Value} {z : Nat × Nat} {o : Nat} {r : Value} (h : (own arr z).toList[o]? = some r) : arr.toList[z.1 + o]? = some r := by
  unfold own at h
  simp only at h
  rw [List.getElem?_take] at h
  split at h
  · simpa using h
  · simp at h
theorem own_splice {arr arr' : Array Value} {news : List Value} {z : Nat × Nat} {q : Nat} (h : q + news.length ≤ z.2) (hn : z.1 + z.2 ≤ arr.size)
    (ha : arr'.toList = arr.toList.take (z.1 + q) ++ (news ++ arr.toList.drop (z.1 + q + news.length))) :
    (own arr' z).toList = (own arr z).toList.take q ++ (news ++ (own arr z).toList.drop (q + news.length)) := by
  unfold own
  simp only
  rw [ha]
  have hl : arr.toList.length = arr.size := by simp
  have e1 : (arr.toList.take (z.1 + q) ++ (news ++ arr.toList.drop (z.1 + q + news.length))).drop z.1 = (arr.toList.drop z.1).take q ++ (news ++ (arr.toList.drop z.1).drop (q + news.length)) := by
    rw [List.drop_append_of_le_length (by simp; omega), List.drop_take, Nat.add_sub_cancel_left, List.drop_drop, Nat.add_assoc]
  rw [e1]
  have h1 : ((arr.toList.drop z.1).take q).length = q := by simp; omega
  rw [List.take_append, h1, List.take_of_length_le (show ((arr.toList.drop z.1).take q).length ≤ z.2 by omega), List.take_append, List.take_of_length_le (show news.length ≤ z.2 - q by omega), List.take_take, Nat.min_eq_left (by omega), List.drop_take, Nat.sub_sub]
def FzOk (fz : Nat × Nat) (arr : Array Value) : Prop := fz.1 = fz.2 ∨ arr.size ≤ fz.1
def liveP (o : Option (Int × List AV)) (i : Nat) : Prop := match o with
  | none => True
  | some p => (i : Int) ≠ p.1
def totalN (o : Option (Int × List AV)) (n : Nat) : Nat := match o with
  | none => n
  | some p => max n (p.1.toNat + 1)
def ElemsLie (ρ : Loc) (N : Nat) (arr : Array Value) (m n : Nat) (cell : Nat → List AV) : Prop :=
  n * m ≤ arr.size ∧ ∀ i, i < n → VRels ρ (cell i) ((arr.toList.drop (i * m)).take m) ∧ AV.lts N (cell i)
def CellsLie (ρ : Loc) (N : Nat) (arr : Array Value) (b : Blk) : Cont → Prop
  | .raw vs => vs.length ≤ arr.size ∧ VRels ρ vs (arr.toList.take vs.length) ∧ AV.lts N vs
  | .arr E xs => ElemsLie ρ N arr E.m xs.length fun i => E.cells (xs.getD i E.d)
  | .nest m d g _ _ xs o => totalN o xs.length * m ≤ arr.size ∧ ∀ i : Nat, i < xs.length → liveP o i → VRels ρ (g (fun j => .sub b i j) (xs.getD i d)) ((arr.toList.drop (i * m)).take m)
def Lies (ρ : Loc) (N : Nat) (w : World) (rw : Bool) (b : Blk) (c : Cont) : Prop :=
  match ρ b with
  | none => c.empty
  | some (k, z) => ∃ arr T fz, w.heap[k]? = some (.cells arr T fz) ∧ z.1 + z.2 ≤ arr.size ∧ (rw = true → FzOk fz arr) ∧ CellsLie ρ N (own arr z) b c
def Holds (ρ : Loc) (N : Nat) (w : World) (rw : Bool) : Cont → Blk → Foot → Prop
  | .raw vs, b, F => Lies ρ N w rw b (.raw vs) ∧ ∀ k c, regF (ρ b) k c → F k c
  | .arr E xs, b, F => Lies ρ N w rw b (.arr E xs) ∧ ∀ k c, regF (ρ b) k c → F k c
  | .nest m d g s f xs o, b, F => (Lies ρ N w rw b (.nest m d g s f xs o) ∧ ∀ k c, regF (ρ b) k c → F k c) ∧ ∃ Fs : Nat → Nat → Foot,
      (∀ i, i < xs.length → liveP o i → ∀ j, j ∈ s → Holds ρ N w rw (f (xs.getD i d) j) (.sub b i j) (Fs i j)) ∧
      (∀ i, i < xs.length → liveP o i → ∀ j, j ∈ s → ∀ k c, Fs i j k c → F k c) ∧
      (rw = true → (∀ i, i < xs.length → liveP o i → ∀ j, j ∈ s → Disj (regF (ρ b)) (Fs i j)) ∧
        ∀ i, i < xs.length → liveP o i → ∀ j, j ∈ s → ∀ i', i' < xs.length → liveP o i' → ∀ j', j' ∈ s → (i, j) ≠ (i', j') → Disj (Fs i j) (Fs i' j'))
def OpenLie (ρ : Loc) (N : Nat) (w : World) (b : Blk) (m n : Nat) (o : Option (Int × List AV)) : Prop :=
  match o with
  | none => True
  | some p => 0 ≤ p.1 ∧ p.1 ≤ n ∧ p.2.length = m ∧ AV.lts N p.2 ∧ ∃ k z arr T fz, ρ b = some (k, z) ∧ w.heap[k]? = some (.cells arr T fz) ∧ VRels ρ p.2 (((own arr z).toList.drop (p.1.toNat * m)).take m)
def HoldsE (ρ : Loc) (N : Nat) (w : World) (rw : Bool) (c : Cont) (b : Blk) (F : Foot) : Prop :=
  match c with
  | .nest m d g s f xs o => match rw with
    | true => (∃ ρ1, Off b ρ ρ1 ∧ Holds ρ1 N w true (.nest m d g s f xs o) b F) ∧ OpenLie ρ N w b m xs.length o
    | false => o = none ∧ Holds ρ N w false (.nest m d g s f xs o) b F
  | .raw vs => Holds ρ N w rw (.raw vs) b F
  | .arr E xs => Holds ρ N w rw (.arr E xs) b F
def Blk.isKey : Blk → Prop
  | .sub _ _ _ => False
  | _ => True
def keyB : Blk → Blk
  | .sub b _ _ => keyB b
  | b => b
theorem keyB_key {b : Blk} (h : b.isKey) : keyB b = b := by cases b <;> first | rfl | exact h.elim
structure HRel (S : Seat) (ρ : Lay) (H : Heap) (w : World) : Prop where
  holds : ∀ e ∈ H.ents, HoldsE ρ H.next w e.rw e.c e.b (ρ.foot e.b)
  key : ∀ e ∈ H.ents, e.b.lt H.next ∧ e.b.isKey
  sep : ∀ e ∈ H.ents, ∀ e' ∈ H.ents, (e.rw = true ∨ e'.rw = true) → e.b ≠ e'.b → Disj (ρ.foot e.b) (ρ.foot e'.b)
  keys : H.ents.Pairwise fun e e' => e.b ≠ e'.b
  glob : ∀ g, ∃ n, ρ (.glob g) = some (g, (0, n))
  enc : ∀ e ∈ H.ents, ContOk S e.c
  low : ∀ e ∈ H.ents, ∀ k c, ρ.foot e.b k c → k < w.heap.size
  root : ∀ e ∈ H.ents, e.rw = true → e.b.root ≠ none
theorem Blk.beq_eq {a b : Blk} (h : Blk.beq a b = true) : a = b := by
  unfold Blk.beq at h
  split at h
  · rw [Nat.eq_of_beq_eq_true h]
  · rw [Nat.eq_of_beq_eq_true h]
  · simp at h
theorem Blk.beq_self {a : Blk} (h : a.isKey) : Blk.beq a a = true := by
  cases a <;> first | exact Nat.beq_refl _ | exact h.elim
theorem getE_mem {l : List Ent} {b : Blk} {e : Ent} (h : getE l b = some e) : e ∈ l ∧ e.b = b := by
  induction l with
  | nil => simp [getE] at h
  | cons x l ih =>
    unfold getE at h
    split at h
    · rename_i hb
      simp at h; subst h
      exact ⟨List.mem_cons_self, Blk.beq_eq hb⟩
    · obtain ⟨h1, h2⟩ := ih h
      exact ⟨List.mem_cons_of_mem _ h1, h2⟩
theorem Under.root {b : Blk} : ∀ {b' : Blk}, Under b b' → b'.root = b.root
  | .loc _, h => h.elim
  | .glob _, h => h.elim
  | .sub c i j, h => by
    rcases h with h | h
    · rw [← h]; rfl
    · exact (Under.root (b' := c) h)
theorem Under.key {b b' : Blk} (h : Under b b') : ¬ b'.isKey := by
  cases b' with
  | loc _ => exact h.elim
  | glob _ => exact h.elim
  | sub c i j => exact id
theorem Blk.lt.sub {N : Nat} {b : Blk} {i : Int} {j : Nat} (h : b.lt N) : (Blk.sub b i j).lt N := fun n hn => h n hn
theorem Off.refl (b : Blk) (ρ : Loc) : Off b ρ ρ := fun _ _ => rfl
def Blk.high : Blk → Nat
  | .sub b _ _ => b.high + 1
  | _ => 0
theorem not_under_self (b : Blk) : ¬ Under b b := by
  have : ∀ {b' : Blk}, Under b b' → b.high < b'.high := by
    intro b'
    induction b' with
    | loc _ => intro h; exact h.elim
    | glob _ => intro h; exact h.elim
    | sub c i j ih =>
      intro h
      rcases h with h | h
      · subst h; simp [Blk.high]
      · have := ih h; simp only [Blk.high]; omega
  intro h
  have := this h
  omega
def KeepF (F : Foot) (w w' : World) : Prop := ∀ k arr T fz, w.heap[k]? = some (.cells arr T fz) →
  ∃ arr' fz', w'.heap[k]? = some (.cells arr' T fz') ∧ arr'.size = arr.size ∧ (FzOk fz arr → FzOk fz' arr') ∧ ∀ c, F k c → arr'[c]? = arr[c]?
theorem KeepF.refl (F : Foot) (w : World) : KeepF F w w := fun _ arr _ fz h => ⟨arr, fz, h, rfl, id, fun _ _ => rfl⟩
theorem KeepF.mono {F G : Foot} {w w' : World} (h : KeepF F w w') (hg : ∀ k c, G k c → F k c) : KeepF G w w' := fun k arr T fz e =>
  let ⟨arr', fz', h1, h2, h3, h4⟩ := h k arr T fz e
  ⟨arr', fz', h1, h2, h3, fun c hc => h4 c (hg k c hc)⟩
theorem own_congr {arr arr' : Array Value} {z : Nat × Nat} (hs : arr'.size = arr.size) (h : ∀ c, inZ z c → arr'[c]? = arr[c]?) : own arr' z = own arr z := by
  unfold own
  congr 1
  apply List.ext_getElem?
  intro i
  simp only [List.getElem?_take, List.getElem?_drop]
  split
  · have := h (z.1 + i) ⟨by omega, by omega⟩
    simpa using this
  · rfl
theorem ElemsLie.agree {ρ ρ' : Loc} {N N' : Nat} {arr : Array Value} {m n : Nat} {cell : Nat → List AV} (h : ElemsLie ρ N arr m n cell) (ha : Agree N ρ ρ') (hN : N ≤ N') : ElemsLie ρ' N' arr m n cell :=
  ⟨h.1, fun i hi => ⟨VRels.agree ha (h.2 i hi).2 (h.2 i hi).1, AV.lts.mono hN (h.2 i hi).2⟩⟩
theorem CellsLie.agree {S : Seat} {ρ ρ' : Loc} {N N' : Nat} {arr : Array Value} {b : Blk} {c : Cont} (hok : ContOk S c) (hb : b.lt N) (h : CellsLie ρ N arr b c) (ha : Agree N ρ ρ') (hN : N ≤ N') : CellsLie ρ' N' arr b c := by
  cases c with
  | raw vs => exact ⟨h.1, VRels.agree ha h.2.2 h.2.1, AV.lts.mono hN h.2.2⟩
  | arr E xs => exact ElemsLie.agree h ha hN
  | nest m d g s f xs o =>
    obtain ⟨⟨T, hT⟩, _⟩ := hok
    exact ⟨h.1, fun i hi hl => VRels.agree ha (hT.lt _ _ _ fun j _ => hb.sub) (h.2 i hi hl)⟩
theorem Lies.turn {S : Seat} {ρ ρ' : Loc} {N N' : Nat} {w w' : World} {rw : Bool} {c : Cont} {b : Blk} (hok : ContOk S c) (h : Lies ρ N w rw b c) (hb : b.lt N) (ha : Agree N ρ ρ') (hN : N ≤ N') (hw : KeepF (regF (ρ b)) w w') : Lies ρ' N' w' rw b c := by
  unfold Lies at h ⊢
  rw [ha b hb]
  split at h
  · exact h
  · rename_i k z e
    obtain ⟨arr, T, fz, h1, h2, h3, h4⟩ := h
    obtain ⟨arr', fz', g1, g2, g3, g4⟩ := hw k arr T fz h1
    have hown : own arr' z = own arr z := own_congr g2 fun c hc => g4 c ⟨z, e, hc⟩
    refine ⟨arr', T, fz', g1, by omega, fun q => g3 (h3 q), ?_⟩
    rw [hown]
    exact h4.agree hok hb ha hN
theorem Holds.turn {S : Seat} {ρ ρ' : Loc} {N N' : Nat} {w w' : World} : ∀ {rw : Bool} {c : Cont} {b : Blk} {F : Foot}, ContOk S c → Holds ρ N w rw c b F → b.lt N → Agree N ρ ρ' → N ≤ N' → KeepF F w w' → Holds ρ' N' w' rw c b F
  | rw, .raw _, b, F, hok, h, hb, ha, hN, hw => ⟨Lies.turn hok h.1 hb ha hN (hw.mono h.2), fun k c q => h.2 k c (ha b hb ▸ q)⟩
  | rw, .arr _ _, b, F, hok, h, hb, ha, hN, hw => ⟨Lies.turn hok h.1 hb ha hN (hw.mono h.2), fun k c q => h.2 k c (ha b hb ▸ q)⟩
  | rw, .nest m d g s f xs o, b, F, hok, h, hb, ha, hN, hw => by
    obtain ⟨⟨h1, h2⟩, Fs, h3, h4, h5⟩ := h
    refine ⟨⟨Lies.turn hok h1 hb ha hN (hw.mono h2), fun k c q => h2 k c (ha b hb ▸ q)⟩, Fs, fun i hi hl j hj => ?_, h4, fun hr => ?_⟩
    · exact Holds.turn (hok.2 _ _).1 (h3 i hi hl j hj) hb.sub ha hN (hw.mono (h4 i hi hl j hj))
    · rw [ha b hb]; exact h5 hr
theorem OpenLie.turn {ρ ρ' : Loc} {N N' : Nat} {w w' : World} {b : Blk} {m n : Nat} {o : Option (Int × List AV)} (h : OpenLie ρ N w b m n o) (hb : b.lt N) (ha : Agree N ρ ρ') (hN : N ≤ N') (hw : KeepF (regF (ρ b)) w w') : OpenLie ρ' N' w' b m n o := by
  unfold OpenLie at h ⊢
  split at h
  · trivial
  · rename_i p
    obtain ⟨h1, h2, h3, h4, k, z, arr, T, fz, h5, h6, h7⟩ := h
    obtain ⟨arr', fz', g1, g2, g3, g4⟩ := hw k arr T fz h6
    have hown : own arr' z = own arr z := own_congr g2 fun c hc => g4 c ⟨z, h5, hc⟩
    refine ⟨h1, h2, h3, h4.mono hN, k, z, arr', T, fz', by rw [ha b hb]; exact h5, g1, ?_⟩
    rw [hown]
    exact h7.agree ha h4
open Classical in
noncomputable def mixL (b : Blk) (ρin ρout : Loc) : Loc := fun b' => if Under b b' then ρin b' else ρout b'
theorem mixL_off (b : Blk) (ρin ρout : Loc) : Off b ρout (mixL b ρin ρout) := fun b' h => by simp [mixL, h]
theorem mixL_in {b b' : Blk} {ρin ρout : Loc} (h : Under b b') : mixL b ρin ρout b' = ρin b' := by simp [mixL, h]
theorem mixL_agree {N : Nat} {b : Blk} {ρ ρ' ρ1 : Loc} (ho : Off b ρ ρ1) (ha : Agree N ρ ρ') : Agree N ρ1 (mixL b ρ1 ρ') := fun b' hb => by
  by_cases h : Under b b'
  · exact mixL_in h
  · rw [mixL_off b ρ1 ρ' b' h, ha b' hb, ho b' h]
theorem HoldsE.turn {S : Seat} {ρ ρ' : Loc} {N N' : Nat} {w w' : World} {rw : Bool} {c : Cont} {b : Blk} {F : Foot} (hok : ContOk S c) (h : HoldsE ρ N w rw c b F) (hb : b.lt N) (ha : Agree N ρ ρ') (hN : N ≤ N') (hw : KeepF F w w') : HoldsE ρ' N' w' rw c b F := by
  cases c with
  | raw vs => exact Holds.turn hok h hb ha hN hw
  | arr E xs => exact Holds.turn hok h hb ha hN hw
  | nest m d g s f xs o =>
    cases rw with
    | false => exact ⟨h.1, Holds.turn hok h.2 hb ha hN hw⟩
    | true =>
      obtain ⟨⟨ρ1, h1, h2⟩, h3⟩ := h
      refine ⟨⟨mixL b ρ1 ρ', mixL_off _ _ _, Holds.turn hok h2 hb (mixL_agree h1 ha) hN hw⟩, h3.turn hb ha hN (hw.mono ?_)⟩
      have := h2.1.2
      rw [h1 b (not_under_self b)] at this
      exact this
theorem Holds.toE {ρ : Loc} {N : Nat} {w : World} {rw : Bool} {c : Cont} {b : Blk} {F : Foot} (hc : c.closed) (h : Holds ρ N w rw c b F) : HoldsE ρ N w rw c b F := by
  cases c with
  | raw vs => exact h
  | arr E xs => exact h
  | nest m d g s f xs o =>
    cases rw with
    | false => exact ⟨hc, h⟩
    | true =>
      have hc : o = none := hc
      subst hc
      exact ⟨⟨ρ, .refl _ _, h⟩, trivial⟩
theorem HoldsE.reg {ρ : Loc} {N : Nat} {w : World} {rw : Bool} {c : Cont} {b : Blk} {F : Foot} (h : HoldsE ρ N w rw c b F) : (∃ ρ1, Off b ρ ρ1 ∧ Lies ρ1 N w rw b c) ∧ ∀ k c, regF (ρ b) k c → F k c := by
  cases c with
  | raw vs => exact ⟨⟨ρ, .refl _ _, h.1⟩, h.2⟩
  | arr E xs => exact ⟨⟨ρ, .refl _ _, h.1⟩, h.2⟩
  | nest m d g s f xs o =>
    cases rw with
    | false => exact ⟨⟨ρ, .refl _ _, h.2.1.1⟩, h.2.1.2⟩
    | true =>
      obtain ⟨⟨ρ1, h1, h2⟩, h3⟩ := h
      refine ⟨⟨ρ1, h1, h2.1.1⟩, ?_⟩
      have := h2.1.2
      rw [h1 b (not_under_self b)] at this
      exact this
theorem HoldsE.arr {ρ : Loc} {N : Nat} {w : World} {rw : Bool} {α : Type} {E : Enc α} {xs : List α} {b : Blk} {F : Foot} (h : HoldsE ρ N w rw (.arr E xs) b F) : Lies ρ N w rw b (.arr E xs) ∧ ∀ k c, regF (ρ b) k c → F k c := h
theorem HoldsE.raw {ρ : Loc} {N : Nat} {w : World} {rw : Bool} {vs : List AV} {b : Blk} {F : Foot} (h : HoldsE ρ N w rw (.raw vs) b F) : Lies ρ N w rw b (.raw vs) ∧ ∀ k c, regF (ρ b) k c → F k c := h
theorem HoldsE.block {ρ : Loc} {N : Nat} {w : World} {rw : Bool} {c : Cont} {b : Blk} {F : Foot} {k : Nat} {z : Nat × Nat} (h : HoldsE ρ N w rw c b F) (hb : ρ b = some (k, z)) : ∃ arr T fz, w.heap[k]? = some (.cells arr T fz) ∧ z.1 + z.2 ≤ arr.size ∧ (rw = true → FzOk fz arr) := by
  obtain ⟨⟨ρ1, h1, h2⟩, _⟩ := h.reg
  rw [← h1 b (not_under_self b)] at hb
  simp only [Lies, hb] at h2
  obtain ⟨arr, T, fz, g1, g2, g3, g4⟩ := h2
  exact ⟨arr, T, fz, g1, g2, g3⟩
section
variable {S : Seat} {ρ : Lay} {H : Heap} {w : World}
theorem at_sound (hH : HRel S ρ H w) : ∀ {b : Blk} {K : Bool → Cont → Prop}, atA H.ents b K → ∃ q c F e, K q c ∧ e ∈ H.ents ∧ HoldsE ρ H.next w q c b F ∧ ContOk S c ∧ b.lt H.next ∧ (∀ k c', F k c' → ρ.foot e.b k c') ∧ e.rw = q ∧ e.b = keyB b ∧ (q = true → e.b = b ∧ e.c = c ∧ F = ρ.foot e.b)
  | .loc n, K, h => by
    unfold atA at h
    split at h
    · rename_i e he
      obtain ⟨h1, h2⟩ := getE_mem he
      exact ⟨e.rw, e.c, ρ.foot e.b, e, h, h1, h2 ▸ hH.holds e h1, hH.enc e h1, h2 ▸ (hH.key e h1).1, fun _ _ q => q, rfl, h2, fun _ => ⟨h2, rfl, rfl⟩⟩
    · exact h.elim
  | .glob n, K, h => by
    unfold atA at h
    split at h
    · rename_i e he
      obtain ⟨h1, h2⟩ := getE_mem he
      exact ⟨e.rw, e.c, ρ.foot e.b, e, h, h1, h2 ▸ hH.holds e h1, hH.enc e h1, h2 ▸ (hH.key e h1).1, fun _ _ q => q, rfl, h2, fun _ => ⟨h2, rfl, rfl⟩⟩
    · exact h.elim
  | .sub b i j, K, h => by
    unfold atA at h
    obtain ⟨q, c, F, e, hc, he, hh, hok, hlt, hF, hq, hk, hqq⟩ := at_sound hH h
    clear hqq
    split at hc
    · exact hc.elim
    · split at hc
      · rename_i α m d g s f xs o
        split at hc
        · obtain ⟨⟨h0, h1, h2⟩, hK⟩ := hc
          obtain ⟨n, rfl⟩ := Int.eq_ofNat_of_zero_le h0
          have h1 : n < xs.length := by omega
          simp only [Int.toNat_natCast] at hK
          obtain ⟨_, _, Fs, g1, g2, _⟩ := hh
          exact ⟨false, _, Fs n j, e, hK, he, (g1 n h1 trivial j h2).toE (hok.2 _ _).2, (hok.2 _ _).1, hlt.sub, fun k c' p => hF k c' (g2 n h1 trivial j h2 k c' p), hq, hk, fun p => by simp at p⟩
        · exact hc.elim
      · exact hc.elim
theorem hide_rel {ρ ρ' : Loc} {N : Nat} : ∀ {l : List AV} {rs : List Value}, VRels ρ l rs → VRels ρ' (hideL l) rs ∧ AV.lts N (hideL l)
  | [], _, h => ⟨h, trivial⟩
  | v :: r, _, ⟨x, rs, e, h1, h2⟩ => by
    obtain ⟨g1, g2⟩ := hide_rel (ρ' := ρ') (N := N) h2
    refine ⟨⟨x, rs, e, ?_, g1⟩, ?_, g2⟩
    · cases v <;> first | exact h1 | exact trivial
    · cases v <;> trivial
theorem elem_sound {ρ : Loc} {N : Nat} {rw : Bool} {c : Cont} {b : Blk} {F : Foot} {m : Nat} {i : Option Int} {K : List AV → Prop} {k : Nat} {z : Nat × Nat} (hl : HoldsE ρ N w rw c b F) (hok : ContOk S c) (hlt : b.lt N) (hb : ρ b = some (k, z)) (h0 : 0 ≤ i.getD 0) (h : elemA rw b m i c K) :
    ∃ l rs, K l ∧ VRels ρ l rs ∧ AV.lts N l ∧ ∀ j r, rs[j]? = some r → w.cell? ⟨k, z.1 + ((i.getD 0).toNat * m + j), none⟩ = some r ∧ inZ z (z.1 + ((i.getD 0).toNat * m + j)) := by
  have cellOf : ∀ {arr : Array Value} {T : TypeId} {fz : Nat × Nat} {o : Nat} {r : Value}, w.heap[k]? = some (.cells arr T fz) → (own arr z).toList[o]? = some r → w.cell? ⟨k, z.1 + o, none⟩ = some r ∧ inZ z (z.1 + o) := by
    intro arr T fz o r h1 hr
    refine ⟨?_, ?_⟩
    · simp only [World.cell?, h1]
      simpa using own_get hr
    · have : o < (own arr z).toList.length := by
        rcases Nat.lt_or_ge o (own arr z).toList.length with q | q
        · exact q
        · rw [List.getElem?_eq_none q] at hr; simp at hr
      have h2 : (own arr z).toList.length ≤ z.2 := by simp [own]; omega
      exact ⟨by omega, by omega⟩
  have piece : ∀ {arr : Array Value} {T : TypeId} {fz : Nat × Nat} {n m' j : Nat} {r : Value}, w.heap[k]? = some (.cells arr T fz) → ((((own arr z).toList.drop n).take m'))[j]? = some r → w.cell? ⟨k, z.1 + (n + j), none⟩ = some r ∧ inZ z (z.1 + (n + j)) := by
    intro arr T fz n m' j r h1 hr
    rw [List.getElem?_take] at hr
    split at hr
    · rw [List.getElem?_drop] at hr
      exact cellOf h1 hr
    · simp at hr
  cases c with
  | raw vs =>
    have hl := hl.1
    simp only [Lies, hb] at hl
    obtain ⟨arr, T, fz, h1, h2, h3, g1, g2, g3⟩ := hl
    simp only [elemA] at h
    split at h
    · refine ⟨_, _, h, g2, g3, fun j r hr => ?_⟩
      simp only [Option.getD_none, Int.toNat_zero, Nat.zero_mul]
      exact piece (n := 0) h1 (by simpa using hr)
    · rename_i n
      refine ⟨_, _, h, g2.drop (n * m), lts_drop _ g3, fun j r hr => ?_⟩
      rw [List.getElem?_drop] at hr
      have := piece (n := 0) h1 (by simpa using hr)
      simpa using this
    · exact h.elim
  | arr E xs =>
    have hl := hl.1
    simp only [Lies, hb] at hl
    obtain ⟨arr, T, fz, h1, h2, h3, he⟩ := hl
    simp only [elemA] at h
    unfold arrElemA at h
    split at h
    · obtain ⟨hp, hK⟩ := h
      obtain ⟨r1, r2⟩ := he.2 0 hp
      refine ⟨_, _, hK, r1, r2, fun j r hr => ?_⟩
      simp only [Option.getD_none, Int.toNat_zero, Nat.zero_mul]
      simpa using piece (n := 0 * E.m) h1 hr
    · rename_i i
      split at h
      · rename_i hm
        have hm := Nat.eq_of_beq_eq_true hm
        subst hm
        obtain ⟨⟨hp, hp'⟩, hK⟩ := h
        obtain ⟨r1, r2⟩ := he.2 i.toNat (by omega)
        exact ⟨_, _, hK, r1, r2, fun j r hr => piece h1 hr⟩
      · exact h.elim
  | nest m' d g s f xs o =>
    simp only [elemA] at h
    unfold nestElemA at h
    split at h
    · exact h.elim
    · rename_i i
      split at h
      · exact h.elim
      · rename_i hm
        have hm := Nat.eq_of_beq_eq_true hm
        subst hm
        obtain ⟨⟨T0, hT⟩, _⟩ := hok
        split at h
        · rename_i p
          split at h
          rename_i i0 cs
          obtain ⟨rfl, hK⟩ := h
          cases rw with
          | false => simp [HoldsE] at hl
          | true =>
            obtain ⟨_, q1, q2, q3, q4, k', z', arr, T, fz, q5, q6, q7⟩ := hl
            rw [hb] at q5
            obtain ⟨rfl, rfl⟩ : k' = k ∧ z' = z := by simpa [eq_comm] using q5
            exact ⟨_, _, hK, q7, q4, fun j r hr => piece q6 hr⟩
        · split at h
          · obtain ⟨⟨hp, hp'⟩, hK⟩ := h
            have hl := hl.2.1.1
            simp only [Lies, hb] at hl
            obtain ⟨arr, T, fz, h1, h2, h3, he⟩ := hl
            obtain ⟨n, rfl⟩ := Int.eq_ofNat_of_zero_le hp
            simp only [Int.toNat_natCast] at hK
            refine ⟨_, _, hK, he.2 n (by omega) trivial, hT.lt _ _ _ fun j _ => hlt.sub, fun j r hr => piece h1 hr⟩
          · obtain ⟨⟨hp, hp'⟩, hK⟩ := h
            obtain ⟨⟨ρ1, ho, hl⟩, _⟩ := hl
            have hl := hl.1.1
            have hb1 : ρ1 b = some (k, z) := by rw [ho b (not_under_self b)]; exact hb
            simp only [Lies, hb1] at hl
            obtain ⟨arr, T, fz, h1, h2, h3, he⟩ := hl
            obtain ⟨n, rfl⟩ := Int.eq_ofNat_of_zero_le hp
            simp only [Int.toNat_natCast] at hK
            obtain ⟨r1, r2⟩ := hide_rel (ρ' := ρ) (N := N) (he.2 n (by omega) trivial)
            exact ⟨_, _, hK, r1, r2, fun j r hr => piece h1 hr⟩
theorem load_sound {N : Nat} {T : TypeId} {l : List AV} {rs : List Value} {j : Nat} {K : AV → Prop} {a : Addr} (h : partA S T l j K) (hr : VRels ρ l rs) (hl : AV.lts N l)
    (hc : ∀ j r, rs[j]? = some r → w.cell? ⟨a.block, a.off + j, none⟩ = some r) :
    ∃ r, Got ρ N K r ∧ (loadVar T ⟨a.block, a.off + j, none⟩).run S.P w = .ok r w := by
  rcases part_rel h hr hl with ⟨ha', hp, hlen, hg⟩ | ⟨ha', r, hr', hg⟩
  · refine ⟨_, hg, ?_⟩
    simp only [loadVar, Sem.run_bind, isAgg_run ha', Result.andThen_ok, if_true, run_size hp]
    have hll : ((rs.drop j).take (szA S T)).length = szA S T := by simp; omega
    have := run_loadCells_list (P := S.P) w ⟨a.block, a.off + j, none⟩ ((rs.drop j).take (szA S T)) (fun i v hv => by
      rw [List.getElem?_take] at hv
      split at hv
      · rw [List.getElem?_drop] at hv
        have := hc _ _ hv
        simp only [Addr.add]
        split
        · rename_i h0; subst h0; simpa using this
        · simpa [Nat.add_assoc] using this
      · simp at hv)
    rw [hll] at this
    simp [this]
  · refine ⟨_, hg, ?_⟩
    simp only [loadVar, Sem.run_bind, isAgg_run ha', Result.andThen_ok, Bool.false_eq_true, if_false, run_load, hc _ _ hr']
def ElemsAt (ρ : Loc) (N : Nat) (w : World) {α : Type} (E : Enc α) (ys : List α) (a : Option Addr) : Prop :=
  ys ≠ [] → ∃ k off, a = some ⟨k, off, none⟩ ∧ ∀ t, t < ys.length →
    ∃ rs, VRels ρ (E.cells (ys.getD t E.d)) rs ∧ AV.lts N (E.cells (ys.getD t E.d)) ∧ ∀ j r, rs[j]? = some r → w.cell? ⟨k, off + t * E.m + j, none⟩ = some r
theorem elems_sound {α : Type} {E : Enc α} {x : AV} {K : List α → Prop} {r : Value} (hH : HRel S ρ H w) (h : elemsA E H.ents x K) (hx : VRel ρ x r) :
    ∃ ys a cap, K ys ∧ r = .slice a ys.length cap ∧ ys.length ≤ cap ∧ cap ≤ 9223372036854775807 ∧ ElemsAt ρ H.next w E ys a := by
  unfold elemsA at h
  split at h
  · obtain ⟨a, rfl⟩ := hx
    exact ⟨[], a, 0, h, rfl, by simp, by omega, fun hn => absurd rfl hn⟩
  · rename_i b m i n
    obtain ⟨q, c, F, e, ⟨ys, rfl, rfl, h'⟩, he, hh, _⟩ := at_sound hH h
    clear h
    have h := h'
    clear h'
    have hl := hh.arr.1
    have hp : ∃ i' : Nat, (i' : Int) = i.getD 0 ∧ 0 ≤ n ∧ i' + n.toNat ≤ ys.length ∧ K ((ys.drop i').take n.toNat) := by
      split at h
      · obtain ⟨⟨h1, h2⟩, h⟩ := h
        exact ⟨0, rfl, h1, by omega, by simpa using h⟩
      · rename_i i0
        obtain ⟨⟨h1, h2, h3⟩, h⟩ := h
        exact ⟨i0.toNat, by simp; omega, h2, by omega, h⟩
    obtain ⟨i', hi, hn, hle, hK⟩ := hp
    have hlen : ((ys.drop i').take n.toNat).length = n.toNat := by simp; omega
    rcases hx with ⟨e1, e2, e3, a, rfl⟩ | ⟨k, z, cap, off, e1, e2, e3, e4, e5, e6, e7, rfl⟩
    · subst e2
      refine ⟨_, a, 0, hK, by rw [hlen]; rfl, by rw [hlen]; simp, by omega, fun hn => ?_⟩
      exact absurd (List.eq_nil_of_length_eq_zero (by rw [hlen]; rfl)) hn
    · refine ⟨_, _, cap, hK, by rw [hlen], by rw [hlen]; exact e4, e5, fun hne => ⟨k, off, rfl, fun t ht => ?_⟩⟩
      rw [hlen] at ht
      have hoff : off = z.1 + i' * E.m := by
        rcases e7 with e7 | e7
        · omega
        · rw [e7, ← hi]; simp
      simp only [Lies, e1] at hl
      obtain ⟨arr, T, fz, g1, g2, g3, g4, g5⟩ := hl
      obtain ⟨r1, r2⟩ := g5 (i' + t) (by omega)
      have hg : ((ys.drop i').take n.toNat).getD t E.d = ys.getD (i' + t) E.d := by
        simp only [List.getD_eq_getElem?_getD, List.getElem?_take, if_pos ht, List.getElem?_drop]
      rw [hg]
      refine ⟨_, r1, r2, fun j r hr => ?_⟩
      rw [List.getElem?_take] at hr
      split at hr
      · simp only [World.cell?, g1]
        rw [List.getElem?_drop] at hr
        have hr := own_get hr
        rw [hoff, Nat.add_assoc, Nat.add_assoc, ← Nat.add_assoc (i' * E.m), ← Nat.add_mul]
        simpa using hr
      · simp at hr
  · exact h.elim
end
end Go.Vm
