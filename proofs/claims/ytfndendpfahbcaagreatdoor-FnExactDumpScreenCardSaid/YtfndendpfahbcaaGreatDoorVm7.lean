/- An abstract machine over the loaded code: whatever operation upon values alone. -/
import Derived.Test.YtfndendpfahbcaaGreatDoorVm6
set_option linter.unusedSimpArgs false
set_option linter.unusedVariables false
namespace Go.Vm
open Go.RowKit
section
variable {S : Seat} {ρ : Loc} {N : Nat}

theorem map_rel {ev : Operand → AV} {evr : Operand → Value} (hev : ∀ x, VRel ρ (ev x) (evr x)) : ∀ l : List Operand, VRels ρ (l.map ev) (l.map evr)
  | [] => rfl
  | x :: l => ⟨_, _, rfl, hev x, map_rel hev l⟩
theorem map_lt {ev : Operand → AV} (hlt : ∀ x, (ev x).lt N) : ∀ l : List Operand, AV.lts N (l.map ev)
  | [] => trivial
  | x :: l => ⟨hlt x, map_lt hlt l⟩

theorem call_builtin {o : Oper} {c : Call} {b : Builtin} {evr : Operand → Value} (ho : o.op = .call c) (hb : c.callee = .builtin b) :
    execOp evr o = builtin b c.argTypes o.type (c.args.map fun | .const _ => true | _ => false) (c.args.map evr) := by
  obtain ⟨dst, op, ty, pos, after, g⟩ := o
  obtain ⟨callee, args, argTypes⟩ := c
  simp only at ho hb
  subst ho; subst hb
  rfl

theorem encode_one {n : Int} (h0 : 0 ≤ n) (h : n < 128) : bytesL (Utf8.encode n) = [n] ∧ (Utf8.encode n).size ≤ 9223372036854775807 := by
  have hv : Utf8.valid n = true := by simp [Utf8.valid]; omega
  have hl : n.toNat < 128 := by omega
  have e : Utf8.encode n = ⟨#[UInt8.ofNat n.toNat]⟩ := by
    unfold Utf8.encode
    simp only [hv, if_true]
    rw [if_pos hl]
  rw [e]
  refine ⟨?_, by show 1 ≤ _; omega⟩
  simp [bytesL]
  omega

theorem zero_of {a : AV} {r : Value} (h : isZero a = true) (hr : VRel ρ a r) : ∃ k, r = .int k 0 := by
  unfold isZero at h
  split at h
  · rename_i k n
    have := Nat.eq_of_beq_eq_true h
    subst this
    exact ⟨k, hr⟩
  · simp at h

theorem slice_zero {T e : TypeId} {a : Option Addr} {n cap : Nat} {k k' : IntKind} (hT : S.P.underlying T = some (.slice e)) (hp : 0 < szA S e) (w : World) :
    (Instr.sliceAt T (.slice a n cap) none (some (.int k 0)) (some (.int k' 0))).run S.P w = .ok (.slice a 0 0) w := by
  simp [Instr.sliceAt, Instr.slice, Instr.sliceBounds, run_und hT, bound_run, run_size hp]

theorem zeroPiece_out {ev : Operand → AV} {evr : Operand → Value} (hev : ∀ x, VRel ρ (ev x) (evr x)) {lo hi : Option Operand} {mx : Operand} {K : AV → Prop} (h : zeroPieceA ev lo hi mx K) :
    K .nils ∧ ∃ x k k', lo = none ∧ hi = some x ∧ evr x = .int k 0 ∧ evr mx = .int k' 0 := by
  unfold zeroPieceA at h
  split at h
  · exact h.elim
  split at h
  · exact h.elim
  rename_i x
  split at h
  · exact h.elim
  rename_i z1
  split at h
  · exact h.elim
  rename_i z2
  obtain ⟨k1, q1⟩ := zero_of z1 (hev x)
  obtain ⟨k2, q2⟩ := zero_of z2 (hev mx)
  exact ⟨h, x, k1, k2, rfl, rfl, q1, q2⟩

theorem slice_sound {T : TypeId} {x : Operand} {lo hi mx : Option Operand} {dst : Option Tmp} {ty : TypeId} {pos : String} {after : Array Edge} {g : Option (Nat × Bool)} {ev : Operand → AV} {evr : Operand → Value} {K : AV → Prop} (hev : ∀ x, VRel ρ (ev x) (evr x)) (hlt : ∀ x, (ev x).lt N)
    (h : sliceA S T ev x lo hi mx K) : TellsOp S ρ N K evr ⟨dst, .slice T x lo hi mx, ty, pos, after, g⟩ := by
  unfold sliceA at h
  split at h
  · exact h.elim
  · rename_i hT
    split at h
    · rename_i s e
      have hx := hev x
      rw [e] at hx
      obtain ⟨a, er, rfl, hb⟩ := hx
      split at h
      · exact h.elim
      obtain ⟨l, h', hl, hh, h0, h1, h2, h⟩ := bounds_out hev (Int.natCast_nonneg _) h
      rw [bytesL_length] at hh h2
      have hr := fun w => slice_str (S := S) (s := a) hT w (l := l.toNat) (h := h'.toNat) hl (by rcases hh with ⟨q, rfl⟩ | q; exact .inl ⟨q, by simp⟩; exact .inr q) (by omega) (by omega)
      refine .mk h (r := .string (a.extract l.toNat h'.toNat)) ⟨_, rfl, (bytesL_extract _ _ _).symm, ?_⟩ trivial fun w => by simp [execOp, er, hr]
      rw [ByteArray.size_extract]; omega
    · exact h.elim
  · rename_i el hT
    split at h
    · rename_i b m i n e
      have hx := hev x
      have hl' := hlt x
      rw [e] at hx hl'
      split at h
      · rename_i hm hp
        have hm := Nat.eq_of_beq_eq_true hm
        have hp := Nat.le_of_ble_eq_true hp
        have hs : ∃ a len cap, evr x = .slice a len cap ∧ 0 ≤ n := by
          rcases hx with ⟨_, q, _, _, e2⟩ | ⟨k, z, cap, off, _, _, q, _, _, _, _, e2⟩
          · exact ⟨_, _, _, e2, by omega⟩
          · exact ⟨_, _, _, e2, q⟩
        obtain ⟨a0, len0, cap0, es, hn⟩ := hs
        split at h
        · obtain ⟨hK, hi, k1, k2, rfl, rfl, q1, q2⟩ := zeroPiece_out hev h
          exact .mk hK (r := .slice a0 0 0) ⟨_, rfl⟩ trivial fun w => by simp [execOp, es, q1, q2, slice_zero hT (show 0 < szA S el by omega)]
        obtain ⟨l, h', hl, hh, h0, h1, h2, h⟩ := bounds_out hev hn h
        have h := offK_out h
        obtain ⟨a, len, cap, er, e1, e2, hr⟩ := sub_rel hx h0 h1 h2 (subOff i l) (by cases i <;> simp [subOff])
        have hrun := fun w => slice_sl (S := S) (a := a) (n := len) (cap := cap) hT hm (by omega) w (l := l.toNat) (h := h'.toNat) hl (by rcases hh with ⟨q, rfl⟩ | q; exact .inl ⟨q, by omega⟩; exact .inr q) (by omega) (by omega)
        exact .mk h hr hl' fun w => by simp [execOp, er, hrun]
      · exact h.elim
    · rename_i e
      have hx := hev x
      rw [e] at hx
      obtain ⟨a, er⟩ := hx
      split at h
      · rename_i hp
        have hp := Nat.le_of_ble_eq_true hp
        split at h
        · obtain ⟨hK, hi, k1, k2, rfl, rfl, q1, q2⟩ := zeroPiece_out hev h
          exact .mk hK (r := .slice a 0 0) ⟨_, rfl⟩ trivial fun w => by simp [execOp, er, q1, q2, slice_zero hT (show 0 < szA S el by omega)]
        · exact h.elim
      · exact h.elim
    · exact h.elim
  · exact h.elim

theorem minmax_sound (isMax : Bool) {c : Call} {dst : Option Tmp} {ty : TypeId} {pos : String} {after : Array Edge} {g : Option (Nat × Bool)} {ev : Operand → AV} {evr : Operand → Value} {K : AV → Prop} (hev : ∀ x, VRel ρ (ev x) (evr x))
    (hb : c.callee = .builtin (if isMax then .max else .min)) (h : minmaxA isMax (c.args.toList.map ev) K) : TellsOp S ρ N K evr ⟨dst, .call c, ty, pos, after, g⟩ := by
  have hm := map_rel hev c.args.toList
  unfold minmaxA at h
  split at h
  · rename_i k a k' b hargs
    rw [hargs] at hm
    obtain ⟨r, rs, hl, hx, r', rs', rfl, hy, rfl⟩ := hm
    have ea : c.args.map evr = #[.int k a, .int k' b] := by rw [← Array.toList_inj]; rw [int_rel hx, int_rel hy] at hl; simpa using hl
    split at h
    · refine .mk h (r := .int k (max a b)) rfl trivial fun w => ?_
      rw [call_builtin (c := c) rfl hb, ea]
      simp [builtin, Builtin.max_, Builtin.max2]
      omega
    · refine .mk h (r := .int k (min a b)) rfl trivial fun w => ?_
      rw [call_builtin (c := c) rfl hb, ea]
      simp [builtin, Builtin.min_, Builtin.min2]
      omega
  · exact h.elim

theorem lenmin_sound {c : Call} {dst : Option Tmp} {ty : TypeId} {pos : String} {after : Array Edge} {g : Option (Nat × Bool)} {ev : Operand → AV} {evr : Operand → Value} {K : AV → Prop} (hev : ∀ x, VRel ρ (ev x) (evr x)) (hlt : ∀ x, (ev x).lt N)
    (h : lenminA S c ev K) : TellsOp S ρ N K evr ⟨dst, .call c, ty, pos, after, g⟩ := by
  unfold lenminA at h
  have hm := map_rel hev c.args.toList
  split at h
  · rename_i hb
    split at h
    · rename_i x T hargs htypes
      rw [hargs] at hm
      obtain ⟨r, rs, hl, hx, rfl⟩ := hm
      have ea : c.args.map evr = #[r] := by rw [← Array.toList_inj]; simpa using hl
      have et : c.argTypes = #[T] := by rw [← Array.toList_inj]; simpa using htypes
      split at h
      · rename_i s hT
        obtain ⟨a, er, rfl, hb'⟩ := hx
        rw [bytesL_length] at h
        refine .mk (h (by omega)) (r := .int .i64 a.size) rfl trivial fun w => ?_
        rw [call_builtin (c := c) rfl hb, ea, et, er]
        simp [builtin, Builtin.len_, run_und hT, goInt]
      · rename_i el b m i n hT
        rcases hx with ⟨e1, e2, e3, _, er⟩ | ⟨k, z, cap, off, e1, e2, e3, e4, e5, e6, e7, er⟩
        · subst e2
          refine .mk (h (by omega) (by omega)) (r := .int .i64 0) rfl trivial fun w => ?_
          rw [call_builtin (c := c) rfl hb, ea, et, er]
          simp [builtin, Builtin.len_, run_und hT, goInt]
        · refine .mk (h e3 (by omega)) (r := .int .i64 n) rfl trivial fun w => ?_
          rw [call_builtin (c := c) rfl hb, ea, et, er]
          simp [builtin, Builtin.len_, run_und hT, goInt]
          omega
      · rename_i el hT
        obtain ⟨a, er⟩ := hx
        refine .mk h (r := .int .i64 0) rfl trivial fun w => ?_
        rw [call_builtin (c := c) rfl hb, ea, et, er]
        simp [builtin, Builtin.len_, run_und hT, goInt]
      · exact h.elim
    · exact h.elim
  · rename_i hb
    exact minmax_sound false hev hb h
  · rename_i hb
    exact minmax_sound true hev hb h
  · exact h.elim

set_option maxHeartbeats 2000000 in
theorem pure_sound (hS : SeatOk S) {o : Oper} {ev : Operand → AV} {evr : Operand → Value} {K : AV → Prop} (hev : ∀ x, VRel ρ (ev x) (evr x)) (hc : ∀ v, evr (.const v) = v) (hlt : ∀ x, (ev x).lt N)
    (h : pureA S o.op ev K) : TellsOp S ρ N K evr o := by
  obtain ⟨dst, op, ty, pos, after, g⟩ := o
  cases op with
  | move x => exact .mk (forceV_out h) (hev x) (hlt x) fun w => rfl
  | assign x => exact .mk (forceV_out h) (hev x) (hlt x) fun w => rfl
  | pick c a b =>
    simp only [pureA] at h
    have hx := hev c
    split at h <;> rename_i e <;> (try rw [e] at hx)
    · exact .mk (forceV_out h) (hev a) (hlt a) fun w => by simp [execOp, asBool, show evr c = .bool true from hx]
    · exact .mk (forceV_out h) (hev b) (hlt b) fun w => by simp [execOp, asBool, show evr c = .bool false from hx]
    · obtain ⟨t, et, hp⟩ := hx
      by_cases hq : t = true
      · subst hq
        exact .mk (forceV_out (h.1 (hp.1 rfl))) (hev a) (hlt a) fun w => by simp [execOp, asBool, et]
      · have hq' : t = false := by simpa using hq
        subst hq'
        exact .mk (forceV_out (h.2 fun q => hq (hp.2 q))) (hev b) (hlt b) fun w => by simp [execOp, asBool, et]
    · exact h.elim
  | build T ps =>
    simp only [pureA] at h
    split at h
    · rename_i fs hfs
      split at h
      · rename_i places hpl
        obtain ⟨i, z, hi, hz, h⟩ := zero_out h
        obtain ⟨z', cells', hK, hfill, hz', hl', _⟩ := fill_run hev hlt (cells := z.cells) h (by exact map_cst_rel _) (map_cst_lt _)
        refine .mk (v := .agg z') (r := .agg cells') hK ⟨cells'.toList, by simp, hz'⟩ hl' fun w => ?_
        have hb : S.P.built T (ps.map fun (x : Nat × Operand) => (x.1, evr x.2)).toList = some cells' := by
          unfold Program.built
          simp only [hi, hfs, hz, placesL_mapM hpl]
          rw [← hfill]
          simp
        simp [execOp, run_build w T _ cells' hb]
      · exact h.elim
    · exact h.elim
  | nilCheck x =>
    simp only [pureA] at h
    have hx := hev x
    have hl := hlt x
    split at h <;> rename_i e <;> (try rw [e] at hx hl)
    · obtain ⟨k, z, h1, h2, er⟩ := hx
      exact .mk h ⟨k, z, h1, h2, rfl⟩ hl fun w => by simp [execOp, er]
    · obtain ⟨cs, er, h1⟩ := hx
      exact .mk h ⟨cs, rfl, h1⟩ hl fun w => by simp [execOp, er]
    · exact h.elim
  | binOp bop T x y U =>
    simp only [pureA] at h
    have hx := hev x
    have hy := hev y
    split at h
    · rename_i k hT
      unfold binA at h
      split at h
      · rename_i k1 a k2 b e1 e2
        rw [e1] at hx; rw [e2] at hy
        have hx := int_rel hx
        have hy := int_rel hy
        refine Tells.guard (fun w => eqGuard_pure (by rw [hx]; simp) (by rw [hx]; simp) w) ?_
        rw [hx, hy]
        exact binInt h
      · rename_i a b e1 e2
        rw [e1] at hx; rw [e2] at hy
        refine Tells.guard (fun w => eqGuard_pure (by obtain ⟨_, e, _⟩ := hx; rw [e]; simp) (by obtain ⟨_, e, _⟩ := hx; rw [e]; simp) w) ?_
        exact binStr h hx hy
      · exact h.elim
    · rename_i hT
      unfold binA at h
      split at h
      · rename_i k1 a k2 b e1 e2
        rw [e1] at hx; rw [e2] at hy
        have hx := int_rel hx
        have hy := int_rel hy
        refine Tells.guard (fun w => eqGuard_pure (by rw [hx]; simp) (by rw [hx]; simp) w) ?_
        rw [hx, hy]
        exact binInt h
      · rename_i a b e1 e2
        rw [e1] at hx; rw [e2] at hy
        refine Tells.guard (fun w => eqGuard_pure (by obtain ⟨_, e, _⟩ := hx; rw [e]; simp) (by obtain ⟨_, e, _⟩ := hx; rw [e]; simp) w) ?_
        exact binStr h hx hy
      · exact h.elim
    · rename_i hT
      have hb : ∃ b, evr x = .bool b := by
        unfold boolEqA at h
        split at h <;> rename_i e1 e2 <;> (try rw [e1] at hx) <;> first
          | exact ⟨_, hx⟩
          | (obtain ⟨b, e, _⟩ := hx; exact ⟨b, e⟩)
          | exact h.elim
      obtain ⟨b, hb⟩ := hb
      exact Tells.guard (fun w => eqGuard_pure (by rw [hb]; simp) (by rw [hb]; simp) w) (boolEq_sound hT h hx hy)
    · rename_i e hT
      split at h
      · rename_i n c
        have hs : ∃ a l c', evr x = .slice a l c' := by
          unfold nilEqA at h
          split at h <;> rename_i e1 <;> (try rw [e1] at hx)
          · rcases hx with ⟨_, _, _, _, e2⟩ | ⟨k, z, cap, off, _, _, _, _, _, _, _, e2⟩ <;> exact ⟨_, _, _, e2⟩
          · obtain ⟨a, e2⟩ := hx; exact ⟨_, _, _, e2⟩
          · exact h.elim
        obtain ⟨a, l, c', hs⟩ := hs
        refine Tells.guard (fun w => eqGuard_pure (by rw [hs]; simp) (by rw [hs]; simp) w) ?_
        rw [hc]
        exact nilEq_sound hT h hx
      · exact h.elim
    · rename_i fs hT
      split at h
      · rename_i n a b hn e1 e2
        rw [e1] at hx; rw [e2] at hy
        split at h
        · rename_i hlen
          have hF := hS.flat _ _ hn
          refine Tells.guard (fun w => ?_) (flatEq_sound hF (Nat.eq_of_beq_eq_true hlen) h hx hy)
          obtain ⟨xs, ex, _⟩ := hx
          obtain ⟨ys, ey, _⟩ := hy
          rw [ex, ey]
          cases bop <;> simp [eqGuard, hF.1]
        · exact h.elim
      · exact h.elim
    · exact h.elim
  | unOp uop T x =>
    simp only [pureA] at h
    have hx := hev x
    split at h <;> rename_i e <;> (try rw [e] at hx)
    · exact .mk h (r := .bool false) rfl trivial fun w => by simp [execOp, Op.unary, show evr x = .bool true from hx]
    · exact .mk h (r := .bool true) rfl trivial fun w => by simp [execOp, Op.unary, show evr x = .bool false from hx]
    · obtain ⟨b, er, hb⟩ := hx
      exact .mk h (r := .bool (!b)) ⟨_, rfl, by rw [← hb]; simp⟩ trivial fun w => by simp [execOp, Op.unary, er]
    · exact .mk h.2 (r := .int _ _) rfl trivial fun w => by
        simp [execOp, Op.unary, int_rel hx, Op.intArith, wrap_in h.1]
    · exact h.elim
  | convert T U x =>
    simp only [pureA] at h
    have hx := hev x
    split at h
    · exact h.elim
    rename_i d hT
    split at h
    · rename_i k k' n hU e
      rw [e] at hx
      have hx := int_rel hx
      rcases h with h | h
      · exact .mk h.2 (r := .int k n) rfl trivial fun w => by simp [execOp, convert, run_und hT, run_und hU, hx, Conv.intToInt, wrap_in h.1]
      · exact .mk h (r := .int k (k.wrap n)) rfl trivial fun w => by simp [execOp, convert, run_und hT, run_und hU, hx, Conv.intToInt]
    · rename_i k' n hU e
      rw [e] at hx
      have hx := int_rel hx
      obtain ⟨⟨h1, h2⟩, h⟩ := h
      obtain ⟨g1, g2⟩ := encode_one h1 h2
      exact .mk h (r := .string (Utf8.encode n)) ⟨_, rfl, g1.symm, g2⟩ trivial fun w => by simp [execOp, convert, run_und hT, run_und hU, hx, Conv.intToString]
    · rename_i s hU e
      rw [e] at hx
      obtain ⟨a, er, ha, hb⟩ := hx
      refine .mk h (r := .string a) ⟨_, rfl, ha, hb⟩ trivial fun w => ?_
      cases d <;> simp [execOp, convert, run_und hT, run_und hU, er]
    · exact h.elim
  | makeFunc f first cap =>
    simp only [pureA] at h
    split at h
    · rename_i f'
      split at h
      · rename_i e
        have h := forceL_out h
        refine .mk h (r := .func (.func f') #[] (cap.map evr)) ⟨(cap.map evr).toList, rfl, by rw [Array.toList_map]; exact map_rel hev cap.toList⟩ (map_lt hlt _) fun w => ?_
        have : first = #[] := by cases first; simp_all
        subst this
        simp [execOp, Instr.makeFunc]
      · exact h.elim
    · exact h.elim
  | fieldAddr T x f =>
    simp only [pureA] at h
    have hx := hev x
    have hl := hlt x
    split at h
    · rename_i b m i j e
      rw [e] at hx hl
      split at h
      · rename_i fs hfs
        split at h
        · rename_i fd hfd
          split at h
          · rename_i hle
            have h := natK_out h
            have hle := Nat.le_of_ble_eq_true hle
            obtain ⟨k, z, h1, h2, er⟩ := hx
            refine .mk h (r := .pointer (some ⟨k, z.1 + ((i.getD 0).toNat * m + (j + fd.offset)), none⟩)) ⟨k, z, h1, h2, rfl⟩ hl fun w => ?_
            have hfd' : fs[f]? = some fd := by simpa using hfd
            have hz : ¬ szA S fd.type = 0 := by omega
            simp only [execOp, Instr.fieldAt, Instr.sureAddr, fieldPlace, run_und hfs, hfd', er, Sem.run_bind, Sem.run_pure, Result.andThen_ok, run_size hle, if_neg hz]
            simp only [Addr.add]
            split
            · rename_i h0; simp [h0]
            · simp [Nat.add_assoc]
          · exact h.elim
        · exact h.elim
      · exact h.elim
    · exact h.elim
  | field T x f =>
    simp only [pureA] at h
    have hx := hev x
    have hl := hlt x
    split at h
    · rename_i l e
      rw [e] at hx hl
      split at h
      · rename_i fs hfs
        split at h
        · rename_i fd hfd
          split at h
          · rename_i hle
            have hle := Nat.le_of_ble_eq_true hle
            obtain ⟨cs, er, hcs⟩ := hx
            have hfd' : fs[f]? = some fd := by simpa using hfd
            rcases part_rel h hcs hl with ⟨ha, hp', hlen, hg⟩ | ⟨ha, r, hr, hg⟩
            · refine ⟨_, hg, fun w => ?_⟩
              simp [execOp, Instr.field, run_und hfs, hfd', er, asAgg, part, isAgg_run ha, run_size hle, List.drop_take, List.extract_eq_take_drop]
            · refine ⟨_, hg, fun w => ?_⟩
              simp [execOp, Instr.field, run_und hfs, hfd', er, asAgg, part, isAgg_run ha, hr]
          · exact h.elim
        · exact h.elim
      · exact h.elim
    · exact h.elim
  | indexAddr T x ix =>
    simp only [pureA] at h
    have hx := hev x
    have hl := hlt x
    have hi := hev ix
    split at h
    · rename_i el b m i n k' k hT e1 e2
      rw [e1] at hx hl
      rw [e2] at hi
      have hi := int_rel hi
      split at h
      · rename_i hm hp
        have hm := Nat.eq_of_beq_eq_true hm
        have hp := Nat.le_of_ble_eq_true hp
        obtain ⟨⟨h0, h1⟩, h⟩ := h
        have h := offK_out h
        rcases hx with ⟨_, e, _, _, _⟩ | ⟨kk, z, cap, off, r1, r2, r3, r4, r5, r6, r7, er⟩
        · omega
        have hoff : off = z.1 + (i.getD 0).toNat * m := by
          rcases r7 with r7 | r7
          · omega
          · exact r7
        have hp : 0 < szA S el := by omega
        have hg : (subOff i k).getD 0 = i.getD 0 + k := by cases i <;> simp [subOff]
        refine .mk h (r := .pointer (some ⟨kk, off + k.toNat * m, none⟩)) ⟨kk, z, r1, by rw [hg]; omega, ?_⟩ hl fun w => ?_
        · rw [hg, hoff, Int.toNat_add r2 h0, Nat.add_mul]; simp [Nat.add_assoc]
        · simp only [execOp, Instr.indexAt, asIntOf, run_und hT, hi, er, Sem.run_bind, Sem.run_pure, Result.andThen_ok, run_size hp]
          rw [if_pos (by omega)]
          simp only [Sem.run_bind, Sem.run_pure, Result.andThen_ok, run_size hp, Addr.add, ← hm]
          split
          · rename_i q; simp [q]
          · rfl
      · exact h.elim
    · exact h.elim
  | index T x ix =>
    simp only [pureA] at h
    have hx := hev x
    have hi := hev ix
    split at h
    · rename_i s k' k hT e1 e2
      rw [e1] at hx
      rw [e2] at hi
      have hi := int_rel hi
      obtain ⟨a, er, rfl, _⟩ := hx
      obtain ⟨⟨h0, h1⟩, h⟩ := h
      obtain ⟨g1, g2⟩ := bytesL_get h0 h1
      refine .mk h (r := .int .u8 _) rfl trivial fun w => ?_
      simp only [execOp, Instr.index, asIntOf, run_und hT, hi, er, Sem.run_bind, Sem.run_pure, Result.andThen_ok]
      rw [if_pos h0, g1]
      show Result.ok (Next.value (.int .u8 ((((bytesL a).getD k.toNat 0).toNat.toUInt8.toNat : Nat) : Int))) w = _
      rw [g2]
    · exact h.elim
  | slice T x lo hi mx =>
    simp only [pureA] at h
    exact slice_sound hev hlt h
  | extract x i =>
    simp only [pureA] at h
    have hx := hev x
    have hl := hlt x
    split at h
    · rename_i vs e
      rw [e] at hx hl
      split at h
      · rename_i v hv
        obtain ⟨cs, er, hcs⟩ := hx
        obtain ⟨r, hr, hvr⟩ := hcs.get hv
        exact .mk (forceV_out h) hvr (lts_get hl hv) fun w => by simp [execOp, Instr.extract, er, hr]
      · exact h.elim
    · exact h.elim
  | call c =>
    simp only [pureA] at h
    exact lenmin_sound hev hlt h
  | _ => exact h.elim
end
end Go.Vm
