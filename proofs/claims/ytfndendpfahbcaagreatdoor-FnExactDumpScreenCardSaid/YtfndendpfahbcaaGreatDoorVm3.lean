/- An abstract machine over the loaded code: operations upon values alone. -/
import Derived.Test.YtfndendpfahbcaaGreatDoorVm2
set_option linter.unusedSimpArgs false
set_option linter.unusedVariables false
namespace Go.Vm
open Go.RowKit

theorem wrap_in {k : IntKind} {n : Int} (h : inR k n) : k.wrap n = n := by
  cases k <;> simp only [inR] at h <;> simp [IntKind.wrap, IntKind.bits, IntKind.signed] <;> omega

theorem bits_of {k : IntKind} {a b : Int} (ha : 0 ≤ a) (hb : 0 ≤ b) (ka : inR k a) (kb : inR k b) :
    (BitVec.ofInt k.bits a).toNat = a.toNat ∧ (BitVec.ofInt k.bits b).toNat = b.toNat ∧ a.toNat < 2 ^ (if k.signed then k.bits - 1 else k.bits) ∧ b.toNat < 2 ^ (if k.signed then k.bits - 1 else k.bits) := by
  cases k <;> simp only [inR] at ka kb <;> simp [IntKind.bits, IntKind.signed, BitVec.toNat_ofInt] <;> omega

theorem wrap_nat {k : IntKind} {n : Nat} (h : n < 2 ^ (if k.signed then k.bits - 1 else k.bits)) : k.wrap (n : Int) = n := by
  cases k <;> simp [IntKind.bits, IntKind.signed] at h <;> simp [IntKind.wrap, IntKind.bits, IntKind.signed] <;> omega

theorem ik_eq {k k' : IntKind} (h : Nat.beq (ikN k) (ikN k') = true) : k = k' := by
  cases k <;> cases k' <;> first | rfl | (simp [ikN] at h)

section
variable {S : Seat} {ρ : Loc} {N : Nat}

/-- what is known of a value that was made -/
def Got (ρ : Loc) (N : Nat) (K : AV → Prop) (r : Value) : Prop := ∃ v, K v ∧ VRel ρ v r ∧ v.lt N

theorem Got.mk {K : AV → Prop} {v : AV} {r : Value} (h : K v) (hr : VRel ρ v r) (hl : v.lt N) : Got ρ N K r := ⟨v, h, hr, hl⟩

/-- a run that tells a value and turns nothing -/
def Tells (S : Seat) (ρ : Loc) (N : Nat) (K : AV → Prop) (x : Sem Value) : Prop := ∃ r, Got ρ N K r ∧ ∀ w, x.run S.P w = .ok r w

theorem Tells.mk {K : AV → Prop} {v : AV} {r : Value} {x : Sem Value} (h : K v) (hr : VRel ρ v r) (hl : v.lt N) (hx : ∀ w, x.run S.P w = .ok r w) :
    Tells S ρ N K x := ⟨r, ⟨v, h, hr, hl⟩, hx⟩

theorem intBits_run {k : IntKind} {x : Sem Value} {K : AV → Prop} {c : Nat} (hc : c < 2 ^ (if k.signed then k.bits - 1 else k.bits)) (h : K (.int k c))
    (hr : ∀ w, x.run S.P w = .ok (.int k (k.wrap (c : Int))) w) : Tells S ρ N K x :=
  .mk h (r := .int k c) rfl trivial fun w => by rw [hr, wrap_nat hc]

set_option maxHeartbeats 1000000 in
theorem binInt {op : BinOp} {T : TypeId} {k k' : IntKind} {a b : Int} {K : AV → Prop} (h : binA op (.int k a) (.int k' b) K) :
    Tells S ρ N K (binOp op T (.int k a) (.int k' b)) := by
  simp only [binA] at h
  split at h
  · exact h.elim
  rename_i hk
  by_cases hs : op = .shl ∨ op = .shr
  · rcases hs with rfl | rfl
    · obtain ⟨⟨h1, h2, h3⟩, h⟩ := h
      refine .mk h (r := .int k _) rfl trivial fun w => ?_
      have : min b.toNat k.bits = b.toNat := by omega
      simp [binOp, Op.shift, show ¬ b < 0 by omega, this, wrap_in h3]
    · obtain ⟨⟨h1, h2, h3⟩, h⟩ := h
      refine .mk h (r := .int k _) rfl trivial fun w => ?_
      have : min b.toNat k.bits = b.toNat := by omega
      have e : (2 : Int) ^ b.toNat = ((2 ^ b.toNat : Nat) : Int) := by simp
      have e2 : a.fdiv (2 ^ b.toNat) = a / 2 ^ b.toNat := by rw [e, Int.fdiv_eq_ediv_of_nonneg _ (Int.natCast_nonneg _)]
      simp [binOp, Op.shift, show ¬ b < 0 by omega, this, e2]
  · have hkk : k = k' := by
      apply ik_eq
      cases op <;> simp_all [kb]
    subst hkk
    cases op with
    | shl => simp at hs
    | shr => simp at hs
    | eql => exact .mk h (r := .bool (a == b)) ⟨_, rfl, by simp⟩ trivial fun w => by simp [binOp, Op.intCmp]
    | neq => exact .mk h (r := .bool (a != b)) ⟨_, rfl, by simp⟩ trivial fun w => by simp [binOp, Op.intCmp]
    | lss => exact .mk h (r := .bool (a < b)) ⟨_, rfl, by simp⟩ trivial fun w => by simp [binOp, Op.intCmp]
    | leq => exact .mk h (r := .bool (a ≤ b)) ⟨_, rfl, by simp⟩ trivial fun w => by simp [binOp, Op.intCmp]
    | gtr => exact .mk h (r := .bool (a > b)) ⟨_, rfl, by simp⟩ trivial fun w => by simp [binOp, Op.intCmp]
    | geq => exact .mk h (r := .bool (a ≥ b)) ⟨_, rfl, by simp⟩ trivial fun w => by simp [binOp, Op.intCmp]
    | add =>
      rcases h with h | h
      · exact .mk h.2 (r := .int k (a + b)) rfl trivial fun w => by simp [binOp, Op.intArith, wrap_in h.1]
      · exact .mk h (r := .int k (k.wrap (a + b))) rfl trivial fun w => by simp [binOp, Op.intArith]
    | sub =>
      rcases h with h | h
      · exact .mk h.2 (r := .int k (a - b)) rfl trivial fun w => by simp [binOp, Op.intArith, wrap_in h.1]
      · exact .mk h (r := .int k (k.wrap (a - b))) rfl trivial fun w => by simp [binOp, Op.intArith]
    | mul =>
      rcases h with h | h
      · exact .mk h.2 (r := .int k (a * b)) rfl trivial fun w => by simp [binOp, Op.intArith, wrap_in h.1]
      · exact .mk h (r := .int k (k.wrap (a * b))) rfl trivial fun w => by simp [binOp, Op.intArith]
    | quo =>
      obtain ⟨⟨h1, h2, h3⟩, h⟩ := h
      have e : a.tdiv b = a / b := Int.tdiv_eq_ediv_of_nonneg h1
      have h4 : inR k (a / b) := by
        have l1 : a / b ≤ a := Int.ediv_le_self _ h1
        have l2 : 0 ≤ a / b := Int.ediv_nonneg h1 (by omega)
        cases k <;> simp only [inR] at h3 ⊢ <;> omega
      exact .mk h (r := .int k (a / b)) rfl trivial fun w => by simp [binOp, Op.intDiv, show ¬ b = 0 by omega, e, wrap_in h4]
    | rem =>
      obtain ⟨⟨h1, h2⟩, h⟩ := h
      exact .mk h (r := .int k (a % b)) rfl trivial fun w => by simp [binOp, Op.intDiv, show ¬ b = 0 by omega, Int.tmod_eq_emod_of_nonneg h1]
    | and =>
      obtain ⟨⟨h1, h2, h3, h4⟩, h⟩ := h
      obtain ⟨e1, e2, l1, l2⟩ := bits_of h1 h2 h3 h4
      refine intBits_run (Nat.lt_of_le_of_lt Nat.and_le_left l1) h fun w => ?_
      simp [binOp, Op.intBits, e1, e2]
    | or =>
      obtain ⟨⟨h1, h2, h3, h4⟩, h⟩ := h
      obtain ⟨e1, e2, l1, l2⟩ := bits_of h1 h2 h3 h4
      refine intBits_run (Nat.or_lt_two_pow l1 l2) h fun w => ?_
      simp [binOp, Op.intBits, e1, e2]
    | xor =>
      obtain ⟨⟨h1, h2, h3, h4⟩, h⟩ := h
      obtain ⟨e1, e2, l1, l2⟩ := bits_of h1 h2 h3 h4
      refine intBits_run (Nat.xor_lt_two_pow l1 l2) h fun w => ?_
      simp [binOp, Op.intBits, e1, e2]
    | andNot =>
      obtain ⟨⟨h1, h2, h3, h4⟩, h⟩ := h
      obtain ⟨e1, e2, l1, l2⟩ := bits_of h1 h2 h3 h4
      refine intBits_run (Nat.xor_lt_two_pow l1 (Nat.lt_of_le_of_lt Nat.and_le_left l1)) h fun w => ?_
      have e : BitVec.ofInt k.bits a &&& ~~~BitVec.ofInt k.bits b = BitVec.ofInt k.bits a ^^^ (BitVec.ofInt k.bits a &&& BitVec.ofInt k.bits b) := by
        apply BitVec.eq_of_getLsbD_eq
        intro i hi
        simp only [BitVec.getLsbD_and, BitVec.getLsbD_not, BitVec.getLsbD_xor, hi, decide_true, Bool.true_and]
        cases (BitVec.ofInt k.bits a).getLsbD i <;> cases (BitVec.ofInt k.bits b).getLsbD i <;> rfl
      simp only [binOp, ne_eq, not_true_eq_false, if_false, Op.intBits, e, Sem.run_pure, BitVec.toNat_xor, BitVec.toNat_and, e1, e2]
end
end Go.Vm

namespace Go.Vm
open Go.RowKit
section
variable {S : Seat} {ρ : Loc} {N : Nat}

theorem bytesL_inj {a b : ByteArray} : bytesL a = bytesL b ↔ a = b := by
  unfold bytesL
  rw [List.map_inj_right (fun x y h => UInt8.toNat_inj.1 (by exact_mod_cast h)), Array.toList_inj]
  exact ⟨fun h => ByteArray.ext h, fun h => by rw [h]⟩
theorem bytesL_append (a b : ByteArray) : bytesL (a ++ b) = bytesL a ++ bytesL b := by
  unfold bytesL
  rw [ByteArray.data_append]
  simp

theorem binStr {op : BinOp} {T : TypeId} {s t : List Int} {x y : Value} {K : AV → Prop} (h : binA op (.str s) (.str t) K)
    (hx : VRel ρ (.str s) x) (hy : VRel ρ (.str t) y) : Tells S ρ N K (binOp op T x y) := by
  obtain ⟨a, rfl, rfl, _⟩ := hx
  obtain ⟨b, rfl, rfl, _⟩ := hy
  have e : (a.toList == b.toList) = true ↔ bytesL a = bytesL b := by
    rw [bytesL_inj, beq_iff_eq, ByteArray.toList_eq, ByteArray.toList_eq, Array.toList_inj]
    exact ⟨fun h => ByteArray.ext h, fun h => by rw [h]⟩
  simp only [binA] at h
  cases op with
  | eql => exact .mk h (r := .bool (a.toList == b.toList)) ⟨_, rfl, e⟩ trivial fun w => by simp [binOp, Op.stringOp]
  | neq => exact .mk h (r := .bool !(a.toList == b.toList)) ⟨_, rfl, by rw [← e]; simp⟩ trivial fun w => by simp [binOp, Op.stringOp]
  | add =>
    obtain ⟨h1, h⟩ := h
    rw [bytesL_length, bytesL_length] at h1
    refine .mk h (r := .string (a ++ b)) ⟨_, rfl, (bytesL_append a b).symm, by rw [ByteArray.size_append]; omega⟩ trivial fun w => ?_
    simp only [binOp, Op.stringOp]
    rw [if_neg (by simp [IntKind.max, IntKind.bits, IntKind.signed]; omega)]
    rfl
  | _ => exact h.elim
end
end Go.Vm
