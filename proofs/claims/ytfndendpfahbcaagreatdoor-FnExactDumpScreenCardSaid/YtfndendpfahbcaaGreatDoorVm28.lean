/- An abstract machine over the loaded code: counting a byte. -/
import Derived.Test.YtfndendpfahbcaaGreatDoorVm27
import Derived.Lib.Bytealg
set_option linter.unusedSimpArgs false
set_option linter.unusedVariables false
namespace Go.Vm
open Go.RowKit
/-- how often a byte is there -/
def cntOf : List Int → Int → Int
  | [], _ => 0
  | x :: r, c => if x = c then cntOf r c + 1 else cntOf r c
theorem cntOf_nonneg (s : List Int) (c : Int) : 0 ≤ cntOf s c := by
  induction s with
  | nil => simp [cntOf]
  | cons x r ih => unfold cntOf; split <;> omega
theorem cntOf_le (s : List Int) (c : Int) : cntOf s c ≤ s.length := by
  induction s with
  | nil => simp [cntOf]
  | cons x r ih => unfold cntOf; simp only [List.length_cons]; split <;> omega
theorem u8_eq {b : UInt8} {c : Int} (h0 : 0 ≤ c) (h1 : c < 256) : (b = c.toNat.toUInt8) ↔ ((b.toNat : Int) = c) := by
  obtain ⟨n, rfl⟩ := Int.eq_ofNat_of_zero_le h0
  have hn : n < 256 := by omega
  simp only [Int.toNat_natCast]
  constructor
  · rintro rfl
    simp [Nat.mod_eq_of_lt hn]
  · intro h
    have h : b.toNat = n := by omega
    rw [← h]; simp
theorem countByte_cntOf (s : ByteArray) (c : Int) (h0 : 0 ≤ c) (h1 : c < 256) : (Lib.countByte s.data.toList c.toNat.toUInt8 : Int) = cntOf (bytesL s) c := by
  unfold bytesL
  generalize s.data.toList = l
  induction l with
  | nil => rfl
  | cons b r ih =>
    have := u8_eq (b := b) h0 h1
    simp only [List.map_cons, cntOf]
    unfold Lib.countByte at ih ⊢
    by_cases h : (b.toNat : Int) = c
    · rw [if_pos h, ← ih]
      simp [this.2 h]
    · rw [if_neg h, ← ih]
      have hb : ¬ b = c.toNat.toUInt8 := fun q => h (this.1 q)
      simp [hb]
end Go.Vm
