/- An abstract machine over the loaded code: contracts in one form at a call; functions for which the model stands in. -/
import Derived.Test.YtfndendpfahbcaaGreatDoorVm26
import Derived.Laws.Externs
set_option linter.unusedSimpArgs false
set_option linter.unusedVariables false
namespace Go.Vm
open Go.RowKit
theorem CallA.liftC {S : Seat} (hS : SeatOk S) {γ : Type} {R : γ → Prop} {vc : γ → AV} {Hc : γ → Heap} {fn k : Nat} {args0 args : List AV} {l0 : List Ent} {H : Heap} {K : AV → Heap → Prop}
    (hc : CallA S fn args0 ⟨l0, k⟩ fun v H' => ∃ g, R g ∧ v = vc g ∧ H' = Hc g)
    (h : liftA S args0 l0 k args H fun m => ∀ g, R g → backA (lookR m) k l0 H (vc g) (Hc g) K) : CallA S fn args H K := by
  refine .lift hS hc ?_
  unfold liftA at h ⊢
  have e : (fun m => ∀ v H', (∃ g, R g ∧ v = vc g ∧ H' = Hc g) → backA (lookR m) k l0 H v H' K) = fun m => ∀ g, R g → backA (lookR m) k l0 H (vc g) (Hc g) K := by
    funext m
    refine propext ⟨fun h g hg => h _ _ ⟨g, hg, rfl, rfl⟩, fun h v H' hv => ?_⟩
    obtain ⟨g, hg, rfl, rfl⟩ := hv
    exact h g hg
  rw [e]
  exact h

/-- the place of a byte -/
def idxOf (s : List Int) (c : Int) : Int := match s with
  | [] => -1
  | x :: r => if x = c then 0 else if idxOf r c < 0 then -1 else idxOf r c + 1

theorem idxOf_find (s : List Int) (c : Int) : idxOf s c = match (List.range s.length).find? fun i => s.getD i 0 == c with | some i => (i : Int) | none => -1 := by
  induction s with
  | nil => rfl
  | cons x r ih =>
    unfold idxOf
    rw [List.length_cons, List.range_succ_eq_map, List.find?_cons]
    by_cases h : x = c
    · simp [h]
    · have : ((x :: r).getD 0 0 == c) = false := by simpa using h
      rw [this, if_neg h, ih]
      rw [List.find?_map]
      have hf : ((fun i => (x :: r).getD i 0 == c) ∘ Nat.succ) = fun i => r.getD i 0 == c := by funext i; simp
      rw [hf]
      cases (List.range r.length).find? (fun i => r.getD i 0 == c) <;> simp <;> omega

theorem firstIdx_idxOf (s : ByteArray) (c : Int) (h0 : 0 ≤ c) (h1 : c < 256) : firstIdx s c.toNat.toUInt8 = idxOf (bytesL s) c := by
  rw [idxOf_find, bytesL_length]
  unfold firstIdx
  have hf : ∀ i, i < s.size → (s[i]! == c.toNat.toUInt8) = ((bytesL s).getD i 0 == c) := by
    intro i hi
    obtain ⟨n, rfl⟩ := Int.eq_ofNat_of_zero_le h0
    have hn : n < 256 := by omega
    have e1 : s[i]! = s.data[i]'hi := by
      rw [getElem!_pos s i hi]; rfl
    have e2 : (bytesL s).getD i 0 = ((s.data[i]'hi).toNat : Int) := by
      unfold bytesL
      have : i < s.data.toList.length := by simpa using hi
      simp [List.getD_eq_getElem?_getD, List.getElem?_eq_getElem this]
    rw [e1, e2]
    generalize s.data[i]'hi = b
    rw [Bool.eq_iff_iff]
    simp only [beq_iff_eq, Int.toNat_natCast]
    constructor
    · rintro rfl
      simp [Nat.mod_eq_of_lt hn]
    · intro h
      have h : b.toNat = n := by omega
      rw [← h]; simp
  have hg : ∀ l : List Nat, (∀ i ∈ l, i < s.size) → l.find? (fun i => s[i]! == c.toNat.toUInt8) = l.find? (fun i => (bytesL s).getD i 0 == c) := by
    intro l
    induction l with
    | nil => intro _; rfl
    | cons i l ih =>
      intro hl
      simp only [List.find?_cons, hf i (hl i List.mem_cons_self), ih fun j hj => hl j (List.mem_cons_of_mem _ hj)]
  rw [hg _ fun i hi => List.mem_range.1 hi]
  cases (List.range s.size).find? (fun i => (bytesL s).getD i 0 == c) <;> rfl
end Go.Vm
