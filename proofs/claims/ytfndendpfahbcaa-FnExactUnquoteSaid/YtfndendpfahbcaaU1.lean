/- The walks of the law on unquoting: digits. -/
import Derived.Test.YtfndendpfahbcaaUS
set_option linter.unusedSimpArgs false
set_option linter.unusedVariables false
namespace Go.Unquote
open Go Go.Vm Go.RowKit Go.Proofs
attribute [local irreducible] wpA opsA stillA drawA

/-- the value of a digit, or -1 -/
def hexV (c : Int) : Int := if 48 ≤ c ∧ c ≤ 57 then c - 48 else if 65 ≤ c ∧ c ≤ 70 then c - 55 else -1
theorem hexV_lt (c : Int) : -1 ≤ hexV c ∧ hexV c < 16 := by unfold hexV; split <;> (try split) <;> omega
theorem idxOf_none {s : List Int} {c : Int} (h : ∀ x ∈ s, x ≠ c) : idxOf s c = -1 := by
  induction s with
  | nil => rfl
  | cons x r ih =>
    unfold idxOf
    rw [if_neg (h x List.mem_cons_self), ih fun y hy => h y (List.mem_cons_of_mem _ hy)]
    rfl
theorem hex_idx {c : Int} : idxOf (bytesL { data := #[48, 49, 50, 51, 52, 53, 54, 55, 56, 57, 65, 66, 67, 68, 69, 70] }) c = hexV c := by
  have e : bytesL { data := #[48, 49, 50, 51, 52, 53, 54, 55, 56, 57, 65, 66, 67, 68, 69, 70] } = [48, 49, 50, 51, 52, 53, 54, 55, 56, 57, 65, 66, 67, 68, 69, 70] := rfl
  rw [e]
  by_cases h : 48 ≤ c ∧ c ≤ 70
  · have : c = 48 ∨ c = 49 ∨ c = 50 ∨ c = 51 ∨ c = 52 ∨ c = 53 ∨ c = 54 ∨ c = 55 ∨ c = 56 ∨ c = 57 ∨ c = 58 ∨ c = 59 ∨ c = 60 ∨ c = 61 ∨ c = 62 ∨ c = 63 ∨ c = 64 ∨ c = 65 ∨ c = 66 ∨ c = 67 ∨ c = 68 ∨ c = 69 ∨ c = 70 := by omega
    rcases this with h | h | h | h | h | h | h | h | h | h | h | h | h | h | h | h | h | h | h | h | h | h | h <;> subst h <;> decide
  · unfold hexV
    rw [if_neg (by omega), if_neg (by omega)]
    exact idxOf_none fun x hx => by
      simp only [List.mem_cons, List.not_mem_nil, or_false] at hx
      omega

theorem byteIndex (s : List Int) (c : Int) (h : 0 ≤ c ∧ c < 256) : CallA S 23 [.str s, .int .u8 c] ⟨[], 0⟩ fun v H' =>
    ∃ _ : Unit, True ∧ v = .int .i64 (idxOf s c) ∧ H' = ⟨[], 0⟩ := by
  refine .ofC hS (fun _ => True) (fun _ => .int .i64 (idxOf s c)) (fun _ => ⟨[], 0⟩) Try.func23 ?_
  conv => whnf
  repeat' (first | (refine Seal.mk ?_) | (refine wpA_seq ?_) | (refine wpA_region rfl ?_) | (refine wpA_block ?_) | (refine wpA_loop ?_) | (refine wpA_draw ?_) | (refine drawA_all ?_) | (refine drawA_fork ?_) | (refine opsA_cons ?_; (conv => whnf)) | (refine opsA_nil ?_; (conv => whnf)) | (refine wpA_cond ?_; (conv => whnf)) | (refine wpA_skip ?_; (conv => whnf)) | (refine wpA_exit ?_; (conv => whnf)) | (refine wpA_ret ?_; (conv => whnf)) | (refine stillA_cons ?_; (conv => whnf)) | (refine stillA_nil ?_; (conv => whnf)) | (refine drawA_done ?_; (conv => whnf)) | (refine drawA_quick rfl ?_; (conv => whnf)) | (refine drawA_read rfl ?_; (conv => whnf)) | (refine drawA_step rfl ?_; (conv => whnf)) | (intro _; (conv => whnf)) | (apply And.intro <;> intro _ <;> (conv => whnf)) | (apply And.intro; (case left => (first | omega | exact rfl | with_reducible assumption | (simp only [inR, IntKind.bits, Int.reduceToNat, Int.reducePow]; omega) | (simp; done) | (simp; omega))); (conv => whnf)) | (apply Or.inl; apply And.intro; (case left => (first | omega | exact rfl | with_reducible assumption | (simp only [inR, IntKind.bits, Int.reduceToNat, Int.reducePow]; omega) | (simp; done) | (simp; omega))); (conv => whnf)) | (apply Or.inr; (conv => whnf)) | (refine Exists.intro _ (And.intro rfl ?_); (conv => whnf)) | (refine Exists.intro _ (And.intro (And.intro rfl (And.intro rfl ?leaf)) ?_); (case leaf => (first | exact rfl | omega | (simp; done) | (simp; omega))); (conv => whnf)))
  (refine ⟨(), trivial, ?_⟩; repeat' (first | trivial | (apply And.intro; (case left => (first | omega | exact rfl | with_reducible assumption | exact congrArg (Cont.arr _) (by with_reducible assumption) |  (simp; done) | (simp; omega)))) | ((conv => whnf); apply And.intro; (case left => (first | omega | exact rfl | with_reducible assumption | exact congrArg (Cont.arr _) (by with_reducible assumption) |  (simp; done) | (simp; omega)))) | ((conv => whnf); trivial)))
theorem indexByte (s : List Int) (c : Int) (h : 0 ≤ c ∧ c < 256) : CallA S 22 [.str s, .int .u8 c] ⟨[], 0⟩ fun v H' =>
    ∃ _ : Unit, True ∧ v = .int .i64 (idxOf s c) ∧ H' = ⟨[], 0⟩ := by
  refine .ofC hS (fun _ => True) (fun _ => .int .i64 (idxOf s c)) (fun _ => ⟨[], 0⟩) Try.func22 ?_
  conv => whnf
  repeat' (first | (refine Seal.mk ?_) | (refine wpA_seq ?_) | (refine wpA_region rfl ?_) | (refine wpA_block ?_) | (refine wpA_loop ?_) | (refine wpA_draw ?_) | (refine drawA_all ?_) | (refine drawA_fork ?_) | (refine opsA_cons ?_; (conv => whnf)) | (refine opsA_nil ?_; (conv => whnf)) | (refine wpA_cond ?_; (conv => whnf)) | (refine wpA_skip ?_; (conv => whnf)) | (refine wpA_exit ?_; (conv => whnf)) | (refine wpA_ret ?_; (conv => whnf)) | (refine stillA_cons ?_; (conv => whnf)) | (refine stillA_nil ?_; (conv => whnf)) | (refine drawA_done ?_; (conv => whnf)) | (refine drawA_quick rfl ?_; (conv => whnf)) | (refine drawA_read rfl ?_; (conv => whnf)) | (refine drawA_step rfl ?_; (conv => whnf)) | (apply CallA.liftC hS (byteIndex s c h); (conv => whnf)) | (intro _; (conv => whnf)) | (apply And.intro <;> intro _ <;> (conv => whnf)) | (apply And.intro; (case left => (first | omega | exact rfl | with_reducible assumption | (simp only [inR, IntKind.bits, Int.reduceToNat, Int.reducePow]; omega) | (simp; done) | (simp; omega))); (conv => whnf)) | (apply Or.inl; apply And.intro; (case left => (first | omega | exact rfl | with_reducible assumption | (simp only [inR, IntKind.bits, Int.reduceToNat, Int.reducePow]; omega) | (simp; done) | (simp; omega))); (conv => whnf)) | (apply Or.inr; (conv => whnf)) | (refine Exists.intro _ (And.intro rfl ?_); (conv => whnf)) | (refine Exists.intro _ (And.intro (And.intro rfl (And.intro rfl ?leaf)) ?_); (case leaf => (first | exact rfl | omega | (simp; done) | (simp; omega))); (conv => whnf)))
  (refine ⟨(), trivial, ?_⟩; repeat' (first | trivial | (apply And.intro; (case left => (first | omega | exact rfl | with_reducible assumption | exact congrArg (Cont.arr _) (by with_reducible assumption) |  (simp; done) | (simp; omega)))) | ((conv => whnf); apply And.intro; (case left => (first | omega | exact rfl | with_reducible assumption | exact congrArg (Cont.arr _) (by with_reducible assumption) |  (simp; done) | (simp; omega)))) | ((conv => whnf); trivial)))
theorem hexAt (c : Int) (h : 0 ≤ c ∧ c < 256) : CallA S 18 [.int .u8 c] ⟨[], 0⟩ fun v H' =>
    ∃ _ : Unit, True ∧ v = .int .i64 (hexV c) ∧ H' = ⟨[], 0⟩ := by
  refine .ofC hS (fun _ => True) (fun _ => .int .i64 (hexV c)) (fun _ => ⟨[], 0⟩) Try.func18 ?_
  have hx := hex_idx (c := c)
  conv => whnf
  repeat' (first | (refine Seal.mk ?_) | (refine wpA_seq ?_) | (refine wpA_region rfl ?_) | (refine wpA_block ?_) | (refine wpA_loop ?_) | (refine wpA_draw ?_) | (refine drawA_all ?_) | (refine drawA_fork ?_) | (refine opsA_cons ?_; (conv => whnf)) | (refine opsA_nil ?_; (conv => whnf)) | (refine wpA_cond ?_; (conv => whnf)) | (refine wpA_skip ?_; (conv => whnf)) | (refine wpA_exit ?_; (conv => whnf)) | (refine wpA_ret ?_; (conv => whnf)) | (refine stillA_cons ?_; (conv => whnf)) | (refine stillA_nil ?_; (conv => whnf)) | (refine drawA_done ?_; (conv => whnf)) | (refine drawA_quick rfl ?_; (conv => whnf)) | (refine drawA_read rfl ?_; (conv => whnf)) | (refine drawA_step rfl ?_; (conv => whnf)) | (apply CallA.liftC hS (indexByte (bytesL { data := #[48, 49, 50, 51, 52, 53, 54, 55, 56, 57, 65, 66, 67, 68, 69, 70] }) c h); (conv => whnf)) | (intro _; (conv => whnf)) | (apply And.intro <;> intro _ <;> (conv => whnf)) | (apply And.intro; (case left => (first | omega | exact rfl | with_reducible assumption | (simp only [inR, IntKind.bits, Int.reduceToNat, Int.reducePow]; omega) | (simp; done) | (simp; omega))); (conv => whnf)) | (apply Or.inl; apply And.intro; (case left => (first | omega | exact rfl | with_reducible assumption | (simp only [inR, IntKind.bits, Int.reduceToNat, Int.reducePow]; omega) | (simp; done) | (simp; omega))); (conv => whnf)) | (apply Or.inr; (conv => whnf)) | (refine Exists.intro _ (And.intro rfl ?_); (conv => whnf)) | (refine Exists.intro _ (And.intro (And.intro rfl (And.intro rfl ?leaf)) ?_); (case leaf => (first | exact rfl | omega | (simp; done) | (simp; omega))); (conv => whnf)))
  (refine ⟨(), trivial, ?_⟩; repeat' (first | trivial | (apply And.intro; (case left => (first | omega | exact rfl | with_reducible assumption | exact congrArg (Cont.arr _) (by with_reducible assumption) |  (simp; done) | (simp; omega)))) | ((conv => whnf); apply And.intro; (case left => (first | omega | exact rfl | with_reducible assumption | exact congrArg (Cont.arr _) (by with_reducible assumption) |  (simp; done) | (simp; omega)))) | ((conv => whnf); trivial)))
theorem l16Hex (c : Int) (h : 0 ≤ c ∧ c < 256) : CallA S 21 [.int .u8 c] ⟨[], 0⟩ fun v H' =>
    ∃ _ : Unit, True ∧ v = .int .i64 (hexV c) ∧ H' = ⟨[], 0⟩ := by
  refine .ofC hS (fun _ => True) (fun _ => .int .i64 (hexV c)) (fun _ => ⟨[], 0⟩) Try.func21 ?_
  have hx : (48 ≤ c → c ≤ 57 → c - 48 = hexV c) ∧ (65 ≤ c → c ≤ 70 → c - 65 + 10 = hexV c) ∧ (¬ (48 ≤ c ∧ c ≤ 57) → ¬ (65 ≤ c ∧ c ≤ 70) → -1 = hexV c) := by
    unfold hexV; refine ⟨fun _ _ => ?_, fun _ _ => ?_, fun _ _ => ?_⟩ <;> (repeat' split) <;> omega
  conv => whnf
  repeat' (first | (refine Seal.mk ?_) | (refine wpA_seq ?_) | (refine wpA_region rfl ?_) | (refine wpA_block ?_) | (refine wpA_loop ?_) | (refine wpA_draw ?_) | (refine drawA_all ?_) | (refine drawA_fork ?_) | (refine opsA_cons ?_; (conv => whnf)) | (refine opsA_nil ?_; (conv => whnf)) | (refine wpA_cond ?_; (conv => whnf)) | (refine wpA_skip ?_; (conv => whnf)) | (refine wpA_exit ?_; (conv => whnf)) | (refine wpA_ret ?_; (conv => whnf)) | (refine stillA_cons ?_; (conv => whnf)) | (refine stillA_nil ?_; (conv => whnf)) | (refine drawA_done ?_; (conv => whnf)) | (refine drawA_quick rfl ?_; (conv => whnf)) | (refine drawA_read rfl ?_; (conv => whnf)) | (refine drawA_step rfl ?_; (conv => whnf)) | (intro _; (conv => whnf)) | (apply And.intro <;> intro _ <;> (conv => whnf)) | (apply And.intro; (case left => (first | omega | exact rfl | with_reducible assumption | (simp only [inR, IntKind.bits, Int.reduceToNat, Int.reducePow]; omega) | (simp; done) | (simp; omega))); (conv => whnf)) | (apply Or.inl; apply And.intro; (case left => (first | omega | exact rfl | with_reducible assumption | (simp only [inR, IntKind.bits, Int.reduceToNat, Int.reducePow]; omega) | (simp; done) | (simp; omega))); (conv => whnf)) | (apply Or.inr; (conv => whnf)) | (refine Exists.intro _ (And.intro rfl ?_); (conv => whnf)) | (refine Exists.intro _ (And.intro (And.intro rfl (And.intro rfl ?leaf)) ?_); (case leaf => (first | exact rfl | omega | (simp; done) | (simp; omega))); (conv => whnf)))
  all_goals (refine ⟨(), trivial, ?_⟩; repeat' (first | trivial | (apply And.intro; (case left => (first | omega | exact rfl | with_reducible assumption | exact congrArg (Cont.arr _) (by with_reducible assumption) |  (simp; done) | (simp; omega)))) | ((conv => whnf); apply And.intro; (case left => (first | omega | exact rfl | with_reducible assumption | exact congrArg (Cont.arr _) (by with_reducible assumption) |  (simp; done) | (simp; omega)))) | ((conv => whnf); trivial)))
end Go.Unquote
