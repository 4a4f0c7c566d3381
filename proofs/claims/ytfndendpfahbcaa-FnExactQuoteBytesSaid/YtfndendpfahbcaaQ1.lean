/- The walks of the quoting laws. -/
import Derived.Test.YtfndendpfahbcaaQS
set_option linter.unusedSimpArgs false
set_option linter.unusedVariables false
namespace Go.Quote
open Go Go.Vm Go.RowKit Go.Proofs
attribute [local irreducible] wpA opsA stillA drawA

theorem toByteS (xs : List Int) (hx : xs.length ≤ 1048576) : CallA S 6 [.sl (.loc 0) 1 none xs.length] ⟨[⟨.loc 0, false, .arr (intE .u8) xs⟩], 1⟩ fun v H' =>
    ∃ _ : Unit, True ∧ v = .sl (.loc 1) 1 none xs.length ∧ H' = ⟨[⟨.loc 1, true, .arr (intE .u8) xs⟩], 2⟩ := by
  refine .ofC hS (fun _ => True) (fun _ => .sl (.loc 1) 1 none xs.length) (fun _ => ⟨[⟨.loc 1, true, .arr (intE .u8) xs⟩], 2⟩) Try.func6 ?_
  conv => whnf
  repeat' (first | (refine Seal.mk ?_) | (refine wpA_seq ?_) | (refine wpA_region rfl ?_) | (refine wpA_block ?_) | (refine wpA_loop ?_) | (refine wpA_draw ?_) | (refine drawA_all ?_) | (refine drawA_fork ?_) | (refine opsA_cons ?_; (conv => whnf)) | (refine opsA_nil ?_; (conv => whnf)) | (refine wpA_cond ?_; (conv => whnf)) | (refine wpA_skip ?_; (conv => whnf)) | (refine wpA_exit ?_; (conv => whnf)) | (refine wpA_ret ?_; (conv => whnf)) | (refine stillA_cons ?_; (conv => whnf)) | (refine stillA_nil ?_; (conv => whnf)) | (refine drawA_done ?_; (conv => whnf)) | (refine drawA_quick rfl ?_; (conv => whnf)) | (refine drawA_read rfl ?_; (conv => whnf)) | (refine drawA_step rfl ?_; (conv => whnf)) | (intro _; (conv => whnf)) | (apply And.intro <;> intro _ <;> (conv => whnf)) | (apply And.intro; (case left => (first | omega | exact rfl | (simp only [inR, IntKind.bits]; omega) | (simp; done) | (simp; omega))); (conv => whnf)) | (refine Exists.intro _ (And.intro rfl ?_); (conv => whnf)) | (refine Exists.intro _ (And.intro (And.intro rfl (And.intro rfl ?leaf)) ?_); (case leaf => (first | exact rfl | omega | (simp; done) | (simp; omega))); (conv => whnf)))
  refine .loop hS (γ := Nat) (fun i => ⟨[(0, .sl (.loc 0) 1 none xs.length), (3, .sl (.loc 1) 1 none xs.length), (4, .int .i64 i)],
    ⟨[⟨.loc 1, true, .arr (intE .u8) (xs.take i ++ List.replicate (xs.length - i) 0)⟩, ⟨.loc 0, false, .arr (intE .u8) xs⟩], 2⟩, 22, 1⟩) (fun i => i ≤ xs.length) (fun i => xs.length - i) 0 (by omega) ?_ ?_
  · repeat' (first | trivial | (apply And.intro; (case left => (first | omega | exact rfl | assumption | exact congrArg (Cont.arr _) (by assumption) | (simp; done) | (simp; omega)))) | ((conv => whnf); apply And.intro; (case left => (first | omega | exact rfl | assumption | exact congrArg (Cont.arr _) (by assumption) | (simp; done) | (simp; omega)))) | ((conv => whnf); trivial))
  · intro i hi
    conv => whnf
    repeat' (first | (refine Seal.mk ?_) | (refine wpA_seq ?_) | (refine wpA_region rfl ?_) | (refine wpA_block ?_) | (refine wpA_loop ?_) | (refine wpA_draw ?_) | (refine drawA_all ?_) | (refine drawA_fork ?_) | (refine opsA_cons ?_; (conv => whnf)) | (refine opsA_nil ?_; (conv => whnf)) | (refine wpA_cond ?_; (conv => whnf)) | (refine wpA_skip ?_; (conv => whnf)) | (refine wpA_exit ?_; (conv => whnf)) | (refine wpA_ret ?_; (conv => whnf)) | (refine stillA_cons ?_; (conv => whnf)) | (refine stillA_nil ?_; (conv => whnf)) | (refine drawA_done ?_; (conv => whnf)) | (refine drawA_quick rfl ?_; (conv => whnf)) | (refine drawA_read rfl ?_; (conv => whnf)) | (refine drawA_step rfl ?_; (conv => whnf)) | (intro _; (conv => whnf)) | (apply And.intro <;> intro _ <;> (conv => whnf)) | (apply And.intro; (case left => (first | omega | exact rfl | (simp only [inR, IntKind.bits]; omega) | (simp; done) | (simp; omega))); (conv => whnf)) | (refine Exists.intro _ (And.intro rfl ?_); (conv => whnf)) | (refine Exists.intro _ (And.intro (And.intro rfl (And.intro rfl ?leaf)) ?_); (case leaf => (first | exact rfl | omega | (simp; done) | (simp; omega))); (conv => whnf)))
    · refine ⟨i + 1, ⟨by omega, by omega⟩, ?_⟩
      have hc : (xs.take i ++ List.replicate (xs.length - i) 0).set ((i : Int)).toNat (xs.getD ((i : Int)).toNat 0) = xs.take (i + 1) ++ List.replicate (xs.length - (i + 1)) 0 := by
        have hi : i < xs.length := by omega
        simp only [Int.toNat_natCast]
        rw [List.set_append, if_neg (by simp; omega)]
        simp only [List.length_take, Nat.min_eq_left (Nat.le_of_lt hi), Nat.sub_self]
        rw [show xs.length - i = (xs.length - (i + 1)) + 1 by omega, List.replicate_succ, List.set_cons_zero, List.take_succ_eq_append_getElem hi, show xs.getD i 0 = xs[i] by simp [hi], List.append_assoc]
        rfl
      repeat' (first | trivial | (apply And.intro; (case left => (first | omega | exact rfl | assumption | exact congrArg (Cont.arr _) (by assumption) | (simp; done) | (simp; omega)))) | ((conv => whnf); apply And.intro; (case left => (first | omega | exact rfl | assumption | exact congrArg (Cont.arr _) (by assumption) | (simp; done) | (simp; omega)))) | ((conv => whnf); trivial))
    · have hi : i = xs.length := by omega
      subst hi
      have hc : xs.take xs.length ++ List.replicate (xs.length - xs.length) 0 = xs := by simp
      refine ⟨(), trivial, ?_⟩
      repeat' (first | trivial | (apply And.intro; (case left => (first | omega | exact rfl | assumption | exact congrArg (Cont.arr _) (by assumption) | (simp; done) | (simp; omega)))) | ((conv => whnf); apply And.intro; (case left => (first | omega | exact rfl | assumption | exact congrArg (Cont.arr _) (by assumption) | (simp; done) | (simp; omega)))) | ((conv => whnf); trivial))
end Go.Quote
