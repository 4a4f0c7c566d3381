/- The walks of the quoting laws: the implementation's function. -/
import Derived.Test.YtfndendpfahbcaaQ2
set_option linter.unusedSimpArgs false
set_option linter.unusedVariables false
namespace Go.Quote
open Go Go.Vm Go.RowKit Go.Proofs
attribute [local irreducible] wpA opsA stillA drawA

def hexB : ByteArray := { data := #[48, 49, 50, 51, 52, 53, 54, 55, 56, 57, 65, 66, 67, 68, 69, 70] }
theorem and15 {x : Int} (h : 0 ≤ x) : ((x.toNat &&& Int.toNat 15 : Nat) : Int) = x % 16 := by
  rw [show Int.toNat 15 = 2 ^ 4 - 1 from rfl, Nat.and_two_pow_sub_one_eq_mod]
  omega
theorem quote_esc2 {xs : List Int} {i : Nat} (hi : i < xs.length) (h0 : 0 ≤ xs.getD (i : Int).toNat (intE .u8).d) (h : ¬(33 ≤ xs.getD (i : Int).toNat (intE .u8).d ∧ xs.getD (i : Int).toNat (intE .u8).d ≤ 126 ∧ ¬xs.getD (i : Int).toNat (intE .u8).d = 37)) :
    quoteL (xs.take i) ++ List.take ((3 : Nat) : Int).toNat [37, (bytesL { data := #[48, 49, 50, 51, 52, 53, 54, 55, 56, 57, 65, 66, 67, 68, 69, 70] }).getD (xs.getD (i : Int).toNat (intE .u8).d / 2 ^ Int.toNat 4).toNat 0,
      (bytesL { data := #[48, 49, 50, 51, 52, 53, 54, 55, 56, 57, 65, 66, 67, 68, 69, 70] }).getD (((xs.getD (i : Int).toNat (intE .u8).d).toNat &&& Int.toNat 15 : Nat) : Int).toNat 0] = quoteL (xs.take (i + 1)) := by
  rw [and15 h0]
  exact quote_esc hi h

set_option maxRecDepth 20000 in
theorem quoted (xs : List Int) (hx : xs.length ≤ 1048576) (hb : ∀ b ∈ xs, 0 ≤ b ∧ b < 256) : CallA S 16 [.sl (.loc 0) 1 none xs.length] ⟨[⟨.loc 0, false, .arr (intE .u8) xs⟩], 1⟩ fun v H' =>
    ∃ _ : Unit, True ∧ v = .str (quoteL xs) ∧ H' = ⟨[], 1⟩ := by
  refine .ofC hS (fun _ => True) (fun _ => .str (quoteL xs)) (fun _ => ⟨[], 1⟩) Try.func16 ?_
  conv => whnf
  repeat' (first | (refine Seal.mk ?_) | (refine wpA_seq ?_) | (refine wpA_region rfl ?_) | (refine wpA_block ?_) | (refine wpA_loop ?_) | (refine wpA_draw ?_) | (refine drawA_all ?_) | (refine drawA_fork ?_) | (refine opsA_cons ?_; (conv => whnf)) | (refine opsA_nil ?_; (conv => whnf)) | (refine wpA_cond ?_; (conv => whnf)) | (refine wpA_skip ?_; (conv => whnf)) | (refine wpA_exit ?_; (conv => whnf)) | (refine wpA_ret ?_; (conv => whnf)) | (refine stillA_cons ?_; (conv => whnf)) | (refine stillA_nil ?_; (conv => whnf)) | (refine drawA_done ?_; (conv => whnf)) | (refine drawA_quick rfl ?_; (conv => whnf)) | (refine drawA_read rfl ?_; (conv => whnf)) | (refine drawA_step rfl ?_; (conv => whnf)) | (intro _; (conv => whnf)) | (apply And.intro <;> intro _ <;> (conv => whnf)) | (apply And.intro; (case left => (first | omega | exact rfl | (simp only [inR, IntKind.bits]; omega) | (simp; done) | (simp; omega))); (conv => whnf)) | (refine Exists.intro _ (And.intro rfl ?_); (conv => whnf)) | (refine Exists.intro _ (And.intro (And.intro rfl (And.intro rfl ?leaf)) ?_); (case leaf => (first | exact rfl | omega | (simp; done) | (simp; omega))); (conv => whnf)))
  refine .loop hS (γ := Nat) (fun i => ⟨[(7, .sl (.loc 0) 1 none xs.length), (8, .int .i64 xs.length), (3, .sl (.loc 1) 1 none (quoteL (xs.take i)).length), (9, .int .i64 i)],
    ⟨[⟨.loc 1, true, .arr (intE .u8) (quoteL (xs.take i))⟩, ⟨.loc 0, false, .arr (intE .u8) xs⟩], 2⟩, 39, 1⟩) (fun i => i ≤ xs.length) (fun i => xs.length - i) 0 (by omega) ?_ ?_
  · repeat' (first | trivial | (apply And.intro; (case left => (first | omega | exact rfl | assumption | exact congrArg (Cont.arr _) (by assumption) | (simp; done) | (simp; omega)))) | ((conv => whnf); apply And.intro; (case left => (first | omega | exact rfl | assumption | exact congrArg (Cont.arr _) (by assumption) | (simp; done) | (simp; omega)))) | ((conv => whnf); trivial))
  · intro i hi
    have hq := quoteL_len (xs.take i)
    have ht : (xs.take i).length ≤ i := by simp; omega
    have hl : hexS.length = 16 := rfl
    have hbi : i < xs.length → 0 ≤ xs.getD ((i : Int)).toNat (intE .u8).d ∧ xs.getD ((i : Int)).toNat (intE .u8).d < 256 := fun h => by
      have := hb (xs.getD i 0) (by simp [h])
      simpa [intE] using this
    conv => whnf
    repeat' (first | (refine Seal.mk ?_) | (refine wpA_seq ?_) | (refine wpA_region rfl ?_) | (refine wpA_block ?_) | (refine wpA_loop ?_) | (refine wpA_draw ?_) | (refine drawA_all ?_) | (refine drawA_fork ?_) | (refine opsA_cons ?_; (conv => whnf)) | (refine opsA_nil ?_; (conv => whnf)) | (refine wpA_cond ?_; (conv => whnf)) | (refine wpA_skip ?_; (conv => whnf)) | (refine wpA_exit ?_; (conv => whnf)) | (refine wpA_ret ?_; (conv => whnf)) | (refine stillA_cons ?_; (conv => whnf)) | (refine stillA_nil ?_; (conv => whnf)) | (refine drawA_done ?_; (conv => whnf)) | (refine drawA_quick rfl ?_; (conv => whnf)) | (refine drawA_read rfl ?_; (conv => whnf)) | (refine drawA_step rfl ?_; (conv => whnf)) | (intro _; (conv => whnf)) | (apply And.intro <;> intro _ <;> (conv => whnf)) | (apply And.intro; (case left => (first | omega | exact rfl | (simp only [inR, IntKind.bits]; omega) | (simp; done) | (simp; omega))); (conv => whnf)) | (refine Exists.intro _ (And.intro rfl ?_); (conv => whnf)) | (refine Exists.intro _ (And.intro (And.intro rfl (And.intro rfl ?leaf)) ?_); (case leaf => (first | exact rfl | omega | (simp; done) | (simp; omega))); (conv => whnf)))
    · have hc := quote_plain (xs := xs) (i := i) (by omega) (by omega)
      have hn := congrArg (fun l => ((List.length l : Nat) : Int)) hc
      simp only [List.length_append] at hn
      refine ⟨i + 1, ⟨by omega, by omega⟩, ?_⟩
      repeat' (first | trivial | (apply And.intro; (case left => (first | omega | exact rfl | assumption | exact congrArg (Cont.arr _) (by assumption) | (simp; done) | (simp; omega)))) | ((conv => whnf); apply And.intro; (case left => (first | omega | exact rfl | assumption | exact congrArg (Cont.arr _) (by assumption) | (simp; done) | (simp; omega)))) | ((conv => whnf); trivial))
    · have hbi := hbi (by omega)
      have hc := quote_esc2 (xs := xs) (i := i) (by omega) hbi.1 (by omega)
      have hn := congrArg (fun l => ((List.length l : Nat) : Int)) hc
      simp only [List.length_append] at hn
      have h16 : (2 : Int) ^ Int.toNat 4 = 16 := rfl
      have hbl : (bytesL { data := #[48, 49, 50, 51, 52, 53, 54, 55, 56, 57, 65, 66, 67, 68, 69, 70] }).length = 16 := rfl
      have h15 := and15 hbi.1
      refine .draw hS (.quick 0 (.quick 1 (.quick 2 (.quick 3 (.quick 4 (.quick 5 (.quick 6 (.all (.step 7 (.all (.step 8 (.quick 9 .done)))))))))))) [7, 8] (by kernel_rfl) rfl ?_
      repeat' (first | (refine Seal.mk ?_) | (refine wpA_seq ?_) | (refine wpA_region rfl ?_) | (refine wpA_block ?_) | (refine wpA_loop ?_) | (refine wpA_draw ?_) | (refine drawA_all ?_) | (refine drawA_fork ?_) | (refine opsA_cons ?_; (conv => whnf)) | (refine opsA_nil ?_; (conv => whnf)) | (refine wpA_cond ?_; (conv => whnf)) | (refine wpA_skip ?_; (conv => whnf)) | (refine wpA_exit ?_; (conv => whnf)) | (refine wpA_ret ?_; (conv => whnf)) | (refine stillA_cons ?_; (conv => whnf)) | (refine stillA_nil ?_; (conv => whnf)) | (refine drawA_done ?_; (conv => whnf)) | (refine drawA_quick rfl ?_; (conv => whnf)) | (refine drawA_read rfl ?_; (conv => whnf)) | (refine drawA_step rfl ?_; (conv => whnf)) | (intro _; (conv => whnf)) | (apply And.intro <;> intro _ <;> (conv => whnf)) | (apply And.intro; (case left => (first | omega | exact rfl | (simp only [inR, IntKind.bits]; omega) | (simp; done) | (simp; omega))); (conv => whnf)) | (refine Exists.intro _ (And.intro rfl ?_); (conv => whnf)) | (refine Exists.intro _ (And.intro (And.intro rfl (And.intro rfl ?leaf)) ?_); (case leaf => (first | exact rfl | omega | (simp; done) | (simp; omega))); (conv => whnf)))
      refine ⟨by rw [h16, hbl]; omega, ?_⟩
      conv => whnf
      repeat' (first | (refine Seal.mk ?_) | (refine wpA_seq ?_) | (refine wpA_region rfl ?_) | (refine wpA_block ?_) | (refine wpA_loop ?_) | (refine wpA_draw ?_) | (refine drawA_all ?_) | (refine drawA_fork ?_) | (refine opsA_cons ?_; (conv => whnf)) | (refine opsA_nil ?_; (conv => whnf)) | (refine wpA_cond ?_; (conv => whnf)) | (refine wpA_skip ?_; (conv => whnf)) | (refine wpA_exit ?_; (conv => whnf)) | (refine wpA_ret ?_; (conv => whnf)) | (refine stillA_cons ?_; (conv => whnf)) | (refine stillA_nil ?_; (conv => whnf)) | (refine drawA_done ?_; (conv => whnf)) | (refine drawA_quick rfl ?_; (conv => whnf)) | (refine drawA_read rfl ?_; (conv => whnf)) | (refine drawA_step rfl ?_; (conv => whnf)) | (intro _; (conv => whnf)) | (apply And.intro <;> intro _ <;> (conv => whnf)) | (apply And.intro; (case left => (first | omega | exact rfl | (simp only [inR, IntKind.bits]; omega) | (simp; done) | (simp; omega))); (conv => whnf)) | (refine Exists.intro _ (And.intro rfl ?_); (conv => whnf)) | (refine Exists.intro _ (And.intro (And.intro rfl (And.intro rfl ?leaf)) ?_); (case leaf => (first | exact rfl | omega | (simp; done) | (simp; omega))); (conv => whnf)))
      refine ⟨i + 1, ⟨by omega, by omega⟩, ?_⟩
      repeat' (first | trivial | (apply And.intro; (case left => (first | omega | exact rfl | assumption | exact congrArg (Cont.arr _) (by assumption) | (simp; done) | (simp; omega)))) | ((conv => whnf); apply And.intro; (case left => (first | omega | exact rfl | assumption | exact congrArg (Cont.arr _) (by assumption) | (simp; done) | (simp; omega)))) | ((conv => whnf); trivial))
    · have hbi := hbi (by omega)
      have hc := quote_esc2 (xs := xs) (i := i) (by omega) hbi.1 (by omega)
      have hn := congrArg (fun l => ((List.length l : Nat) : Int)) hc
      simp only [List.length_append] at hn
      have h16 : (2 : Int) ^ Int.toNat 4 = 16 := rfl
      have hbl : (bytesL { data := #[48, 49, 50, 51, 52, 53, 54, 55, 56, 57, 65, 66, 67, 68, 69, 70] }).length = 16 := rfl
      have h15 := and15 hbi.1
      refine .draw hS (.quick 0 (.quick 1 (.quick 2 (.quick 3 (.quick 4 (.quick 5 (.quick 6 (.all (.step 7 (.all (.step 8 (.quick 9 .done)))))))))))) [7, 8] (by kernel_rfl) rfl ?_
      repeat' (first | (refine Seal.mk ?_) | (refine wpA_seq ?_) | (refine wpA_region rfl ?_) | (refine wpA_block ?_) | (refine wpA_loop ?_) | (refine wpA_draw ?_) | (refine drawA_all ?_) | (refine drawA_fork ?_) | (refine opsA_cons ?_; (conv => whnf)) | (refine opsA_nil ?_; (conv => whnf)) | (refine wpA_cond ?_; (conv => whnf)) | (refine wpA_skip ?_; (conv => whnf)) | (refine wpA_exit ?_; (conv => whnf)) | (refine wpA_ret ?_; (conv => whnf)) | (refine stillA_cons ?_; (conv => whnf)) | (refine stillA_nil ?_; (conv => whnf)) | (refine drawA_done ?_; (conv => whnf)) | (refine drawA_quick rfl ?_; (conv => whnf)) | (refine drawA_read rfl ?_; (conv => whnf)) | (refine drawA_step rfl ?_; (conv => whnf)) | (intro _; (conv => whnf)) | (apply And.intro <;> intro _ <;> (conv => whnf)) | (apply And.intro; (case left => (first | omega | exact rfl | (simp only [inR, IntKind.bits]; omega) | (simp; done) | (simp; omega))); (conv => whnf)) | (refine Exists.intro _ (And.intro rfl ?_); (conv => whnf)) | (refine Exists.intro _ (And.intro (And.intro rfl (And.intro rfl ?leaf)) ?_); (case leaf => (first | exact rfl | omega | (simp; done) | (simp; omega))); (conv => whnf)))
      refine ⟨by rw [h16, hbl]; omega, ?_⟩
      conv => whnf
      repeat' (first | (refine Seal.mk ?_) | (refine wpA_seq ?_) | (refine wpA_region rfl ?_) | (refine wpA_block ?_) | (refine wpA_loop ?_) | (refine wpA_draw ?_) | (refine drawA_all ?_) | (refine drawA_fork ?_) | (refine opsA_cons ?_; (conv => whnf)) | (refine opsA_nil ?_; (conv => whnf)) | (refine wpA_cond ?_; (conv => whnf)) | (refine wpA_skip ?_; (conv => whnf)) | (refine wpA_exit ?_; (conv => whnf)) | (refine wpA_ret ?_; (conv => whnf)) | (refine stillA_cons ?_; (conv => whnf)) | (refine stillA_nil ?_; (conv => whnf)) | (refine drawA_done ?_; (conv => whnf)) | (refine drawA_quick rfl ?_; (conv => whnf)) | (refine drawA_read rfl ?_; (conv => whnf)) | (refine drawA_step rfl ?_; (conv => whnf)) | (intro _; (conv => whnf)) | (apply And.intro <;> intro _ <;> (conv => whnf)) | (apply And.intro; (case left => (first | omega | exact rfl | (simp only [inR, IntKind.bits]; omega) | (simp; done) | (simp; omega))); (conv => whnf)) | (refine Exists.intro _ (And.intro rfl ?_); (conv => whnf)) | (refine Exists.intro _ (And.intro (And.intro rfl (And.intro rfl ?leaf)) ?_); (case leaf => (first | exact rfl | omega | (simp; done) | (simp; omega))); (conv => whnf)))
      refine ⟨i + 1, ⟨by omega, by omega⟩, ?_⟩
      repeat' (first | trivial | (apply And.intro; (case left => (first | omega | exact rfl | assumption | exact congrArg (Cont.arr _) (by assumption) | (simp; done) | (simp; omega)))) | ((conv => whnf); apply And.intro; (case left => (first | omega | exact rfl | assumption | exact congrArg (Cont.arr _) (by assumption) | (simp; done) | (simp; omega)))) | ((conv => whnf); trivial))
    · have hbi := hbi (by omega)
      have hc := quote_esc2 (xs := xs) (i := i) (by omega) hbi.1 (by omega)
      have hn := congrArg (fun l => ((List.length l : Nat) : Int)) hc
      simp only [List.length_append] at hn
      have h16 : (2 : Int) ^ Int.toNat 4 = 16 := rfl
      have hbl : (bytesL { data := #[48, 49, 50, 51, 52, 53, 54, 55, 56, 57, 65, 66, 67, 68, 69, 70] }).length = 16 := rfl
      have h15 := and15 hbi.1
      refine .draw hS (.quick 0 (.quick 1 (.quick 2 (.quick 3 (.quick 4 (.quick 5 (.quick 6 (.all (.step 7 (.all (.step 8 (.quick 9 .done)))))))))))) [7, 8] (by kernel_rfl) rfl ?_
      repeat' (first | (refine Seal.mk ?_) | (refine wpA_seq ?_) | (refine wpA_region rfl ?_) | (refine wpA_block ?_) | (refine wpA_loop ?_) | (refine wpA_draw ?_) | (refine drawA_all ?_) | (refine drawA_fork ?_) | (refine opsA_cons ?_; (conv => whnf)) | (refine opsA_nil ?_; (conv => whnf)) | (refine wpA_cond ?_; (conv => whnf)) | (refine wpA_skip ?_; (conv => whnf)) | (refine wpA_exit ?_; (conv => whnf)) | (refine wpA_ret ?_; (conv => whnf)) | (refine stillA_cons ?_; (conv => whnf)) | (refine stillA_nil ?_; (conv => whnf)) | (refine drawA_done ?_; (conv => whnf)) | (refine drawA_quick rfl ?_; (conv => whnf)) | (refine drawA_read rfl ?_; (conv => whnf)) | (refine drawA_step rfl ?_; (conv => whnf)) | (intro _; (conv => whnf)) | (apply And.intro <;> intro _ <;> (conv => whnf)) | (apply And.intro; (case left => (first | omega | exact rfl | (simp only [inR, IntKind.bits]; omega) | (simp; done) | (simp; omega))); (conv => whnf)) | (refine Exists.intro _ (And.intro rfl ?_); (conv => whnf)) | (refine Exists.intro _ (And.intro (And.intro rfl (And.intro rfl ?leaf)) ?_); (case leaf => (first | exact rfl | omega | (simp; done) | (simp; omega))); (conv => whnf)))
      refine ⟨by rw [h16, hbl]; omega, ?_⟩
      conv => whnf
      repeat' (first | (refine Seal.mk ?_) | (refine wpA_seq ?_) | (refine wpA_region rfl ?_) | (refine wpA_block ?_) | (refine wpA_loop ?_) | (refine wpA_draw ?_) | (refine drawA_all ?_) | (refine drawA_fork ?_) | (refine opsA_cons ?_; (conv => whnf)) | (refine opsA_nil ?_; (conv => whnf)) | (refine wpA_cond ?_; (conv => whnf)) | (refine wpA_skip ?_; (conv => whnf)) | (refine wpA_exit ?_; (conv => whnf)) | (refine wpA_ret ?_; (conv => whnf)) | (refine stillA_cons ?_; (conv => whnf)) | (refine stillA_nil ?_; (conv => whnf)) | (refine drawA_done ?_; (conv => whnf)) | (refine drawA_quick rfl ?_; (conv => whnf)) | (refine drawA_read rfl ?_; (conv => whnf)) | (refine drawA_step rfl ?_; (conv => whnf)) | (intro _; (conv => whnf)) | (apply And.intro <;> intro _ <;> (conv => whnf)) | (apply And.intro; (case left => (first | omega | exact rfl | (simp only [inR, IntKind.bits]; omega) | (simp; done) | (simp; omega))); (conv => whnf)) | (refine Exists.intro _ (And.intro rfl ?_); (conv => whnf)) | (refine Exists.intro _ (And.intro (And.intro rfl (And.intro rfl ?leaf)) ?_); (case leaf => (first | exact rfl | omega | (simp; done) | (simp; omega))); (conv => whnf)))
      refine ⟨i + 1, ⟨by omega, by omega⟩, ?_⟩
      repeat' (first | trivial | (apply And.intro; (case left => (first | omega | exact rfl | assumption | exact congrArg (Cont.arr _) (by assumption) | (simp; done) | (simp; omega)))) | ((conv => whnf); apply And.intro; (case left => (first | omega | exact rfl | assumption | exact congrArg (Cont.arr _) (by assumption) | (simp; done) | (simp; omega)))) | ((conv => whnf); trivial))
    · have hi : i = xs.length := by omega
      subst hi
      simp only [List.take_length] at *
      refine ⟨intE .u8, ⟨rfl, fun _ => rfl⟩, ?_⟩
      conv => whnf
      repeat' (first | (refine Seal.mk ?_) | (refine wpA_seq ?_) | (refine wpA_region rfl ?_) | (refine wpA_block ?_) | (refine wpA_loop ?_) | (refine wpA_draw ?_) | (refine drawA_all ?_) | (refine drawA_fork ?_) | (refine opsA_cons ?_; (conv => whnf)) | (refine opsA_nil ?_; (conv => whnf)) | (refine wpA_cond ?_; (conv => whnf)) | (refine wpA_skip ?_; (conv => whnf)) | (refine wpA_exit ?_; (conv => whnf)) | (refine wpA_ret ?_; (conv => whnf)) | (refine stillA_cons ?_; (conv => whnf)) | (refine stillA_nil ?_; (conv => whnf)) | (refine drawA_done ?_; (conv => whnf)) | (refine drawA_quick rfl ?_; (conv => whnf)) | (refine drawA_read rfl ?_; (conv => whnf)) | (refine drawA_step rfl ?_; (conv => whnf)) | (intro _; (conv => whnf)) | (apply And.intro <;> intro _ <;> (conv => whnf)) | (apply And.intro; (case left => (first | omega | exact rfl | (simp only [inR, IntKind.bits]; omega) | (simp; done) | (simp; omega))); (conv => whnf)) | (refine Exists.intro _ (And.intro rfl ?_); (conv => whnf)) | (refine Exists.intro _ (And.intro (And.intro rfl (And.intro rfl ?leaf)) ?_); (case leaf => (first | exact rfl | omega | (simp; done) | (simp; omega))); (conv => whnf)))
      have ht : List.take (((quoteL xs).length : Int)).toNat (quoteL xs) = quoteL xs := by simp
      refine ⟨by rw [ht]; exact quoteL_byte hb, ?_⟩
      conv => whnf
      repeat' (first | (refine Seal.mk ?_) | (refine wpA_seq ?_) | (refine wpA_region rfl ?_) | (refine wpA_block ?_) | (refine wpA_loop ?_) | (refine wpA_draw ?_) | (refine drawA_all ?_) | (refine drawA_fork ?_) | (refine opsA_cons ?_; (conv => whnf)) | (refine opsA_nil ?_; (conv => whnf)) | (refine wpA_cond ?_; (conv => whnf)) | (refine wpA_skip ?_; (conv => whnf)) | (refine wpA_exit ?_; (conv => whnf)) | (refine wpA_ret ?_; (conv => whnf)) | (refine stillA_cons ?_; (conv => whnf)) | (refine stillA_nil ?_; (conv => whnf)) | (refine drawA_done ?_; (conv => whnf)) | (refine drawA_quick rfl ?_; (conv => whnf)) | (refine drawA_read rfl ?_; (conv => whnf)) | (refine drawA_step rfl ?_; (conv => whnf)) | (intro _; (conv => whnf)) | (apply And.intro <;> intro _ <;> (conv => whnf)) | (apply And.intro; (case left => (first | omega | exact rfl | (simp only [inR, IntKind.bits]; omega) | (simp; done) | (simp; omega))); (conv => whnf)) | (refine Exists.intro _ (And.intro rfl ?_); (conv => whnf)) | (refine Exists.intro _ (And.intro (And.intro rfl (And.intro rfl ?leaf)) ?_); (case leaf => (first | exact rfl | omega | (simp; done) | (simp; omega))); (conv => whnf)))
      refine ⟨(), trivial, ?_⟩
      repeat' (first | trivial | (apply And.intro; (case left => (first | omega | exact rfl | assumption | exact congrArg (Cont.arr _) (by assumption) | (simp; done) | (simp; omega)))) | ((conv => whnf); apply And.intro; (case left => (first | omega | exact rfl | assumption | exact congrArg (Cont.arr _) (by assumption) | (simp; done) | (simp; omega)))) | ((conv => whnf); trivial))
end Go.Quote
