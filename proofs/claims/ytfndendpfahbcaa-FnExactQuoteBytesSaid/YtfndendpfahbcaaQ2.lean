/- The walks of the quoting laws: the specification's function. -/
import Derived.Test.YtfndendpfahbcaaQ1
set_option linter.unusedSimpArgs false
set_option linter.unusedVariables false
namespace Go.Quote
open Go Go.Vm Go.RowKit Go.Proofs
attribute [local irreducible] wpA opsA stillA drawA

def hexS : List Int := [48, 49, 50, 51, 52, 53, 54, 55, 56, 57, 65, 66, 67, 68, 69, 70]
def hexd (i : Int) : Int := hexS.getD i.toNat 0
def q1 (b : Int) : List Int := if 33 ≤ b ∧ b ≤ 126 ∧ b ≠ 37 then [b] else [37, hexd (b / 16), hexd (b % 16)]
def quoteL (xs : List Int) : List Int := xs.flatMap q1

theorem q1_len (b : Int) : (q1 b).length ≤ 3 := by
  unfold q1; split <;> simp
theorem quoteL_len (xs : List Int) : (quoteL xs).length ≤ 3 * xs.length := by
  induction xs with
  | nil => simp [quoteL]
  | cons x r ih =>
    have := q1_len x
    simp only [quoteL, List.flatMap_cons, List.length_append, List.length_cons] at ih ⊢
    omega
theorem quoteL_take {xs : List Int} {i : Nat} (hi : i < xs.length) : quoteL (xs.take (i + 1)) = quoteL (xs.take i) ++ q1 (xs.getD i 0) := by
  rw [List.take_succ_eq_append_getElem hi, quoteL, List.flatMap_append]
  simp [quoteL, hi]

theorem hexd_byte (i : Int) : 0 ≤ hexd i ∧ hexd i < 256 := by
  unfold hexd
  rcases Nat.lt_or_ge i.toNat 16 with h | h
  · have : ∀ k : Fin 16, 0 ≤ hexS.getD k.val 0 ∧ hexS.getD k.val 0 < 256 := by decide
    exact this ⟨_, h⟩
  · rw [List.getD_eq_getElem?_getD, List.getElem?_eq_none (by simpa [hexS] using h)]
    decide
theorem quoteL_byte {xs : List Int} (hb : ∀ b ∈ xs, 0 ≤ b ∧ b < 256) : ∀ n ∈ quoteL xs, 0 ≤ n ∧ n < 256 := by
  intro n hn
  simp only [quoteL, List.mem_flatMap] at hn
  obtain ⟨b, h1, h2⟩ := hn
  unfold q1 at h2
  split at h2
  · simp at h2; subst h2; exact hb _ h1
  · simp at h2
    rcases h2 with rfl | rfl | rfl
    · decide
    · exact hexd_byte _
    · exact hexd_byte _
theorem quote_plain {xs : List Int} {i : Nat} (hi : i < xs.length) (h : 33 ≤ xs.getD (i : Int).toNat (intE .u8).d ∧ xs.getD (i : Int).toNat (intE .u8).d ≤ 126 ∧ ¬xs.getD (i : Int).toNat (intE .u8).d = 37) :
    quoteL (xs.take i) ++ List.take ((1 : Nat) : Int).toNat [xs.getD (i : Int).toNat (intE .u8).d] = quoteL (xs.take (i + 1)) := by
  have h' : 33 ≤ xs.getD i 0 ∧ xs.getD i 0 ≤ 126 ∧ xs.getD i 0 ≠ 37 := h
  rw [quoteL_take hi, q1, if_pos h']
  rfl
theorem quote_esc {xs : List Int} {i : Nat} (hi : i < xs.length) (h : ¬(33 ≤ xs.getD (i : Int).toNat (intE .u8).d ∧ xs.getD (i : Int).toNat (intE .u8).d ≤ 126 ∧ ¬xs.getD (i : Int).toNat (intE .u8).d = 37)) :
    quoteL (xs.take i) ++ List.take ((3 : Nat) : Int).toNat [37, hexS.getD (xs.getD (i : Int).toNat (intE .u8).d / 16).toNat 0, hexS.getD (xs.getD (i : Int).toNat (intE .u8).d % 16).toNat 0] = quoteL (xs.take (i + 1)) := by
  have h' : ¬(33 ≤ xs.getD i 0 ∧ xs.getD i 0 ≤ 126 ∧ xs.getD i 0 ≠ 37) := h
  rw [quoteL_take hi, q1, if_neg h']
  rfl

set_option maxRecDepth 20000 in
set_option linter.unusedSimpArgs false in
theorem l16Quote (xs : List Int) (hx : xs.length ≤ 1048576) (hb : ∀ b ∈ xs, 0 ≤ b ∧ b < 256) : CallA S 15 [.sl (.loc 0) 1 none xs.length] ⟨[⟨.loc 0, false, .arr (intE .u8) xs⟩], 1⟩ fun v H' =>
    ∃ _ : Unit, True ∧ v = .str (quoteL xs) ∧ H' = ⟨[], 1⟩ := by
  refine .ofC hS (fun _ => True) (fun _ => .str (quoteL xs)) (fun _ => ⟨[], 1⟩) Try.func15 ?_
  conv => whnf
  repeat' (first | (refine Seal.mk ?_) | (refine wpA_seq ?_) | (refine wpA_region rfl ?_) | (refine wpA_block ?_) | (refine wpA_loop ?_) | (refine wpA_draw ?_) | (refine drawA_all ?_) | (refine drawA_fork ?_) | (refine opsA_cons ?_; (conv => whnf)) | (refine opsA_nil ?_; (conv => whnf)) | (refine wpA_cond ?_; (conv => whnf)) | (refine wpA_skip ?_; (conv => whnf)) | (refine wpA_exit ?_; (conv => whnf)) | (refine wpA_ret ?_; (conv => whnf)) | (refine stillA_cons ?_; (conv => whnf)) | (refine stillA_nil ?_; (conv => whnf)) | (refine drawA_done ?_; (conv => whnf)) | (refine drawA_quick rfl ?_; (conv => whnf)) | (refine drawA_read rfl ?_; (conv => whnf)) | (refine drawA_step rfl ?_; (conv => whnf)) | (intro _; (conv => whnf)) | (apply And.intro <;> intro _ <;> (conv => whnf)) | (apply And.intro; (case left => (first | omega | exact rfl | (simp only [inR, IntKind.bits]; omega) | (simp; done) | (simp; omega))); (conv => whnf)) | (refine Exists.intro _ (And.intro rfl ?_); (conv => whnf)) | (refine Exists.intro _ (And.intro (And.intro rfl (And.intro rfl ?leaf)) ?_); (case leaf => (first | exact rfl | omega | (simp; done) | (simp; omega))); (conv => whnf)))
  refine .loop hS (γ := Nat) (fun i => ⟨[(0, .sl (.loc 0) 1 none xs.length), (3, .str hexS), (4, .sl (.loc 1) 1 none (quoteL (xs.take i)).length), (5, .int .i64 i)],
    ⟨[⟨.loc 1, true, .arr (intE .u8) (quoteL (xs.take i))⟩, ⟨.loc 0, false, .arr (intE .u8) xs⟩], 2⟩, 58, 1⟩) (fun i => i ≤ xs.length) (fun i => xs.length - i) 0 (by omega) ?_ ?_
  · repeat' (first | trivial | (apply And.intro; (case left => (first | omega | exact rfl | assumption | exact congrArg (Cont.arr _) (by assumption) | (simp; done) | (simp; omega)))) | ((conv => whnf); apply And.intro; (case left => (first | omega | exact rfl | assumption | exact congrArg (Cont.arr _) (by assumption) | (simp; done) | (simp; omega)))) | ((conv => whnf); trivial))
  · intro i hi
    have hq := quoteL_len (xs.take i)
    have ht : (xs.take i).length ≤ i := by simp; omega
    have hl : hexS.length = 16 := rfl
    have hbi : i < xs.length → 0 ≤ xs.getD ((i : Int)).toNat (intE .u8).d ∧ xs.getD ((i : Int)).toNat (intE .u8).d < 256 := fun h => by
      have := hb (xs.getD i 0) (by simp [h])
      simpa [intE] using this
    conv => whnf
    repeat' (first | (refine Seal.mk ?_) | (refine wpA_seq ?_) | (refine wpA_region rfl ?_) | (refine wpA_block ?_) | (refine wpA_loop ?_) | (refine wpA_draw ?_) | (refine drawA_all ?_) | (refine drawA_fork ?_) | (refine opsA_cons ?_; (conv => whnf)) | (refine opsA_nil ?_; (conv => whnf)) | (refine wpA_cond ?_; (conv => whnf)) | (refine wpA_skip ?_; (conv => whnf)) | (refine wpA_exit ?_; (conv => whnf)) | (refine wpA_ret ?_; (conv => whnf)) | (refine stillA_cons ?_; (conv => whnf)) | (refine stillA_nil ?_; (conv => whnf)) | (refine drawA_done ?_; (conv => whnf)) | (refine drawA_quick rfl ?_; (conv => whnf)) | (refine drawA_read rfl ?_; (conv => whnf)) | (refine drawA_step rfl ?_; (conv => whnf)) | (intro _; (conv => whnf)) | (apply And.intro <;> intro _ <;> (conv => whnf)) | (apply And.intro; (case left => (first | omega | exact rfl | (simp only [inR, IntKind.bits]; omega) | (simp; done) | (simp; omega))); (conv => whnf)) | (refine Exists.intro _ (And.intro rfl ?_); (conv => whnf)) | (refine Exists.intro _ (And.intro (And.intro rfl (And.intro rfl ?leaf)) ?_); (case leaf => (first | exact rfl | omega | (simp; done) | (simp; omega))); (conv => whnf)))
    · have hc := quote_plain (xs := xs) (i := i) (by omega) (by omega)
      have hn := congrArg (fun l => ((List.length l : Nat) : Int)) hc
      simp only [List.length_append] at hn
      refine ⟨i + 1, ⟨by omega, by omega⟩, ?_⟩
      repeat' (first | trivial | (apply And.intro; (case left => (first | omega | exact rfl | assumption | exact congrArg (Cont.arr _) (by assumption) | (simp; done) | (simp; omega)))) | ((conv => whnf); apply And.intro; (case left => (first | omega | exact rfl | assumption | exact congrArg (Cont.arr _) (by assumption) | (simp; done) | (simp; omega)))) | ((conv => whnf); trivial))
    · have hbi := hbi (by omega)
      have hc := quote_esc (xs := xs) (i := i) (by omega) (by omega)
      have hn := congrArg (fun l => ((List.length l : Nat) : Int)) hc
      simp only [List.length_append] at hn
      refine .draw hS (.quick 0 (.quick 1 (.quick 2 (.quick 3 (.quick 4 (.quick 8 (.quick 9 (.quick 10 (.quick 11 (.read 5 (.quick 6 (.quick 7 (.read 12 (.quick 13 (.quick 14 (.all (.step 15 (.all (.step 16 (.quick 17 .done)))))))))))))))))))) [15, 16] (by kernel_rfl) rfl ?_
      repeat' (first | (refine Seal.mk ?_) | (refine wpA_seq ?_) | (refine wpA_region rfl ?_) | (refine wpA_block ?_) | (refine wpA_loop ?_) | (refine wpA_draw ?_) | (refine drawA_all ?_) | (refine drawA_fork ?_) | (refine opsA_cons ?_; (conv => whnf)) | (refine opsA_nil ?_; (conv => whnf)) | (refine wpA_cond ?_; (conv => whnf)) | (refine wpA_skip ?_; (conv => whnf)) | (refine wpA_exit ?_; (conv => whnf)) | (refine wpA_ret ?_; (conv => whnf)) | (refine stillA_cons ?_; (conv => whnf)) | (refine stillA_nil ?_; (conv => whnf)) | (refine drawA_done ?_; (conv => whnf)) | (refine drawA_quick rfl ?_; (conv => whnf)) | (refine drawA_read rfl ?_; (conv => whnf)) | (refine drawA_step rfl ?_; (conv => whnf)) | (intro _; (conv => whnf)) | (apply And.intro <;> intro _ <;> (conv => whnf)) | (apply And.intro; (case left => (first | omega | exact rfl | (simp only [inR, IntKind.bits]; omega) | (simp; done) | (simp; omega))); (conv => whnf)) | (refine Exists.intro _ (And.intro rfl ?_); (conv => whnf)) | (refine Exists.intro _ (And.intro (And.intro rfl (And.intro rfl ?leaf)) ?_); (case leaf => (first | exact rfl | omega | (simp; done) | (simp; omega))); (conv => whnf)))
      refine ⟨i + 1, ⟨by omega, by omega⟩, ?_⟩
      repeat' (first | trivial | (apply And.intro; (case left => (first | omega | exact rfl | assumption | exact congrArg (Cont.arr _) (by assumption) | (simp; done) | (simp; omega)))) | ((conv => whnf); apply And.intro; (case left => (first | omega | exact rfl | assumption | exact congrArg (Cont.arr _) (by assumption) | (simp; done) | (simp; omega)))) | ((conv => whnf); trivial))
    · have hbi := hbi (by omega)
      have hc := quote_esc (xs := xs) (i := i) (by omega) (by omega)
      have hn := congrArg (fun l => ((List.length l : Nat) : Int)) hc
      simp only [List.length_append] at hn
      refine .draw hS (.quick 0 (.quick 1 (.quick 2 (.quick 3 (.quick 4 (.quick 8 (.quick 9 (.quick 10 (.quick 11 (.read 5 (.quick 6 (.quick 7 (.read 12 (.quick 13 (.quick 14 (.all (.step 15 (.all (.step 16 (.quick 17 .done)))))))))))))))))))) [15, 16] (by kernel_rfl) rfl ?_
      repeat' (first | (refine Seal.mk ?_) | (refine wpA_seq ?_) | (refine wpA_region rfl ?_) | (refine wpA_block ?_) | (refine wpA_loop ?_) | (refine wpA_draw ?_) | (refine drawA_all ?_) | (refine drawA_fork ?_) | (refine opsA_cons ?_; (conv => whnf)) | (refine opsA_nil ?_; (conv => whnf)) | (refine wpA_cond ?_; (conv => whnf)) | (refine wpA_skip ?_; (conv => whnf)) | (refine wpA_exit ?_; (conv => whnf)) | (refine wpA_ret ?_; (conv => whnf)) | (refine stillA_cons ?_; (conv => whnf)) | (refine stillA_nil ?_; (conv => whnf)) | (refine drawA_done ?_; (conv => whnf)) | (refine drawA_quick rfl ?_; (conv => whnf)) | (refine drawA_read rfl ?_; (conv => whnf)) | (refine drawA_step rfl ?_; (conv => whnf)) | (intro _; (conv => whnf)) | (apply And.intro <;> intro _ <;> (conv => whnf)) | (apply And.intro; (case left => (first | omega | exact rfl | (simp only [inR, IntKind.bits]; omega) | (simp; done) | (simp; omega))); (conv => whnf)) | (refine Exists.intro _ (And.intro rfl ?_); (conv => whnf)) | (refine Exists.intro _ (And.intro (And.intro rfl (And.intro rfl ?leaf)) ?_); (case leaf => (first | exact rfl | omega | (simp; done) | (simp; omega))); (conv => whnf)))
      refine ⟨i + 1, ⟨by omega, by omega⟩, ?_⟩
      repeat' (first | trivial | (apply And.intro; (case left => (first | omega | exact rfl | assumption | exact congrArg (Cont.arr _) (by assumption) | (simp; done) | (simp; omega)))) | ((conv => whnf); apply And.intro; (case left => (first | omega | exact rfl | assumption | exact congrArg (Cont.arr _) (by assumption) | (simp; done) | (simp; omega)))) | ((conv => whnf); trivial))
    · have hbi := hbi (by omega)
      have hc := quote_esc (xs := xs) (i := i) (by omega) (by omega)
      have hn := congrArg (fun l => ((List.length l : Nat) : Int)) hc
      simp only [List.length_append] at hn
      refine .draw hS (.quick 0 (.quick 1 (.quick 2 (.quick 3 (.quick 4 (.quick 8 (.quick 9 (.quick 10 (.quick 11 (.read 5 (.quick 6 (.quick 7 (.read 12 (.quick 13 (.quick 14 (.all (.step 15 (.all (.step 16 (.quick 17 .done)))))))))))))))))))) [15, 16] (by kernel_rfl) rfl ?_
      repeat' (first | (refine Seal.mk ?_) | (refine wpA_seq ?_) | (refine wpA_region rfl ?_) | (refine wpA_block ?_) | (refine wpA_loop ?_) | (refine wpA_draw ?_) | (refine drawA_all ?_) | (refine drawA_fork ?_) | (refine opsA_cons ?_; (conv => whnf)) | (refine opsA_nil ?_; (conv => whnf)) | (refine wpA_cond ?_; (conv => whnf)) | (refine wpA_skip ?_; (conv => whnf)) | (refine wpA_exit ?_; (conv => whnf)) | (refine wpA_ret ?_; (conv => whnf)) | (refine stillA_cons ?_; (conv => whnf)) | (refine stillA_nil ?_; (conv => whnf)) | (refine drawA_done ?_; (conv => whnf)) | (refine drawA_quick rfl ?_; (conv => whnf)) | (refine drawA_read rfl ?_; (conv => whnf)) | (refine drawA_step rfl ?_; (conv => whnf)) | (intro _; (conv => whnf)) | (apply And.intro <;> intro _ <;> (conv => whnf)) | (apply And.intro; (case left => (first | omega | exact rfl | (simp only [inR, IntKind.bits]; omega) | (simp; done) | (simp; omega))); (conv => whnf)) | (refine Exists.intro _ (And.intro rfl ?_); (conv => whnf)) | (refine Exists.intro _ (And.intro (And.intro rfl (And.intro rfl ?leaf)) ?_); (case leaf => (first | exact rfl | omega | (simp; done) | (simp; omega))); (conv => whnf)))
      refine ⟨i + 1, ⟨by omega, by omega⟩, ?_⟩
      repeat' (first | trivial | (apply And.intro; (case left => (first | omega | exact rfl | assumption | exact congrArg (Cont.arr _) (by assumption) | (simp; done) | (simp; omega)))) | ((conv => whnf); apply And.intro; (case left => (first | omega | exact rfl | assumption | exact congrArg (Cont.arr _) (by assumption) | (simp; done) | (simp; omega)))) | ((conv => whnf); trivial))
    · have hi : i = xs.length := by omega
      subst hi
      simp only [List.take_length] at *
      refine ⟨intE .u8, ⟨rfl, fun _ => rfl⟩, ?_⟩
      conv => whnf
      repeat' (first | (refine Seal.mk ?_) | (refine wpA_seq ?_) | (refine wpA_region rfl ?_) | (refine wpA_block ?_) | (refine wpA_loop ?_) | (refine wpA_draw ?_) | (refine drawA_all ?_) | (refine drawA_fork ?_) | (refine opsA_cons ?_; (conv => whnf)) | (refine opsA_nil ?_; (conv => whnf)) | (refine wpA_cond ?_; (conv => whnf)) | (refine wpA_skip ?_; (conv => whnf)) | (refine wpA_exit ?_; (conv => whnf)) | (refine wpA_ret ?_; (conv => whnf)) | (refine stillA_cons ?_; (conv => whnf)) | (refine stillA_nil ?_; (conv => whnf)) | (refine drawA_done ?_; (conv => whnf)) | (refine drawA_quick rfl ?_; (conv => whnf)) | (refine drawA_read rfl ?_; (conv => whnf)) | (refine drawA_step rfl ?_; (conv => whnf)) | (intro _; (conv => whnf)) | (apply And.intro <;> intro _ <;> (conv => whnf)) | (apply And.intro; (case left => (first | omega | exact rfl | (simp only [inR, IntKind.bits]; omega) | (simp; done) | (simp; omega))); (conv => whnf)) | (refine Exists.intro _ (And.intro rfl ?_); (conv => whnf)) | (refine Exists.intro _ (And.intro (And.intro rfl (And.intro rfl ?leaf)) ?_); (case leaf => (first | exact rfl | omega | (simp; done) | (simp; omega))); (conv => whnf)))
      have ht : List.take (((quoteL xs).length : Int)).toNat (quoteL xs) = quoteL xs := by simp
      refine ⟨by rw [ht]; exact quoteL_byte hb, ?_⟩
      conv => whnf
      repeat' (first | (refine Seal.mk ?_) | (refine wpA_seq ?_) | (refine wpA_region rfl ?_) | (refine wpA_block ?_) | (refine wpA_loop ?_) | (refine wpA_draw ?_) | (refine drawA_all ?_) | (refine drawA_fork ?_) | (refine opsA_cons ?_; (conv => whnf)) | (refine opsA_nil ?_; (conv => whnf)) | (refine wpA_cond ?_; (conv => whnf)) | (refine wpA_skip ?_; (conv => whnf)) | (refine wpA_exit ?_; (conv => whnf)) | (refine wpA_ret ?_; (conv => whnf)) | (refine stillA_cons ?_; (conv => whnf)) | (refine stillA_nil ?_; (conv => whnf)) | (refine drawA_done ?_; (conv => whnf)) | (refine drawA_quick rfl ?_; (conv => whnf)) | (refine drawA_read rfl ?_; (conv => whnf)) | (refine drawA_step rfl ?_; (conv => whnf)) | (intro _; (conv => whnf)) | (apply And.intro <;> intro _ <;> (conv => whnf)) | (apply And.intro; (case left => (first | omega | exact rfl | (simp only [inR, IntKind.bits]; omega) | (simp; done) | (simp; omega))); (conv => whnf)) | (refine Exists.intro _ (And.intro rfl ?_); (conv => whnf)) | (refine Exists.intro _ (And.intro (And.intro rfl (And.intro rfl ?leaf)) ?_); (case leaf => (first | exact rfl | omega | (simp; done) | (simp; omega))); (conv => whnf)))
      refine ⟨(), trivial, ?_⟩
      repeat' (first | trivial | (apply And.intro; (case left => (first | omega | exact rfl | assumption | exact congrArg (Cont.arr _) (by assumption) | (simp; done) | (simp; omega)))) | ((conv => whnf); apply And.intro; (case left => (first | omega | exact rfl | assumption | exact congrArg (Cont.arr _) (by assumption) | (simp; done) | (simp; omega)))) | ((conv => whnf); trivial))
end Go.Quote
