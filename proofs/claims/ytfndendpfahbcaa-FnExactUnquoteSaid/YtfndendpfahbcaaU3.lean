/- The walks of the law on unquoting: the reference's function. -/
import Derived.Test.YtfndendpfahbcaaU2
set_option linter.unusedSimpArgs false
set_option linter.unusedVariables false
namespace Go.Unquote
open Go Go.Vm Go.RowKit Go.Proofs
attribute [local irreducible] wpA opsA stillA drawA

def unqL (xs : List Int) : List Int := (unq xs).getD []
def unqOk (xs : List Int) : Prop := unq xs ≠ none
theorem none_unq {xs : List Int} (h : unq xs = none) : unqL xs = [] ∧ ¬ unqOk xs := by simp [unqL, unqOk, h]
theorem some_unq {xs l : List Int} (h : unq xs = some l) : unqL xs = l ∧ unqOk xs := by simp [unqL, unqOk, h]
theorem unqL_len (xs : List Int) : (unqL xs).length ≤ xs.length := by
  have key : ∀ n, ∀ xs : List Int, xs.length ≤ n → ∀ l, unq xs = some l → l.length ≤ xs.length := by
    intro n
    induction n with
    | zero => intro xs hn l h; match xs, hn with | [], _ => (simp [unq] at h; subst h; simp)
    | succ n ih =>
      intro xs hn l h
      match xs, hn with
      | [], _ => simp [unq] at h; subst h; simp
      | c :: r, hn =>
        by_cases hc : c = 37
        · subst hc
          match r, hn with
          | [], _ => rw [unq_short (by simp)] at h; cases h
          | [a], _ => rw [unq_short (by simp)] at h; cases h
          | a :: b :: r, hn =>
            rw [unq_hex] at h
            split at h
            · cases h
            · cases hu : unq r with
              | none => rw [hu] at h; cases h
              | some q =>
                rw [hu] at h
                simp at h; subst h
                have := ih r (by simp at hn; omega) q hu
                simp; omega
        · by_cases h1 : 33 ≤ c ∧ c ≤ 126
          · rw [unq_plain hc h1] at h
            cases hu : unq r with
            | none => rw [hu] at h; cases h
            | some q =>
              rw [hu] at h
              simp at h; subst h
              have := ih r (by simp at hn; omega) q hu
              simp; omega
          · rw [unq_bad hc h1] at h; cases h
  unfold unqL
  cases h : unq xs with
  | none => simp
  | some l => exact key _ xs (Nat.le_refl _) l h

set_option maxRecDepth 20000 in
theorem l16Unquote (xs : List Int) (hx : xs.length ≤ 1048576) (hb : ∀ b ∈ xs, 0 ≤ b ∧ b < 256) : CallA S 17 [.str xs] ⟨[], 0⟩ fun v H' =>
    ∃ _ : Unit, True ∧ v = .tup [.sl (.loc 0) 1 none (unqL xs).length, .prop (unqOk xs)] ∧ H' = ⟨[⟨.loc 0, true, .arr (intE .u8) (unqL xs)⟩], 1⟩ := by
  refine .ofC hS (fun _ => True) (fun _ => .tup [.sl (.loc 0) 1 none (unqL xs).length, .prop (unqOk xs)]) (fun _ => ⟨[⟨.loc 0, true, .arr (intE .u8) (unqL xs)⟩], 1⟩) Try.func17 ?_
  have hg : ∀ k : Nat, 0 ≤ xs.getD k 0 ∧ xs.getD k 0 < 256 := fun k => by
    by_cases h : k < xs.length
    · exact hb _ (by simp [h])
    · simp [show xs.length ≤ k by omega]
  conv => whnf
  repeat' (first | (refine Seal.mk ?_) | (refine wpA_seq ?_) | (refine wpA_region rfl ?_) | (refine wpA_block ?_) | (refine wpA_loop ?_) | (refine wpA_draw ?_) | (refine drawA_all ?_) | (refine drawA_fork ?_) | (refine opsA_cons ?_; (conv => whnf)) | (refine opsA_nil ?_; (conv => whnf)) | (refine wpA_cond ?_; (conv => whnf)) | (refine wpA_skip ?_; (conv => whnf)) | (refine wpA_exit ?_; (conv => whnf)) | (refine wpA_ret ?_; (conv => whnf)) | (refine stillA_cons ?_; (conv => whnf)) | (refine stillA_nil ?_; (conv => whnf)) | (refine drawA_done ?_; (conv => whnf)) | (refine drawA_quick rfl ?_; (conv => whnf)) | (refine drawA_read rfl ?_; (conv => whnf)) | (refine drawA_step rfl ?_; (conv => whnf)) | (intro _; (conv => whnf)) | (apply And.intro <;> intro _ <;> (conv => whnf)) | (apply And.intro; (case left => (first | omega | exact rfl | with_reducible assumption | (simp only [inR, IntKind.bits, Int.reduceToNat, Int.reducePow]; omega) | (simp; done) | (simp; omega))); (conv => whnf)) | (apply Or.inl; apply And.intro; (case left => (first | omega | exact rfl | with_reducible assumption | (simp only [inR, IntKind.bits, Int.reduceToNat, Int.reducePow]; omega) | (simp; done) | (simp; omega))); (conv => whnf)) | (apply Or.inr; (conv => whnf)) | (refine Exists.intro _ (And.intro rfl ?_); (conv => whnf)) | (refine Exists.intro _ (And.intro (And.intro rfl (And.intro rfl ?leaf)) ?_); (case leaf => (first | exact rfl | omega | (simp; done) | (simp; omega))); (conv => whnf)))
  refine .loop hS (γ := Nat × List Int) (fun p => ⟨[(0, .str xs), (4, .sl (.loc 0) 1 none p.2.length), (5, .int .i64 p.1)],
      ⟨[⟨.loc 0, true, .arr (intE .u8) p.2⟩], 1⟩, 73, 0⟩) (fun p => Read xs p.1 p.2) (fun p => xs.length - p.1) (0, []) (Read.zero xs) ?_ ?_
  · repeat' (first | trivial | (apply And.intro; (case left => (first | omega | exact rfl | with_reducible assumption | exact congrArg (Cont.arr _) (by with_reducible assumption) | exact ⟨5, rfl⟩ |  (simp; done) | (simp; omega)))) | ((conv => whnf); apply And.intro; (case left => (first | omega | exact rfl | with_reducible assumption | exact congrArg (Cont.arr _) (by with_reducible assumption) | exact ⟨5, rfl⟩ |  (simp; done) | (simp; omega)))) | ((conv => whnf); trivial))
  · intro g hr
    have hil := hr.1
    have hll := hr.2.1
    have hg0 := hg (g.1 : Int).toNat
    have q1 := hexV_lt (xs.getD ((g.1 : Int) + 1).toNat 0)
    have q2 := hexV_lt (xs.getD ((g.1 : Int) + 2).toNat 0)
    repeat' (first | (refine Seal.mk ?_) | (refine wpA_seq ?_) | (refine wpA_region rfl ?_) | (refine wpA_block ?_) | (refine wpA_loop ?_) | (refine wpA_draw ?_) | (refine drawA_all ?_) | (refine drawA_fork ?_) | (refine opsA_cons ?_; (conv => whnf)) | (refine opsA_nil ?_; (conv => whnf)) | (refine wpA_cond ?_; (conv => whnf)) | (refine wpA_skip ?_; (conv => whnf)) | (refine wpA_exit ?_; (conv => whnf)) | (refine wpA_ret ?_; (conv => whnf)) | (refine stillA_cons ?_; (conv => whnf)) | (refine stillA_nil ?_; (conv => whnf)) | (refine drawA_done ?_; (conv => whnf)) | (refine drawA_quick rfl ?_; (conv => whnf)) | (refine drawA_read rfl ?_; (conv => whnf)) | (refine drawA_step rfl ?_; (conv => whnf)) | (apply CallA.liftC hS (l16Hex _ (hg _)); (conv => whnf)) | (intro _; (conv => whnf)) | (apply And.intro <;> intro _ <;> (conv => whnf)) | (apply And.intro; (case left => (first | omega | exact rfl | with_reducible assumption | (simp only [inR, IntKind.bits, Int.reduceToNat, Int.reducePow]; omega) | (simp; done) | (simp; omega))); (conv => whnf)) | (apply Or.inl; apply And.intro; (case left => (first | omega | exact rfl | with_reducible assumption | (simp only [inR, IntKind.bits, Int.reduceToNat, Int.reducePow]; omega) | (simp; done) | (simp; omega))); (conv => whnf)) | (apply Or.inr; (conv => whnf)) | (refine Exists.intro _ (And.intro rfl ?_); (conv => whnf)) | (refine Exists.intro _ (And.intro (And.intro rfl (And.intro rfl ?leaf)) ?_); (case leaf => (first | exact rfl | omega | (simp; done) | (simp; omega))); (conv => whnf)))
    · (obtain ⟨h1, h2⟩ := none_unq (hr.badZ (by omega) (by omega)); simp only [h1]; (refine ⟨(), trivial, ?_⟩; repeat' (first | trivial | (apply And.intro; (case left => (first | omega | exact rfl | with_reducible assumption | exact congrArg (Cont.arr _) (by with_reducible assumption) | exact ⟨5, rfl⟩ |  (simp; done) | (simp; omega)))) | ((conv => whnf); apply And.intro; (case left => (first | omega | exact rfl | with_reducible assumption | exact congrArg (Cont.arr _) (by with_reducible assumption) | exact ⟨5, rfl⟩ |  (simp; done) | (simp; omega)))) | ((conv => whnf); trivial))))
    · (obtain ⟨h1, h2⟩ := none_unq (hr.badZ (by omega) (by omega)); simp only [h1]; (refine ⟨(), trivial, ?_⟩; repeat' (first | trivial | (apply And.intro; (case left => (first | omega | exact rfl | with_reducible assumption | exact congrArg (Cont.arr _) (by with_reducible assumption) | exact ⟨5, rfl⟩ |  (simp; done) | (simp; omega)))) | ((conv => whnf); apply And.intro; (case left => (first | omega | exact rfl | with_reducible assumption | exact congrArg (Cont.arr _) (by with_reducible assumption) | exact ⟨5, rfl⟩ |  (simp; done) | (simp; omega)))) | ((conv => whnf); trivial))))
    · refine ⟨(g.1 + 1, g.2 ++ [xs.getD (g.1 : Int).toNat 0]), ⟨hr.plainZ (by omega) (by omega) (by omega) (by omega), by omega⟩, ?_⟩
      repeat' (first | trivial | (apply And.intro; (case left => (first | omega | exact rfl | with_reducible assumption | exact congrArg (Cont.arr _) (by with_reducible assumption) | exact ⟨5, rfl⟩ |  (simp; done) | (simp; omega)))) | ((conv => whnf); apply And.intro; (case left => (first | omega | exact rfl | with_reducible assumption | exact congrArg (Cont.arr _) (by with_reducible assumption) | exact ⟨5, rfl⟩ |  (simp; done) | (simp; omega)))) | ((conv => whnf); trivial))
    · (obtain ⟨h1, h2⟩ := none_unq (hr.badZ (by omega) (by omega)); simp only [h1]; (refine ⟨(), trivial, ?_⟩; repeat' (first | trivial | (apply And.intro; (case left => (first | omega | exact rfl | with_reducible assumption | exact congrArg (Cont.arr _) (by with_reducible assumption) | exact ⟨5, rfl⟩ |  (simp; done) | (simp; omega)))) | ((conv => whnf); apply And.intro; (case left => (first | omega | exact rfl | with_reducible assumption | exact congrArg (Cont.arr _) (by with_reducible assumption) | exact ⟨5, rfl⟩ |  (simp; done) | (simp; omega)))) | ((conv => whnf); trivial))))
    · (obtain ⟨h1, h2⟩ := none_unq (hr.badZ (by omega) (by omega)); simp only [h1]; (refine ⟨(), trivial, ?_⟩; repeat' (first | trivial | (apply And.intro; (case left => (first | omega | exact rfl | with_reducible assumption | exact congrArg (Cont.arr _) (by with_reducible assumption) | exact ⟨5, rfl⟩ |  (simp; done) | (simp; omega)))) | ((conv => whnf); apply And.intro; (case left => (first | omega | exact rfl | with_reducible assumption | exact congrArg (Cont.arr _) (by with_reducible assumption) | exact ⟨5, rfl⟩ |  (simp; done) | (simp; omega)))) | ((conv => whnf); trivial))))
    · (obtain ⟨h1, h2⟩ := none_unq (hr.badZ (by omega) (by omega)); simp only [h1]; (refine ⟨(), trivial, ?_⟩; repeat' (first | trivial | (apply And.intro; (case left => (first | omega | exact rfl | with_reducible assumption | exact congrArg (Cont.arr _) (by with_reducible assumption) | exact ⟨5, rfl⟩ |  (simp; done) | (simp; omega)))) | ((conv => whnf); apply And.intro; (case left => (first | omega | exact rfl | with_reducible assumption | exact congrArg (Cont.arr _) (by with_reducible assumption) | exact ⟨5, rfl⟩ |  (simp; done) | (simp; omega)))) | ((conv => whnf); trivial))))
    · have hd := hr.hexZ (by omega) (by omega) (by omega) (by omega)
      refine .draw hS (.quick 0 (.quick 1 (.quick 2 (.quick 3 (.quick 4 (.quick 7 (.quick 8 (.quick 9 (.quick 10 (.all (.step 5 (.quick 6 (.all (.step 11 (.quick 12 (.all (.step 13 (.all (.step 14 (.all (.step 15 (.quick 16 .done)))))))))))))))))))))) [5, 11, 13, 14, 15] (by kernel_rfl) rfl ?_
      repeat' (first | (refine Seal.mk ?_) | (refine wpA_seq ?_) | (refine wpA_region rfl ?_) | (refine wpA_block ?_) | (refine wpA_loop ?_) | (refine wpA_draw ?_) | (refine drawA_all ?_) | (refine drawA_fork ?_) | (refine opsA_cons ?_; (conv => whnf)) | (refine opsA_nil ?_; (conv => whnf)) | (refine wpA_cond ?_; (conv => whnf)) | (refine wpA_skip ?_; (conv => whnf)) | (refine wpA_exit ?_; (conv => whnf)) | (refine wpA_ret ?_; (conv => whnf)) | (refine stillA_cons ?_; (conv => whnf)) | (refine stillA_nil ?_; (conv => whnf)) | (refine drawA_done ?_; (conv => whnf)) | (refine drawA_quick rfl ?_; (conv => whnf)) | (refine drawA_read rfl ?_; (conv => whnf)) | (refine drawA_step rfl ?_; (conv => whnf)) | (apply CallA.liftC hS (l16Hex _ (hg _)); (conv => whnf)) | (intro _; (conv => whnf)) | (apply And.intro <;> intro _ <;> (conv => whnf)) | (apply And.intro; (case left => (first | omega | exact rfl | with_reducible assumption | (simp only [inR, IntKind.bits, Int.reduceToNat, Int.reducePow]; omega) | (simp; done) | (simp; omega))); (conv => whnf)) | (apply Or.inl; apply And.intro; (case left => (first | omega | exact rfl | with_reducible assumption | (simp only [inR, IntKind.bits, Int.reduceToNat, Int.reducePow]; omega) | (simp; done) | (simp; omega))); (conv => whnf)) | (apply Or.inr; (conv => whnf)) | (refine Exists.intro _ (And.intro rfl ?_); (conv => whnf)) | (refine Exists.intro _ (And.intro (And.intro rfl (And.intro rfl ?leaf)) ?_); (case leaf => (first | exact rfl | omega | (simp; done) | (simp; omega))); (conv => whnf)))
      refine ⟨(g.1 + 3, g.2 ++ [16 * hexV (xs.getD ((g.1 : Int) + 1).toNat 0) + hexV (xs.getD ((g.1 : Int) + 2).toNat 0)]), ⟨hd, by omega⟩, ?_⟩
      repeat' (first | trivial | (apply And.intro; (case left => (first | omega | exact rfl | with_reducible assumption | exact congrArg (Cont.arr _) (by with_reducible assumption) | exact ⟨5, rfl⟩ |  (simp; done) | (simp; omega)))) | ((conv => whnf); apply And.intro; (case left => (first | omega | exact rfl | with_reducible assumption | exact congrArg (Cont.arr _) (by with_reducible assumption) | exact ⟨5, rfl⟩ |  (simp; done) | (simp; omega)))) | ((conv => whnf); trivial))
    · obtain ⟨h1, h2⟩ := some_unq (hr.done (by omega))
      simp only [h1]
      (refine ⟨(), trivial, ?_⟩; repeat' (first | trivial | (apply And.intro; (case left => (first | omega | exact rfl | with_reducible assumption | exact congrArg (Cont.arr _) (by with_reducible assumption) | exact ⟨5, rfl⟩ |  (simp; done) | (simp; omega)))) | ((conv => whnf); apply And.intro; (case left => (first | omega | exact rfl | with_reducible assumption | exact congrArg (Cont.arr _) (by with_reducible assumption) | exact ⟨5, rfl⟩ |  (simp; done) | (simp; omega)))) | ((conv => whnf); trivial)))

set_option maxRecDepth 20000 in
theorem specUnquote (xs : List Int) (hx : xs.length ≤ 1048576) (hb : ∀ b ∈ xs, 0 ≤ b ∧ b < 256) : CallA S 10 [.str xs] ⟨[], 0⟩ fun v H' =>
    ∃ _ : Unit, True ∧ v = .agg [.int .i64 (resCode xs), .sl (.loc 0) 1 none (resBytes xs).length] ∧ H' = ⟨[⟨.loc 0, true, .arr (intE .u8) (resBytes xs)⟩], 1⟩ := by
  refine .ofC hS (fun _ => True) (fun _ => .agg [.int .i64 (resCode xs), .sl (.loc 0) 1 none (resBytes xs).length]) (fun _ => ⟨[⟨.loc 0, true, .arr (intE .u8) (resBytes xs)⟩], 1⟩) Try.func10 ?_
  have hl := unqL_len xs
  conv => whnf
  repeat' (first | (refine Seal.mk ?_) | (refine wpA_seq ?_) | (refine wpA_region rfl ?_) | (refine wpA_block ?_) | (refine wpA_loop ?_) | (refine wpA_draw ?_) | (refine drawA_all ?_) | (refine drawA_fork ?_) | (refine opsA_cons ?_; (conv => whnf)) | (refine opsA_nil ?_; (conv => whnf)) | (refine wpA_cond ?_; (conv => whnf)) | (refine wpA_skip ?_; (conv => whnf)) | (refine wpA_exit ?_; (conv => whnf)) | (refine wpA_ret ?_; (conv => whnf)) | (refine stillA_cons ?_; (conv => whnf)) | (refine stillA_nil ?_; (conv => whnf)) | (refine drawA_done ?_; (conv => whnf)) | (refine drawA_quick rfl ?_; (conv => whnf)) | (refine drawA_read rfl ?_; (conv => whnf)) | (refine drawA_step rfl ?_; (conv => whnf)) | (apply CallA.liftC hS (l16Unquote xs hx hb); (conv => whnf)) | (intro _; (conv => whnf)) | (apply And.intro <;> intro _ <;> (conv => whnf)) | (apply And.intro; (case left => (first | omega | exact rfl | with_reducible assumption | (simp only [inR, IntKind.bits, Int.reduceToNat, Int.reducePow]; omega) | (simp; done) | (simp; omega))); (conv => whnf)) | (apply Or.inl; apply And.intro; (case left => (first | omega | exact rfl | with_reducible assumption | (simp only [inR, IntKind.bits, Int.reduceToNat, Int.reducePow]; omega) | (simp; done) | (simp; omega))); (conv => whnf)) | (apply Or.inr; (conv => whnf)) | (refine Exists.intro _ (And.intro rfl ?_); (conv => whnf)) | (refine Exists.intro _ (And.intro (And.intro rfl (And.intro rfl ?leaf)) ?_); (case leaf => (first | exact rfl | omega | (simp; done) | (simp; omega))); (conv => whnf)))
  · obtain ⟨h1, h2⟩ := res_many (xs := xs) (by omega)
    simp only [h2]
    (refine ⟨(), trivial, ?_⟩; repeat' (first | trivial | (apply And.intro; (case left => (first | omega | exact rfl | with_reducible assumption | exact congrArg (Cont.arr _) (by with_reducible assumption) | exact ⟨5, rfl⟩ |  (simp; done) | (simp; omega)))) | ((conv => whnf); apply And.intro; (case left => (first | omega | exact rfl | with_reducible assumption | exact congrArg (Cont.arr _) (by with_reducible assumption) | exact ⟨5, rfl⟩ |  (simp; done) | (simp; omega)))) | ((conv => whnf); trivial)))
  · obtain ⟨h1, h2⟩ := res_bad (xs := xs) (by omega) (Classical.not_not.1 ‹_›)
    simp only [h2]
    (refine ⟨(), trivial, ?_⟩; repeat' (first | trivial | (apply And.intro; (case left => (first | omega | exact rfl | with_reducible assumption | exact congrArg (Cont.arr _) (by with_reducible assumption) | exact ⟨5, rfl⟩ |  (simp; done) | (simp; omega)))) | ((conv => whnf); apply And.intro; (case left => (first | omega | exact rfl | with_reducible assumption | exact congrArg (Cont.arr _) (by with_reducible assumption) | exact ⟨5, rfl⟩ |  (simp; done) | (simp; omega)))) | ((conv => whnf); trivial)))
  · have ho := ‹¬¬unqOk xs›
    cases hu : unq xs with
    | none => exact absurd (none_unq hu).2 ho
    | some l =>
      obtain ⟨h1, h2⟩ := res_done (xs := xs) (by omega) hu
      simp only [(some_unq hu).1, h2]
      (refine ⟨(), trivial, ?_⟩; repeat' (first | trivial | (apply And.intro; (case left => (first | omega | exact rfl | with_reducible assumption | exact congrArg (Cont.arr _) (by with_reducible assumption) | exact ⟨5, rfl⟩ |  (simp; done) | (simp; omega)))) | ((conv => whnf); apply And.intro; (case left => (first | omega | exact rfl | with_reducible assumption | exact congrArg (Cont.arr _) (by with_reducible assumption) | exact ⟨5, rfl⟩ |  (simp; done) | (simp; omega)))) | ((conv => whnf); trivial)))
end Go.Unquote
