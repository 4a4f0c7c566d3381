/- Reading a line: the reference's answer, and what is told where it cannot be. -/
import Derived.Test.YtcimmkokkmbhpaaGreatN4
set_option linter.unusedSimpArgs false
set_option linter.unusedVariables false
set_option linter.constructorNameAsVariable false
namespace Go.Mu
open Go Go.Vm Go.RowKit Go.Proofs
attribute [local irreducible] wpA opsA stillA drawA drawS
set_option maxRecDepth 20000
set_option maxHeartbeats 4000000
def lin0 : Lin := ⟨[], [], false, 0⟩
theorem readLineBad (w : Wy) (s : Lin) (h : LinB s) (n : Int) (hw : wayF w = 0) (hl : linF s = 0) (hn : ¬ (1 ≤ n ∧ n ≤ 99)) : CallA S 112 [.agg (wyC w), .agg (linC (.loc 0) (.loc 1) s), .int .i64 n] ⟨linH false (.loc 0) (.loc 1) s [], 2⟩ (Ret1 (.agg [.int .i64 3, .ff, .nils, .nils, .nils, .nils, .ff, .int .i64 0]) ⟨[], 2⟩) := by
  have h' := h
  obtain ⟨h0, h1, h2⟩ := h'
  have e : firstNZ [wayF w, linF s, 3] = 3 := by simp [firstNZ, *]
  refine .ofC hS _ _ _ Tryz.func112 ?_
  conv => whnf
  repeat' (first | (refine Seal.mk ?_) | (refine Wp.step hS ?_; (conv => whnf); (fail_if_success show False)) | (refine opsA_step ?_; (conv => whnf)) | (refine drawS_go ?_; (conv => whnf)) | (intro _; omega) | (intro _; (conv => whnf)) | (apply And.intro <;> intro _ <;> first | omega | (conv => whnf)) | (refine And.intro (Seal.mk ?_) (Seal.mk ?_)) | (apply And.intro; (case left => first | exact leaf | exact PreC.of_eq rfl | rfl | exact Bool.false_ne_true | exact ⟨rfl, rfl⟩); (conv => whnf)) | (apply Or.inl; apply And.intro; (case left => first | exact leaf | exact PreC.of_eq rfl | rfl | exact Bool.false_ne_true | exact ⟨rfl, rfl⟩); (conv => whnf)) | (apply Or.inr; (conv => whnf)) | (refine Exists.intro _ (And.intro rfl ?_); (conv => whnf)) | (refine Exists.intro _ (And.intro (And.intro rfl rfl) ?_); (conv => whnf)) | (refine Exists.intro (intE .u8) (And.intro ⟨rfl, fun _ => rfl⟩ ?_); (conv => whnf)) | (refine Exists.intro _ (And.intro (And.intro rfl (And.intro rfl ?leaf)) ?_); (case leaf => first | exact leaf | exact PreC.of_eq rfl | rfl | exact Bool.false_ne_true | exact ⟨rfl, rfl⟩); (conv => whnf)) | with_reducible assumption | exact leaf | fail)
  refine Wp.see ⟨[(2, .int .i64 n), (3, .ptr (.loc 2) 7 none 0), (4, .ptr (.loc 3) 4 none 0), (6, .ptr (.loc 4) 8 none 0)], ⟨⟨.loc 2, false, .raw (wyC w)⟩ :: ⟨.loc 3, false, .raw (linC (.loc 0) (.loc 1) s)⟩ :: ⟨.loc 4, true, .raw [.int .i64 0, .ff, .nils, .nils, .nils, .nils, .ff, .int .i64 0]⟩ :: linH false (.loc 0) (.loc 1) s [], 5⟩, 62, 2⟩ ?_ ?_
  · ((try dsimp only); ((try refine FitsT.now hS ?_); repeat' (first | exact True.intro | (apply And.intro; (case left => first | exact leaf | exact PreC.of_eq rfl | rfl | exact Bool.false_ne_true | exact ⟨rfl, rfl⟩)) | ((conv => whnf); apply And.intro; (case left => first | exact leaf | exact PreC.of_eq rfl | rfl | exact Bool.false_ne_true | exact ⟨rfl, rfl⟩)) | ((conv => whnf); exact True.intro))))
  repeat' (first | (refine Seal.mk ?_) | (refine Wp.step hS ?_; (conv => whnf); (fail_if_success show False)) | (refine opsA_step ?_; (conv => whnf)) | (refine drawS_go ?_; (conv => whnf)) | (refine Wp.drawS (id := 1) hS (.quick 4 (.stable 0 (.stable 2 (.all (.step 1 (.all (.step 3 (.all (.step 5 (.all (.step 6 (.all (.step 7 (.all (.step 8 (.quick 9 .done)))))))))))))))) [1, 3, 5, 6, 7, 8] (by kernel_rfl) rfl ?_) | (apply CallA.liftC hS (wayFault _); (conv => whnf)) | (apply CallA.liftC hS (lineFault _ h); (conv => whnf)) | (apply CallA.liftC hS (inF _ _ _); (conv => whnf)) | (apply CallA.liftC hS (unlessN hn 3); (conv => whnf)) | (apply CallA.liftC hS (first [_, _, _] (Nat.le_of_ble_eq_true rfl)); (conv => whnf)) | (intro _; omega) | (intro _; (conv => whnf)) | (apply And.intro <;> intro _ <;> first | omega | (conv => whnf)) | (refine And.intro (Seal.mk ?_) (Seal.mk ?_)) | (apply And.intro; (case left => first | exact leaf | exact PreC.of_eq rfl | rfl | exact Bool.false_ne_true | exact ⟨rfl, rfl⟩); (conv => whnf)) | (apply Or.inl; apply And.intro; (case left => first | exact leaf | exact PreC.of_eq rfl | rfl | exact Bool.false_ne_true | exact ⟨rfl, rfl⟩); (conv => whnf)) | (apply Or.inr; (conv => whnf)) | (refine Exists.intro _ (And.intro rfl ?_); (conv => whnf)) | (refine Exists.intro _ (And.intro (And.intro rfl rfl) ?_); (conv => whnf)) | (refine Exists.intro (intE .u8) (And.intro ⟨rfl, fun _ => rfl⟩ ?_); (conv => whnf)) | (refine Exists.intro _ (And.intro (And.intro rfl (And.intro rfl ?leaf)) ?_); (case leaf => first | exact leaf | exact PreC.of_eq rfl | rfl | exact Bool.false_ne_true | exact ⟨rfl, rfl⟩); (conv => whnf)) | with_reducible assumption | exact leaf | fail)
  all_goals (refine ⟨(), trivial, ?_⟩; ((try refine FitsT.now hS ?_); repeat' (first | exact True.intro | (apply And.intro; (case left => first | exact leaf | exact PreC.of_eq rfl | rfl | exact Bool.false_ne_true | exact ⟨rfl, rfl⟩)) | ((conv => whnf); apply And.intro; (case left => first | exact leaf | exact PreC.of_eq rfl | rfl | exact Bool.false_ne_true | exact ⟨rfl, rfl⟩)) | ((conv => whnf); exact True.intro))))
theorem specReadLineBad (w : Wy) (s : Lin) (h : LinB s) (n : Int) (hw : wayF w = 0) (hl : linF s = 0) (hn : ¬ (1 ≤ n ∧ n ≤ 99)) : CallA S 111 [.agg (wyC w), .agg (linC (.loc 0) (.loc 1) s), .int .i64 n] ⟨linH false (.loc 0) (.loc 1) s [], 2⟩ (Ret1 (.agg [.int .i64 3, .ff, .nils, .nils, .nils, .nils, .ff, .int .i64 0]) ⟨[], 2⟩) := by
  have e : firstNZ [wayF w, linF s] = 0 := by simp [firstNZ, *]
  refine .ofC hS _ _ _ Tryz.func111 ?_
  conv => whnf
  repeat' (first | (refine Seal.mk ?_) | (refine Wp.step hS ?_; (conv => whnf); (fail_if_success show False)) | (refine opsA_step ?_; (conv => whnf)) | (refine drawS_go ?_; (conv => whnf)) | (apply CallA.liftC hS (l11Asked w s h); (conv => whnf)) | (apply CallA.liftC hS (l1In _ _ _); (conv => whnf)) | (intro _; omega) | (intro _; (conv => whnf)) | (apply And.intro <;> intro _ <;> first | omega | (conv => whnf)) | (refine And.intro (Seal.mk ?_) (Seal.mk ?_)) | (apply And.intro; (case left => first | exact leaf | exact PreC.of_eq rfl | rfl | exact Bool.false_ne_true | exact ⟨rfl, rfl⟩); (conv => whnf)) | (apply Or.inl; apply And.intro; (case left => first | exact leaf | exact PreC.of_eq rfl | rfl | exact Bool.false_ne_true | exact ⟨rfl, rfl⟩); (conv => whnf)) | (apply Or.inr; (conv => whnf)) | (refine Exists.intro _ (And.intro rfl ?_); (conv => whnf)) | (refine Exists.intro _ (And.intro (And.intro rfl rfl) ?_); (conv => whnf)) | (refine Exists.intro (intE .u8) (And.intro ⟨rfl, fun _ => rfl⟩ ?_); (conv => whnf)) | (refine Exists.intro _ (And.intro (And.intro rfl (And.intro rfl ?leaf)) ?_); (case leaf => first | exact leaf | exact PreC.of_eq rfl | rfl | exact Bool.false_ne_true | exact ⟨rfl, rfl⟩); (conv => whnf)) | with_reducible assumption | exact leaf | fail)
  all_goals (first | (exfalso; omega) | (refine ⟨(), trivial, ?_⟩; ((try refine FitsT.now hS ?_); repeat' (first | exact True.intro | (apply And.intro; (case left => first | exact leaf | exact PreC.of_eq rfl | rfl | exact Bool.false_ne_true | exact ⟨rfl, rfl⟩)) | ((conv => whnf); apply And.intro; (case left => first | exact leaf | exact PreC.of_eq rfl | rfl | exact Bool.false_ne_true | exact ⟨rfl, rfl⟩)) | ((conv => whnf); exact True.intro)))))
theorem rd_nil (c : Prop) (n : Nat) : rd c [] n = ([], []) := rfl
theorem gr_bounds : ∀ (xs : List (List Int)) (n : Nat), (gr xs n).1.length ≤ n ∧ (gr xs n).2.length ≤ xs.length ∧ sumC List.length (gr xs n).2 ≤ sumC List.length xs
  | [], n => by simp [gr]
  | p :: ps, n => by
    unfold gr
    split
    · simp
    · split
      · refine ⟨by simp only [List.length_take]; omega, by simp, ?_⟩
        simp only [sumC, List.length_drop]; omega
      · have := gr_bounds ps (n - p.length)
        refine ⟨by simp only [List.length_append]; omega, by simp only [List.length_cons]; omega, ?_⟩
        simp only [sumC]; omega
theorem tl_bounds (c : Prop) (xs : List (List Int)) (n : Nat) : (tl c xs n).1.length ≤ n ∧ (tl c xs n).2.length ≤ xs.length ∧ sumC List.length (tl c xs n).2 ≤ sumC List.length xs := by
  unfold tl
  split
  · simp
  · exact gr_bounds xs n
theorem rd_bounds (c : Prop) (xs : List (List Int)) (n : Nat) : (rd c xs n).1.length ≤ n ∧ (rd c xs n).2.length ≤ xs.length ∧ sumC List.length (rd c xs n).2 ≤ sumC List.length xs := by
  cases xs with
  | nil => simp [rd]
  | cons p r =>
    simp only [rd]
    split
    · refine ⟨by simp only [List.length_take]; omega, by simp, ?_⟩
      simp only [sumC, List.length_drop]; omega
    · have := tl_bounds c r (n - p.length)
      refine ⟨by simp only [List.length_append]; omega, by simp only [List.length_cons]; omega, ?_⟩
      simp only [sumC]; omega
theorem specReadLine (w : Wy) (s : Lin) (h : LinB s) (n : Int) (hw : wayF w = 0) (hl : linF s = 0) (hn : 1 ≤ n ∧ n ≤ 99) : CallA S 111 [.agg (wyC w), .agg (linC (.loc 0) (.loc 1) s), .int .i64 n] ⟨linH false (.loc 0) (.loc 1) s [], 2⟩ (Ret1 (.agg (linRC (.loc 2) (.loc 3) (.loc 4) (.loc 5) (readLR w s n))) ⟨linRH true (.loc 2) (.loc 3) (.loc 4) (.loc 5) (readLR w s n) [], 6⟩) := by
  obtain ⟨⟨hf0, hf1⟩, _⟩ := way_ok hw
  have h' := h
  obtain ⟨h0, h1, h2⟩ := h'
  have e : firstNZ [wayF w, linF s] = 0 := by simp [firstNZ, *]
  refine .ofC hS _ _ _ Tryz.func111 ?_
  conv => whnf
  repeat' (first | (refine Seal.mk ?_) | (refine Wp.step hS ?_; (conv => whnf); (fail_if_success show False)) | (refine opsA_step ?_; (conv => whnf)) | (refine drawS_go ?_; (conv => whnf)) | (apply CallA.liftC hS (l11Asked w s h); (conv => whnf)) | (apply CallA.liftC hS (l1In _ _ _); (conv => whnf)) | (intro _; omega) | (intro _; (conv => whnf)) | (apply And.intro <;> intro _ <;> first | omega | (conv => whnf)) | (refine And.intro (Seal.mk ?_) (Seal.mk ?_)) | (apply And.intro; (case left => first | exact leaf | exact PreC.of_eq rfl | rfl | exact Bool.false_ne_true | exact ⟨rfl, rfl⟩); (conv => whnf)) | (apply Or.inl; apply And.intro; (case left => first | exact leaf | exact PreC.of_eq rfl | rfl | exact Bool.false_ne_true | exact ⟨rfl, rfl⟩); (conv => whnf)) | (apply Or.inr; (conv => whnf)) | (refine Exists.intro _ (And.intro rfl ?_); (conv => whnf)) | (refine Exists.intro _ (And.intro (And.intro rfl rfl) ?_); (conv => whnf)) | (refine Exists.intro (intE .u8) (And.intro ⟨rfl, fun _ => rfl⟩ ?_); (conv => whnf)) | (refine Exists.intro _ (And.intro (And.intro rfl (And.intro rfl ?leaf)) ?_); (case leaf => first | exact leaf | exact PreC.of_eq rfl | rfl | exact Bool.false_ne_true | exact ⟨rfl, rfl⟩); (conv => whnf)) | with_reducible assumption | exact leaf | fail)
  refine Wp.see ⟨[(2, .int .i64 n), (3, .ptr (.loc 2) 7 none 0), (4, .ptr (.loc 3) 4 none 0), (6, .ptr (.loc 4) 8 none 0)], ⟨⟨.loc 2, false, .raw (wyC w)⟩ :: ⟨.loc 3, false, .raw (linC (.loc 0) (.loc 1) s)⟩ :: ⟨.loc 4, true, .raw [.int .i64 0, .ff, .nils, .nils, .nils, .nils, .ff, .int .i64 0]⟩ :: linH false (.loc 0) (.loc 1) s [], 5⟩, 30, 2⟩ ?_ ?_
  · ((try dsimp only); ((try refine FitsT.now hS ?_); repeat' (first | exact True.intro | (apply And.intro; (case left => first | exact leaf | exact PreC.of_eq rfl | rfl | exact Bool.false_ne_true | exact ⟨rfl, rfl⟩)) | ((conv => whnf); apply And.intro; (case left => first | exact leaf | exact PreC.of_eq rfl | rfl | exact Bool.false_ne_true | exact ⟨rfl, rfl⟩)) | ((conv => whnf); exact True.intro))))
  repeat' (first | (refine Seal.mk ?_) | (refine Wp.step hS ?_; (conv => whnf); (fail_if_success show False)) | (refine opsA_step ?_; (conv => whnf)) | (refine drawS_go ?_; (conv => whnf)) | (refine Wp.drawS (id := 6) hS (.quick 2 (.stable 0 (.stable 3 (.quick 4 (.quick 5 (.all (.fork (.step 1 (.quick 6 (.all (.step 7 (.all (.step 8 .done)))))) (.step 7 (.all (.step 1 (.quick 6 (.all (.step 8 .done))))))))))))) [1, 7, 8] (by kernel_rfl) rfl ?_) | (apply CallA.liftC hS (l11Copy _ h); (conv => whnf)) | (apply CallA.liftC hS (l11Read w hf0 hf1 s.ready h0 h1 n hn s.edit s.lit s.breaks); (conv => whnf)) | (intro _; omega) | (intro _; (conv => whnf)) | (apply And.intro <;> intro _ <;> first | omega | (conv => whnf)) | (refine And.intro (Seal.mk ?_) (Seal.mk ?_)) | (apply And.intro; (case left => first | exact leaf | exact PreC.of_eq rfl | rfl | exact Bool.false_ne_true | exact ⟨rfl, rfl⟩); (conv => whnf)) | (apply Or.inl; apply And.intro; (case left => first | exact leaf | exact PreC.of_eq rfl | rfl | exact Bool.false_ne_true | exact ⟨rfl, rfl⟩); (conv => whnf)) | (apply Or.inr; (conv => whnf)) | (refine Exists.intro _ (And.intro rfl ?_); (conv => whnf)) | (refine Exists.intro _ (And.intro (And.intro rfl rfl) ?_); (conv => whnf)) | (refine Exists.intro (intE .u8) (And.intro ⟨rfl, fun _ => rfl⟩ ?_); (conv => whnf)) | (refine Exists.intro _ (And.intro (And.intro rfl (And.intro rfl ?leaf)) ?_); (case leaf => first | exact leaf | exact PreC.of_eq rfl | rfl | exact Bool.false_ne_true | exact ⟨rfl, rfl⟩); (conv => whnf)) | with_reducible assumption | exact leaf | fail)
  all_goals
    by_cases hr : s.ready = []
    · have hz : (s.ready.length : Int) = 0 := by rw [hr]; rfl
      rw [show readLR w s n = ⟨0, false, [], [], s⟩ from by unfold readLR; rw [if_pos hr]]
      have e1 : (rd (canon w) s.ready n.toNat).1 = [] := by rw [hr]; rfl
      have e2 : (rd (canon w) s.ready n.toNat).2 = s.ready := by rw [hr]; rfl
      rw [e1, e2]
      (refine ⟨(), trivial, ?_⟩; ((try refine FitsT.now hS ?_); repeat' (first | exact True.intro | (apply And.intro; (case left => first | exact leaf | exact PreC.of_eq rfl | rfl | exact Bool.false_ne_true | exact ⟨rfl, rfl⟩)) | ((conv => whnf); apply And.intro; (case left => first | exact leaf | exact PreC.of_eq rfl | rfl | exact Bool.false_ne_true | exact ⟨rfl, rfl⟩)) | ((conv => whnf); exact True.intro))))
    · rw [show readLR w s n = ⟨0, true, (rd (canon w) s.ready n.toNat).1, [], { s with ready := (rd (canon w) s.ready n.toNat).2 }⟩ from by unfold readLR; rw [if_neg hr]]
      have hz : 0 < s.ready.length := List.length_pos_iff.2 hr
      (refine ⟨(), trivial, ?_⟩; ((try refine FitsT.now hS ?_); repeat' (first | exact True.intro | (apply And.intro; (case left => first | exact leaf | exact PreC.of_eq rfl | rfl | exact Bool.false_ne_true | exact ⟨rfl, rfl⟩)) | ((conv => whnf); apply And.intro; (case left => first | exact leaf | exact PreC.of_eq rfl | rfl | exact Bool.false_ne_true | exact ⟨rfl, rfl⟩)) | ((conv => whnf); exact True.intro))))
end Go.Mu
