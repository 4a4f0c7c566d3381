/- The law on what is wrong with a mux: the program and the reference tell the same. -/
import Derived.Test.YtcimmkokkmbhpaaGreatLE
import Derived.Test.YtcimmkokkmbhpaaGreatPK
import Derived.Test.YtcimmkokkmbhpaaGreatLI
set_option linter.unusedSimpArgs false
set_option linter.unusedVariables false
set_option linter.constructorNameAsVariable false
namespace Go.Mu
open Go Go.Vm Go.RowKit Go.Proofs
attribute [local irreducible] wpA opsA stillA drawA drawS
set_option maxRecDepth 20000
set_option maxHeartbeats 4000000

theorem specMuxFault (s : Mux) (h : MuxB s) : CallA S 40 [.agg (muxC (.loc 0) (.loc 1) (.loc 2) (.loc 3) (.loc 4) s)] ⟨muxH false (.loc 0) (.loc 1) (.loc 2) (.loc 3) (.loc 4) s [], 5⟩ (Ret1 (.int .i64 (muxF s)) ⟨[], 5⟩) := by
  refine .ofC hS _ _ _ Tryz.func40 ?_
  conv => whnf
  repeat' (first | (refine Seal.mk ?_) | (refine Wp.step hS ?_; (conv => whnf); (fail_if_success show False)) | (refine opsA_step ?_; (conv => whnf)) | (refine drawS_go ?_; (conv => whnf)) | (apply CallA.liftC hS (l14Fault _ h); (conv => whnf)) | (intro _; omega) | (intro _; (conv => whnf)) | (apply And.intro <;> intro _ <;> first | omega | (conv => whnf)) | (refine And.intro (Seal.mk ?_) (Seal.mk ?_)) | (apply And.intro; (case left => exact leaf); (conv => whnf)) | (apply Or.inl; apply And.intro; (case left => exact leaf); (conv => whnf)) | (apply Or.inr; (conv => whnf)) | (refine Exists.intro _ (And.intro rfl ?_); (conv => whnf)) | (refine Exists.intro _ (And.intro (And.intro rfl rfl) ?_); (conv => whnf)) | (refine Exists.intro (intE .u8) (And.intro ⟨rfl, fun _ => rfl⟩ ?_); (conv => whnf)) | (refine Exists.intro _ (And.intro (And.intro rfl (And.intro rfl ?leaf)) ?_); (case leaf => exact leaf); (conv => whnf)) | with_reducible assumption | exact leaf | fail)
  all_goals (refine ⟨(), trivial, ?_⟩; ((try refine FitsT.now hS ?_); repeat' (first | exact True.intro | (apply And.intro; (case left => exact leaf)) | ((conv => whnf); apply And.intro; (case left => exact leaf)) | ((conv => whnf); exact True.intro))))
theorem lawMuxFault (s : Mux) : CallA S 7 [.agg (muxC (.loc 0) (.loc 1) (.loc 2) (.loc 3) (.loc 4) s)] ⟨muxH false (.loc 0) (.loc 1) (.loc 2) (.loc 3) (.loc 4) s [], 5⟩ (Ret1 .tt ⟨[], 5⟩) := by
  refine .ofC hS _ _ _ Tryz.func7 ?_
  conv => whnf
  repeat' (first | (refine Seal.mk ?_) | (refine Wp.step hS ?_; (conv => whnf); (fail_if_success show False)) | (refine opsA_step ?_; (conv => whnf)) | (refine drawS_go ?_; (conv => whnf)) | (apply CallA.liftC hS (szMux s _ _ _); (conv => whnf)) | (intro _; omega) | (intro _; (conv => whnf)) | (apply And.intro <;> intro _ <;> first | omega | (conv => whnf)) | (refine And.intro (Seal.mk ?_) (Seal.mk ?_)) | (apply And.intro; (case left => exact leaf); (conv => whnf)) | (apply Or.inl; apply And.intro; (case left => exact leaf); (conv => whnf)) | (apply Or.inr; (conv => whnf)) | (refine Exists.intro _ (And.intro rfl ?_); (conv => whnf)) | (refine Exists.intro _ (And.intro (And.intro rfl rfl) ?_); (conv => whnf)) | (refine Exists.intro (intE .u8) (And.intro ⟨rfl, fun _ => rfl⟩ ?_); (conv => whnf)) | (refine Exists.intro _ (And.intro (And.intro rfl (And.intro rfl ?leaf)) ?_); (case leaf => exact leaf); (conv => whnf)) | with_reducible assumption | exact leaf | fail)
  · (refine ⟨(), trivial, ?_⟩; ((try refine FitsT.now hS ?_); repeat' (first | exact True.intro | (apply And.intro; (case left => exact leaf)) | ((conv => whnf); apply And.intro; (case left => exact leaf)) | ((conv => whnf); exact True.intro))))
  have hB : MuxB s := muxB_of (by omega)
  repeat' (first | (refine Seal.mk ?_) | (refine Wp.step hS ?_; (conv => whnf); (fail_if_success show False)) | (refine opsA_step ?_; (conv => whnf)) | (refine drawS_go ?_; (conv => whnf)) | (refine Wp.drawS (id := 10) hS (.all (.fork (.step 0 (.all (.step 1 (.all (.step 2 (.all (.step 3 (.quick 4 .done)))))))) (.step 1 (.all (.fork (.step 0 (.all (.step 2 (.all (.step 3 (.quick 4 .done)))))) (.step 2 (.all (.step 0 (.all (.step 3 (.quick 4 .done))))))))))) [0, 1, 2, 3] (by kernel_rfl) rfl ?_) | (apply CallA.liftC hS (toMux _ hB); (conv => whnf)) | (apply CallA.liftC hS (specMuxFault _ hB); (conv => whnf)) | (apply CallA.liftC hS (muxFault _ hB); (conv => whnf)) | (apply CallA.liftC hS (eqMux _ hB); (conv => whnf)) | (intro _; omega) | (intro _; (conv => whnf)) | (apply And.intro <;> intro _ <;> first | omega | (conv => whnf)) | (refine And.intro (Seal.mk ?_) (Seal.mk ?_)) | (apply And.intro; (case left => exact leaf); (conv => whnf)) | (apply Or.inl; apply And.intro; (case left => exact leaf); (conv => whnf)) | (apply Or.inr; (conv => whnf)) | (refine Exists.intro _ (And.intro rfl ?_); (conv => whnf)) | (refine Exists.intro _ (And.intro (And.intro rfl rfl) ?_); (conv => whnf)) | (refine Exists.intro (intE .u8) (And.intro ⟨rfl, fun _ => rfl⟩ ?_); (conv => whnf)) | (refine Exists.intro _ (And.intro (And.intro rfl (And.intro rfl ?leaf)) ?_); (case leaf => exact leaf); (conv => whnf)) | with_reducible assumption | exact leaf | fail)
  all_goals (first | (exact absurd rfl (by assumption)) | (exact absurd Iff.rfl (by assumption)) | (refine ⟨(), trivial, ?_⟩; ((try refine FitsT.now hS ?_); repeat' (first | exact True.intro | (apply And.intro; (case left => exact leaf)) | ((conv => whnf); apply And.intro; (case left => exact leaf)) | ((conv => whnf); exact True.intro)))))
end Go.Mu
