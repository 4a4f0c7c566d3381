/- Copies: a line whose first pieces are gone. -/
import Derived.Test.YtcimmkokkmbhpaaGreatCD
set_option linter.unusedSimpArgs false
set_option linter.unusedVariables false
set_option linter.constructorNameAsVariable false
namespace Go.Mu
open Go Go.Vm Go.RowKit Go.Proofs
attribute [local irreducible] wpA opsA stillA drawA drawS
set_option maxRecDepth 20000
set_option maxHeartbeats 4000000
theorem take_nextD {X : List (List Int)} {k i : Nat} (h : k + i < X.length) : (X.drop k).take (i + 1) = (X.drop k).take i ++ [X.getD ((k : Int) + (i : Int)).toNat []] := by
  rw [show ((k : Int) + (i : Int)).toNat = k + i by omega, List.take_succ_eq_append_getElem (by rw [List.length_drop]; omega)]
  simp [h]
theorem cloneLinK (X : List (List Int)) (k : Nat) (ed : List Int) (lit : Bool) (br : Int) (hk : k ≤ X.length) (hX : X.length ≤ 1048576) (hs : sumC List.length X ≤ 1048576) (he : ed.length ≤ 1048576) :
    CallA S 199 [.agg [.sl (.loc 0) 1 (some k) (X.length - k), .sl (.loc 1) 1 none ed.length, .prop (lit = true), .int .i64 br]] ⟨[⟨.loc 0, false, bytesN X⟩, ⟨.loc 1, false, .arr (intE .u8) ed⟩], 2⟩
      (Ret1 (.agg (linC (.loc 2) (.loc 3) ⟨X.drop k, ed, lit, br⟩)) ⟨linH true (.loc 2) (.loc 3) ⟨X.drop k, ed, lit, br⟩ [], 4⟩) := by
  refine .ofC hS _ _ _ Tryz.func199 ?_
  conv => whnf
  have hld : (X.drop k).length = X.length - k := List.length_drop
  repeat' (first | (refine Seal.mk ?_) | (refine Wp.step hS ?_; (conv => whnf); (fail_if_success show False)) | (refine opsA_step ?_; (conv => whnf)) | (refine drawS_go ?_; (conv => whnf)) | (intro _; omega) | (intro _; (conv => whnf)) | (apply And.intro <;> intro _ <;> first | omega | (conv => whnf)) | (refine And.intro (Seal.mk ?_) (Seal.mk ?_)) | (apply And.intro; (case left => first | exact leaf | exact PreC.of_eq (by simp)); (conv => whnf)) | (apply Or.inl; apply And.intro; (case left => first | exact leaf | exact PreC.of_eq (by simp)); (conv => whnf)) | (apply Or.inr; (conv => whnf)) | (refine Exists.intro _ (And.intro rfl ?_); (conv => whnf)) | (refine Exists.intro _ (And.intro (And.intro rfl rfl) ?_); (conv => whnf)) | (refine Exists.intro (intE .u8) (And.intro ⟨rfl, fun _ => rfl⟩ ?_); (conv => whnf)) | (refine Exists.intro _ (And.intro (And.intro rfl (And.intro rfl ?leaf)) ?_); (case leaf => first | exact leaf | exact PreC.of_eq (by simp)); (conv => whnf)) | with_reducible assumption | exact leaf | fail)
  refine .loop hS (γ := Nat) (fun i => ⟨[(1, .ptr (.loc 2) 4 none 0), (2, .ptr (.loc 3) 4 none 0), (3, .sl (.loc 4) 1 none i), (8, .sl (.loc 0) 1 (some k) (X.length - k)), (9, .int .i64 (X.length - k)), (10, .int .i64 i)],
      ⟨[⟨.loc 4, true, bytesN ((X.drop k).take i)⟩, ⟨.loc 2, true, .raw [.sl (.loc 0) 1 (some k) (X.length - k), .sl (.loc 1) 1 none ed.length, .prop (lit = true), .int .i64 br]⟩, ⟨.loc 3, true, .raw [.nils, .nils, .ff, .int .i64 0]⟩, ⟨.loc 0, false, bytesN X⟩, ⟨.loc 1, false, .arr (intE .u8) ed⟩], 5⟩, 27, 2⟩) (fun i => i ≤ X.length - k) (fun i => X.length - k - i) 0 (by omega) ?_ ?_
  · have h0 : (X.drop k).take 0 = [] := rfl
    ((try dsimp only); ((try refine FitsT.now hS ?_); repeat' (first | exact True.intro | (apply And.intro; (case left => first | exact leaf | exact PreC.of_eq (by simp))) | ((conv => whnf); apply And.intro; (case left => first | exact leaf | exact PreC.of_eq (by simp))) | ((conv => whnf); exact True.intro))))
  · intro i hi
    have hb := sumC_get (cnt := List.length) (xs := X) ((k : Int) + (i : Int)).toNat [] rfl
    have ht : (X.drop k).take (X.length - k) = X.drop k := by rw [← hld, List.take_length]
    have hlt : ((X.drop k).take i).length = i := by simp; omega
    conv => whnf
    repeat' (first | (refine Seal.mk ?_) | (refine Wp.step hS ?_; (conv => whnf); (fail_if_success show False)) | (refine opsA_step ?_; (conv => whnf)) | (refine drawS_go ?_; (conv => whnf)) | (apply CallA.liftC hS (cloneU _ _); (conv => whnf)) | (intro _; omega) | (intro _; (conv => whnf)) | (apply And.intro <;> intro _ <;> first | omega | (conv => whnf)) | (refine And.intro (Seal.mk ?_) (Seal.mk ?_)) | (apply And.intro; (case left => first | exact leaf | exact PreC.of_eq (by simp)); (conv => whnf)) | (apply Or.inl; apply And.intro; (case left => first | exact leaf | exact PreC.of_eq (by simp)); (conv => whnf)) | (apply Or.inr; (conv => whnf)) | (refine Exists.intro _ (And.intro rfl ?_); (conv => whnf)) | (refine Exists.intro _ (And.intro (And.intro rfl rfl) ?_); (conv => whnf)) | (refine Exists.intro (intE .u8) (And.intro ⟨rfl, fun _ => rfl⟩ ?_); (conv => whnf)) | (refine Exists.intro _ (And.intro (And.intro rfl (And.intro rfl ?leaf)) ?_); (case leaf => first | exact leaf | exact PreC.of_eq (by simp)); (conv => whnf)) | with_reducible assumption | exact leaf | fail)
    · have htk := take_nextD (X := X) (k := k) (i := i) (by omega)
      refine ⟨i + 1, ⟨by omega, by omega⟩, ?_⟩
      apply FitsT.turn; (focus (apply Turn.close hS (nb := 7) (x := X.getD ((k : Int) + (i : Int)).toNat []) (xs' := (X.drop k).take (i + 1)); (conv => whnf); refine And.intro ⟨rfl, ?_⟩ ?_; (focus (first | exact Or.inr ⟨by omega, by omega, by first | rfl | (with_reducible assumption) | (exact Eq.symm (by with_reducible assumption))⟩ | exact Or.inl ⟨by first | rfl | omega, by first | rfl | (with_reducible assumption)⟩)); (focus ((conv => whnf); repeat' (first | exact rfl | (apply And.intro; (case left => first | exact leaf | exact PreC.of_eq (by simp))) | ((conv => whnf); apply And.intro; (case left => first | exact leaf | exact PreC.of_eq (by simp))) | ((conv => whnf); exact rfl))))))
      ((try dsimp only); ((try refine FitsT.now hS ?_); repeat' (first | exact True.intro | (apply And.intro; (case left => first | exact leaf | exact PreC.of_eq (by simp))) | ((conv => whnf); apply And.intro; (case left => first | exact leaf | exact PreC.of_eq (by simp))) | ((conv => whnf); exact True.intro))))
    · have hi : i = X.length - k := by omega
      subst hi
      rw [ht]
      have hc : ((X.length - k : Nat) : Int) = (X.drop k).length := by omega
      repeat' (first | (refine Seal.mk ?_) | (refine Wp.step hS ?_; (conv => whnf); (fail_if_success show False)) | (refine opsA_step ?_; (conv => whnf)) | (refine drawS_go ?_; (conv => whnf)) | (apply CallA.liftC hS (cloneU _ _); (conv => whnf)) | (intro _; omega) | (intro _; (conv => whnf)) | (apply And.intro <;> intro _ <;> first | omega | (conv => whnf)) | (refine And.intro (Seal.mk ?_) (Seal.mk ?_)) | (apply And.intro; (case left => first | exact leaf | exact PreC.of_eq (by simp)); (conv => whnf)) | (apply Or.inl; apply And.intro; (case left => first | exact leaf | exact PreC.of_eq (by simp)); (conv => whnf)) | (apply Or.inr; (conv => whnf)) | (refine Exists.intro _ (And.intro rfl ?_); (conv => whnf)) | (refine Exists.intro _ (And.intro (And.intro rfl rfl) ?_); (conv => whnf)) | (refine Exists.intro (intE .u8) (And.intro ⟨rfl, fun _ => rfl⟩ ?_); (conv => whnf)) | (refine Exists.intro _ (And.intro (And.intro rfl (And.intro rfl ?leaf)) ?_); (case leaf => first | exact leaf | exact PreC.of_eq (by simp)); (conv => whnf)) | with_reducible assumption | exact leaf | fail)
      (refine ⟨(), trivial, ?_⟩; ((try refine FitsT.now hS ?_); repeat' (first | exact True.intro | (apply And.intro; (case left => first | exact leaf | exact PreC.of_eq (by simp))) | ((conv => whnf); apply And.intro; (case left => first | exact leaf | exact PreC.of_eq (by simp))) | ((conv => whnf); exact True.intro))))
end Go.Mu
