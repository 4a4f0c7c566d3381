/- Cells of another width: rows of another width. -/
import Derived.Test.YtcimmkokkmbhpaaGreatR2
set_option linter.unusedSimpArgs false
set_option linter.unusedVariables false
set_option linter.constructorNameAsVariable false
namespace Go.Mu
open Go Go.Vm Go.RowKit Go.Proofs
attribute [local irreducible] wpA opsA stillA drawA drawS
set_option maxRecDepth 20000
set_option maxHeartbeats 4000000
/-- a row of another width -/
def fitRow (r : List (Int × Int)) (w : Nat) : List (Int × Int) := r.take w ++ List.replicate (w - r.length) (bl 0)
def rowsW (c : List (Int × Int)) (o w : Nat) : Nat → List (Int × Int)
  | 0 => []
  | k + 1 => rowsW c o w k ++ fitRow ((c.drop (k * o)).take o) w
theorem fitRow_len (r : List (Int × Int)) (w : Nat) : (fitRow r w).length = w := by
  unfold fitRow; simp; omega
theorem rowsW_len (c : List (Int × Int)) (o w : Nat) : ∀ k, (rowsW c o w k).length = k * w
  | 0 => by simp [rowsW]
  | k + 1 => by rw [rowsW, List.length_append, rowsW_len c o w k, fitRow_len, Nat.succ_mul]
theorem fitRow_take {r : List (Int × Int)} {o w : Nat} (h : r.length = o) : List.take w (r ++ List.replicate (w - o) (bl 0)) = fitRow r w := by
  unfold fitRow
  rw [List.take_append, List.take_replicate, h]
  congr 2
  omega
theorem widened (c : List (Int × Int)) (o w m : Nat) (hc : c.length = m * o) (hm : m ≤ 6) (ho : 1 ≤ o ∧ o ≤ 12) (hw : 1 ≤ w ∧ w ≤ 12) : CallA S 263 [.sl (.loc 0) 2 none c.length, .int .i64 o, .int .i64 w] ⟨[⟨.loc 0, false, .arr pairE c⟩], 1⟩
    (Ret1 (.sl (.loc 1) 2 none (rowsW c o w m).length) ⟨[⟨.loc 1, true, .arr pairE (rowsW c o w m)⟩], 2⟩) := by
  have hcl : c.length ≤ 72 := by
    rw [hc]
    have := Nat.mul_le_mul hm ho.2
    omega
  refine .ofC hS _ _ _ Tryz.func263 ?_
  conv => whnf
  repeat' (first|refine Seal.mk ?_|(refine wS ?_;(conv=>whnf);fail_if_success show False)|((first|refine opsA_step ?_|refine drawS_go ?_|refine wD (id:=4) (.quick 0 (.quick 1 (.quick 2 (.quick 3 (.quick 4 (.quick 5 (.quick 6 (.all (.step 7 (.all (.step 8 (.all (.step 9 (.quick 10 .done)))))))))))))) [7, 8, 9] (by kernel_rfl) rfl ?_);conv=>whnf)|(intro _;first|omega|conv=>whnf)|(apply And.intro<;>intro _<;>first|omega|conv=>whnf)|refine ⟨Seal.mk ?_,Seal.mk ?_⟩|((first|refine ⟨leaf,?_⟩|refine Or.inl ⟨leaf,?_⟩|apply Or.inr|refine ⟨_,rfl,?_⟩|refine ⟨_,⟨rfl,rfl⟩,?_⟩|refine ⟨intE .u8,⟨rfl,fun _=>rfl⟩,?_⟩|refine ⟨_,⟨rfl,rfl,leaf⟩,?_⟩);conv=>whnf)|with_reducible assumption|exact leaf|fail)
  refine .loop hS (γ := Nat × Nat) (fun g => ⟨[(0, .sl (.loc 0) 2 (some g.2) (c.length - g.2)), (1, .int .i64 o), (2, .int .i64 w), (7, .sl (.loc 1) 2 none (rowsW c o w g.1).length)],
    ⟨[⟨.loc 1, true, .arr pairE (rowsW c o w g.1)⟩, ⟨.loc 0, false, .arr pairE c⟩], 2⟩, 32, 1⟩) (fun g => g.2 = g.1 * o ∧ g.1 ≤ m) (fun g => m - g.1) (0, 0) ⟨by simp, by omega⟩ ?_ ?_
  · have h0 : (rowsW c o w 0).length = 0 := rfl
    ((try dsimp only);((try refine wF ?_);repeat' (first|exact ⟨⟩|refine ⟨leaf,?_⟩|((conv=>whnf);first|exact ⟨⟩|refine ⟨leaf,?_⟩))))
  · rintro ⟨k, f⟩ ⟨hf, hk⟩
    simp only at hf hk ⊢
    have hlt : k < m → f + o ≤ c.length := fun q => by
      rw [hf, hc, ← Nat.succ_mul]; exact Nat.mul_le_mul_right _ q
    have hge : ¬ k < m → f = c.length := fun q => by rw [hf, hc, show k = m by omega]
    have hrl := rowsW_len c o w k
    have hkw : k * w ≤ 72 := by have := Nat.mul_le_mul (Nat.le_trans hk hm) hw.2; omega
    by_cases hgo : k < m
    · have hfo := hlt hgo
      have hrow : ((c.drop f).take o).length = o := by simp; omega
      have hmx : (max ((w : Int) - o) 0).toNat = w - o := by omega
      have hcat : ((c.drop f).take o ++ List.replicate (max ((w : Int) - o) 0).toNat (bl 0)).length = o + (w - o) := by rw [List.length_append, hrow, List.length_replicate, hmx]
      have hft : List.take ((w : Int) - 0).toNat (List.drop (Int.toNat 0) ((c.drop f).take o ++ List.replicate (max ((w : Int) - o) 0).toNat (bl 0))) = fitRow ((c.drop f).take o) w := by
        rw [hmx, show ((w : Int) - 0).toNat = w by omega]
        exact fitRow_take hrow
      have hnx : rowsW c o w (k + 1) = rowsW c o w k ++ fitRow ((c.drop f).take o) w := by rw [rowsW, hf]
      have hnl := rowsW_len c o w (k + 1)
      have hfl := fitRow_len ((c.drop f).take o) w
      have hsw : (k + 1) * w = k * w + w := Nat.succ_mul k w
      conv => whnf
      repeat' (first|refine Seal.mk ?_|(refine wS ?_;(conv=>whnf);fail_if_success show False)|((first|refine opsA_step ?_|refine drawS_go ?_|refine wD (id:=4) (.quick 0 (.quick 1 (.quick 2 (.quick 3 (.quick 4 (.quick 5 (.quick 6 (.all (.step 7 (.all (.step 8 (.all (.step 9 (.quick 10 .done)))))))))))))) [7, 8, 9] (by kernel_rfl) rfl ?_|apply wL (blanks (max ((w : Int) - o) 0) 0 (by omega) (by omega))|apply wL (concatC c (List.replicate (max ((w : Int) - o) 0).toNat (bl 0)) f o hfo (by omega) (by rw [List.length_replicate]; omega)));conv=>whnf)|(intro _;first|omega|conv=>whnf)|(apply And.intro<;>intro _<;>first|omega|conv=>whnf)|refine ⟨Seal.mk ?_,Seal.mk ?_⟩|((first|refine ⟨leaf,?_⟩|refine Or.inl ⟨leaf,?_⟩|apply Or.inr|refine ⟨_,rfl,?_⟩|refine ⟨_,⟨rfl,rfl⟩,?_⟩|refine ⟨intE .u8,⟨rfl,fun _=>rfl⟩,?_⟩|refine ⟨_,⟨rfl,rfl,leaf⟩,?_⟩);conv=>whnf)|with_reducible assumption|exact leaf|fail)
      all_goals
        rw [hft]
        have hxx : (rowsW c o w (k + 1)).length = (rowsW c o w k).length + (fitRow ((c.drop f).take o) w).length := by rw [hnx, List.length_append]
        refine ⟨(k + 1, f + o), ⟨⟨by simp only; rw [hf, Nat.succ_mul], by simp only; omega⟩, by simp only; omega⟩, ?_⟩
        ((try dsimp only);((try refine wF ?_);repeat' (first|exact ⟨⟩|refine ⟨leaf,?_⟩|((conv=>whnf);first|exact ⟨⟩|refine ⟨leaf,?_⟩))))
    · have hfe := hge hgo
      have hkm : k = m := by omega
      subst hkm
      conv => whnf
      repeat' (first|refine Seal.mk ?_|(refine wS ?_;(conv=>whnf);fail_if_success show False)|((first|refine opsA_step ?_|refine drawS_go ?_);conv=>whnf)|(intro _;first|omega|conv=>whnf)|(apply And.intro<;>intro _<;>first|omega|conv=>whnf)|refine ⟨Seal.mk ?_,Seal.mk ?_⟩|((first|refine ⟨leaf,?_⟩|refine Or.inl ⟨leaf,?_⟩|apply Or.inr|refine ⟨_,rfl,?_⟩|refine ⟨_,⟨rfl,rfl⟩,?_⟩|refine ⟨intE .u8,⟨rfl,fun _=>rfl⟩,?_⟩|refine ⟨_,⟨rfl,rfl,leaf⟩,?_⟩);conv=>whnf)|with_reducible assumption|exact leaf|fail)
      all_goals (refine ⟨(),⟨⟩,?_⟩;((try refine wF ?_);repeat' (first|exact ⟨⟩|refine ⟨leaf,?_⟩|((conv=>whnf);first|exact ⟨⟩|refine ⟨leaf,?_⟩))))
end Go.Mu
