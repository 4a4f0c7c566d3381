/- A grid of another size, as the program makes it. -/
import Derived.Test.YtcimmkokkmbhpaaGreatR3
set_option linter.unusedSimpArgs false
set_option linter.unusedVariables false
set_option linter.constructorNameAsVariable false
namespace Go.Mu
open Go Go.Vm Go.RowKit Go.Proofs
attribute [local irreducible] wpA opsA stillA drawA drawS
set_option maxRecDepth 20000
set_option maxHeartbeats 4000000
def resC (c : List (Int × Int)) (gr gw r w : Nat) : List (Int × Int) := rowsW c gw w (min r gr) ++ List.replicate ((r - min r gr) * w) (bl 0)
@[reducible] def resG (g : Grd) (gr gw mb r w : Nat) : Grd := ⟨r, w, resC g.cells gr gw r w, rowsW g.back gw w mb⟩
theorem rowsW_take (c : List (Int × Int)) (o w : Nat) {j : Nat} : ∀ {k : Nat}, j ≤ k → (rowsW c o w k).take (j * w) = rowsW c o w j
  | 0, h => by
    have : j = 0 := by omega
    subst this; simp [rowsW]
  | k + 1, h => by
    by_cases q : j = k + 1
    · subst q
      rw [List.take_of_length_le (by rw [rowsW_len]; exact Nat.le_refl _)]
    · have hjk : j ≤ k := by omega
      rw [rowsW, List.take_append_of_le_length (by rw [rowsW_len]; exact Nat.mul_le_mul_right _ hjk)]
      exact rowsW_take c o w hjk
theorem resC_take (c : List (Int × Int)) (gr gw r w : Nat) : List.take (r * w) (rowsW c gw w gr ++ List.replicate ((r - gr) * w) (bl 0)) = resC c gr gw r w := by
  unfold resC
  by_cases q : r ≤ gr
  · rw [show min r gr = r by omega, show r - gr = 0 by omega, show r - r = 0 by omega]
    simp only [Nat.zero_mul, List.replicate_zero, List.append_nil]
    exact rowsW_take c gw w q
  · rw [show min r gr = gr by omega]
    refine List.take_of_length_le ?_
    rw [List.length_append, rowsW_len, List.length_replicate, ← Nat.add_mul, show gr + (r - gr) = r by omega]
    exact Nat.le_refl _
theorem resC_len (c : List (Int × Int)) (gr gw r w : Nat) : (resC c gr gw r w).length = r * w := by
  unfold resC
  rw [List.length_append, rowsW_len, List.length_replicate, ← Nat.add_mul, show min r gr + (r - min r gr) = r by omega]
theorem gridResized (g : Grd) (gr gw mb r w : Nat) (hr : g.rows = gr) (hwd : g.width = gw) (hc : g.cells.length = gr * gw) (hb : g.back.length = mb * gw) (hmb : mb ≤ 5) (hgr : 1 ≤ gr ∧ gr ≤ 6) (hgw : 2 ≤ gw ∧ gw ≤ 12) (hrr : 1 ≤ r ∧ r ≤ 6) (hww : 2 ≤ w ∧ w ≤ 12) :
    CallA S 187 [.agg (grdC (.loc 0) (.loc 1) g), .int .i64 r, .int .i64 w] ⟨grdH false (.loc 0) (.loc 1) g [], 2⟩ (Ret1 (.agg (grdC (.loc 2) (.loc 3) (resG g gr gw mb r w))) ⟨grdH true (.loc 2) (.loc 3) (resG g gr gw mb r w) [], 4⟩) := by
  have hpr : (max ((r : Int) - gr) 0 * w).toNat = (r - gr) * w := by
    rw [show max ((r : Int) - gr) 0 = ((r - gr : Nat) : Int) by omega, ← Int.natCast_mul, Int.toNat_natCast]
  have hpn : 0 ≤ max ((r : Int) - gr) 0 * w ∧ max ((r : Int) - gr) 0 * w ≤ 72 := by
    rw [show max ((r : Int) - gr) 0 = ((r - gr : Nat) : Int) by omega, ← Int.natCast_mul]
    have : (r - gr) * w ≤ 6 * 12 := Nat.mul_le_mul (by omega) hww.2
    omega
  have hrw : (r : Int) * w = ((r * w : Nat) : Int) := (Int.natCast_mul _ _).symm
  have hrw2 : r * w ≤ 72 := by have := Nat.mul_le_mul hrr.2 hww.2; omega
  have hl1 := rowsW_len g.cells gw w gr
  have hl1' : gr * w ≤ 72 := by have := Nat.mul_le_mul hgr.2 hww.2; omega
  have hl2 := rowsW_len g.back gw w mb
  have hl2' : mb * w ≤ 72 := by have := Nat.mul_le_mul (show mb ≤ 6 by omega) hww.2; omega
  have hl3 : (List.replicate (max ((r : Int) - gr) 0 * w).toNat (bl 0)).length = (r - gr) * w := by rw [List.length_replicate, hpr]
  have hl4 : r * w ≤ gr * w + (r - gr) * w := by rw [← Nat.add_mul]; exact Nat.mul_le_mul_right _ (by omega)
  have hl5 := resC_len g.cells gr gw r w
  obtain ⟨g0, g1, cs, bs⟩ := g
  simp only at hr hwd hc hb hl1 hl2 hl5
  subst hr
  subst hwd
  refine .ofC hS _ _ _ Tryz.func187 ?_
  conv => whnf
  repeat' (first|refine Seal.mk ?_|(refine wS ?_;(conv=>whnf);fail_if_success show False)|((first|refine opsA_step ?_|refine drawS_go ?_);conv=>whnf)|(intro _;first|omega|conv=>whnf)|(apply And.intro<;>intro _<;>first|omega|conv=>whnf)|refine ⟨Seal.mk ?_,Seal.mk ?_⟩|((first|refine ⟨leaf,?_⟩|refine Or.inl ⟨leaf,?_⟩|apply Or.inr|refine ⟨_,rfl,?_⟩|refine ⟨_,⟨rfl,rfl⟩,?_⟩|refine ⟨intE .u8,⟨rfl,fun _=>rfl⟩,?_⟩|refine ⟨_,⟨rfl,rfl,leaf⟩,?_⟩);conv=>whnf)|with_reducible assumption|exact leaf|fail)
  refine Wp.see ⟨[(1, .int .i64 r), (2, .int .i64 w), (3, .ptr (.loc 2) 4 none 0), (6, .ptr (.loc 3) 4 none 0)], ⟨⟨.loc 2, false, .raw (grdC (.loc 0) (.loc 1) ⟨gr, gw, cs, bs⟩)⟩ :: ⟨.loc 3, true, .raw [.int .i64 0, .int .i64 0, .nils, .nils]⟩ :: grdH false (.loc 0) (.loc 1) ⟨gr, gw, cs, bs⟩ [], 4⟩, 38, 2⟩ ?_ ?_
  · ((try dsimp only);((try refine wF ?_);repeat' (first|exact ⟨⟩|refine ⟨leaf,?_⟩|((conv=>whnf);first|exact ⟨⟩|refine ⟨leaf,?_⟩))))
  repeat' (first|refine Seal.mk ?_|(refine wS ?_;(conv=>whnf);fail_if_success show False)|((first|refine opsA_step ?_|refine drawS_go ?_|refine wD (id:=1) (.quick 0 (.quick 2 (.quick 4 (.quick 6 (.quick 7 (.quick 11 (.stable 1 (.stable 3 (.stable 8 (.quick 9 (.quick 10 (.quick 12 (.all (.step 5 (.all (.step 13 (.all (.step 14 (.all (.step 15 (.quick 16 .done))))))))))))))))))))) [5, 13, 14, 15] (by kernel_rfl) rfl ?_|apply wL (widened cs gw w gr hc (by omega) (by omega) (by omega))|apply wL (blanks (max ((r : Int) - gr) 0 * w) 0 hpn.1 (by omega))|apply wL (concatC (rowsW cs gw w gr) (List.replicate (max ((r : Int) - gr) 0 * w).toNat (bl 0)) 0 (rowsW cs gw w gr).length (by omega) (by omega) (by omega)));conv=>whnf)|(intro _;first|omega|conv=>whnf)|(apply And.intro<;>intro _<;>first|omega|conv=>whnf)|refine ⟨Seal.mk ?_,Seal.mk ?_⟩|((first|refine ⟨leaf,?_⟩|refine Or.inl ⟨leaf,?_⟩|apply Or.inr|refine ⟨_,rfl,?_⟩|refine ⟨_,⟨rfl,rfl⟩,?_⟩|refine ⟨intE .u8,⟨rfl,fun _=>rfl⟩,?_⟩|refine ⟨_,⟨rfl,rfl,leaf⟩,?_⟩);conv=>whnf)|with_reducible assumption|exact leaf|fail)
  have he : List.take (rowsW cs gw w gr).length (List.drop 0 (rowsW cs gw w gr)) ++ List.replicate (max ((r : Int) - gr) 0 * w).toNat (bl 0) = rowsW cs gw w gr ++ List.replicate ((r - gr) * w) (bl 0) := by
    rw [List.drop_zero, List.take_length, hpr]
  have hel : (rowsW cs gw w gr ++ List.replicate ((r - gr) * w) (bl 0)).length = gr * w + (r - gr) * w := by rw [List.length_append, hl1, List.length_replicate]
  rw [he]
  repeat' (first|refine Seal.mk ?_|(refine wS ?_;(conv=>whnf);fail_if_success show False)|((first|refine opsA_step ?_|refine drawS_go ?_|refine wD (id:=2) (.quick 0 (.quick 1 (.quick 2 (.quick 3 (.quick 4 (.quick 5 (.quick 6 (.quick 7 (.quick 9 (.quick 11 (.stable 8 (.stable 10 (.all (.step 12 (.quick 13 (.all (.step 14 .done))))))))))))))))) [12, 14] (by kernel_rfl) rfl ?_|apply wL (widened bs gw w mb hb (by omega) (by omega) (by omega)));conv=>whnf)|(intro _;first|omega|conv=>whnf)|(apply And.intro<;>intro _<;>first|omega|conv=>whnf)|refine ⟨Seal.mk ?_,Seal.mk ?_⟩|((first|refine ⟨leaf,?_⟩|refine Or.inl ⟨leaf,?_⟩|apply Or.inr|refine ⟨_,rfl,?_⟩|refine ⟨_,⟨rfl,rfl⟩,?_⟩|refine ⟨intE .u8,⟨rfl,fun _=>rfl⟩,?_⟩|refine ⟨_,⟨rfl,rfl,leaf⟩,?_⟩);conv=>whnf)|with_reducible assumption|exact leaf|fail)
  have hpre : rowsW cs gw w gr ++ List.replicate ((r - gr) * w) (bl 0) = resC cs gr gw r w ++ (rowsW cs gw w gr ++ List.replicate ((r - gr) * w) (bl 0)).drop (r * w) := by
    rw [← resC_take, List.take_append_drop]
  all_goals (refine ⟨(),⟨⟩,?_⟩;((try refine wF ?_);repeat' (first|exact ⟨⟩|refine ⟨leaf,?_⟩|((conv=>whnf);first|exact ⟨⟩|refine ⟨leaf,?_⟩))))
end Go.Mu
