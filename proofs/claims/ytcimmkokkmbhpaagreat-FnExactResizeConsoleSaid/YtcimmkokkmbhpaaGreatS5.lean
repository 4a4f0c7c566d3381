/- A console of another size. -/
import Derived.Test.YtcimmkokkmbhpaaGreatS3
import Derived.Test.YtcimmkokkmbhpaaGreatCD
set_option linter.unusedSimpArgs false
set_option linter.unusedVariables false
set_option linter.constructorNameAsVariable false
namespace Go.Mu
open Go Go.Vm Go.RowKit Go.Proofs
attribute [local irreducible] wpA opsA stillA drawA drawS
set_option maxRecDepth 20000
set_option maxHeartbeats 40000000
theorem leafS5 {P : Prop} (h : P := by
  first
  | exact leaf
  | exact PreC.of_eq rfl
  | rfl
  | exact Bool.false_ne_true
  | exact ⟨rfl, rfl⟩
  | fail) : P := h
theorem conF_ok {s : Con} (h : conF s = 0) : vtF s.vt = 0 := by
  unfold conF at h
  simp only [firstNZ] at h
  split at h
  · assumption
  · omega
noncomputable def resCR (s : Con) (r w : Int) : ConR := open Classical in
  if conF s = 0 then (if (1 ≤ r ∧ r ≤ 6) ∧ 2 ≤ w ∧ w ≤ 12 then ⟨0, false, [], { s with vt := (resVR s.vt r w).vt }⟩ else ⟨3, false, [], con0⟩) else ⟨conF s, false, [], con0⟩
theorem resCR_ok {s : Con} {r w : Int} (hf : conF s = 0) (hn : (1 ≤ r ∧ r ≤ 6) ∧ 2 ≤ w ∧ w ≤ 12) : resCR s r w = ⟨0, false, [], { s with vt := (resVR s.vt r w).vt }⟩ := by unfold resCR; rw [if_pos hf, if_pos hn]
theorem resCR_n {s : Con} {r w : Int} (hf : conF s = 0) (hn : ¬ ((1 ≤ r ∧ r ≤ 6) ∧ 2 ≤ w ∧ w ≤ 12)) : resCR s r w = ⟨3, false, [], con0⟩ := by unfold resCR; rw [if_pos hf, if_neg hn]
theorem resCR_bad {s : Con} {r w : Int} (hf : ¬ conF s = 0) : resCR s r w = ⟨conF s, false, [], con0⟩ := by unfold resCR; rw [if_neg hf]
theorem resCR_B {s : Con} (h : ConB s) (r w : Int) : ConRB (resCR s r w) := by
  by_cases hf : conF s = 0
  · by_cases hn : (1 ≤ r ∧ r ≤ 6) ∧ 2 ≤ w ∧ w ≤ 12
    · rw [resCR_ok hf hn]; exact ⟨by simp, ⟨(resVR_B h.vt r w).vt, h.lin⟩⟩
    · rw [resCR_n hf hn]; exact ⟨by simp, con0B⟩
  · rw [resCR_bad hf]; exact ⟨by simp, con0B⟩
theorem implResizeConsole (s : Con) (h : ConB s) (r w : Int) : CallA S 45 [.agg (conC (.loc 0) (.loc 1) (.loc 2) (.loc 3) (.loc 4) (.loc 5) (.loc 6) s), .int .i64 r, .int .i64 w] ⟨conH false (.loc 0) (.loc 1) (.loc 2) (.loc 3) (.loc 4) (.loc 5) (.loc 6) s [], 7⟩ (Ret1 (.agg (conRC (.loc 7) (.loc 8) (.loc 9) (.loc 10) (.loc 11) (.loc 12) (.loc 13) (.loc 14) (resCR s r w))) ⟨conRH true (.loc 7) (.loc 8) (.loc 9) (.loc 10) (.loc 11) (.loc 12) (.loc 13) (.loc 14) (resCR s r w) [], 15⟩) := by
  by_cases hf : conF s = 0
  by_cases hn : (1 ≤ r ∧ r ≤ 6) ∧ 2 ≤ w ∧ w ≤ 12
  · rw [resCR_ok hf hn]
    have hv := conF_ok hf
    rw [resVR_ok hv hn]
    have hg := scr_good (vt_ok hv)
    obtain ⟨r, rfl⟩ := Int.eq_ofNat_of_zero_le (show 0 ≤ r by omega)
    obtain ⟨w, rfl⟩ := Int.eq_ofNat_of_zero_le (show 0 ≤ w by omega)
    have hn' := hn
    have hn : (1 ≤ r ∧ r ≤ 6) ∧ 2 ≤ w ∧ w ≤ 12 := by omega
    simp only [Int.toNat_natCast]
    have e : firstNZ [conF s, 0] = 0 := by simp [firstNZ, *]
    refine .ofC hS _ _ _ Tryz.func45 ?_
    conv => whnf
    repeat' (first|refine Seal.mk ?_|(refine wS ?_;(conv=>whnf);fail_if_success show False)|((first|refine opsA_step ?_|refine drawS_go ?_|apply wL (conFault _ h)|apply wL (sizeOk _ _)|apply wL (unlessY hn' 3)|apply wL (first [_, _] (Nat.le_of_ble_eq_true rfl))|apply wL (cloneCon _ h)|apply wL (scrResized s.vt.scr h.vt.scr s.vt.scr.grid.rows.toNat s.vt.scr.grid.width.toNat (s.vt.scr.grid.back.length / s.vt.scr.grid.width.toNat) r w hg.fr hg.fw hg.fc hg.fb hg.fm hg.sr hg.sw hn.1 hn.2 (by have := hg.ft; have := hg.sw; omega)));conv=>whnf)|(intro _;first|omega|conv=>whnf)|(apply And.intro<;>intro _<;>first|omega|conv=>whnf)|refine ⟨Seal.mk ?_,Seal.mk ?_⟩|((first|refine ⟨leafS5,?_⟩|refine Or.inl ⟨leafS5,?_⟩|apply Or.inr|refine ⟨_,rfl,?_⟩|refine ⟨_,⟨rfl,rfl⟩,?_⟩|refine ⟨intE .u8,⟨rfl,fun _=>rfl⟩,?_⟩|refine ⟨_,⟨rfl,rfl,leafS5⟩,?_⟩);conv=>whnf)|with_reducible assumption|exact leafS5|fail)
    all_goals (refine ⟨(),⟨⟩,?_⟩;((try refine wF ?_);repeat' (first|exact ⟨⟩|refine ⟨leafS5,?_⟩|((conv=>whnf);first|exact ⟨⟩|refine ⟨leafS5,?_⟩))))
  · rw [resCR_n hf hn]
    have e : firstNZ [conF s, 3] = 3 := by simp [firstNZ, *]
    refine .ofC hS _ _ _ Tryz.func45 ?_
    conv => whnf
    repeat' (first|refine Seal.mk ?_|(refine wS ?_;(conv=>whnf);fail_if_success show False)|((first|refine opsA_step ?_|refine drawS_go ?_|apply wL (conFault _ h)|apply wL (sizeOk _ _)|apply wL (unlessX hn 3)|apply wL (first [_, _] (Nat.le_of_ble_eq_true rfl)));conv=>whnf)|(intro _;first|omega|conv=>whnf)|(apply And.intro<;>intro _<;>first|omega|conv=>whnf)|refine ⟨Seal.mk ?_,Seal.mk ?_⟩|((first|refine ⟨leafS5,?_⟩|refine Or.inl ⟨leafS5,?_⟩|apply Or.inr|refine ⟨_,rfl,?_⟩|refine ⟨_,⟨rfl,rfl⟩,?_⟩|refine ⟨intE .u8,⟨rfl,fun _=>rfl⟩,?_⟩|refine ⟨_,⟨rfl,rfl,leafS5⟩,?_⟩);conv=>whnf)|with_reducible assumption|exact leafS5|fail)
    all_goals (first | (exfalso; omega) | (refine ⟨(),⟨⟩,?_⟩;((try refine wF ?_);repeat' (first|exact ⟨⟩|refine ⟨leafS5,?_⟩|((conv=>whnf);first|exact ⟨⟩|refine ⟨leafS5,?_⟩)))))
  · rw [resCR_bad hf]
    have e : ∀ x, firstNZ [conF s, x] = conF s := fun x => by simp [firstNZ, *]
    refine .ofC hS _ _ _ Tryz.func45 ?_
    conv => whnf
    repeat' (first|refine Seal.mk ?_|(refine wS ?_;(conv=>whnf);fail_if_success show False)|((first|refine opsA_step ?_|refine drawS_go ?_|apply wL (conFault _ h)|apply wL (sizeOk _ _)|apply wL (unlessF _ _)|apply wL (first [_, _] (Nat.le_of_ble_eq_true rfl)));conv=>whnf)|(intro _;first|omega|conv=>whnf)|(apply And.intro<;>intro _<;>first|omega|conv=>whnf)|refine ⟨Seal.mk ?_,Seal.mk ?_⟩|((first|refine ⟨leafS5,?_⟩|refine Or.inl ⟨leafS5,?_⟩|apply Or.inr|refine ⟨_,rfl,?_⟩|refine ⟨_,⟨rfl,rfl⟩,?_⟩|refine ⟨intE .u8,⟨rfl,fun _=>rfl⟩,?_⟩|refine ⟨_,⟨rfl,rfl,leafS5⟩,?_⟩);conv=>whnf)|with_reducible assumption|exact leafS5|fail)
    all_goals (first | (exfalso; rename_i q; rw [e] at q; omega) | (rw [e] at *; (refine ⟨(),⟨⟩,?_⟩;((try refine wF ?_);repeat' (first|exact ⟨⟩|refine ⟨leafS5,?_⟩|((conv=>whnf);first|exact ⟨⟩|refine ⟨leafS5,?_⟩))))))
theorem specResizeConsole (s : Con) (h : ConB s) (r w : Int) : CallA S 44 [.agg (conC (.loc 0) (.loc 1) (.loc 2) (.loc 3) (.loc 4) (.loc 5) (.loc 6) s), .int .i64 r, .int .i64 w] ⟨conH false (.loc 0) (.loc 1) (.loc 2) (.loc 3) (.loc 4) (.loc 5) (.loc 6) s [], 7⟩ (Ret1 (.agg (conRC (.loc 7) (.loc 8) (.loc 9) (.loc 10) (.loc 11) (.loc 12) (.loc 13) (.loc 14) (resCR s r w))) ⟨conRH true (.loc 7) (.loc 8) (.loc 9) (.loc 10) (.loc 11) (.loc 12) (.loc 13) (.loc 14) (resCR s r w) [], 15⟩) := by
  by_cases hf : conF s = 0
  by_cases hn : (1 ≤ r ∧ r ≤ 6) ∧ 2 ≤ w ∧ w ≤ 12
  · rw [resCR_ok hf hn]
    have hv := conF_ok hf
    have hc : (resVR s.vt r w).code = 0 := by rw [resVR_ok hv hn]
    refine .ofC hS _ _ _ Tryz.func44 ?_
    conv => whnf
    repeat' (first|refine Seal.mk ?_|(refine wS ?_;(conv=>whnf);fail_if_success show False)|((first|refine opsA_step ?_|refine drawS_go ?_|apply wL (l13Fault _ h)|apply wL (specResizeVt _ h.vt _ _)|apply wL (l13Copy _ h));conv=>whnf)|(intro _;first|omega|conv=>whnf)|(apply And.intro<;>intro _<;>first|omega|conv=>whnf)|refine ⟨Seal.mk ?_,Seal.mk ?_⟩|((first|refine ⟨leafS5,?_⟩|refine Or.inl ⟨leafS5,?_⟩|apply Or.inr|refine ⟨_,rfl,?_⟩|refine ⟨_,⟨rfl,rfl⟩,?_⟩|refine ⟨intE .u8,⟨rfl,fun _=>rfl⟩,?_⟩|refine ⟨_,⟨rfl,rfl,leafS5⟩,?_⟩);conv=>whnf)|with_reducible assumption|exact leafS5|fail)
    all_goals (first | (exfalso; omega) | (refine ⟨(),⟨⟩,?_⟩;((try refine wF ?_);repeat' (first|exact ⟨⟩|refine ⟨leafS5,?_⟩|((conv=>whnf);first|exact ⟨⟩|refine ⟨leafS5,?_⟩)))))
  · rw [resCR_n hf hn]
    have hv := conF_ok hf
    have hc : (resVR s.vt r w).code = 3 := by rw [resVR_n hv hn]
    refine .ofC hS _ _ _ Tryz.func44 ?_
    conv => whnf
    repeat' (first|refine Seal.mk ?_|(refine wS ?_;(conv=>whnf);fail_if_success show False)|((first|refine opsA_step ?_|refine drawS_go ?_|apply wL (l13Fault _ h)|apply wL (specResizeVt _ h.vt _ _)|apply wL (l13Bad _));conv=>whnf)|(intro _;first|omega|conv=>whnf)|(apply And.intro<;>intro _<;>first|omega|conv=>whnf)|refine ⟨Seal.mk ?_,Seal.mk ?_⟩|((first|refine ⟨leafS5,?_⟩|refine Or.inl ⟨leafS5,?_⟩|apply Or.inr|refine ⟨_,rfl,?_⟩|refine ⟨_,⟨rfl,rfl⟩,?_⟩|refine ⟨intE .u8,⟨rfl,fun _=>rfl⟩,?_⟩|refine ⟨_,⟨rfl,rfl,leafS5⟩,?_⟩);conv=>whnf)|with_reducible assumption|exact leafS5|fail)
    all_goals (first | (exfalso; omega) | (refine ⟨(),⟨⟩,?_⟩;((try refine wF ?_);repeat' (first|exact ⟨⟩|refine ⟨leafS5,?_⟩|((conv=>whnf);first|exact ⟨⟩|refine ⟨leafS5,?_⟩)))))
  · rw [resCR_bad hf]
    refine .ofC hS _ _ _ Tryz.func44 ?_
    conv => whnf
    repeat' (first|refine Seal.mk ?_|(refine wS ?_;(conv=>whnf);fail_if_success show False)|((first|refine opsA_step ?_|refine drawS_go ?_|apply wL (l13Fault _ h)|apply wL (l13Bad _));conv=>whnf)|(intro _;first|omega|conv=>whnf)|(apply And.intro<;>intro _<;>first|omega|conv=>whnf)|refine ⟨Seal.mk ?_,Seal.mk ?_⟩|((first|refine ⟨leafS5,?_⟩|refine Or.inl ⟨leafS5,?_⟩|apply Or.inr|refine ⟨_,rfl,?_⟩|refine ⟨_,⟨rfl,rfl⟩,?_⟩|refine ⟨intE .u8,⟨rfl,fun _=>rfl⟩,?_⟩|refine ⟨_,⟨rfl,rfl,leafS5⟩,?_⟩);conv=>whnf)|with_reducible assumption|exact leafS5|fail)
    all_goals (first | (exfalso; omega) | (refine ⟨(),⟨⟩,?_⟩;((try refine wF ?_);repeat' (first|exact ⟨⟩|refine ⟨leafS5,?_⟩|((conv=>whnf);first|exact ⟨⟩|refine ⟨leafS5,?_⟩)))))
end Go.Mu
