/- A terminal of another size. -/
import Derived.Test.YtcimmkokkmbhpaaGreatR9
import Derived.Test.YtcimmkokkmbhpaaGreatLH
import Derived.Test.YtcimmkokkmbhpaaGreatPF
import Derived.Test.YtcimmkokkmbhpaaGreatLI
import Derived.Test.YtcimmkokkmbhpaaGreatVm37
set_option linter.unusedSimpArgs false
set_option linter.unusedVariables false
set_option linter.constructorNameAsVariable false
namespace Go.Mu
open Go Go.Vm Go.RowKit Go.Proofs
attribute [local irreducible] wpA opsA stillA drawA drawS
set_option maxRecDepth 20000
set_option maxHeartbeats 40000000
theorem leafS3 {P : Prop} (h : P := by
  first
  | exact leaf
  | exact PreC.of_eq rfl
  | rfl
  | exact Bool.false_ne_true
  | exact ⟨rfl, rfl⟩
  | fail) : P := h
theorem unlessY {p : Prop} (hp : p) (c : Int) : CallA S 91 [.prop p, .int .i64 c] ⟨[], 0⟩ (Ret1 (.int .i64 0) ⟨[], 0⟩) :=
  (unlessF p c).mono fun v H' ⟨g, h, h1, h2⟩ => ⟨(), trivial, by rw [h1, h.1 hp], h2⟩
theorem unlessX {p : Prop} (hp : ¬ p) (c : Int) : CallA S 91 [.prop p, .int .i64 c] ⟨[], 0⟩ (Ret1 (.int .i64 c) ⟨[], 0⟩) :=
  (unlessF p c).mono fun v H' ⟨g, h, h1, h2⟩ => ⟨(), trivial, by rw [h1, h.2 hp], h2⟩
theorem implResizeVt (s : Vt) (h : VtB s) (r w : Int) : CallA S 24 [.agg (vtC (.loc 0) (.loc 1) (.loc 2) (.loc 3) (.loc 4) s), .int .i64 r, .int .i64 w] ⟨vtH false (.loc 0) (.loc 1) (.loc 2) (.loc 3) (.loc 4) s [], 5⟩ (Ret1 (.agg (vtRC (.loc 5) (.loc 6) (.loc 7) (.loc 8) (.loc 9) (resVR s r w))) ⟨vtRH true (.loc 5) (.loc 6) (.loc 7) (.loc 8) (.loc 9) (resVR s r w) [], 10⟩) := by
  by_cases hf : vtF s = 0
  by_cases hn : (1 ≤ r ∧ r ≤ 6) ∧ 2 ≤ w ∧ w ≤ 12
  · rw [resVR_ok hf hn]
    have hs := vt_ok hf
    have hg := scr_good hs
    obtain ⟨r, rfl⟩ := Int.eq_ofNat_of_zero_le (show 0 ≤ r by omega)
    obtain ⟨w, rfl⟩ := Int.eq_ofNat_of_zero_le (show 0 ≤ w by omega)
    have hn' := hn
    have hn : (1 ≤ r ∧ r ≤ 6) ∧ 2 ≤ w ∧ w ≤ 12 := by omega
    simp only [Int.toNat_natCast]
    have e : firstNZ [vtF s, 0] = 0 := by simp [firstNZ, *]
    refine .ofC hS _ _ _ Tryz.func24 ?_
    conv => whnf
    repeat' (first|refine Seal.mk ?_|(refine wS ?_;(conv=>whnf);fail_if_success show False)|((first|refine opsA_step ?_|refine drawS_go ?_|apply wL (vtFault _ h)|apply wL (sizeOk _ _)|apply wL (unlessY hn' 3)|apply wL (first [_, _] (Nat.le_of_ble_eq_true rfl))|apply wL (cloneVt _ h)|apply wL (scrResized s.scr h.scr s.scr.grid.rows.toNat s.scr.grid.width.toNat (s.scr.grid.back.length / s.scr.grid.width.toNat) r w hg.fr hg.fw hg.fc hg.fb hg.fm hg.sr hg.sw hn.1 hn.2 (by have := hg.ft; have := hg.sw; omega)));conv=>whnf)|(intro _;first|omega|conv=>whnf)|(apply And.intro<;>intro _<;>first|omega|conv=>whnf)|refine ⟨Seal.mk ?_,Seal.mk ?_⟩|((first|refine ⟨leafS3,?_⟩|refine Or.inl ⟨leafS3,?_⟩|apply Or.inr|refine ⟨_,rfl,?_⟩|refine ⟨_,⟨rfl,rfl⟩,?_⟩|refine ⟨intE .u8,⟨rfl,fun _=>rfl⟩,?_⟩|refine ⟨_,⟨rfl,rfl,leafS3⟩,?_⟩);conv=>whnf)|with_reducible assumption|exact leafS3|fail)
    all_goals (refine ⟨(),⟨⟩,?_⟩;((try refine wF ?_);repeat' (first|exact ⟨⟩|refine ⟨leafS3,?_⟩|((conv=>whnf);first|exact ⟨⟩|refine ⟨leafS3,?_⟩))))
  · rw [resVR_n hf hn]
    have hs := vt_ok hf
    have e : firstNZ [vtF s, 3] = 3 := by simp [firstNZ, *]
    refine .ofC hS _ _ _ Tryz.func24 ?_
    conv => whnf
    repeat' (first|refine Seal.mk ?_|(refine wS ?_;(conv=>whnf);fail_if_success show False)|((first|refine opsA_step ?_|refine drawS_go ?_|apply wL (vtFault _ h)|apply wL (sizeOk _ _)|apply wL (unlessX hn 3)|apply wL (first [_, _] (Nat.le_of_ble_eq_true rfl)));conv=>whnf)|(intro _;first|omega|conv=>whnf)|(apply And.intro<;>intro _<;>first|omega|conv=>whnf)|refine ⟨Seal.mk ?_,Seal.mk ?_⟩|((first|refine ⟨leafS3,?_⟩|refine Or.inl ⟨leafS3,?_⟩|apply Or.inr|refine ⟨_,rfl,?_⟩|refine ⟨_,⟨rfl,rfl⟩,?_⟩|refine ⟨intE .u8,⟨rfl,fun _=>rfl⟩,?_⟩|refine ⟨_,⟨rfl,rfl,leafS3⟩,?_⟩);conv=>whnf)|with_reducible assumption|exact leafS3|fail)
    all_goals (first | (exfalso; omega) | (refine ⟨(),⟨⟩,?_⟩;((try refine wF ?_);repeat' (first|exact ⟨⟩|refine ⟨leafS3,?_⟩|((conv=>whnf);first|exact ⟨⟩|refine ⟨leafS3,?_⟩)))))
  · rw [resVR_bad hf]
    have e : ∀ x, firstNZ [vtF s, x] = vtF s := fun x => by simp [firstNZ, *]
    refine .ofC hS _ _ _ Tryz.func24 ?_
    conv => whnf
    repeat' (first|refine Seal.mk ?_|(refine wS ?_;(conv=>whnf);fail_if_success show False)|((first|refine opsA_step ?_|refine drawS_go ?_|apply wL (vtFault _ h)|apply wL (sizeOk _ _)|apply wL (unlessF _ _)|apply wL (first [_, _] (Nat.le_of_ble_eq_true rfl)));conv=>whnf)|(intro _;first|omega|conv=>whnf)|(apply And.intro<;>intro _<;>first|omega|conv=>whnf)|refine ⟨Seal.mk ?_,Seal.mk ?_⟩|((first|refine ⟨leafS3,?_⟩|refine Or.inl ⟨leafS3,?_⟩|apply Or.inr|refine ⟨_,rfl,?_⟩|refine ⟨_,⟨rfl,rfl⟩,?_⟩|refine ⟨intE .u8,⟨rfl,fun _=>rfl⟩,?_⟩|refine ⟨_,⟨rfl,rfl,leafS3⟩,?_⟩);conv=>whnf)|with_reducible assumption|exact leafS3|fail)
    all_goals (first | (exfalso; rename_i q; rw [e] at q; omega) | (rw [e] at *; (refine ⟨(),⟨⟩,?_⟩;((try refine wF ?_);repeat' (first|exact ⟨⟩|refine ⟨leafS3,?_⟩|((conv=>whnf);first|exact ⟨⟩|refine ⟨leafS3,?_⟩))))))
theorem specResizeVt (s : Vt) (h : VtB s) (r w : Int) : CallA S 22 [.agg (vtC (.loc 0) (.loc 1) (.loc 2) (.loc 3) (.loc 4) s), .int .i64 r, .int .i64 w] ⟨vtH false (.loc 0) (.loc 1) (.loc 2) (.loc 3) (.loc 4) s [], 5⟩ (Ret1 (.agg (vtRC (.loc 5) (.loc 6) (.loc 7) (.loc 8) (.loc 9) (resVR s r w))) ⟨vtRH true (.loc 5) (.loc 6) (.loc 7) (.loc 8) (.loc 9) (resVR s r w) [], 10⟩) := by
  by_cases hf : vtF s = 0
  by_cases hn : (1 ≤ r ∧ r ≤ 6) ∧ 2 ≤ w ∧ w ≤ 12
  · rw [resVR_ok hf hn]
    have hs := vt_ok hf
    have hg := scr_good hs
    obtain ⟨r, rfl⟩ := Int.eq_ofNat_of_zero_le (show 0 ≤ r by omega)
    obtain ⟨w, rfl⟩ := Int.eq_ofNat_of_zero_le (show 0 ≤ w by omega)
    have hn' := hn
    have hn : (1 ≤ r ∧ r ≤ 6) ∧ 2 ≤ w ∧ w ≤ 12 := by omega
    simp only [Int.toNat_natCast]
    refine .ofC hS _ _ _ Tryz.func22 ?_
    conv => whnf
    repeat' (first|refine Seal.mk ?_|(refine wS ?_;(conv=>whnf);fail_if_success show False)|((first|refine opsA_step ?_|refine drawS_go ?_|apply wL (l6Fault _ h)|apply wL (specScreen s.scr h.scr s.scr.grid.rows.toNat s.scr.grid.width.toNat (s.scr.grid.back.length / s.scr.grid.width.toNat) r w hs hg hn.1 hn.2)|apply wL (l6Copy _ h));conv=>whnf)|(intro _;first|omega|conv=>whnf)|(apply And.intro<;>intro _<;>first|omega|conv=>whnf)|refine ⟨Seal.mk ?_,Seal.mk ?_⟩|((first|refine ⟨leafS3,?_⟩|refine Or.inl ⟨leafS3,?_⟩|apply Or.inr|refine ⟨_,rfl,?_⟩|refine ⟨_,⟨rfl,rfl⟩,?_⟩|refine ⟨intE .u8,⟨rfl,fun _=>rfl⟩,?_⟩|refine ⟨_,⟨rfl,rfl,leafS3⟩,?_⟩);conv=>whnf)|with_reducible assumption|exact leafS3|fail)
    all_goals (refine ⟨(),⟨⟩,?_⟩;((try refine wF ?_);repeat' (first|exact ⟨⟩|refine ⟨leafS3,?_⟩|((conv=>whnf);first|exact ⟨⟩|refine ⟨leafS3,?_⟩))))
  · rw [resVR_n hf hn]
    have hs := vt_ok hf
    refine .ofC hS _ _ _ Tryz.func22 ?_
    conv => whnf
    repeat' (first|refine Seal.mk ?_|(refine wS ?_;(conv=>whnf);fail_if_success show False)|((first|refine opsA_step ?_|refine drawS_go ?_|apply wL (l6Fault _ h)|apply wL (specScreenBad s.scr h.scr r w hs hn));conv=>whnf)|(intro _;first|omega|conv=>whnf)|(apply And.intro<;>intro _<;>first|omega|conv=>whnf)|refine ⟨Seal.mk ?_,Seal.mk ?_⟩|((first|refine ⟨leafS3,?_⟩|refine Or.inl ⟨leafS3,?_⟩|apply Or.inr|refine ⟨_,rfl,?_⟩|refine ⟨_,⟨rfl,rfl⟩,?_⟩|refine ⟨intE .u8,⟨rfl,fun _=>rfl⟩,?_⟩|refine ⟨_,⟨rfl,rfl,leafS3⟩,?_⟩);conv=>whnf)|with_reducible assumption|exact leafS3|fail)
    all_goals (first | (exfalso; omega) | (refine ⟨(),⟨⟩,?_⟩;((try refine wF ?_);repeat' (first|exact ⟨⟩|refine ⟨leafS3,?_⟩|((conv=>whnf);first|exact ⟨⟩|refine ⟨leafS3,?_⟩)))))
  · rw [resVR_bad hf]
    refine .ofC hS _ _ _ Tryz.func22 ?_
    conv => whnf
    repeat' (first|refine Seal.mk ?_|(refine wS ?_;(conv=>whnf);fail_if_success show False)|((first|refine opsA_step ?_|refine drawS_go ?_|apply wL (l6Fault _ h));conv=>whnf)|(intro _;first|omega|conv=>whnf)|(apply And.intro<;>intro _<;>first|omega|conv=>whnf)|refine ⟨Seal.mk ?_,Seal.mk ?_⟩|((first|refine ⟨leafS3,?_⟩|refine Or.inl ⟨leafS3,?_⟩|apply Or.inr|refine ⟨_,rfl,?_⟩|refine ⟨_,⟨rfl,rfl⟩,?_⟩|refine ⟨intE .u8,⟨rfl,fun _=>rfl⟩,?_⟩|refine ⟨_,⟨rfl,rfl,leafS3⟩,?_⟩);conv=>whnf)|with_reducible assumption|exact leafS3|fail)
    all_goals (refine ⟨(),⟨⟩,?_⟩;((try refine wF ?_);repeat' (first|exact ⟨⟩|refine ⟨leafS3,?_⟩|((conv=>whnf);first|exact ⟨⟩|refine ⟨leafS3,?_⟩))))
end Go.Mu
