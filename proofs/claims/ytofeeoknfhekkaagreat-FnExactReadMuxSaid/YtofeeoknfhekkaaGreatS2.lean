/- A console is read. -/
import Derived.Test.YtofeeoknfhekkaaGreatCD
import Derived.Test.YtofeeoknfhekkaaGreatLH
import Derived.Test.YtofeeoknfhekkaaGreatPF
import Derived.Test.YtofeeoknfhekkaaGreatLI
import Derived.Test.YtofeeoknfhekkaaGreatVmI
import Derived.Test.YtofeeoknfhekkaaGreatNB
set_option linter.unusedSimpArgs false
set_option linter.unusedVariables false
set_option linter.constructorNameAsVariable false
namespace Go.Mu
open Go Go.Vm Go.RowKit Go.Proofs
attribute [local irreducible] wpA opsA stillA drawA drawS
set_option maxRecDepth 20000
set_option maxHeartbeats 40000000
theorem leafS2 {P : Prop} (h : P := by
  first
  | exact leaf
  | exact PreC.of_eq rfl
  | rfl
  | exact Bool.false_ne_true
  | exact ⟨rfl, rfl⟩
  | fail) : P := h
theorem con_ok {s : Con} (h : conF s = 0) : wayF s.way = 0 ∧ linF s.lin = 0 := by
  unfold conF at h
  simp only [firstNZ] at h
  split at h
  · split at h
    · split at h
      · exact ⟨by assumption, by assumption⟩
      · omega
    · omega
  · omega
theorem readLR_code (w : Wy) (s : Lin) (n : Int) : (readLR w s n).code = 0 := by
  unfold readLR
  split <;> rfl
theorem readLR_B {w : Wy} {s : Lin} (h : LinB s) {n : Int} (hn : n ≤ 99) : (readLR w s n).bytes.length ≤ 1048576 ∧ LinB (readLR w s n).lin := by
  unfold readLR
  split
  · exact ⟨by simp, h⟩
  · have hb := rd_bounds (canon w) s.ready n.toNat
    have h1 := h.ready
    have h2 := h.readyS
    exact ⟨by simp only; omega, ⟨by simp only; omega, by simp only; omega, h.edit⟩⟩
def errK (k : Int) : ConR := ⟨k, false, [], con0⟩
noncomputable def readRC (s : Con) (n : Int) : ConR := open Classical in
  if conF s = 0 then (if 1 ≤ n ∧ n ≤ 99 then ⟨0, (readLR s.way s.lin n).hit, (readLR s.way s.lin n).bytes, { s with lin := (readLR s.way s.lin n).lin }⟩ else errK 3) else errK (conF s)
theorem readRC_ok {s : Con} {n : Int} (hf : conF s = 0) (hn : 1 ≤ n ∧ n ≤ 99) : readRC s n = ⟨0, (readLR s.way s.lin n).hit, (readLR s.way s.lin n).bytes, { s with lin := (readLR s.way s.lin n).lin }⟩ := by unfold readRC; rw [if_pos hf, if_pos hn]
theorem readRC_n {s : Con} {n : Int} (hf : conF s = 0) (hn : ¬ (1 ≤ n ∧ n ≤ 99)) : readRC s n = ⟨3, false, [], con0⟩ := by unfold readRC; rw [if_pos hf, if_neg hn]; rfl
theorem readRC_bad {s : Con} {n : Int} (hf : ¬ conF s = 0) : readRC s n = ⟨conF s, false, [], con0⟩ := by unfold readRC; rw [if_neg hf]; rfl
theorem readRC_B {s : Con} (h : ConB s) (n : Int) : ConRB (readRC s n) := by
  by_cases hf : conF s = 0
  · by_cases hn : 1 ≤ n ∧ n ≤ 99
    · rw [readRC_ok hf hn]
      have := readLR_B (w := s.way) h.lin (n := n) hn.2
      exact ⟨this.1, ⟨h.vt, this.2⟩⟩
    · rw [readRC_n hf hn]; exact ⟨by simp, con0B⟩
  · rw [readRC_bad hf]; exact ⟨by simp, con0B⟩
theorem implReadConsole (s : Con) (h : ConB s) (n : Int) : CallA S 102 [.agg (conC (.loc 0) (.loc 1) (.loc 2) (.loc 3) (.loc 4) (.loc 5) (.loc 6) s), .int .i64 n] ⟨conH false (.loc 0) (.loc 1) (.loc 2) (.loc 3) (.loc 4) (.loc 5) (.loc 6) s [], 7⟩ (Ret1 (.agg (conRC (.loc 7) (.loc 8) (.loc 9) (.loc 10) (.loc 11) (.loc 12) (.loc 13) (.loc 14) (readRC s n))) ⟨conRH true (.loc 7) (.loc 8) (.loc 9) (.loc 10) (.loc 11) (.loc 12) (.loc 13) (.loc 14) (readRC s n) [], 15⟩) := by
  by_cases hf : conF s = 0
  by_cases hn : 1 ≤ n ∧ n ≤ 99
  · rw [readRC_ok hf hn]
    obtain ⟨hw, hl⟩ := con_ok hf
    have hc := readLR_code s.way s.lin n
    refine .ofC hS _ _ _ Tryz.func102 ?_
    conv => whnf
    repeat' (first|refine Seal.mk ?_|(refine wS ?_;(conv=>whnf);fail_if_success show False)|((first|refine opsA_step ?_|refine drawS_go ?_|apply wL (conFault _ h)|apply wL (readLine s.way s.lin h.lin n hw hl hn)|apply wL (cloneCon _ h));conv=>whnf)|(intro _;first|omega|conv=>whnf)|(apply And.intro<;>intro _<;>first|omega|conv=>whnf)|refine ⟨Seal.mk ?_,Seal.mk ?_⟩|((first|(apply And.intro;focus exact leafS2)|(apply Or.inl;apply And.intro;focus exact leafS2)|apply Or.inr|refine ⟨_,rfl,?_⟩|refine ⟨_,⟨rfl,rfl⟩,?_⟩|refine ⟨intE .u8,⟨rfl,fun _=>rfl⟩,?_⟩|(refine Exists.intro _ (And.intro (And.intro rfl (And.intro rfl ?_)) ?_);focus exact leafS2));conv=>whnf)|with_reducible assumption|((fail_if_success refine Exists.intro ?_ ?_);exact leafS2)|fail)
    all_goals (refine ⟨(),⟨⟩,?_⟩;((try refine wF ?_);repeat' (first|exact ⟨⟩|(apply And.intro;focus exact leafS2)|((conv=>whnf);first|exact ⟨⟩|(apply And.intro;focus exact leafS2))|fail)))
  · rw [readRC_n hf hn]
    obtain ⟨hw, hl⟩ := con_ok hf
    refine .ofC hS _ _ _ Tryz.func102 ?_
    conv => whnf
    repeat' (first|refine Seal.mk ?_|(refine wS ?_;(conv=>whnf);fail_if_success show False)|((first|refine opsA_step ?_|refine drawS_go ?_|apply wL (conFault _ h)|apply wL (readLineBad s.way s.lin h.lin n hw hl hn)|apply wL (cloneCon _ h));conv=>whnf)|(intro _;first|omega|conv=>whnf)|(apply And.intro<;>intro _<;>first|omega|conv=>whnf)|refine ⟨Seal.mk ?_,Seal.mk ?_⟩|((first|(apply And.intro;focus exact leafS2)|(apply Or.inl;apply And.intro;focus exact leafS2)|apply Or.inr|refine ⟨_,rfl,?_⟩|refine ⟨_,⟨rfl,rfl⟩,?_⟩|refine ⟨intE .u8,⟨rfl,fun _=>rfl⟩,?_⟩|(refine Exists.intro _ (And.intro (And.intro rfl (And.intro rfl ?_)) ?_);focus exact leafS2));conv=>whnf)|with_reducible assumption|((fail_if_success refine Exists.intro ?_ ?_);exact leafS2)|fail)
    all_goals (refine ⟨(),⟨⟩,?_⟩;((try refine wF ?_);repeat' (first|exact ⟨⟩|(apply And.intro;focus exact leafS2)|((conv=>whnf);first|exact ⟨⟩|(apply And.intro;focus exact leafS2))|fail)))
  · rw [readRC_bad hf]
    refine .ofC hS _ _ _ Tryz.func102 ?_
    conv => whnf
    repeat' (first|refine Seal.mk ?_|(refine wS ?_;(conv=>whnf);fail_if_success show False)|((first|refine opsA_step ?_|refine drawS_go ?_|apply wL (conFault _ h)|apply wL (cloneCon _ h));conv=>whnf)|(intro _;first|omega|conv=>whnf)|(apply And.intro<;>intro _<;>first|omega|conv=>whnf)|refine ⟨Seal.mk ?_,Seal.mk ?_⟩|((first|(apply And.intro;focus exact leafS2)|(apply Or.inl;apply And.intro;focus exact leafS2)|apply Or.inr|refine ⟨_,rfl,?_⟩|refine ⟨_,⟨rfl,rfl⟩,?_⟩|refine ⟨intE .u8,⟨rfl,fun _=>rfl⟩,?_⟩|(refine Exists.intro _ (And.intro (And.intro rfl (And.intro rfl ?_)) ?_);focus exact leafS2));conv=>whnf)|with_reducible assumption|((fail_if_success refine Exists.intro ?_ ?_);exact leafS2)|fail)
    all_goals (refine ⟨(),⟨⟩,?_⟩;((try refine wF ?_);repeat' (first|exact ⟨⟩|(apply And.intro;focus exact leafS2)|((conv=>whnf);first|exact ⟨⟩|(apply And.intro;focus exact leafS2))|fail)))
theorem specReadConsole (s : Con) (h : ConB s) (n : Int) : CallA S 100 [.agg (conC (.loc 0) (.loc 1) (.loc 2) (.loc 3) (.loc 4) (.loc 5) (.loc 6) s), .int .i64 n] ⟨conH false (.loc 0) (.loc 1) (.loc 2) (.loc 3) (.loc 4) (.loc 5) (.loc 6) s [], 7⟩ (Ret1 (.agg (conRC (.loc 7) (.loc 8) (.loc 9) (.loc 10) (.loc 11) (.loc 12) (.loc 13) (.loc 14) (readRC s n))) ⟨conRH true (.loc 7) (.loc 8) (.loc 9) (.loc 10) (.loc 11) (.loc 12) (.loc 13) (.loc 14) (readRC s n) [], 15⟩) := by
  by_cases hf : conF s = 0
  by_cases hn : 1 ≤ n ∧ n ≤ 99
  · rw [readRC_ok hf hn]
    obtain ⟨hw, hl⟩ := con_ok hf
    have hc := readLR_code s.way s.lin n
    refine .ofC hS _ _ _ Tryz.func100 ?_
    conv => whnf
    repeat' (first|refine Seal.mk ?_|(refine wS ?_;(conv=>whnf);fail_if_success show False)|((first|refine opsA_step ?_|refine drawS_go ?_|apply wL (l13Fault _ h)|apply wL (specReadLine s.way s.lin h.lin n hw hl hn)|apply wL (l13Bad _)|apply wL (l13Copy _ h));conv=>whnf)|(intro _;first|omega|conv=>whnf)|(apply And.intro<;>intro _<;>first|omega|conv=>whnf)|refine ⟨Seal.mk ?_,Seal.mk ?_⟩|((first|(apply And.intro;focus exact leafS2)|(apply Or.inl;apply And.intro;focus exact leafS2)|apply Or.inr|refine ⟨_,rfl,?_⟩|refine ⟨_,⟨rfl,rfl⟩,?_⟩|refine ⟨intE .u8,⟨rfl,fun _=>rfl⟩,?_⟩|(refine Exists.intro _ (And.intro (And.intro rfl (And.intro rfl ?_)) ?_);focus exact leafS2));conv=>whnf)|with_reducible assumption|((fail_if_success refine Exists.intro ?_ ?_);exact leafS2)|fail)
    all_goals (refine ⟨(),⟨⟩,?_⟩;((try refine wF ?_);repeat' (first|exact ⟨⟩|(apply And.intro;focus exact leafS2)|((conv=>whnf);first|exact ⟨⟩|(apply And.intro;focus exact leafS2))|fail)))
  · rw [readRC_n hf hn]
    obtain ⟨hw, hl⟩ := con_ok hf
    refine .ofC hS _ _ _ Tryz.func100 ?_
    conv => whnf
    repeat' (first|refine Seal.mk ?_|(refine wS ?_;(conv=>whnf);fail_if_success show False)|((first|refine opsA_step ?_|refine drawS_go ?_|apply wL (l13Fault _ h)|apply wL (specReadLineBad s.way s.lin h.lin n hw hl hn)|apply wL (l13Bad _)|apply wL (l13Copy _ h));conv=>whnf)|(intro _;first|omega|conv=>whnf)|(apply And.intro<;>intro _<;>first|omega|conv=>whnf)|refine ⟨Seal.mk ?_,Seal.mk ?_⟩|((first|(apply And.intro;focus exact leafS2)|(apply Or.inl;apply And.intro;focus exact leafS2)|apply Or.inr|refine ⟨_,rfl,?_⟩|refine ⟨_,⟨rfl,rfl⟩,?_⟩|refine ⟨intE .u8,⟨rfl,fun _=>rfl⟩,?_⟩|(refine Exists.intro _ (And.intro (And.intro rfl (And.intro rfl ?_)) ?_);focus exact leafS2));conv=>whnf)|with_reducible assumption|((fail_if_success refine Exists.intro ?_ ?_);exact leafS2)|fail)
    all_goals (refine ⟨(),⟨⟩,?_⟩;((try refine wF ?_);repeat' (first|exact ⟨⟩|(apply And.intro;focus exact leafS2)|((conv=>whnf);first|exact ⟨⟩|(apply And.intro;focus exact leafS2))|fail)))
  · rw [readRC_bad hf]
    refine .ofC hS _ _ _ Tryz.func100 ?_
    conv => whnf
    repeat' (first|refine Seal.mk ?_|(refine wS ?_;(conv=>whnf);fail_if_success show False)|((first|refine opsA_step ?_|refine drawS_go ?_|apply wL (l13Fault _ h)|apply wL (l13Bad _)|apply wL (l13Copy _ h));conv=>whnf)|(intro _;first|omega|conv=>whnf)|(apply And.intro<;>intro _<;>first|omega|conv=>whnf)|refine ⟨Seal.mk ?_,Seal.mk ?_⟩|((first|(apply And.intro;focus exact leafS2)|(apply Or.inl;apply And.intro;focus exact leafS2)|apply Or.inr|refine ⟨_,rfl,?_⟩|refine ⟨_,⟨rfl,rfl⟩,?_⟩|refine ⟨intE .u8,⟨rfl,fun _=>rfl⟩,?_⟩|(refine Exists.intro _ (And.intro (And.intro rfl (And.intro rfl ?_)) ?_);focus exact leafS2));conv=>whnf)|with_reducible assumption|((fail_if_success refine Exists.intro ?_ ?_);exact leafS2)|fail)
    all_goals (refine ⟨(),⟨⟩,?_⟩;((try refine wF ?_);repeat' (first|exact ⟨⟩|(apply And.intro;focus exact leafS2)|((conv=>whnf);first|exact ⟨⟩|(apply And.intro;focus exact leafS2))|fail)))
end Go.Mu
