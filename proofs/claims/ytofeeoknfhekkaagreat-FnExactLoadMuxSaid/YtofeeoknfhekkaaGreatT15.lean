/- A mux is loaded with binds and texts. -/
import Derived.Test.YtofeeoknfhekkaaGreatTA
import Derived.Test.YtofeeoknfhekkaaGreatC5
set_option linter.unusedSimpArgs false
set_option linter.unusedVariables false
set_option linter.constructorNameAsVariable false
namespace Go.Mu
open Go Go.Vm Go.RowKit Go.Proofs
attribute [local irreducible] wpA opsA stillA drawA drawS
set_option maxRecDepth 20000
set_option maxHeartbeats 40000000
theorem leafT15 {P : Prop} (h : P := by
  first
  | exact leaf
  | exact PreC.of_eq rfl
  | rfl
  | exact Bool.false_ne_true
  | exact ⟨rfl, rfl⟩
  | exact PreC.of_eq (by simp)
  | fail) : P := h
noncomputable def loadR (s : Mux) (bs : List Qd) (ts : List (List Int)) : MuxR := open Classical in
  if muxF s = 0 then (if bindsF bs = 0 then (if textsF ts = 0 then ⟨0, false, [], { s with binds := bs, texts := ts }⟩ else muxBad (textsF ts)) else muxBad (bindsF bs)) else muxBad (muxF s)
theorem loadR_ok {s : Mux} {bs : List Qd} {ts : List (List Int)} (h1 : muxF s = 0) (h2 : bindsF bs = 0) (h3 : textsF ts = 0) : loadR s bs ts = ⟨0, false, [], { s with binds := bs, texts := ts }⟩ := by unfold loadR; rw [if_pos h1, if_pos h2, if_pos h3]
theorem loadR_t {s : Mux} {bs : List Qd} {ts : List (List Int)} (h1 : muxF s = 0) (h2 : bindsF bs = 0) (h3 : ¬ textsF ts = 0) : loadR s bs ts = ⟨textsF ts, false, [], mux0⟩ := by unfold loadR; rw [if_pos h1, if_pos h2, if_neg h3]
theorem loadR_b {s : Mux} {bs : List Qd} {ts : List (List Int)} (h1 : muxF s = 0) (h2 : ¬ bindsF bs = 0) : loadR s bs ts = ⟨bindsF bs, false, [], mux0⟩ := by unfold loadR; rw [if_pos h1, if_neg h2]
theorem loadR_m {s : Mux} {bs : List Qd} {ts : List (List Int)} (h1 : ¬ muxF s = 0) : loadR s bs ts = ⟨muxF s, false, [], mux0⟩ := by unfold loadR; rw [if_neg h1]
theorem loadR_W {s : Mux} (h : MuxB s) {bs : List Qd} {ts : List (List Int)} (hb : bs.length ≤ 1048576) (ht : ts.length ≤ 1048576) (ht' : sumC List.length ts ≤ 1048576) : MuxRW (loadR s bs ts) := by
  unfold loadR
  split
  · rename_i hf
    have hl := muxF_few hf
    obtain ⟨h0, h1, h2, h3, h4, h5, h6⟩ := h
    split
    · split
      · exact muxRW_few (by simp) ⟨h0, h1, h2, hb, ht, ht', h6⟩ (by simp only; omega)
      · exact muxBad_W _
    · exact muxBad_W _
  · exact muxBad_W _
theorem implLoadMux (s : Mux) (h : MuxB s) (bs : List Qd) (ts : List (List Int)) (hb : bs.length ≤ 1048576) (ht : ts.length ≤ 1048576) : CallA S 18 [.agg (muxC (.loc 0) (.loc 1) (.loc 2) (.loc 3) (.loc 4) s), .sl (.loc 5) 4 none bs.length, .sl (.loc 6) 1 none ts.length] ⟨muxH false (.loc 0) (.loc 1) (.loc 2) (.loc 3) (.loc 4) s [⟨.loc 5, false, .arr quadE bs⟩, ⟨.loc 6, false, .arr strE ts⟩], 7⟩ (Ret1 (.agg (muxRC (.loc 7) (.loc 8) (.loc 9) (.loc 10) (.loc 11) (.loc 12) (loadR s bs ts))) ⟨muxRH true (.loc 7) (.loc 8) (.loc 9) (.loc 10) (.loc 11) (.loc 12) (loadR s bs ts) [], 13⟩) := by
  by_cases h1 : muxF s = 0
  by_cases h2 : bindsF bs = 0
  by_cases h3 : textsF ts = 0
  · rw [loadR_ok h1 h2 h3]
    have e : firstNZ [muxF s, bindsF bs, textsF ts] = 0 := by simp [firstNZ, *]
    refine .ofC hS _ _ _ Tryz.func18 ?_
    conv => whnf
    repeat' (first|refine Seal.mk ?_|(refine wS ?_;(conv=>whnf);fail_if_success show False)|((first|refine opsA_step ?_|refine drawS_go ?_|apply wL (muxFault _ h)|apply wL (bindsFault _ hb)|apply wL (textsFault _ ht)|apply wL (first [_, _, _] (Nat.le_of_ble_eq_true rfl))|apply wL (cloneMux _ h)|apply wL (cloneQ _ hb)|apply wL (cloneS _ ht));conv=>whnf)|(intro _;first|omega|conv=>whnf)|(apply And.intro<;>intro _<;>first|omega|conv=>whnf)|refine ⟨Seal.mk ?_,Seal.mk ?_⟩|((first|(apply And.intro;focus exact leafT15)|(apply Or.inl;apply And.intro;focus exact leafT15)|apply Or.inr|refine ⟨_,rfl,?_⟩|refine ⟨_,⟨rfl,rfl⟩,?_⟩|refine ⟨intE .u8,⟨rfl,fun _=>rfl⟩,?_⟩|(refine Exists.intro _ (And.intro (And.intro rfl (And.intro rfl ?_)) ?_);focus exact leafT15));conv=>whnf)|with_reducible assumption|((fail_if_success refine Exists.intro ?_ ?_);exact leafT15)|fail)
    all_goals (first | (exfalso; omega) | (refine ⟨(),⟨⟩,?_⟩;((try refine wF ?_);repeat' (first|exact ⟨⟩|(apply And.intro;focus exact leafT15)|((conv=>whnf);first|exact ⟨⟩|(apply And.intro;focus exact leafT15))|fail))))
  · rw [loadR_t h1 h2 h3]
    have e : firstNZ [muxF s, bindsF bs, textsF ts] = textsF ts := by simp [firstNZ, *]
    refine .ofC hS _ _ _ Tryz.func18 ?_
    conv => whnf
    repeat' (first|refine Seal.mk ?_|(refine wS ?_;(conv=>whnf);fail_if_success show False)|((first|refine opsA_step ?_|refine drawS_go ?_|apply wL (muxFault _ h)|apply wL (bindsFault _ hb)|apply wL (textsFault _ ht)|apply wL (first [_, _, _] (Nat.le_of_ble_eq_true rfl))|apply wL (cloneMux _ h)|apply wL (cloneQ _ hb)|apply wL (cloneS _ ht));conv=>whnf)|(intro _;first|omega|conv=>whnf)|(apply And.intro<;>intro _<;>first|omega|conv=>whnf)|refine ⟨Seal.mk ?_,Seal.mk ?_⟩|((first|(apply And.intro;focus exact leafT15)|(apply Or.inl;apply And.intro;focus exact leafT15)|apply Or.inr|refine ⟨_,rfl,?_⟩|refine ⟨_,⟨rfl,rfl⟩,?_⟩|refine ⟨intE .u8,⟨rfl,fun _=>rfl⟩,?_⟩|(refine Exists.intro _ (And.intro (And.intro rfl (And.intro rfl ?_)) ?_);focus exact leafT15));conv=>whnf)|with_reducible assumption|((fail_if_success refine Exists.intro ?_ ?_);exact leafT15)|fail)
    all_goals (first | (exfalso; omega) | (refine ⟨(),⟨⟩,?_⟩;((try refine wF ?_);repeat' (first|exact ⟨⟩|(apply And.intro;focus exact leafT15)|((conv=>whnf);first|exact ⟨⟩|(apply And.intro;focus exact leafT15))|fail))))
  · rw [loadR_b h1 h2]
    have e : firstNZ [muxF s, bindsF bs, textsF ts] = bindsF bs := by simp [firstNZ, *]
    refine .ofC hS _ _ _ Tryz.func18 ?_
    conv => whnf
    repeat' (first|refine Seal.mk ?_|(refine wS ?_;(conv=>whnf);fail_if_success show False)|((first|refine opsA_step ?_|refine drawS_go ?_|apply wL (muxFault _ h)|apply wL (bindsFault _ hb)|apply wL (textsFault _ ht)|apply wL (first [_, _, _] (Nat.le_of_ble_eq_true rfl))|apply wL (cloneMux _ h)|apply wL (cloneQ _ hb)|apply wL (cloneS _ ht));conv=>whnf)|(intro _;first|omega|conv=>whnf)|(apply And.intro<;>intro _<;>first|omega|conv=>whnf)|refine ⟨Seal.mk ?_,Seal.mk ?_⟩|((first|(apply And.intro;focus exact leafT15)|(apply Or.inl;apply And.intro;focus exact leafT15)|apply Or.inr|refine ⟨_,rfl,?_⟩|refine ⟨_,⟨rfl,rfl⟩,?_⟩|refine ⟨intE .u8,⟨rfl,fun _=>rfl⟩,?_⟩|(refine Exists.intro _ (And.intro (And.intro rfl (And.intro rfl ?_)) ?_);focus exact leafT15));conv=>whnf)|with_reducible assumption|((fail_if_success refine Exists.intro ?_ ?_);exact leafT15)|fail)
    all_goals (first | (exfalso; omega) | (refine ⟨(),⟨⟩,?_⟩;((try refine wF ?_);repeat' (first|exact ⟨⟩|(apply And.intro;focus exact leafT15)|((conv=>whnf);first|exact ⟨⟩|(apply And.intro;focus exact leafT15))|fail))))
  · rw [loadR_m h1]
    have e : firstNZ [muxF s, bindsF bs, textsF ts] = muxF s := by simp [firstNZ, *]
    refine .ofC hS _ _ _ Tryz.func18 ?_
    conv => whnf
    repeat' (first|refine Seal.mk ?_|(refine wS ?_;(conv=>whnf);fail_if_success show False)|((first|refine opsA_step ?_|refine drawS_go ?_|apply wL (muxFault _ h)|apply wL (bindsFault _ hb)|apply wL (textsFault _ ht)|apply wL (first [_, _, _] (Nat.le_of_ble_eq_true rfl))|apply wL (cloneMux _ h)|apply wL (cloneQ _ hb)|apply wL (cloneS _ ht));conv=>whnf)|(intro _;first|omega|conv=>whnf)|(apply And.intro<;>intro _<;>first|omega|conv=>whnf)|refine ⟨Seal.mk ?_,Seal.mk ?_⟩|((first|(apply And.intro;focus exact leafT15)|(apply Or.inl;apply And.intro;focus exact leafT15)|apply Or.inr|refine ⟨_,rfl,?_⟩|refine ⟨_,⟨rfl,rfl⟩,?_⟩|refine ⟨intE .u8,⟨rfl,fun _=>rfl⟩,?_⟩|(refine Exists.intro _ (And.intro (And.intro rfl (And.intro rfl ?_)) ?_);focus exact leafT15));conv=>whnf)|with_reducible assumption|((fail_if_success refine Exists.intro ?_ ?_);exact leafT15)|fail)
    all_goals (first | (exfalso; omega) | (refine ⟨(),⟨⟩,?_⟩;((try refine wF ?_);repeat' (first|exact ⟨⟩|(apply And.intro;focus exact leafT15)|((conv=>whnf);first|exact ⟨⟩|(apply And.intro;focus exact leafT15))|fail))))
theorem specLoadMux (s : Mux) (h : MuxB s) (bs : List Qd) (ts : List (List Int)) (hb : bs.length ≤ 1048576) (ht : ts.length ≤ 1048576) : CallA S 14 [.agg (muxC (.loc 0) (.loc 1) (.loc 2) (.loc 3) (.loc 4) s), .sl (.loc 5) 4 none bs.length, .sl (.loc 6) 1 none ts.length] ⟨muxH false (.loc 0) (.loc 1) (.loc 2) (.loc 3) (.loc 4) s [⟨.loc 5, false, .arr quadE bs⟩, ⟨.loc 6, false, .arr strE ts⟩], 7⟩ (Ret1 (.agg (muxRC (.loc 7) (.loc 8) (.loc 9) (.loc 10) (.loc 11) (.loc 12) (loadR s bs ts))) ⟨muxRH true (.loc 7) (.loc 8) (.loc 9) (.loc 10) (.loc 11) (.loc 12) (loadR s bs ts) [], 13⟩) := by
  by_cases h1 : muxF s = 0
  by_cases h2 : bindsF bs = 0
  by_cases h3 : textsF ts = 0
  · rw [loadR_ok h1 h2 h3]
    refine .ofC hS _ _ _ Tryz.func14 ?_
    conv => whnf
    repeat' (first|refine Seal.mk ?_|(refine wS ?_;(conv=>whnf);fail_if_success show False)|((first|refine opsA_step ?_|refine drawS_go ?_|apply wL (l14Fault _ h)|apply wL (l8Fault _ hb)|apply wL (l9Texts _ ht)|apply wL (l14Bad _)|apply wL (l14Copy _ h));conv=>whnf)|(intro _;first|omega|conv=>whnf)|(apply And.intro<;>intro _<;>first|omega|conv=>whnf)|refine ⟨Seal.mk ?_,Seal.mk ?_⟩|((first|(apply And.intro;focus exact leafT15)|(apply Or.inl;apply And.intro;focus exact leafT15)|apply Or.inr|refine ⟨_,rfl,?_⟩|refine ⟨_,⟨rfl,rfl⟩,?_⟩|refine ⟨intE .u8,⟨rfl,fun _=>rfl⟩,?_⟩|(refine Exists.intro _ (And.intro (And.intro rfl (And.intro rfl ?_)) ?_);focus exact leafT15));conv=>whnf)|with_reducible assumption|((fail_if_success refine Exists.intro ?_ ?_);exact leafT15)|fail)
    all_goals (first | (exfalso; omega) | (refine ⟨(),⟨⟩,?_⟩;((try refine wF ?_);repeat' (first|exact ⟨⟩|(apply And.intro;focus exact leafT15)|((conv=>whnf);first|exact ⟨⟩|(apply And.intro;focus exact leafT15))|fail))))
  · rw [loadR_t h1 h2 h3]
    refine .ofC hS _ _ _ Tryz.func14 ?_
    conv => whnf
    repeat' (first|refine Seal.mk ?_|(refine wS ?_;(conv=>whnf);fail_if_success show False)|((first|refine opsA_step ?_|refine drawS_go ?_|apply wL (l14Fault _ h)|apply wL (l8Fault _ hb)|apply wL (l9Texts _ ht)|apply wL (l14Bad _)|apply wL (l14Copy _ h));conv=>whnf)|(intro _;first|omega|conv=>whnf)|(apply And.intro<;>intro _<;>first|omega|conv=>whnf)|refine ⟨Seal.mk ?_,Seal.mk ?_⟩|((first|(apply And.intro;focus exact leafT15)|(apply Or.inl;apply And.intro;focus exact leafT15)|apply Or.inr|refine ⟨_,rfl,?_⟩|refine ⟨_,⟨rfl,rfl⟩,?_⟩|refine ⟨intE .u8,⟨rfl,fun _=>rfl⟩,?_⟩|(refine Exists.intro _ (And.intro (And.intro rfl (And.intro rfl ?_)) ?_);focus exact leafT15));conv=>whnf)|with_reducible assumption|((fail_if_success refine Exists.intro ?_ ?_);exact leafT15)|fail)
    all_goals (first | (exfalso; omega) | (refine ⟨(),⟨⟩,?_⟩;((try refine wF ?_);repeat' (first|exact ⟨⟩|(apply And.intro;focus exact leafT15)|((conv=>whnf);first|exact ⟨⟩|(apply And.intro;focus exact leafT15))|fail))))
  · rw [loadR_b h1 h2]
    refine .ofC hS _ _ _ Tryz.func14 ?_
    conv => whnf
    repeat' (first|refine Seal.mk ?_|(refine wS ?_;(conv=>whnf);fail_if_success show False)|((first|refine opsA_step ?_|refine drawS_go ?_|apply wL (l14Fault _ h)|apply wL (l8Fault _ hb)|apply wL (l9Texts _ ht)|apply wL (l14Bad _)|apply wL (l14Copy _ h));conv=>whnf)|(intro _;first|omega|conv=>whnf)|(apply And.intro<;>intro _<;>first|omega|conv=>whnf)|refine ⟨Seal.mk ?_,Seal.mk ?_⟩|((first|(apply And.intro;focus exact leafT15)|(apply Or.inl;apply And.intro;focus exact leafT15)|apply Or.inr|refine ⟨_,rfl,?_⟩|refine ⟨_,⟨rfl,rfl⟩,?_⟩|refine ⟨intE .u8,⟨rfl,fun _=>rfl⟩,?_⟩|(refine Exists.intro _ (And.intro (And.intro rfl (And.intro rfl ?_)) ?_);focus exact leafT15));conv=>whnf)|with_reducible assumption|((fail_if_success refine Exists.intro ?_ ?_);exact leafT15)|fail)
    all_goals (first | (exfalso; omega) | (refine ⟨(),⟨⟩,?_⟩;((try refine wF ?_);repeat' (first|exact ⟨⟩|(apply And.intro;focus exact leafT15)|((conv=>whnf);first|exact ⟨⟩|(apply And.intro;focus exact leafT15))|fail))))
  · rw [loadR_m h1]
    refine .ofC hS _ _ _ Tryz.func14 ?_
    conv => whnf
    repeat' (first|refine Seal.mk ?_|(refine wS ?_;(conv=>whnf);fail_if_success show False)|((first|refine opsA_step ?_|refine drawS_go ?_|apply wL (l14Fault _ h)|apply wL (l8Fault _ hb)|apply wL (l9Texts _ ht)|apply wL (l14Bad _)|apply wL (l14Copy _ h));conv=>whnf)|(intro _;first|omega|conv=>whnf)|(apply And.intro<;>intro _<;>first|omega|conv=>whnf)|refine ⟨Seal.mk ?_,Seal.mk ?_⟩|((first|(apply And.intro;focus exact leafT15)|(apply Or.inl;apply And.intro;focus exact leafT15)|apply Or.inr|refine ⟨_,rfl,?_⟩|refine ⟨_,⟨rfl,rfl⟩,?_⟩|refine ⟨intE .u8,⟨rfl,fun _=>rfl⟩,?_⟩|(refine Exists.intro _ (And.intro (And.intro rfl (And.intro rfl ?_)) ?_);focus exact leafT15));conv=>whnf)|with_reducible assumption|((fail_if_success refine Exists.intro ?_ ?_);exact leafT15)|fail)
    all_goals (first | (exfalso; omega) | (refine ⟨(),⟨⟩,?_⟩;((try refine wF ?_);repeat' (first|exact ⟨⟩|(apply And.intro;focus exact leafT15)|((conv=>whnf);first|exact ⟨⟩|(apply And.intro;focus exact leafT15))|fail))))
end Go.Mu
