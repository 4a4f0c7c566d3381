/- A screen of another size, as the program makes it. -/
import Derived.Test.YtcimmkokkmbhpaaGreatR4
import Derived.Test.YtcimmkokkmbhpaaGreatCB
set_option linter.unusedSimpArgs false
set_option linter.unusedVariables false
set_option linter.constructorNameAsVariable false
namespace Go.Mu
open Go Go.Vm Go.RowKit Go.Proofs
attribute [local irreducible] wpA opsA stillA drawA drawS
set_option maxRecDepth 20000
set_option maxHeartbeats 4000000
theorem leafR5 {P : Prop} (h : P := by
  first
  | exact leaf
  | exact Bool.false_ne_true
  | fail) : P := h
theorem isTab (n : Int) : CallA S 188 [.int .i64 n] ⟨[], 0⟩ (Ret1 (.prop (0 < n ∧ n % 8 = 0)) ⟨[], 0⟩) := by
  refine .ofC hS _ _ _ Tryz.func188 ?_
  conv => whnf
  repeat' (first|refine Seal.mk ?_|(refine wS ?_;(conv=>whnf);fail_if_success show False)|((first|refine opsA_step ?_|refine drawS_go ?_);conv=>whnf)|(intro _;first|omega|conv=>whnf)|(apply And.intro<;>intro _<;>first|omega|conv=>whnf)|refine ⟨Seal.mk ?_,Seal.mk ?_⟩|((first|refine ⟨leafR5,?_⟩|refine Or.inl ⟨leafR5,?_⟩|apply Or.inr|refine ⟨_,rfl,?_⟩|refine ⟨_,⟨rfl,rfl⟩,?_⟩|refine ⟨intE .u8,⟨rfl,fun _=>rfl⟩,?_⟩|refine ⟨_,⟨rfl,rfl,leafR5⟩,?_⟩);conv=>whnf)|with_reducible assumption|exact leafR5|fail)
  all_goals (refine ⟨(), trivial, ?_⟩; (try refine FitsT.now hS ?_); (conv => whnf); apply And.intro; (case right => (repeat' (first|exact ⟨⟩|refine ⟨leafR5,?_⟩|((conv=>whnf);first|exact ⟨⟩|refine ⟨leafR5,?_⟩)))))
  all_goals omega
@[reducible] noncomputable def tabAt (x : Int) : Bool := pb (0 < x ∧ x % 8 = 0)
noncomputable def tabRun (a n : Nat) : List Bool := (List.range' a n).map fun (x : Nat) => tabAt (x : Int)
theorem tabRun_succ (a n : Nat) : tabRun a (n + 1) = tabRun a n ++ [tabAt ((a + n : Nat) : Int)] := by
  unfold tabRun
  rw [List.range'_concat]
  simp
theorem tabRun_len (a n : Nat) : (tabRun a n).length = n := by unfold tabRun; simp
noncomputable def resT (tabs : List Bool) (w : Nat) : List Bool := tabs.take w ++ tabRun tabs.length (w - tabs.length)
theorem resT_len (tabs : List Bool) (w : Nat) : (resT tabs w).length = w := by
  unfold resT
  rw [List.length_append, List.length_take, tabRun_len]; omega
theorem resT_take (tabs : List Bool) (w : Nat) : List.take w (tabs ++ tabRun tabs.length (w - tabs.length)) = resT tabs w := by
  unfold resT
  by_cases h : tabs.length ≤ w
  · rw [List.take_of_length_le (show (tabs ++ tabRun tabs.length (w - tabs.length)).length ≤ w by rw [List.length_append, tabRun_len]; omega), List.take_of_length_le h]
  · rw [show w - tabs.length = 0 by omega]
    simp [tabRun]
@[reducible] noncomputable def resS (s : Scr) (gr gw mb r w : Nat) (tabs : List Bool) : Scr := { s with grid := resG s.grid gr gw mb r w, y := min s.y (r - 1), x := min s.x (w - 1), wrap := false, top := 0, bottom := r - 1, tabs := tabs }
theorem scrResized (s : Scr) (hB : ScrB s) (gr gw mb r w : Nat) (hr : s.grid.rows = gr) (hwd : s.grid.width = gw) (hc : s.grid.cells.length = gr * gw) (hb : s.grid.back.length = mb * gw) (hmb : mb ≤ 5) (hgr : 1 ≤ gr ∧ gr ≤ 6) (hgw : 2 ≤ gw ∧ gw ≤ 12) (hrr : 1 ≤ r ∧ r ≤ 6) (hww : 2 ≤ w ∧ w ≤ 12) (ht : s.tabs.length ≤ 12) :
    CallA S 94 [.agg (scrC (.loc 0) (.loc 1) (.loc 2) (.loc 3) s), .int .i64 r, .int .i64 w] ⟨scrH false (.loc 0) (.loc 1) (.loc 2) (.loc 3) s [], 4⟩ (Ret1 (.agg (scrC (.loc 4) (.loc 5) (.loc 6) (.loc 7) (resS s gr gw mb r w (resT s.tabs w)))) ⟨scrH true (.loc 4) (.loc 5) (.loc 6) (.loc 7) (resS s gr gw mb r w (resT s.tabs w)) [], 8⟩) := by
  have hB' := hB
  obtain ⟨hB1, hB2, hB3⟩ := hB'
  refine .ofC hS _ _ _ Tryz.func94 ?_
  conv => whnf
  repeat' (first|refine Seal.mk ?_|(refine wS ?_;(conv=>whnf);fail_if_success show False)|((first|refine opsA_step ?_|refine drawS_go ?_|apply wL (cloneScr _ hB)|apply wL (gridResized s.grid gr gw mb r w hr hwd hc hb hmb hgr hgw hrr hww));conv=>whnf)|(intro _;first|omega|conv=>whnf)|(apply And.intro<;>intro _<;>first|omega|conv=>whnf)|refine ⟨Seal.mk ?_,Seal.mk ?_⟩|((first|refine ⟨leafR5,?_⟩|refine Or.inl ⟨leafR5,?_⟩|apply Or.inr|refine ⟨_,rfl,?_⟩|refine ⟨_,⟨rfl,rfl⟩,?_⟩|refine ⟨intE .u8,⟨rfl,fun _=>rfl⟩,?_⟩|refine ⟨_,⟨rfl,rfl,leafR5⟩,?_⟩);conv=>whnf)|with_reducible assumption|exact leafR5|fail)
  refine Wp.see ⟨[(1, .int .i64 r), (2, .int .i64 w), (3, .ptr (.loc 4) 20 none 0), (6, .ptr (.loc 5) 20 none 0), (7, .ptr (.loc 10) 20 none 0)], ⟨[⟨.loc 11, true, .arr pairE (resG s.grid gr gw mb r w).cells⟩, ⟨.loc 12, true, .arr pairE (resG s.grid gr gw mb r w).back⟩, ⟨.loc 10, true, .raw (scrC (.loc 11) (.loc 12) (.loc 8) (.loc 9) { s with grid := resG s.grid gr gw mb r w, wrap := false, top := 0, bottom := (r : Int) - 1 })⟩, ⟨.loc 8, true, .arr boolE s.tabs⟩, ⟨.loc 9, true, .arr (intE .i64) s.sets⟩, ⟨.loc 5, true, .raw [.int .i64 0, .int .i64 0, .nils, .nils, .int .i64 0, .int .i64 0, .ff, .int .i64 0, .int .i64 0, .int .i64 0, .ff, .ff, .ff, .nils, .int .i64 0, .int .i64 0, .int .i64 0, .nils, .int .i64 0, .int .i64 0]⟩, ⟨.loc 4, false, .raw (scrC (.loc 0) (.loc 1) (.loc 2) (.loc 3) s)⟩, ⟨.loc 0, false, .arr pairE s.grid.cells⟩, ⟨.loc 1, false, .arr pairE s.grid.back⟩, ⟨.loc 2, false, .arr boolE s.tabs⟩, ⟨.loc 3, false, .arr (intE .i64) s.sets⟩], 13⟩, 55, 4⟩ ?_ ?_
  · ((try dsimp only);((try refine wF ?_);repeat' (first|exact ⟨⟩|refine ⟨leafR5,?_⟩|((conv=>whnf);first|exact ⟨⟩|refine ⟨leafR5,?_⟩))))
  refine Wp.meet (τ := ⟨[(1, .int .i64 r), (2, .int .i64 w), (3, .ptr (.loc 4) 20 none 0), (6, .ptr (.loc 5) 20 none 0), (7, .ptr (.loc 10) 20 none 0)], ⟨[⟨.loc 11, true, .arr pairE (resG s.grid gr gw mb r w).cells⟩, ⟨.loc 12, true, .arr pairE (resG s.grid gr gw mb r w).back⟩, ⟨.loc 10, true, .raw (scrC (.loc 11) (.loc 12) (.loc 8) (.loc 9) (resS s gr gw mb r w s.tabs))⟩, ⟨.loc 8, true, .arr boolE s.tabs⟩, ⟨.loc 9, true, .arr (intE .i64) s.sets⟩, ⟨.loc 5, true, .raw [.int .i64 0, .int .i64 0, .nils, .nils, .int .i64 0, .int .i64 0, .ff, .int .i64 0, .int .i64 0, .int .i64 0, .ff, .ff, .ff, .nils, .int .i64 0, .int .i64 0, .int .i64 0, .nils, .int .i64 0, .int .i64 0]⟩, ⟨.loc 4, false, .raw (scrC (.loc 0) (.loc 1) (.loc 2) (.loc 3) s)⟩, ⟨.loc 0, false, .arr pairE s.grid.cells⟩, ⟨.loc 1, false, .arr pairE s.grid.back⟩, ⟨.loc 2, false, .arr boolE s.tabs⟩, ⟨.loc 3, false, .arr (intE .i64) s.sets⟩], 13⟩, 55, 4⟩) ?_ ?_
  · repeat' (first|refine Seal.mk ?_|(refine wS ?_;(conv=>whnf);fail_if_success show False)|((first|refine opsA_step ?_|refine drawS_go ?_|refine wD (id:=4) (.quick 0 (.quick 2 (.quick 3 (.quick 5 (.quick 7 (.quick 8 (.all (.fork (.step 1 (.quick 4 (.quick 10 (.all (.fork (.step 6 (.quick 9 (.all (.step 11 (.quick 12 (.all (.step 13 .done))))))) (.step 11 (.all (.step 6 (.quick 9 (.quick 12 (.all (.step 13 .done)))))))))))) (.step 6 (.quick 9 (.all (.step 1 (.quick 4 (.quick 10 (.all (.step 11 (.quick 12 (.all (.step 13 .done))))))))))))))))))) [1, 6, 11, 13] (by kernel_rfl) rfl ?_);conv=>whnf)|(intro _;first|omega|conv=>whnf)|(apply And.intro<;>intro _<;>first|omega|conv=>whnf)|refine ⟨Seal.mk ?_,Seal.mk ?_⟩|((first|refine ⟨leafR5,?_⟩|refine Or.inl ⟨leafR5,?_⟩|apply Or.inr|refine ⟨_,rfl,?_⟩|refine ⟨_,⟨rfl,rfl⟩,?_⟩|refine ⟨intE .u8,⟨rfl,fun _=>rfl⟩,?_⟩|refine ⟨_,⟨rfl,rfl,leafR5⟩,?_⟩);conv=>whnf)|with_reducible assumption|exact leafR5|fail)
    all_goals ((try dsimp only);((try refine wF ?_);repeat' (first|exact ⟨⟩|refine ⟨leafR5,?_⟩|((conv=>whnf);first|exact ⟨⟩|refine ⟨leafR5,?_⟩))))
  repeat' (first|refine Seal.mk ?_|(refine wS ?_;(conv=>whnf);fail_if_success show False)|((first|refine opsA_step ?_|refine drawS_go ?_);conv=>whnf)|(intro _;first|omega|conv=>whnf)|(apply And.intro<;>intro _<;>first|omega|conv=>whnf)|refine ⟨Seal.mk ?_,Seal.mk ?_⟩|((first|refine ⟨leafR5,?_⟩|refine Or.inl ⟨leafR5,?_⟩|apply Or.inr|refine ⟨_,rfl,?_⟩|refine ⟨_,⟨rfl,rfl⟩,?_⟩|refine ⟨intE .u8,⟨rfl,fun _=>rfl⟩,?_⟩|refine ⟨_,⟨rfl,rfl,leafR5⟩,?_⟩);conv=>whnf)|with_reducible assumption|exact leafR5|fail)
  refine .loop hS (γ := Nat) (fun x => ⟨[(1, .int .i64 r), (2, .int .i64 w), (3, .ptr (.loc 4) 20 none 0), (6, .ptr (.loc 5) 20 none 0), (7, .ptr (.loc 10) 20 none 0), (8, .int .i64 x)], ⟨[⟨.loc 11, true, .arr pairE (resG s.grid gr gw mb r w).cells⟩, ⟨.loc 12, true, .arr pairE (resG s.grid gr gw mb r w).back⟩, ⟨.loc 10, true, .raw (scrC (.loc 11) (.loc 12) (.loc 8) (.loc 9) (resS s gr gw mb r w (s.tabs ++ tabRun s.tabs.length (x - s.tabs.length))))⟩, ⟨.loc 8, true, .arr boolE (s.tabs ++ tabRun s.tabs.length (x - s.tabs.length))⟩, ⟨.loc 9, true, .arr (intE .i64) s.sets⟩, ⟨.loc 5, true, .raw [.int .i64 0, .int .i64 0, .nils, .nils, .int .i64 0, .int .i64 0, .ff, .int .i64 0, .int .i64 0, .int .i64 0, .ff, .ff, .ff, .nils, .int .i64 0, .int .i64 0, .int .i64 0, .nils, .int .i64 0, .int .i64 0]⟩, ⟨.loc 4, false, .raw (scrC (.loc 0) (.loc 1) (.loc 2) (.loc 3) s)⟩, ⟨.loc 0, false, .arr pairE s.grid.cells⟩, ⟨.loc 1, false, .arr pairE s.grid.back⟩, ⟨.loc 2, false, .arr boolE s.tabs⟩, ⟨.loc 3, false, .arr (intE .i64) s.sets⟩], 13⟩, 55, 4⟩) (fun x => s.tabs.length ≤ x ∧ x ≤ max s.tabs.length w) (fun x => w - x) s.tabs.length ⟨by omega, by omega⟩ ?_ ?_
  · have h0 : s.tabs ++ tabRun s.tabs.length (s.tabs.length - s.tabs.length) = s.tabs := by rw [Nat.sub_self]; simp [tabRun]
    have h1 := h0.symm
    have h2 : (s.tabs ++ tabRun s.tabs.length (s.tabs.length - s.tabs.length)).length = s.tabs.length := by rw [h0]
    ((try dsimp only);((try refine wF ?_);repeat' (first|exact ⟨⟩|refine ⟨leafR5,?_⟩|((conv=>whnf);first|exact ⟨⟩|refine ⟨leafR5,?_⟩))))
  · intro x hx
    obtain ⟨hx, hx'⟩ := hx
    have hl : (s.tabs ++ tabRun s.tabs.length (x - s.tabs.length)).length = x := by rw [List.length_append, tabRun_len]; omega
    conv => whnf
    by_cases hgo : x < w
    · have hn : s.tabs ++ tabRun s.tabs.length (x + 1 - s.tabs.length) = (s.tabs ++ tabRun s.tabs.length (x - s.tabs.length)) ++ [tabAt (x : Int)] := by
        rw [show x + 1 - s.tabs.length = (x - s.tabs.length) + 1 by omega, tabRun_succ, List.append_assoc, show s.tabs.length + (x - s.tabs.length) = x by omega]
      have hnl : (s.tabs ++ tabRun s.tabs.length (x + 1 - s.tabs.length)).length = x + 1 := by rw [List.length_append, tabRun_len]; omega
      have e1 : (List.take ((1 : Nat) : Int).toNat [pb (0 < (x : Int) ∧ (x : Int) % 8 = 0)]).length = 1 := rfl
      have hn2 : (s.tabs ++ tabRun s.tabs.length (x - s.tabs.length)) ++ List.take ((1 : Nat) : Int).toNat [pb (0 < (x : Int) ∧ (x : Int) % 8 = 0)] = s.tabs ++ tabRun s.tabs.length (x + 1 - s.tabs.length) := hn.symm
      repeat' (first|refine Seal.mk ?_|(refine wS ?_;(conv=>whnf);fail_if_success show False)|((first|refine opsA_step ?_|refine drawS_go ?_|refine wD (id:=8) (.quick 0 (.quick 2 (.all (.fork (.step 1 (.all (.step 3 (.all (.step 4 (.all (.step 5 (.quick 6 (.all (.step 7 .done)))))))))) (.step 3 (.all (.fork (.step 1 (.all (.step 4 (.all (.step 5 (.quick 6 (.all (.step 7 .done)))))))) (.step 4 (.all (.step 1 (.all (.step 5 (.quick 6 (.all (.step 7 .done))))))))))))))) [1, 3, 4, 5, 7] (by kernel_rfl) rfl ?_|apply wL (isTab _));conv=>whnf)|(intro _;first|omega|conv=>whnf)|(apply And.intro<;>intro _<;>first|omega|conv=>whnf)|refine ⟨Seal.mk ?_,Seal.mk ?_⟩|((first|refine ⟨leafR5,?_⟩|refine Or.inl ⟨leafR5,?_⟩|apply Or.inr|refine ⟨_,rfl,?_⟩|refine ⟨_,⟨rfl,rfl⟩,?_⟩|refine ⟨intE .u8,⟨rfl,fun _=>rfl⟩,?_⟩|refine ⟨_,⟨rfl,rfl,leafR5⟩,?_⟩);conv=>whnf)|with_reducible assumption|exact leafR5|fail)
      all_goals
        refine ⟨x + 1, ⟨⟨by omega, by omega⟩, by omega⟩, ?_⟩
        ((try dsimp only);((try refine wF ?_);repeat' (first|exact ⟨⟩|refine ⟨leafR5,?_⟩|((conv=>whnf);first|exact ⟨⟩|refine ⟨leafR5,?_⟩))))
    · repeat' (first|refine Seal.mk ?_|(refine wS ?_;(conv=>whnf);fail_if_success show False)|((first|refine opsA_step ?_|refine drawS_go ?_);conv=>whnf)|(intro _;first|omega|conv=>whnf)|(apply And.intro<;>intro _<;>first|omega|conv=>whnf)|refine ⟨Seal.mk ?_,Seal.mk ?_⟩|((first|refine ⟨leafR5,?_⟩|refine Or.inl ⟨leafR5,?_⟩|apply Or.inr|refine ⟨_,rfl,?_⟩|refine ⟨_,⟨rfl,rfl⟩,?_⟩|refine ⟨intE .u8,⟨rfl,fun _=>rfl⟩,?_⟩|refine ⟨_,⟨rfl,rfl,leafR5⟩,?_⟩);conv=>whnf)|with_reducible assumption|exact leafR5|fail)
      have hpre : s.tabs ++ tabRun s.tabs.length (x - s.tabs.length) = resT s.tabs w ++ (s.tabs ++ tabRun s.tabs.length (x - s.tabs.length)).drop w := by
        rw [show x - s.tabs.length = w - s.tabs.length by omega, ← resT_take, List.take_append_drop]
      have hrl := resT_len s.tabs w
      (refine ⟨(),⟨⟩,?_⟩;((try refine wF ?_);repeat' (first|exact ⟨⟩|refine ⟨leafR5,?_⟩|((conv=>whnf);first|exact ⟨⟩|refine ⟨leafR5,?_⟩))))
end Go.Mu
