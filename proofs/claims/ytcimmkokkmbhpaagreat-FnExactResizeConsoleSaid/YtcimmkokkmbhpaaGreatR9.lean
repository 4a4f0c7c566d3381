/- Terminals of another size. -/
import Derived.Test.YtcimmkokkmbhpaaGreatR8
import Derived.Test.YtcimmkokkmbhpaaGreatPF
import Derived.Test.YtcimmkokkmbhpaaGreatLH
import Derived.Test.YtcimmkokkmbhpaaGreatLI
set_option linter.unusedSimpArgs false
set_option linter.unusedVariables false
set_option linter.constructorNameAsVariable false
namespace Go.Mu
open Go Go.Vm Go.RowKit Go.Proofs
attribute [local irreducible] wpA opsA stillA drawA drawS
set_option maxRecDepth 20000
set_option maxHeartbeats 40000000
theorem leafR9 {P : Prop} (h : P := by
  first
  | exact leaf
  | exact Bool.false_ne_true
  | exact ⟨rfl, rfl⟩
  | rfl
  | fail) : P := h
structure GoodS (s : Scr) (gr gw mb : Nat) : Prop where
  fr : s.grid.rows = gr
  fw : s.grid.width = gw
  fc : s.grid.cells.length = gr * gw
  fb : s.grid.back.length = mb * gw
  fm : mb ≤ 5
  sr : 1 ≤ gr ∧ gr ≤ 6
  sw : 2 ≤ gw ∧ gw ≤ 12
  ft : s.tabs.length = gw
  fy : 0 ≤ s.y ∧ s.y ≤ 5
  fx : 0 ≤ s.x ∧ s.x ≤ 11
theorem scr_good {s : Scr} (h : scrF s = 0) : GoodS s s.grid.rows.toNat s.grid.width.toNat (s.grid.back.length / s.grid.width.toNat) := by
  unfold scrF at h
  split at h
  · rename_i hg
    split at h
    · rename_i hr
      split at h
      · rename_i hf
        have hsz := gridF_size hg
        unfold gridF at hg
        rw [if_neg (by omega)] at hg
        split at hg
        · omega
        · rename_i hq
          have h1 : (s.grid.cells.length : Int) = s.grid.rows * s.grid.width := by
            apply Classical.byContradiction; intro q; exact hq (.inl q)
          have h2 : (s.grid.back.length : Int) ≤ 5 * s.grid.width := by
            apply Classical.byContradiction; intro q; exact hq (.inr (.inl (by omega)))
          have h3 : (s.grid.back.length : Int) % s.grid.width = 0 := by
            apply Classical.byContradiction; intro q; exact hq (.inr (.inr q))
          obtain ⟨⟨⟨hy, hx⟩, _⟩, _⟩ := And.intro hr trivial
          have ht := hf.2.1
          have ea : ((s.grid.rows.toNat : Nat) : Int) = s.grid.rows := Int.toNat_of_nonneg (by omega)
          have eb : ((s.grid.width.toNat : Nat) : Int) = s.grid.width := Int.toNat_of_nonneg (by omega)
          have h1' : s.grid.cells.length = s.grid.rows.toNat * s.grid.width.toNat := by
            have q : (s.grid.cells.length : Int) = ((s.grid.rows.toNat * s.grid.width.toNat : Nat) : Int) := by rw [h1, Int.natCast_mul, ea, eb]
            exact Int.ofNat.inj q
          have h3' : s.grid.back.length % s.grid.width.toNat = 0 := by
            have q : ((s.grid.back.length % s.grid.width.toNat : Nat) : Int) = ((0 : Nat) : Int) := by rw [Int.natCast_emod, eb]; exact h3
            exact Int.ofNat.inj q
          have h4 : s.grid.back.length / s.grid.width.toNat ≤ 5 := Nat.div_le_of_le_mul (by omega)
          have h5 : s.grid.back.length = s.grid.back.length / s.grid.width.toNat * s.grid.width.toNat := (Nat.div_mul_cancel (Nat.dvd_of_mod_eq_zero h3')).symm
          exact ⟨ea.symm, eb.symm, h1', h5, h4, by omega, by omega, by omega, by omega, by omega⟩
      · omega
    · omega
  · omega
theorem specScreen (s : Scr) (hB : ScrB s) (gr gw mb r w : Nat) (hf : scrF s = 0) (hG : GoodS s gr gw mb) (hrr : 1 ≤ r ∧ r ≤ 6) (hww : 2 ≤ w ∧ w ≤ 12) :
    CallA S 84 [.agg (scrC (.loc 0) (.loc 1) (.loc 2) (.loc 3) s), .int .i64 r, .int .i64 w] ⟨scrH false (.loc 0) (.loc 1) (.loc 2) (.loc 3) s [], 4⟩ (Ret1 (.agg (.int .i64 0 :: scrC (.loc 4) (.loc 5) (.loc 6) (.loc 7) (resS s gr gw mb r w (resT s.tabs w)))) ⟨scrH true (.loc 4) (.loc 5) (.loc 6) (.loc 7) (resS s gr gw mb r w (resT s.tabs w)) [], 8⟩) := by
  obtain ⟨fr, fw, fc, fb, fm, sr, sw, ft, fy, fx⟩ := hG
  have hB' := hB
  obtain ⟨hB1, hB2, hB3⟩ := hB'
  refine .ofC hS _ _ _ Tryz.func84 ?_
  conv => whnf
  repeat' (first|refine Seal.mk ?_|(refine wS ?_;(conv=>whnf);fail_if_success show False)|((first|refine opsA_step ?_|refine drawS_go ?_|apply wL (l5Fault' _ hB)|apply wL (l3Size _ _)|apply wL (l5Copy _ hB)|apply wL (l3Resize s.grid gr gw mb r w fr fw fc fb fm sr sw hrr hww));conv=>whnf)|(intro _;first|omega|conv=>whnf)|(apply And.intro<;>intro _<;>first|omega|conv=>whnf)|refine ⟨Seal.mk ?_,Seal.mk ?_⟩|((first|refine ⟨leafR9,?_⟩|refine Or.inl ⟨leafR9,?_⟩|apply Or.inr|refine ⟨_,rfl,?_⟩|refine ⟨_,⟨rfl,rfl⟩,?_⟩|refine ⟨intE .u8,⟨rfl,fun _=>rfl⟩,?_⟩|refine ⟨_,⟨rfl,rfl,leafR9⟩,?_⟩);conv=>whnf)|with_reducible assumption|exact leafR9|fail)
  refine Wp.see ⟨[(1, .int .i64 r), (2, .int .i64 w), (3, .ptr (.loc 4) 20 none 0), (6, .ptr (.loc 5) 21 none 0), (8, .ptr (.loc 10) 20 none 0)], ⟨[⟨.loc 11, true, .arr pairE (resG s.grid gr gw mb r w).cells⟩, ⟨.loc 12, true, .arr pairE (resG s.grid gr gw mb r w).back⟩, ⟨.loc 10, true, .raw (scrC (.loc 11) (.loc 12) (.loc 8) (.loc 9) { s with grid := resG s.grid gr gw mb r w, top := 0, bottom := (r : Int) - 1, tabs := s.tabs })⟩, ⟨.loc 8, true, .arr boolE s.tabs⟩, ⟨.loc 9, true, .arr (intE .i64) s.sets⟩, ⟨.loc 5, true, .raw [.int .i64 0, .int .i64 0, .int .i64 0, .nils, .nils, .int .i64 0, .int .i64 0, .ff, .int .i64 0, .int .i64 0, .int .i64 0, .ff, .ff, .ff, .nils, .int .i64 0, .int .i64 0, .int .i64 0, .nils, .int .i64 0, .int .i64 0]⟩, ⟨.loc 4, false, .raw (scrC (.loc 0) (.loc 1) (.loc 2) (.loc 3) { s with grid := ⟨s.grid.rows, gw, s.grid.cells, s.grid.back⟩ })⟩, ⟨.loc 0, false, .arr pairE s.grid.cells⟩, ⟨.loc 1, false, .arr pairE s.grid.back⟩, ⟨.loc 2, false, .arr boolE s.tabs⟩, ⟨.loc 3, false, .arr (intE .i64) s.sets⟩], 13⟩, 57, 4⟩ ?_ ?_
  · ((try dsimp only);((try refine wF ?_);repeat' (first|exact ⟨⟩|refine ⟨leafR9,?_⟩|((conv=>whnf);first|exact ⟨⟩|refine ⟨leafR9,?_⟩))))
  have ea : List.take (min (w : Int) gw - 0).toNat (List.drop (Int.toNat 0) s.tabs) = s.tabs.take (min w gw) := by
    rw [show (min (w : Int) gw - 0).toNat = min w gw by omega]; rfl
  have eal : (List.take (min (w : Int) gw - 0).toNat (List.drop (Int.toNat 0) s.tabs)).length = min w gw := by rw [ea, List.length_take]; omega
  have etl := tabRun_len (min w gw) (w - min w gw)
  have et : ([] ++ List.take (min (w : Int) gw - 0).toNat (List.drop (Int.toNat 0) s.tabs)) ++ List.take ((tabRun (min w gw) (w - min w gw)).length : Int).toNat (tabRun (min w gw) (w - min w gw)) = resT s.tabs w := by
    rw [ea, List.nil_append, Int.toNat_natCast, List.take_length]
    unfold resT
    by_cases q : gw ≤ w
    · rw [show min w gw = gw by omega, ← ft, List.take_of_length_le (show s.tabs.length ≤ w by omega), List.take_length]
    · rw [show min w gw = w by omega, show w - w = 0 by omega, show w - s.tabs.length = 0 by omega]
      rfl
  have erl := resT_len s.tabs w
  refine Wp.meet (τ := ⟨[(1, .int .i64 r), (2, .int .i64 w), (3, .ptr (.loc 4) 20 none 0), (6, .ptr (.loc 5) 21 none 0), (8, .ptr (.loc 10) 20 none 0)], ⟨[⟨.loc 11, true, .arr pairE (resG s.grid gr gw mb r w).cells⟩, ⟨.loc 12, true, .arr pairE (resG s.grid gr gw mb r w).back⟩, ⟨.loc 10, true, .raw (scrC (.loc 11) (.loc 12) (.loc 13) (.loc 9) { s with grid := resG s.grid gr gw mb r w, top := 0, bottom := (r : Int) - 1, tabs := (resT s.tabs w) })⟩, ⟨.loc 13, true, .arr boolE (resT s.tabs w)⟩, ⟨.loc 9, true, .arr (intE .i64) s.sets⟩, ⟨.loc 5, true, .raw [.int .i64 0, .int .i64 0, .int .i64 0, .nils, .nils, .int .i64 0, .int .i64 0, .ff, .int .i64 0, .int .i64 0, .int .i64 0, .ff, .ff, .ff, .nils, .int .i64 0, .int .i64 0, .int .i64 0, .nils, .int .i64 0, .int .i64 0]⟩, ⟨.loc 4, false, .raw (scrC (.loc 0) (.loc 1) (.loc 2) (.loc 3) { s with grid := ⟨s.grid.rows, gw, s.grid.cells, s.grid.back⟩ })⟩, ⟨.loc 0, false, .arr pairE s.grid.cells⟩, ⟨.loc 1, false, .arr pairE s.grid.back⟩, ⟨.loc 2, false, .arr boolE s.tabs⟩, ⟨.loc 3, false, .arr (intE .i64) s.sets⟩], 14⟩, 57, 4⟩) ?_ ?_
  · repeat' (first|refine Seal.mk ?_|(refine wS ?_;(conv=>whnf);fail_if_success show False)|((first|refine opsA_step ?_|refine drawS_go ?_|refine wD (id:=10) (.quick 1 (.quick 3 (.quick 4 (.quick 5 (.quick 10 (.quick 11 (.quick 12 (.quick 15 (.stable 2 (.stable 6 (.stable 13 (.all (.fork (.step 0 (.all (.step 7 (.quick 8 (.all (.step 9 (.all (.step 14 (.all (.step 16 (.all (.step 17 (.quick 18 (.all (.step 19 .done))))))))))))))) (.step 7 (.quick 8 (.all (.step 0 (.all (.step 9 (.all (.step 14 (.all (.step 16 (.all (.step 17 (.quick 18 (.all (.step 19 .done)))))))))))))))))))))))))))) [0, 7, 9, 14, 16, 17, 19] (by kernel_rfl) rfl ?_|apply wL (minS _ _)|apply wL (l5Tabs (min w gw) w (by omega) (by omega)));conv=>whnf)|(intro _;first|omega|conv=>whnf)|(apply And.intro<;>intro _<;>first|omega|conv=>whnf)|refine ⟨Seal.mk ?_,Seal.mk ?_⟩|((first|refine ⟨leafR9,?_⟩|refine Or.inl ⟨leafR9,?_⟩|apply Or.inr|refine ⟨_,rfl,?_⟩|refine ⟨_,⟨rfl,rfl⟩,?_⟩|refine ⟨intE .u8,⟨rfl,fun _=>rfl⟩,?_⟩|refine ⟨_,⟨rfl,rfl,leafR9⟩,?_⟩);conv=>whnf)|with_reducible assumption|exact leafR9|fail)
    all_goals ((try dsimp only);((try refine wF ?_);repeat' (first|exact ⟨⟩|refine ⟨leafR9,?_⟩|((conv=>whnf);first|exact ⟨⟩|refine ⟨leafR9,?_⟩))))
  repeat' (first|refine Seal.mk ?_|(refine wS ?_;(conv=>whnf);fail_if_success show False)|((first|refine opsA_step ?_|refine drawS_go ?_|apply wL (l5Go { s with grid := resG s.grid gr gw mb r w, top := 0, bottom := (r : Int) - 1, tabs := resT s.tabs w } (.loc 0) (.loc 0) (.loc 0) (.loc 0) r w hrr hww s.y s.x (by omega) (by omega) rfl rfl rfl rfl));conv=>whnf)|(intro _;first|omega|conv=>whnf)|(apply And.intro<;>intro _<;>first|omega|conv=>whnf)|refine ⟨Seal.mk ?_,Seal.mk ?_⟩|((first|refine ⟨leafR9,?_⟩|refine Or.inl ⟨leafR9,?_⟩|apply Or.inr|refine ⟨_,rfl,?_⟩|refine ⟨_,⟨rfl,rfl⟩,?_⟩|refine ⟨intE .u8,⟨rfl,fun _=>rfl⟩,?_⟩|refine ⟨_,⟨rfl,rfl,leafR9⟩,?_⟩);conv=>whnf)|with_reducible assumption|exact leafR9|fail)
  all_goals (refine ⟨(),⟨⟩,?_⟩;((try refine wF ?_);repeat' (first|exact ⟨⟩|refine ⟨leafR9,?_⟩|((conv=>whnf);first|exact ⟨⟩|refine ⟨leafR9,?_⟩))))
theorem l5Bad (k : Int) : CallA S 173 [.int .i64 k] ⟨[], 0⟩ (Ret1 (.agg [.int .i64 k, .int .i64 0, .int .i64 0, .nils, .nils, .int .i64 0, .int .i64 0, .ff, .int .i64 0, .int .i64 0, .int .i64 0, .ff, .ff, .ff, .nils, .int .i64 0, .int .i64 0, .int .i64 0, .nils, .int .i64 0, .int .i64 0]) ⟨[], 0⟩) := by
  refine .ofC hS _ _ _ Tryz.func173 ?_
  conv => whnf
  repeat' (first|refine Seal.mk ?_|(refine wS ?_;(conv=>whnf);fail_if_success show False)|((first|refine opsA_step ?_|refine drawS_go ?_);conv=>whnf)|(intro _;first|omega|conv=>whnf)|(apply And.intro<;>intro _<;>first|omega|conv=>whnf)|refine ⟨Seal.mk ?_,Seal.mk ?_⟩|((first|refine ⟨leafR9,?_⟩|refine Or.inl ⟨leafR9,?_⟩|apply Or.inr|refine ⟨_,rfl,?_⟩|refine ⟨_,⟨rfl,rfl⟩,?_⟩|refine ⟨intE .u8,⟨rfl,fun _=>rfl⟩,?_⟩|refine ⟨_,⟨rfl,rfl,leafR9⟩,?_⟩);conv=>whnf)|with_reducible assumption|exact leafR9|fail)
  (refine ⟨(),⟨⟩,?_⟩;((try refine wF ?_);repeat' (first|exact ⟨⟩|refine ⟨leafR9,?_⟩|((conv=>whnf);first|exact ⟨⟩|refine ⟨leafR9,?_⟩))))
theorem specScreenBad (s : Scr) (hB : ScrB s) (r w : Int) (hf : scrF s = 0) (hn : ¬ ((1 ≤ r ∧ r ≤ 6) ∧ 2 ≤ w ∧ w ≤ 12)) :
    CallA S 84 [.agg (scrC (.loc 0) (.loc 1) (.loc 2) (.loc 3) s), .int .i64 r, .int .i64 w] ⟨scrH false (.loc 0) (.loc 1) (.loc 2) (.loc 3) s [], 4⟩ (Ret1 (.agg [.int .i64 3, .int .i64 0, .int .i64 0, .nils, .nils, .int .i64 0, .int .i64 0, .ff, .int .i64 0, .int .i64 0, .int .i64 0, .ff, .ff, .ff, .nils, .int .i64 0, .int .i64 0, .int .i64 0, .nils, .int .i64 0, .int .i64 0]) ⟨[], 4⟩) := by
  refine .ofC hS _ _ _ Tryz.func84 ?_
  conv => whnf
  repeat' (first|refine Seal.mk ?_|(refine wS ?_;(conv=>whnf);fail_if_success show False)|((first|refine opsA_step ?_|refine drawS_go ?_|apply wL (l5Fault' _ hB)|apply wL (l3Size _ _)|apply wL (l5Bad 3));conv=>whnf)|(intro _;first|omega|conv=>whnf)|(apply And.intro<;>intro _<;>first|omega|conv=>whnf)|refine ⟨Seal.mk ?_,Seal.mk ?_⟩|((first|refine ⟨leafR9,?_⟩|refine Or.inl ⟨leafR9,?_⟩|apply Or.inr|refine ⟨_,rfl,?_⟩|refine ⟨_,⟨rfl,rfl⟩,?_⟩|refine ⟨intE .u8,⟨rfl,fun _=>rfl⟩,?_⟩|refine ⟨_,⟨rfl,rfl,leafR9⟩,?_⟩);conv=>whnf)|with_reducible assumption|exact leafR9|fail)
  all_goals (first | (exfalso; omega) | (refine ⟨(),⟨⟩,?_⟩;((try refine wF ?_);repeat' (first|exact ⟨⟩|refine ⟨leafR9,?_⟩|((conv=>whnf);first|exact ⟨⟩|refine ⟨leafR9,?_⟩)))))
def vt0 : Vt := con0.vt
noncomputable def resVR (s : Vt) (r w : Int) : VtR := open Classical in
  if vtF s = 0 then (if (1 ≤ r ∧ r ≤ 6) ∧ 2 ≤ w ∧ w ≤ 12 then ⟨0, { s with scr := resS s.scr s.scr.grid.rows.toNat s.scr.grid.width.toNat (s.scr.grid.back.length / s.scr.grid.width.toNat) r.toNat w.toNat (resT s.scr.tabs w.toNat) }⟩ else ⟨3, vt0⟩) else ⟨vtF s, vt0⟩
theorem resVR_ok {s : Vt} {r w : Int} (hf : vtF s = 0) (hn : (1 ≤ r ∧ r ≤ 6) ∧ 2 ≤ w ∧ w ≤ 12) : resVR s r w = ⟨0, { s with scr := resS s.scr s.scr.grid.rows.toNat s.scr.grid.width.toNat (s.scr.grid.back.length / s.scr.grid.width.toNat) r.toNat w.toNat (resT s.scr.tabs w.toNat) }⟩ := by unfold resVR; rw [if_pos hf, if_pos hn]
theorem resVR_n {s : Vt} {r w : Int} (hf : vtF s = 0) (hn : ¬ ((1 ≤ r ∧ r ≤ 6) ∧ 2 ≤ w ∧ w ≤ 12)) : resVR s r w = ⟨3, con0.vt⟩ := by unfold resVR; rw [if_pos hf, if_neg hn]; rfl
theorem resVR_bad {s : Vt} {r w : Int} (hf : ¬ vtF s = 0) : resVR s r w = ⟨vtF s, con0.vt⟩ := by unfold resVR; rw [if_neg hf]; rfl
theorem vt_ok {s : Vt} (h : vtF s = 0) : scrF s.scr = 0 := by
  unfold vtF at h
  simp only [firstNZ] at h
  split at h
  · split at h
    · split at h
      · assumption
      · omega
    · omega
  · omega
theorem resVR_B {s : Vt} (h : VtB s) (r w : Int) : VtRB (resVR s r w) := by
  by_cases hf : vtF s = 0
  · by_cases hn : (1 ≤ r ∧ r ≤ 6) ∧ 2 ≤ w ∧ w ≤ 12
    · rw [resVR_ok hf hn]
      have hg := scr_good (vt_ok hf)
      refine ⟨⟨h.par, ⟨⟨?_, ?_⟩, ?_, h.scr.sets⟩⟩⟩
      · simp only [resC_len]
        have : r.toNat * w.toNat ≤ 6 * 12 := Nat.mul_le_mul (by omega) (by omega)
        omega
      · simp only [rowsW_len]
        have := hg.fm
        have : s.scr.grid.back.length / s.scr.grid.width.toNat * w.toNat ≤ 6 * 12 := Nat.mul_le_mul (by omega) (by omega)
        omega
      · simp only [resT_len]; omega
    · rw [resVR_n hf hn]; exact ⟨con0B.vt⟩
  · rw [resVR_bad hf]; exact ⟨con0B.vt⟩
end Go.Mu
