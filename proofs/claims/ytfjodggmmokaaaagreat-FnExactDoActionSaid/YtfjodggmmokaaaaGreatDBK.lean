/- Screens, as the program does controls and what stands behind an escape. -/
import Derived.Test.YtfjodggmmokaaaaGreatDBJ
import Derived.Test.YtfjodggmmokaaaaGreatDBE
import Derived.Test.YtfjodggmmokaaaaGreatDBG
set_option linter.unusedSimpArgs false
set_option linter.unusedVariables false
set_option linter.constructorNameAsVariable false
namespace Go.Mu
open Go Go.Vm Go.RowKit Go.Proofs
attribute [local irreducible] wpA opsA stillA drawA drawS
set_option maxRecDepth 20000
set_option maxHeartbeats 40000000
theorem leafI7 {P : Prop} (h : P := by
  first
  | exact leaf
  | exact PreC.of_eq rfl
  | rfl
  | exact Bool.false_ne_true
  | exact ⟨rfl, rfl⟩
  | (simp [*]; done)
  | fail) : P := h
theorem aLI7 {a b : Prop} (k : b) (h : a := by exact leafI7) : a ∧ b := ⟨h, k⟩
theorem oLI7 {a b c : Prop} (k : b) (h : a := by exact leafI7) : (a ∧ b) ∨ c := .inl ⟨h, k⟩
theorem fzI7 {P : Prop} (h : P := by
  (try refine wF ?_)
  repeat' (first|exact ⟨⟩|(apply And.intro;focus exact leafI7)|((conv=>whnf);first|exact ⟨⟩|(apply And.intro;focus exact leafI7))|fail)
  (first | done | fail)) : P := h
theorem nextT_le {tabs : List Bool} {w : Nat} : ∀ {k : Nat}, k ≤ w → k ≤ nextT tabs w k ∧ nextT tabs w k ≤ w := by
  intro k hk
  obtain ⟨d, hd⟩ : ∃ d, d = w - k := ⟨_, rfl⟩
  induction d generalizing k with
  | zero => rw [nextT_end (by omega)]; omega
  | succ d ih =>
    by_cases h2 : tabs.getD k false = true
    · rw [nextT_at h2]; omega
    · rw [nextT_go (by omega) h2]
      have := ih (k := k + 1) (by omega) (by omega)
      omega
def idxT (tabs : List Bool) (w k : Nat) : Int := if nextT tabs w k < w then ((nextT tabs w k : Nat) : Int) - k else -1
theorem tab_idx {s : Scr} {w x : Nat} (hw : s.grid.width = w) (hx : s.x = x) (hxw : x < w) : (0 ≤ idxT s.tabs w (x + 1) → s.x + 1 + idxT s.tabs w (x + 1) = tabM s) ∧ (¬ 0 ≤ idxT s.tabs w (x + 1) → s.grid.width - 1 = tabM s) := by
  have hl := nextT_le (tabs := s.tabs) (w := w) (k := x + 1) (by omega)
  unfold tabM idxT
  rw [show s.grid.width.toNat = w by omega, show s.x.toNat = x by omega]
  split <;> constructor <;> intro q <;> omega
theorem indexB (tabs : List Bool) (w j : Nat) (hl : tabs.length = w) (hj : j ≤ w) (hw : w ≤ 12) : CallA S 322 [.sl (.loc 0) 1 (some j) ((w : Int) - j), .tt] ⟨[⟨.loc 0, false, .arr boolE tabs⟩], 1⟩ (Ret1 (.int .i64 (idxT tabs w j)) ⟨[], 1⟩) := by
  refine .ofC hS _ _ _ Tryz.func322 ?_
  conv => whnf
  repeat' (first|refine Seal.mk ?_|(refine wS ?_;(conv=>whnf);fail_if_success show False)|((first|refine opsA_step ?_);conv=>whnf)|(intro _;first|omega|conv=>whnf)|(apply And.intro<;>intro _<;>first|omega|conv=>whnf)|((first|refine aLI7 ?_|refine oLI7 ?_|refine ⟨_,rfl,?_⟩|refine ⟨_,⟨rfl,rfl⟩,?_⟩|refine ⟨_,⟨rfl,rfl,leafI7⟩,?_⟩);conv=>whnf)|with_reducible assumption|exact lfI7|fail)
  refine .loop hS (γ := Nat) (fun i => ⟨[(0, .sl (.loc 0) 1 (some j) ((w : Int) - j)), (1, .tt), (7, .int .i64 ((w : Int) - j)), (8, .int .i64 i)], ⟨[⟨.loc 0, false, .arr boolE tabs⟩], 1⟩, 19, 1⟩) (fun i => j + i ≤ w ∧ nextT tabs w j = nextT tabs w (j + i)) (fun i => w - j - i) 0 ⟨by omega, rfl⟩ ?_ ?_
  · ((try dsimp only);exact fzI7)
  · rintro i ⟨hi, hn⟩
    conv => whnf
    by_cases hgo : j + i < w
    · by_cases ht : tabs.getD ((j : Int) + i).toNat boolE.d = true
      · have ht' : tabs.getD (j + i) false = true := by rw [show ((j : Int) + i).toNat = j + i by omega] at ht; exact ht
        have hid : idxT tabs w j = i := by unfold idxT; rw [hn, nextT_at ht', if_pos hgo]; omega
        repeat' (first|refine Seal.mk ?_|(refine wS ?_;(conv=>whnf);fail_if_success show False)|((first|refine opsA_step ?_);conv=>whnf)|(intro _;first|omega|conv=>whnf)|(apply And.intro<;>intro _<;>first|omega|conv=>whnf)|((first|refine aLI7 ?_|refine oLI7 ?_|refine ⟨_,rfl,?_⟩|refine ⟨_,⟨rfl,rfl⟩,?_⟩|refine ⟨_,⟨rfl,rfl,leafI7⟩,?_⟩);conv=>whnf)|with_reducible assumption|exact lfI7|fail)
        all_goals (first | contradiction | (exfalso; omega) | (refine ⟨(),⟨⟩,?_⟩;exact fzI7))
      · have ht' : ¬ tabs.getD (j + i) false = true := by rw [show ((j : Int) + i).toNat = j + i by omega] at ht; exact ht
        have hn2 := hn.trans (nextT_go hgo ht')
        repeat' (first|refine Seal.mk ?_|(refine wS ?_;(conv=>whnf);fail_if_success show False)|((first|refine opsA_step ?_);conv=>whnf)|(intro _;first|omega|conv=>whnf)|(apply And.intro<;>intro _<;>first|omega|conv=>whnf)|((first|refine aLI7 ?_|refine oLI7 ?_|refine ⟨_,rfl,?_⟩|refine ⟨_,⟨rfl,rfl⟩,?_⟩|refine ⟨_,⟨rfl,rfl,leafI7⟩,?_⟩);conv=>whnf)|with_reducible assumption|exact lfI7|fail)
        all_goals (first | contradiction | (exfalso; omega) | (refine ⟨i + 1, ⟨⟨by omega, by rw [← Nat.add_assoc]; exact hn2⟩, by omega⟩, ?_⟩; ((try dsimp only);exact fzI7)))
    · have hid : idxT tabs w j = -1 := by unfold idxT; rw [hn, nextT_end (by omega), if_neg (by omega)]
      repeat' (first|refine Seal.mk ?_|(refine wS ?_;(conv=>whnf);fail_if_success show False)|((first|refine opsA_step ?_);conv=>whnf)|(intro _;first|omega|conv=>whnf)|(apply And.intro<;>intro _<;>first|omega|conv=>whnf)|((first|refine aLI7 ?_|refine oLI7 ?_|refine ⟨_,rfl,?_⟩|refine ⟨_,⟨rfl,rfl⟩,?_⟩|refine ⟨_,⟨rfl,rfl,leafI7⟩,?_⟩);conv=>whnf)|with_reducible assumption|exact lfI7|fail)
      all_goals (first | contradiction | (exfalso; omega) | (refine ⟨(),⟨⟩,?_⟩;exact fzI7))
theorem sTab (s : Scr) (r w : Nat) (h : OkS s r w) : CallA S 250 [.ptr (.loc 0) 20 none 0] ⟨[⟨.loc 0, false, .raw (scrC (.loc 1) (.loc 2) (.loc 3) (.loc 4) s)⟩, ⟨.loc 3, false, .arr boolE s.tabs⟩], 5⟩ (Ret1 (.int .i64 (tabM s)) ⟨[], 5⟩) := by
  obtain ⟨h1, h2, h3, h4, h5, h6, h7, h8, h9, h10, h11, h12, _⟩ := h
  obtain ⟨x, hx⟩ := Int.eq_ofNat_of_zero_le (show 0 ≤ s.x by omega)
  obtain ⟨t1, t2⟩ := tab_idx h4 hx (by omega)
  have hix := indexB s.tabs w (x + 1) h12 (by omega) (by omega)
  have e : ((x + 1 : Nat) : Int) = s.x + 1 := by omega
  rw [e] at hix
  have hb : -1 ≤ idxT s.tabs w (x + 1) ∧ idxT s.tabs w (x + 1) ≤ 12 := by
    have := nextT_le (tabs := s.tabs) (w := w) (k := x + 1) (by omega)
    unfold idxT; split <;> omega
  generalize idxT s.tabs w (x + 1) = k at *
  refine .ofC hS _ _ _ Tryz.func250 ?_
  conv => whnf
  repeat' (first|refine Seal.mk ?_|(refine wS ?_;(conv=>whnf);fail_if_success show False)|((first|refine opsA_step ?_|refine drawS_go ?_|refine wD (id:=1) (.quick 0 (.quick 1 (.quick 2 (.quick 4 (.quick 5 (.quick 6 (.stable 3 (.stable 7 (.quick 8 (.quick 9 (.all (.step 10 (.quick 11 .done))))))))))))) [10] (by kernel_rfl) rfl ?_|apply wL (hix));conv=>whnf)|(intro _;first|omega|conv=>whnf)|(apply And.intro<;>intro _<;>first|omega|conv=>whnf)|((first|refine aLI7 ?_|refine oLI7 ?_|refine ⟨_,rfl,?_⟩|refine ⟨_,⟨rfl,rfl⟩,?_⟩|refine ⟨_,⟨rfl,rfl,leafI7⟩,?_⟩);conv=>whnf)|with_reducible assumption|exact lfI7|fail)
  · rename_i q; have := t1 q; (refine ⟨(),⟨⟩,?_⟩;exact fzI7)
  · rename_i q; have := t2 q; (refine ⟨(),⟨⟩,?_⟩;exact fzI7)
theorem goC_goM {s : Scr} {r w : Nat} (h : OkS s r w) (x : Int) : goC s x = goM s s.y x := by
  have h7 := h.y; have h9 := h.reg; have ho := h.orig; have h3 := h.rows; have h1 := h.hr
  have e : max (lowM s) (min (highM s) s.y) = s.y := by
    unfold lowM highM
    by_cases q : s.origin = true
    · have := ho q; rw [if_pos q, if_pos q]; omega
    · rw [if_neg q, if_neg q]; omega
  unfold goC goM
  rw [e]
theorem sControl (s : Scr) (r w : Nat) (h : OkS s r w) (c : Int) : CallA S 154 [.ptr (.loc 0) 20 none 0, .int .i64 c] ⟨[⟨.loc 0, true, .raw (scrC (.loc 1) (.loc 2) (.loc 3) (.loc 4) s)⟩, ⟨.loc 1, true, .arr pairE s.grid.cells⟩, ⟨.loc 2, true, .arr pairE s.grid.back⟩, ⟨.loc 3, false, .arr boolE s.tabs⟩], 5⟩ (Ret1 (.tup []) ⟨[⟨.loc 0, true, .raw (scrC (.loc 1) (.loc 5) (.loc 3) (.loc 4) (ctlM s c : Scr))⟩, ⟨.loc 1, true, .arr pairE (ctlM s c : Scr).grid.cells⟩, ⟨.loc 5, true, .arr pairE (ctlM s c : Scr).grid.back⟩], 6⟩) := by
  have hdn := sDown s r w h
  have htb := sTab s r w h
  have hx := h.x
  have hb := h.bells
  have hww := h.hw
  have htm : 0 ≤ tabM s ∧ tabM s ≤ 12 := by
    have := h.width
    unfold tabM; omega
  refine .ofC hS _ _ _ Tryz.func154 ?_
  conv => whnf
  repeat' (first|refine Seal.mk ?_|(refine wS ?_;(conv=>whnf);fail_if_success show False)|((first|refine opsA_step ?_|apply wL (hdn)|apply wL (htb)|apply wL (sCol s r w h.rg _));conv=>whnf)|(intro _;first|omega|conv=>whnf)|(apply And.intro<;>intro _<;>first|omega|conv=>whnf)|((first|refine aLI7 ?_|refine oLI7 ?_|refine ⟨_,rfl,?_⟩|refine ⟨_,⟨rfl,rfl⟩,?_⟩|refine ⟨_,⟨rfl,rfl,leafI7⟩,?_⟩);conv=>whnf)|with_reducible assumption|exact lfI7|fail)
  all_goals (first | contradiction | (exfalso; omega) | (rw [show ctlM s c = { s with bells := min 999 (s.bells + 1) } from by unfold ctlM; (repeat' split) <;> first | rfl | (exfalso; omega)]; (try rw [← goC_goM h]); (refine ⟨(),⟨⟩,?_⟩;exact fzI7); done) | (rw [show ctlM s c = goM s s.y (s.x - 1) from by unfold ctlM; (repeat' split) <;> first | rfl | (exfalso; omega)]; (try rw [← goC_goM h]); (refine ⟨(),⟨⟩,?_⟩;exact fzI7); done) | (rw [show ctlM s c = goM s s.y (tabM s) from by unfold ctlM; (repeat' split) <;> first | rfl | (exfalso; omega)]; (try rw [← goC_goM h]); (refine ⟨(),⟨⟩,?_⟩;exact fzI7); done) | (rw [show ctlM s c = downM s from by unfold ctlM; (repeat' split) <;> first | rfl | (exfalso; omega)]; (try rw [← goC_goM h]); (refine ⟨(),⟨⟩,?_⟩;exact fzI7); done) | (rw [show ctlM s c = goM s s.y 0 from by unfold ctlM; (repeat' split) <;> first | rfl | (exfalso; omega)]; (try rw [← goC_goM h]); (refine ⟨(),⟨⟩,?_⟩;exact fzI7); done) | (rw [show ctlM s c = { s with shift := 1 } from by unfold ctlM; (repeat' split) <;> first | rfl | (exfalso; omega)]; (try rw [← goC_goM h]); (refine ⟨(),⟨⟩,?_⟩;exact fzI7); done) | (rw [show ctlM s c = { s with shift := 0 } from by unfold ctlM; (repeat' split) <;> first | rfl | (exfalso; omega)]; (try rw [← goC_goM h]); (refine ⟨(),⟨⟩,?_⟩;exact fzI7); done) | (rw [show ctlM s c = s from by unfold ctlM; (repeat' split) <;> first | rfl | (exfalso; omega)]; (try rw [← goC_goM h]); (refine ⟨(),⟨⟩,?_⟩;exact fzI7); done))
end Go.Mu
