/- An action done on a screen, both ways. -/
import Derived.Test.YtfjodggmmokaaaaGreatDAK
import Derived.Test.YtfjodggmmokaaaaGreatDBP
import Derived.Test.YtfjodggmmokaaaaGreatDBW
import Derived.Test.YtfjodggmmokaaaaGreatDBV
import Derived.Test.YtfjodggmmokaaaaGreatDAP
import Derived.Test.YtfjodggmmokaaaaGreatDAR
set_option linter.unusedSimpArgs false
set_option linter.unusedVariables false
set_option linter.constructorNameAsVariable false
namespace Go.Mu
open Go Go.Vm Go.RowKit Go.Proofs
attribute [local irreducible] wpA opsA stillA drawA drawS
set_option maxRecDepth 20000
set_option maxHeartbeats 40000000
open Classical in
theorem scr_okS {s : Scr} (h : scrF s = 0) : OkS s s.grid.rows.toNat s.grid.width.toNat ∧ WrpOk s s.grid.width.toNat := by
  unfold scrF at h
  split at h
  · rename_i hg
    split at h
    · rename_i hr
      split at h
      · rename_i hf
        have hsz := gridF_size hg
        unfold gridF at hg
        rw [if_neg (by omega)] at hg
        split at hg
        · omega
        · rename_i hq
          have h1 : (s.grid.cells.length : Int) = s.grid.rows * s.grid.width := by
            apply Classical.byContradiction; intro q; exact hq (.inl q)
          have h2 : (s.grid.back.length : Int) ≤ 5 * s.grid.width := by
            apply Classical.byContradiction; intro q; exact hq (.inr (.inl (by omega)))
          have h3 : (s.grid.back.length : Int) % s.grid.width = 0 := by
            apply Classical.byContradiction; intro q; exact hq (.inr (.inr q))
          obtain ⟨⟨hy, hx⟩, ha, k1, k2, k3, ⟨hs, _⟩, hsh, hb⟩ := hr
          obtain ⟨hre, ht, hw, ho⟩ := hf
          obtain ⟨R, hR⟩ := Int.eq_ofNat_of_zero_le (show 0 ≤ s.grid.rows by omega)
          obtain ⟨W, hW⟩ := Int.eq_ofNat_of_zero_le (show 0 ≤ s.grid.width by omega)
          have e1 : s.grid.rows.toNat = R := by omega
          have e2 : s.grid.width.toNat = W := by omega
          rw [e1, e2]
          have hreg : 0 ≤ s.top ∧ s.top ≤ s.bottom ∧ s.bottom ≤ (R : Int) - 1 := by
            rcases hre with ⟨q1, q2, q3⟩ | ⟨q1, q2⟩ <;> omega
          have hm : s.grid.back.length % W = 0 := by
            rw [hW] at h3; exact_mod_cast h3
          have hdm := Nat.div_add_mod s.grid.back.length W
          refine ⟨⟨by omega, by omega, hR, hW, ?_, by omega, by omega, by omega, hreg, ha, ⟨k1, k2, k3⟩, by omega, hs, hsh, hb, fun q => ho q, ⟨s.grid.back.length / W, ?_, by rw [Nat.mul_comm]; omega⟩⟩, fun q => by obtain ⟨p1, p2⟩ := hw q; exact ⟨by omega, p2⟩⟩
          · rw [hR, hW, ← Int.natCast_mul] at h1; omega
          · have : s.grid.back.length ≤ 5 * W := by omega
            exact Nat.le_of_lt_succ (Nat.div_lt_of_lt_mul (by omega))
      · omega
    · omega
  · omega
theorem parms_ok {ps : List Int} (h : parmsF ps = 0) : (1 ≤ ps.length ∧ ps.length ≤ 1000) ∧ ∀ p ∈ ps, 0 ≤ p ∧ p ≤ 99999 := by
  unfold parmsF at h
  split at h
  · rename_i hl
    split at h
    · rename_i ha
      refine ⟨by omega, fun p hp => ?_⟩
      obtain ⟨i, hi, rfl⟩ := List.getElem_of_mem hp
      have := ha i hi
      have e : ps.getD i 0 = ps[i] := by simp [hi]
      rw [e] at this; omega
    · omega
  · omega
theorem act_ok {a : Vm.Act} (h : actF a = 0) : ActOk a := by
  unfold actF at h
  split at h
  · unfold actT at h
    split at h
    · split at h
      · exact ⟨fun q => by omega, fun q => by omega, fun _ => parms_ok h⟩
      · omega
    · omega
  · unfold actU at h
    split at h
    · split at h
      · rename_i hc
        obtain ⟨c1, c2, c3, c4, c5⟩ := hc
        split at h
        · exact ⟨fun q => by omega, fun q => by omega, fun _ => parms_ok h⟩
        · exact ⟨fun q => by rcases c1 with c | c <;> omega, fun q => by rcases c4 with c | c <;> omega, fun q => by omega⟩
      · omega
    · omega
open Classical in
noncomputable def doR (s : Scr) (a : Vm.Act) : ScrR := if scrF s = 0 then (if actF a = 0 then ⟨0, doM s s.grid.width.toNat a⟩ else ⟨actF a, con0.vt.scr⟩) else ⟨scrF s, con0.vt.scr⟩
theorem doR_ok {s : Scr} {a : Vm.Act} (hf : scrF s = 0) (ha : actF a = 0) : doR s a = ⟨0, doM s s.grid.width.toNat a⟩ := by unfold doR; rw [if_pos hf, if_pos ha]
theorem doR_act {s : Scr} {a : Vm.Act} (hf : scrF s = 0) (ha : ¬ actF a = 0) : doR s a = ⟨actF a, con0.vt.scr⟩ := by unfold doR; rw [if_pos hf, if_neg ha]
theorem doR_bad {s : Scr} {a : Vm.Act} (hf : ¬ scrF s = 0) : doR s a = ⟨scrF s, con0.vt.scr⟩ := by unfold doR; rw [if_neg hf]
theorem OkS.B {s : Scr} {r w : Nat} (h : OkS s r w) : ScrB s := by
  have h1 := h.hr; have h2 := h.hw; have h5 := h.cells; have h6 := h.back; have h12 := h.tabs; have h13 := h.sets
  have hrw : r * w ≤ 6 * 12 := Nat.mul_le_mul h1.2 h2.2
  exact ⟨⟨by omega, by omega⟩, by omega, by omega⟩
theorem doR_B {s : Scr} (a : Vm.Act) : ScrRB (doR s a) := by
  by_cases hf : scrF s = 0
  · by_cases ha : actF a = 0
    · rw [doR_ok hf ha]
      exact ⟨(doM_ok (scr_okS hf).1 a).B⟩
    · rw [doR_act hf ha]; exact ⟨⟨⟨by simp [con0], by simp [con0]⟩, by simp [con0], by simp [con0]⟩⟩
  · rw [doR_bad hf]; exact ⟨⟨⟨by simp [con0], by simp [con0]⟩, by simp [con0], by simp [con0]⟩⟩
theorem implDoAction (s : Scr) (h : ScrB s) (a : Vm.Act) (h2 : ActB a) : CallA S 13 [.agg (scrC (.loc 0) (.loc 1) (.loc 2) (.loc 3) s), .agg (actC (.loc 4) a)] ⟨scrH false (.loc 0) (.loc 1) (.loc 2) (.loc 3) s (actH false (.loc 4) a []), 5⟩ (Ret1 (.agg (scrRC (.loc 5) (.loc 6) (.loc 7) (.loc 8) (doR s a))) ⟨scrRH true (.loc 5) (.loc 6) (.loc 7) (.loc 8) (doR s a) [], 9⟩) := by
  by_cases hf : scrF s = 0
  by_cases ha : actF a = 0
  · rw [doR_ok hf ha]
    have e : firstNZ [scrF s, actF a] = 0 := by simp [firstNZ, *]
    obtain ⟨hok, _⟩ := scr_okS hf
    have hact := act_ok ha
    have hdo := sDo s _ _ hok a hact
    have hln := doM_ok hok a
    refine .ofC hS _ _ _ Tryz.func13 ?_
    conv => whnf
    repeat' (first|refine Seal.mk ?_|(refine wS ?_;(conv=>whnf);fail_if_success show False)|((first|refine opsA_step ?_|refine drawS_go ?_);conv=>whnf)|(intro _;first|omega|conv=>whnf)|(apply And.intro<;>intro _<;>first|omega|conv=>whnf)|((first|refine aLQ ?_|refine ⟨_,rfl,?_⟩|refine ⟨_,⟨rfl,rfl⟩,?_⟩|refine ⟨_,⟨rfl,rfl,leafQ⟩,?_⟩);conv=>whnf)|with_reducible assumption|exact lfQ|fail)
    (apply Wp.keepX [4] [2, 3, 4, 39]; (conv => whnf); apply Wp.meet; (focus ((repeat' (first|refine Seal.mk ?_|(refine wS ?_;(conv=>whnf);fail_if_success show False)|((first|refine opsA_step ?_|refine drawS_go ?_|refine wD (id:=1) (.stable 0 (.stable 2 (.all (.step 1 (.all (.step 3 (.all (.step 4 (.all (.step 5 (.quick 6 .done))))))))))) [1, 3, 4, 5] (by kernel_rfl) rfl ?_|apply wL (screenFault' _ h)|apply wL (actionFault _ h2.params)|apply wL (first [_, _] (Nat.le_of_ble_eq_true rfl)));conv=>whnf)|(intro _;first|omega|conv=>whnf)|(apply And.intro<;>intro _<;>first|omega|conv=>whnf)|((first|refine aLQ ?_|refine ⟨_,rfl,?_⟩|refine ⟨_,⟨rfl,rfl⟩,?_⟩|refine ⟨_,⟨rfl,rfl,leafQ⟩,?_⟩);conv=>whnf)|with_reducible assumption|exact lfQ|fail)); (focus ((conv => whnf); apply FitsT.keep [2, 3, 4, 5, 39]; (conv => whnf); (try exact rfl))); (all_goals (exact fzQ)))); (conv => whnf))
    repeat' (first|refine Seal.mk ?_|(refine wS ?_;(conv=>whnf);fail_if_success show False)|((first|refine opsA_step ?_|refine drawS_go ?_|apply wL (screenFault' _ h)|apply wL (actionFault _ h2.params)|apply wL (first [_, _] (Nat.le_of_ble_eq_true rfl))|apply wL (cloneScr _ h)|apply wL (hdo));conv=>whnf)|(intro _;first|omega|conv=>whnf)|(apply And.intro<;>intro _<;>first|omega|conv=>whnf)|((first|refine aLQ ?_|refine ⟨_,rfl,?_⟩|refine ⟨_,⟨rfl,rfl⟩,?_⟩|refine ⟨_,⟨rfl,rfl,leafQ⟩,?_⟩);conv=>whnf)|with_reducible assumption|exact lfQ|fail)
    all_goals (first | contradiction | (exfalso; omega) | (refine ⟨(),⟨⟩,?_⟩;exact fzQ))
  · rw [doR_act hf ha]
    have e : firstNZ [scrF s, actF a] = actF a := by simp [firstNZ, *]
    refine .ofC hS _ _ _ Tryz.func13 ?_
    conv => whnf
    repeat' (first|refine Seal.mk ?_|(refine wS ?_;(conv=>whnf);fail_if_success show False)|((first|refine opsA_step ?_|refine drawS_go ?_);conv=>whnf)|(intro _;first|omega|conv=>whnf)|(apply And.intro<;>intro _<;>first|omega|conv=>whnf)|((first|refine aLQ ?_|refine ⟨_,rfl,?_⟩|refine ⟨_,⟨rfl,rfl⟩,?_⟩|refine ⟨_,⟨rfl,rfl,leafQ⟩,?_⟩);conv=>whnf)|with_reducible assumption|exact lfQ|fail)
    (apply Wp.keepX [4] [2, 3, 4, 39]; (conv => whnf); apply Wp.meet; (focus ((repeat' (first|refine Seal.mk ?_|(refine wS ?_;(conv=>whnf);fail_if_success show False)|((first|refine opsA_step ?_|refine drawS_go ?_|refine wD (id:=1) (.stable 0 (.stable 2 (.all (.step 1 (.all (.step 3 (.all (.step 4 (.all (.step 5 (.quick 6 .done))))))))))) [1, 3, 4, 5] (by kernel_rfl) rfl ?_|apply wL (screenFault' _ h)|apply wL (actionFault _ h2.params)|apply wL (first [_, _] (Nat.le_of_ble_eq_true rfl)));conv=>whnf)|(intro _;first|omega|conv=>whnf)|(apply And.intro<;>intro _<;>first|omega|conv=>whnf)|((first|refine aLQ ?_|refine ⟨_,rfl,?_⟩|refine ⟨_,⟨rfl,rfl⟩,?_⟩|refine ⟨_,⟨rfl,rfl,leafQ⟩,?_⟩);conv=>whnf)|with_reducible assumption|exact lfQ|fail)); (focus ((conv => whnf); apply FitsT.keep [2, 3, 4, 5, 39]; (conv => whnf); (try exact rfl))); (all_goals (exact fzQ)))); (conv => whnf))
    repeat' (first|refine Seal.mk ?_|(refine wS ?_;(conv=>whnf);fail_if_success show False)|((first|refine opsA_step ?_|refine drawS_go ?_|apply wL (screenFault' _ h)|apply wL (actionFault _ h2.params)|apply wL (first [_, _] (Nat.le_of_ble_eq_true rfl)));conv=>whnf)|(intro _;first|omega|conv=>whnf)|(apply And.intro<;>intro _<;>first|omega|conv=>whnf)|((first|refine aLQ ?_|refine ⟨_,rfl,?_⟩|refine ⟨_,⟨rfl,rfl⟩,?_⟩|refine ⟨_,⟨rfl,rfl,leafQ⟩,?_⟩);conv=>whnf)|with_reducible assumption|exact lfQ|fail)
    all_goals (first | contradiction | (exfalso; omega) | (refine ⟨(),⟨⟩,?_⟩;exact fzQ))
  · rw [doR_bad hf]
    have e : firstNZ [scrF s, actF a] = scrF s := by simp [firstNZ, *]
    refine .ofC hS _ _ _ Tryz.func13 ?_
    conv => whnf
    repeat' (first|refine Seal.mk ?_|(refine wS ?_;(conv=>whnf);fail_if_success show False)|((first|refine opsA_step ?_|refine drawS_go ?_);conv=>whnf)|(intro _;first|omega|conv=>whnf)|(apply And.intro<;>intro _<;>first|omega|conv=>whnf)|((first|refine aLQ ?_|refine ⟨_,rfl,?_⟩|refine ⟨_,⟨rfl,rfl⟩,?_⟩|refine ⟨_,⟨rfl,rfl,leafQ⟩,?_⟩);conv=>whnf)|with_reducible assumption|exact lfQ|fail)
    (apply Wp.keepX [4] [2, 3, 4, 39]; (conv => whnf); apply Wp.meet; (focus ((repeat' (first|refine Seal.mk ?_|(refine wS ?_;(conv=>whnf);fail_if_success show False)|((first|refine opsA_step ?_|refine drawS_go ?_|refine wD (id:=1) (.stable 0 (.stable 2 (.all (.step 1 (.all (.step 3 (.all (.step 4 (.all (.step 5 (.quick 6 .done))))))))))) [1, 3, 4, 5] (by kernel_rfl) rfl ?_|apply wL (screenFault' _ h)|apply wL (actionFault _ h2.params)|apply wL (first [_, _] (Nat.le_of_ble_eq_true rfl)));conv=>whnf)|(intro _;first|omega|conv=>whnf)|(apply And.intro<;>intro _<;>first|omega|conv=>whnf)|((first|refine aLQ ?_|refine ⟨_,rfl,?_⟩|refine ⟨_,⟨rfl,rfl⟩,?_⟩|refine ⟨_,⟨rfl,rfl,leafQ⟩,?_⟩);conv=>whnf)|with_reducible assumption|exact lfQ|fail)); (focus ((conv => whnf); apply FitsT.keep [2, 3, 4, 5, 39]; (conv => whnf); (try exact rfl))); (all_goals (exact fzQ)))); (conv => whnf))
    repeat' (first|refine Seal.mk ?_|(refine wS ?_;(conv=>whnf);fail_if_success show False)|((first|refine opsA_step ?_|refine drawS_go ?_|apply wL (screenFault' _ h)|apply wL (actionFault _ h2.params)|apply wL (first [_, _] (Nat.le_of_ble_eq_true rfl)));conv=>whnf)|(intro _;first|omega|conv=>whnf)|(apply And.intro<;>intro _<;>first|omega|conv=>whnf)|((first|refine aLQ ?_|refine ⟨_,rfl,?_⟩|refine ⟨_,⟨rfl,rfl⟩,?_⟩|refine ⟨_,⟨rfl,rfl,leafQ⟩,?_⟩);conv=>whnf)|with_reducible assumption|exact lfQ|fail)
    all_goals (first | contradiction | (exfalso; omega) | (refine ⟨(),⟨⟩,?_⟩;exact fzQ))
theorem l5Bad (c : Int) : CallA S 57 [.int .i64 c] ⟨[], 0⟩ (Ret1 (.agg (scrRC (.loc 0) (.loc 1) (.loc 2) (.loc 3) ⟨c, con0.vt.scr⟩)) ⟨scrRH true (.loc 0) (.loc 1) (.loc 2) (.loc 3) ⟨c, con0.vt.scr⟩ [], 4⟩) := by
  refine .ofC hS _ _ _ Tryz.func57 ?_
  conv => whnf
  repeat' (first|refine Seal.mk ?_|(refine wS ?_;(conv=>whnf);fail_if_success show False)|((first|refine opsA_step ?_);conv=>whnf)|(intro _;first|omega|conv=>whnf)|(apply And.intro<;>intro _<;>first|omega|conv=>whnf)|((first|refine aLQ ?_|refine ⟨_,rfl,?_⟩|refine ⟨_,⟨rfl,rfl⟩,?_⟩|refine ⟨_,⟨rfl,rfl,leafQ⟩,?_⟩);conv=>whnf)|with_reducible assumption|exact lfQ|fail)
  all_goals (refine ⟨(),⟨⟩,?_⟩;exact fzQ)
theorem specDoAction (s : Scr) (h : ScrB s) (a : Vm.Act) (h2 : ActB a) : CallA S 10 [.agg (scrC (.loc 0) (.loc 1) (.loc 2) (.loc 3) s), .agg (actC (.loc 4) a)] ⟨scrH false (.loc 0) (.loc 1) (.loc 2) (.loc 3) s (actH false (.loc 4) a []), 5⟩ (Ret1 (.agg (scrRC (.loc 5) (.loc 6) (.loc 7) (.loc 8) (doR s a))) ⟨scrRH true (.loc 5) (.loc 6) (.loc 7) (.loc 8) (doR s a) [], 9⟩) := by
  by_cases hf : scrF s = 0
  by_cases ha : actF a = 0
  · rw [doR_ok hf ha]
    obtain ⟨hok, _⟩ := scr_okS hf
    have hact := act_ok ha
    have hdo := l5Do s _ _ hok a hact
    have hln := doM_ok hok a
    refine .ofC hS _ _ _ Tryz.func10 ?_
    conv => whnf
    repeat' (first|refine Seal.mk ?_|(refine wS ?_;(conv=>whnf);fail_if_success show False)|((first|refine opsA_step ?_|apply wL (l5Fault' _ h)|apply wL (l4Action _ h2.params)|apply wL (l5Bad _)|apply wL (l5Copy _ h)|apply wL (hdo));conv=>whnf)|(intro _;first|omega|conv=>whnf)|(apply And.intro<;>intro _<;>first|omega|conv=>whnf)|((first|refine aLQ ?_|refine ⟨_,rfl,?_⟩|refine ⟨_,⟨rfl,rfl⟩,?_⟩|refine ⟨_,⟨rfl,rfl,leafQ⟩,?_⟩);conv=>whnf)|with_reducible assumption|exact lfQ|fail)
    all_goals (first | contradiction | (exfalso; omega) | (refine ⟨(),⟨⟩,?_⟩;exact fzQ))
  · rw [doR_act hf ha]
    refine .ofC hS _ _ _ Tryz.func10 ?_
    conv => whnf
    repeat' (first|refine Seal.mk ?_|(refine wS ?_;(conv=>whnf);fail_if_success show False)|((first|refine opsA_step ?_|apply wL (l5Fault' _ h)|apply wL (l4Action _ h2.params)|apply wL (l5Bad _));conv=>whnf)|(intro _;first|omega|conv=>whnf)|(apply And.intro<;>intro _<;>first|omega|conv=>whnf)|((first|refine aLQ ?_|refine ⟨_,rfl,?_⟩|refine ⟨_,⟨rfl,rfl⟩,?_⟩|refine ⟨_,⟨rfl,rfl,leafQ⟩,?_⟩);conv=>whnf)|with_reducible assumption|exact lfQ|fail)
    all_goals (first | contradiction | (exfalso; omega) | (refine ⟨(),⟨⟩,?_⟩;exact fzQ))
  · rw [doR_bad hf]
    refine .ofC hS _ _ _ Tryz.func10 ?_
    conv => whnf
    repeat' (first|refine Seal.mk ?_|(refine wS ?_;(conv=>whnf);fail_if_success show False)|((first|refine opsA_step ?_|apply wL (l5Fault' _ h)|apply wL (l4Action _ h2.params)|apply wL (l5Bad _));conv=>whnf)|(intro _;first|omega|conv=>whnf)|(apply And.intro<;>intro _<;>first|omega|conv=>whnf)|((first|refine aLQ ?_|refine ⟨_,rfl,?_⟩|refine ⟨_,⟨rfl,rfl⟩,?_⟩|refine ⟨_,⟨rfl,rfl,leafQ⟩,?_⟩);conv=>whnf)|with_reducible assumption|exact lfQ|fail)
    all_goals (first | contradiction | (exfalso; omega) | (refine ⟨(),⟨⟩,?_⟩;exact fzQ))
end Go.Mu
