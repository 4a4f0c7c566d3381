/- What is wrong with a terminal, a console, as the reference tells. -/
import Derived.Test.YtofeeoknfhekkaaGreatPC
import Derived.Test.YtofeeoknfhekkaaGreatPE
set_option linter.unusedSimpArgs false
set_option linter.unusedVariables false
set_option linter.constructorNameAsVariable false
namespace Go.Mu
open Go Go.Vm Go.RowKit Go.Proofs
attribute [local irreducible] wpA opsA stillA drawA drawS
set_option maxRecDepth 20000
set_option maxHeartbeats 4000000

theorem l1Fault (d : Dec) : CallA S 211 [.ptr (.loc 0) 3 none 0] ⟨[⟨.loc 0, false, .raw (decC d)⟩], 1⟩ (Ret1 (.int .i64 (decF d)) ⟨[], 1⟩) := by
  refine .ofC hS _ _ _ Tryz.func211 ?_
  conv => whnf
  repeat' (first|refine Seal.mk ?_|(refine wS ?_;(conv=>whnf);fail_if_success show False)|((first|refine opsA_step ?_|refine drawS_go ?_|apply wL (l1In _ _ _));conv=>whnf)|(intro _;first|omega|conv=>whnf)|(apply And.intro<;>intro _<;>first|omega|conv=>whnf)|refine ⟨Seal.mk ?_,Seal.mk ?_⟩|((first|(apply And.intro;focus exact leaf)|(apply Or.inl;apply And.intro;focus exact leaf)|apply Or.inr|refine ⟨_,rfl,?_⟩|refine ⟨_,⟨rfl,rfl⟩,?_⟩|refine ⟨intE .u8,⟨rfl,fun _=>rfl⟩,?_⟩|(refine Exists.intro _ (And.intro (And.intro rfl (And.intro rfl ?_)) ?_);focus exact leaf));conv=>whnf)|with_reducible assumption|((fail_if_success refine Exists.intro ?_ ?_);exact leaf)|fail)
  all_goals (refine ⟨(), trivial, ?_⟩; (try refine FitsT.now hS ?_); (conv => whnf); apply And.intro; (case right => (repeat' (first|exact ⟨⟩|(apply And.intro;focus exact leaf)|((conv=>whnf);first|exact ⟨⟩|(apply And.intro;focus exact leaf))|fail))))
  all_goals (unfold decF; first | (rw [if_pos (by unfold decP; omega)]; done) | (rw [if_neg (by unfold decP; omega)]; done))
theorem l4Params (xs : List Int) (hx : xs.length ≤ 1048576) : CallA S 257 [.sl (.loc 0) 1 none xs.length] ⟨[⟨.loc 0, false, .arr (intE .i64) xs⟩], 1⟩ (Ret1 (.int .i64 (parmsF xs)) ⟨[], 1⟩) := by
  refine .ofC hS _ _ _ Tryz.func257 ?_
  conv => whnf
  repeat' (first|refine Seal.mk ?_|(refine wS ?_;(conv=>whnf);fail_if_success show False)|((first|refine opsA_step ?_|refine drawS_go ?_);conv=>whnf)|(intro _;first|omega|conv=>whnf)|(apply And.intro<;>intro _<;>first|omega|conv=>whnf)|refine ⟨Seal.mk ?_,Seal.mk ?_⟩|((first|(apply And.intro;focus exact leaf)|(apply Or.inl;apply And.intro;focus exact leaf)|apply Or.inr|refine ⟨_,rfl,?_⟩|refine ⟨_,⟨rfl,rfl⟩,?_⟩|refine ⟨intE .u8,⟨rfl,fun _=>rfl⟩,?_⟩|(refine Exists.intro _ (And.intro (And.intro rfl (And.intro rfl ?_)) ?_);focus exact leaf));conv=>whnf)|with_reducible assumption|((fail_if_success refine Exists.intro ?_ ?_);exact leaf)|fail)
  all_goals first | ((refine ⟨(), trivial, ?_⟩; (try refine FitsT.now hS ?_); (conv => whnf); apply And.intro; (case right => (repeat' (first|exact ⟨⟩|(apply And.intro;focus exact leaf)|((conv=>whnf);first|exact ⟨⟩|(apply And.intro;focus exact leaf))|fail)))); unfold parmsF; rw [if_neg (by omega)]; done) | skip
  refine .loop hS (γ := Nat) (fun i => ⟨[(0, .sl (.loc 0) 1 none xs.length), (3, .int .i64 i)],
      ⟨[⟨.loc 0, false, .arr (intE .i64) xs⟩], 1⟩, 24, 1⟩) (fun i => i ≤ xs.length ∧ ∀ k, k < i → 0 ≤ xs.getD k 0 ∧ xs.getD k 0 ≤ 999) (fun i => xs.length - i) 0 ⟨by omega, by omega⟩ ?_ ?_
  · ((try dsimp only);((try refine wF ?_);repeat' (first|exact ⟨⟩|(apply And.intro;focus exact leaf)|((conv=>whnf);first|exact ⟨⟩|(apply And.intro;focus exact leaf))|fail)))
  · intro i hi
    obtain ⟨hi, hk⟩ := hi
    conv => whnf
    repeat' (first|refine Seal.mk ?_|(refine wS ?_;(conv=>whnf);fail_if_success show False)|((first|refine opsA_step ?_|refine drawS_go ?_|apply wL (l1In _ _ _));conv=>whnf)|(intro _;first|omega|conv=>whnf)|(apply And.intro<;>intro _<;>first|omega|conv=>whnf)|refine ⟨Seal.mk ?_,Seal.mk ?_⟩|((first|(apply And.intro;focus exact leaf)|(apply Or.inl;apply And.intro;focus exact leaf)|apply Or.inr|refine ⟨_,rfl,?_⟩|refine ⟨_,⟨rfl,rfl⟩,?_⟩|refine ⟨intE .u8,⟨rfl,fun _=>rfl⟩,?_⟩|(refine Exists.intro _ (And.intro (And.intro rfl (And.intro rfl ?_)) ?_);focus exact leaf));conv=>whnf)|with_reducible assumption|((fail_if_success refine Exists.intro ?_ ?_);exact leaf)|fail)
    · have hn : ¬ allParams xs := fun h => absurd (h i (by omega)) ‹_›
      (refine ⟨(), trivial, ?_⟩; (try refine FitsT.now hS ?_); (conv => whnf); apply And.intro; (case right => (repeat' (first|exact ⟨⟩|(apply And.intro;focus exact leaf)|((conv=>whnf);first|exact ⟨⟩|(apply And.intro;focus exact leaf))|fail))))
      unfold parmsF; rw [if_pos (by omega), if_neg hn]
    · refine ⟨i + 1, ⟨⟨by omega, fun k hk' => ?_⟩, by omega⟩, ?_⟩
      · rcases Nat.lt_or_eq_of_le (Nat.le_of_lt_succ hk') with q | q
        · exact hk k q
        · subst q; exact Classical.not_not.1 ‹_›
      · ((try dsimp only);((try refine wF ?_);repeat' (first|exact ⟨⟩|(apply And.intro;focus exact leaf)|((conv=>whnf);first|exact ⟨⟩|(apply And.intro;focus exact leaf))|fail)))
    · have hn : allParams xs := fun k hk' => hk k (by omega)
      (refine ⟨(), trivial, ?_⟩; (try refine FitsT.now hS ?_); (conv => whnf); apply And.intro; (case right => (repeat' (first|exact ⟨⟩|(apply And.intro;focus exact leaf)|((conv=>whnf);first|exact ⟨⟩|(apply And.intro;focus exact leaf))|fail))))
      unfold parmsF; rw [if_pos (by omega), if_pos hn]
theorem l4Fault (p : Par) (h : ParB p) : CallA S 212 [.ptr (.loc 0) 4 none 0] ⟨⟨.loc 0, false, .raw (parC (.loc 1) p)⟩ :: parH false (.loc 1) p [], 2⟩ (Ret1 (.int .i64 (parF p)) ⟨[], 2⟩) := by
  refine .ofC hS _ _ _ Tryz.func212 ?_
  conv => whnf
  obtain ⟨h0⟩ := h
  repeat' (first|refine Seal.mk ?_|(refine wS ?_;(conv=>whnf);fail_if_success show False)|((first|refine opsA_step ?_|refine drawS_go ?_|apply wL (l1In _ _ _)|apply wL (l4Params _ _));conv=>whnf)|(intro _;first|omega|conv=>whnf)|(apply And.intro<;>intro _<;>first|omega|conv=>whnf)|refine ⟨Seal.mk ?_,Seal.mk ?_⟩|((first|(apply And.intro;focus exact leaf)|(apply Or.inl;apply And.intro;focus exact leaf)|apply Or.inr|refine ⟨_,rfl,?_⟩|refine ⟨_,⟨rfl,rfl⟩,?_⟩|refine ⟨intE .u8,⟨rfl,fun _=>rfl⟩,?_⟩|(refine Exists.intro _ (And.intro (And.intro rfl (And.intro rfl ?_)) ?_);focus exact leaf));conv=>whnf)|with_reducible assumption|((fail_if_success refine Exists.intro ?_ ?_);exact leaf)|fail)
  all_goals (refine ⟨(), trivial, ?_⟩; (try refine FitsT.now hS ?_); (conv => whnf); apply And.intro; (case right => (repeat' (first|exact ⟨⟩|(apply And.intro;focus exact leaf)|((conv=>whnf);first|exact ⟨⟩|(apply And.intro;focus exact leaf))|fail))))
  all_goals (unfold parF; generalize p.params.length = n at *; cases e : p.priv <;> simp_all <;> omega)
theorem l5Fault' (s : Scr) (h : ScrB s) : CallA S 213 [.ptr (.loc 0) 20 none 0] ⟨⟨.loc 0, false, .raw (scrC (.loc 1) (.loc 2) (.loc 3) (.loc 4) s)⟩ :: scrH false (.loc 1) (.loc 2) (.loc 3) (.loc 4) s [], 5⟩ (Ret1 (.int .i64 (scrF s)) ⟨[], 5⟩) := by
  refine CallA.mono (l5Fault s h.grid.cells h.grid.back h.tabs h.sets) fun v H' k => ?_
  obtain ⟨g, ⟨rfl, _⟩, h1, h2⟩ := k
  exact ⟨(), trivial, h1, h2⟩
theorem l6Fault (s : Vt) (h : VtB s) : CallA S 159 [.ptr (.loc 0) 27 none 0] ⟨⟨.loc 0, false, .raw (vtC (.loc 1) (.loc 2) (.loc 3) (.loc 4) (.loc 5) s)⟩ :: vtH false (.loc 1) (.loc 2) (.loc 3) (.loc 4) (.loc 5) s [], 6⟩ (Ret1 (.int .i64 (vtF s)) ⟨[], 6⟩) := by
  refine .ofC hS _ _ _ Tryz.func159 ?_
  conv => whnf
  obtain ⟨h0, h1⟩ := h
  repeat' (first|refine Seal.mk ?_|(refine wS ?_;(conv=>whnf);fail_if_success show False)|((first|refine opsA_step ?_|refine drawS_go ?_|apply wL (l1Fault _)|apply wL (l4Fault _ _)|apply wL (l5Fault' _ _));conv=>whnf)|(intro _;first|omega|conv=>whnf)|(apply And.intro<;>intro _<;>first|omega|conv=>whnf)|refine ⟨Seal.mk ?_,Seal.mk ?_⟩|((first|(apply And.intro;focus exact leaf)|(apply Or.inl;apply And.intro;focus exact leaf)|apply Or.inr|refine ⟨_,rfl,?_⟩|refine ⟨_,⟨rfl,rfl⟩,?_⟩|refine ⟨intE .u8,⟨rfl,fun _=>rfl⟩,?_⟩|(refine Exists.intro _ (And.intro (And.intro rfl (And.intro rfl ?_)) ?_);focus exact leaf));conv=>whnf)|with_reducible assumption|((fail_if_success refine Exists.intro ?_ ?_);exact leaf)|fail)
  all_goals (refine ⟨(), trivial, ?_⟩; (try refine FitsT.now hS ?_); (conv => whnf); apply And.intro; (case right => (repeat' (first|exact ⟨⟩|(apply And.intro;focus exact leaf)|((conv=>whnf);first|exact ⟨⟩|(apply And.intro;focus exact leaf))|fail))))
  all_goals (unfold vtF; simp only [firstNZ]; simp_all)
theorem l10List (w : Wy) : CallA S 182 [.ptr (.loc 0) 7 none 0] ⟨[⟨.loc 0, false, .raw (wyC w)⟩], 1⟩ (Ret1 (.sl (.loc 1) 1 none 7) ⟨[⟨.loc 1, true, .arr (intE .i64) (wayL w)⟩], 2⟩) := by
  refine .ofC hS _ _ _ Tryz.func182 ?_
  conv => whnf
  repeat' (first|refine Seal.mk ?_|(refine wS ?_;(conv=>whnf);fail_if_success show False)|((first|refine opsA_step ?_|refine drawS_go ?_|refine wD (id:=1) (.quick 0 (.quick 1 (.quick 2 (.quick 4 (.quick 5 (.quick 6 (.quick 8 (.quick 9 (.quick 10 (.quick 12 (.quick 13 (.quick 14 (.quick 16 (.quick 17 (.quick 18 (.quick 20 (.quick 21 (.quick 22 (.quick 24 (.quick 25 (.quick 26 (.stable 3 (.stable 7 (.stable 11 (.stable 15 (.stable 19 (.stable 23 (.stable 27 (.all (.step 28 (.quick 29 .done))))))))))))))))))))))))))))))) [28] (by kernel_rfl) rfl ?_);conv=>whnf)|(intro _;first|omega|conv=>whnf)|(apply And.intro<;>intro _<;>first|omega|conv=>whnf)|refine ⟨Seal.mk ?_,Seal.mk ?_⟩|((first|(apply And.intro;focus exact leaf)|(apply Or.inl;apply And.intro;focus exact leaf)|apply Or.inr|refine ⟨_,rfl,?_⟩|refine ⟨_,⟨rfl,rfl⟩,?_⟩|refine ⟨intE .u8,⟨rfl,fun _=>rfl⟩,?_⟩|(refine Exists.intro _ (And.intro (And.intro rfl (And.intro rfl ?_)) ?_);focus exact leaf));conv=>whnf)|with_reducible assumption|((fail_if_success refine Exists.intro ?_ ?_);exact leaf)|fail)
  all_goals (refine ⟨(),⟨⟩,?_⟩;((try refine wF ?_);repeat' (first|exact ⟨⟩|(apply And.intro;focus exact leaf)|((conv=>whnf);first|exact ⟨⟩|(apply And.intro;focus exact leaf))|fail)))
theorem l10Fault (w : Wy) : CallA S 139 [.ptr (.loc 0) 7 none 0] ⟨[⟨.loc 0, false, .raw (wyC w)⟩], 1⟩ (Ret1 (.int .i64 (wayF w)) ⟨[], 1⟩) := by
  refine .ofC hS _ _ _ Tryz.func139 ?_
  conv => whnf
  have hl : (wayL w).length = 7 := rfl
  repeat' (first|refine Seal.mk ?_|(refine wS ?_;(conv=>whnf);fail_if_success show False)|((first|refine opsA_step ?_|refine drawS_go ?_|apply wL (l10List _));conv=>whnf)|(intro _;first|omega|conv=>whnf)|(apply And.intro<;>intro _<;>first|omega|conv=>whnf)|refine ⟨Seal.mk ?_,Seal.mk ?_⟩|((first|(apply And.intro;focus exact leaf)|(apply Or.inl;apply And.intro;focus exact leaf)|apply Or.inr|refine ⟨_,rfl,?_⟩|refine ⟨_,⟨rfl,rfl⟩,?_⟩|refine ⟨intE .u8,⟨rfl,fun _=>rfl⟩,?_⟩|(refine Exists.intro _ (And.intro (And.intro rfl (And.intro rfl ?_)) ?_);focus exact leaf));conv=>whnf)|with_reducible assumption|((fail_if_success refine Exists.intro ?_ ?_);exact leaf)|fail)
  refine .loop hS (γ := Nat) (fun i => ⟨[(3, .sl (.loc 1) 1 none 7), (4, .int .i64 i)],
      ⟨[⟨.loc 1, true, .arr (intE .i64) (wayL w)⟩], 2⟩, 23, 1⟩) (fun i => i ≤ 7 ∧ ∀ k, k < i → okW k ((wayL w).getD k 0)) (fun i => 7 - i) 0 ⟨by omega, by omega⟩ ?_ ?_
  · ((try dsimp only);((try refine wF ?_);repeat' (first|exact ⟨⟩|(apply And.intro;focus exact leaf)|((conv=>whnf);first|exact ⟨⟩|(apply And.intro;focus exact leaf))|fail)))
  · intro i hi
    obtain ⟨hi, hk⟩ := hi
    have hw : i < 7 → wayP w → okW i ((wayL w).getD i 0) := fun h q => (wayP_all w).1 q i h
    have hz : 7 ≤ i → wayP w := fun h => (wayP_all w).2 fun k q => hk k (by omega)
    conv => whnf
    repeat' (first|refine Seal.mk ?_|(refine wS ?_;(conv=>whnf);fail_if_success show False)|((first|refine opsA_step ?_|refine drawS_go ?_|apply wL (l1In _ _ _));conv=>whnf)|(intro _;first|omega|conv=>whnf)|(apply And.intro<;>intro _<;>first|omega|conv=>whnf)|refine ⟨Seal.mk ?_,Seal.mk ?_⟩|((first|(apply And.intro;focus exact leaf)|(apply Or.inl;apply And.intro;focus exact leaf)|apply Or.inr|refine ⟨_,rfl,?_⟩|refine ⟨_,⟨rfl,rfl⟩,?_⟩|refine ⟨intE .u8,⟨rfl,fun _=>rfl⟩,?_⟩|(refine Exists.intro _ (And.intro (And.intro rfl (And.intro rfl ?_)) ?_);focus exact leaf));conv=>whnf)|with_reducible assumption|((fail_if_success refine Exists.intro ?_ ?_);exact leaf)|fail)
    all_goals first
      | (refine ⟨i + 1, ⟨⟨by omega, all_succ hk (by show okW i ((wayL w).getD (i : Int).toNat (intE .i64).d); unfold okW; omega)⟩, by omega⟩, ?_⟩; ((try dsimp only);((try refine wF ?_);repeat' (first|exact ⟨⟩|(apply And.intro;focus exact leaf)|((conv=>whnf);first|exact ⟨⟩|(apply And.intro;focus exact leaf))|fail))))
      | (have hn : ¬ wayP w := fun q => by
           have q1 : okW i ((wayL w).getD (i : Int).toNat (intE .i64).d) := hw (by omega) q
           unfold okW at q1; omega
         (refine ⟨(), trivial, ?_⟩; (try refine FitsT.now hS ?_); (conv => whnf); apply And.intro; (case right => (repeat' (first|exact ⟨⟩|(apply And.intro;focus exact leaf)|((conv=>whnf);first|exact ⟨⟩|(apply And.intro;focus exact leaf))|fail)))); unfold wayF; rw [if_neg hn])
      | (have hp : wayP w := hz (by omega)
         (refine ⟨(), trivial, ?_⟩; (try refine FitsT.now hS ?_); (conv => whnf); apply And.intro; (case right => (repeat' (first|exact ⟨⟩|(apply And.intro;focus exact leaf)|((conv=>whnf);first|exact ⟨⟩|(apply And.intro;focus exact leaf))|fail)))); unfold wayF; rw [if_pos hp])
theorem l11Size (s : Lin) (h : LinB s) : CallA S 261 [.ptr (.loc 0) 4 none 0] ⟨⟨.loc 0, false, .raw (linC (.loc 1) (.loc 2) s)⟩ :: linH false (.loc 1) (.loc 2) s [], 3⟩ (Ret1 (.int .i64 (s.edit.length + sumC List.length s.ready)) ⟨[], 3⟩) := by
  refine .ofC hS _ _ _ Tryz.func261 ?_
  conv => whnf
  obtain ⟨h0, h1, h2⟩ := h
  have h00 : sumC List.length (s.ready.take 0) = 0 := by simp [sumC]
  repeat' (first|refine Seal.mk ?_|(refine wS ?_;(conv=>whnf);fail_if_success show False)|((first|refine opsA_step ?_|refine drawS_go ?_);conv=>whnf)|(intro _;first|omega|conv=>whnf)|(apply And.intro<;>intro _<;>first|omega|conv=>whnf)|refine ⟨Seal.mk ?_,Seal.mk ?_⟩|((first|(apply And.intro;focus exact leaf)|(apply Or.inl;apply And.intro;focus exact leaf)|apply Or.inr|refine ⟨_,rfl,?_⟩|refine ⟨_,⟨rfl,rfl⟩,?_⟩|refine ⟨intE .u8,⟨rfl,fun _=>rfl⟩,?_⟩|(refine Exists.intro _ (And.intro (And.intro rfl (And.intro rfl ?_)) ?_);focus exact leaf));conv=>whnf)|with_reducible assumption|((fail_if_success refine Exists.intro ?_ ?_);exact leaf)|fail)
  refine .loop hS (γ := Nat) (fun i => ⟨[(0, .ptr (.loc 0) 4 none 0), (3, .int .i64 (s.edit.length + sumC List.length (s.ready.take i))), (4, .int .i64 i)],
      ⟨⟨.loc 0, false, .raw (linC (.loc 1) (.loc 2) s)⟩ :: linH false (.loc 1) (.loc 2) s [], 3⟩, 30, 3⟩) (fun i => i ≤ s.ready.length) (fun i => s.ready.length - i) 0 (by omega) ?_ ?_
  · ((try dsimp only);((try refine wF ?_);repeat' (first|exact ⟨⟩|(apply And.intro;focus exact leaf)|((conv=>whnf);first|exact ⟨⟩|(apply And.intro;focus exact leaf))|fail)))
  · intro i hi
    have ha : i < s.ready.length → sumC List.length (s.ready.take (i + 1)) = sumC List.length (s.ready.take i) + (s.ready.getD (i : Int).toNat []).length := fun h => sumC_take h _
    have hb := sumC_le (cnt := List.length) (xs := s.ready) (i + 1)
    have ht : s.ready.take s.ready.length = s.ready := List.take_length
    conv => whnf
    repeat' (first|refine Seal.mk ?_|(refine wS ?_;(conv=>whnf);fail_if_success show False)|((first|refine opsA_step ?_|refine drawS_go ?_);conv=>whnf)|(intro _;first|omega|conv=>whnf)|(apply And.intro<;>intro _<;>first|omega|conv=>whnf)|refine ⟨Seal.mk ?_,Seal.mk ?_⟩|((first|(apply And.intro;focus exact leaf)|(apply Or.inl;apply And.intro;focus exact leaf)|apply Or.inr|refine ⟨_,rfl,?_⟩|refine ⟨_,⟨rfl,rfl⟩,?_⟩|refine ⟨intE .u8,⟨rfl,fun _=>rfl⟩,?_⟩|(refine Exists.intro _ (And.intro (And.intro rfl (And.intro rfl ?_)) ?_);focus exact leaf));conv=>whnf)|with_reducible assumption|((fail_if_success refine Exists.intro ?_ ?_);exact leaf)|fail)
    · refine ⟨i + 1, ⟨by omega, by omega⟩, ?_⟩
      ((try dsimp only);((try refine wF ?_);repeat' (first|exact ⟨⟩|(apply And.intro;focus exact leaf)|((conv=>whnf);first|exact ⟨⟩|(apply And.intro;focus exact leaf))|fail)))
    · have hi : i = s.ready.length := by omega
      have he : sumC List.length (s.ready.take i) = sumC List.length s.ready := by rw [hi, ht]
      (refine ⟨(),⟨⟩,?_⟩;((try refine wF ?_);repeat' (first|exact ⟨⟩|(apply And.intro;focus exact leaf)|((conv=>whnf);first|exact ⟨⟩|(apply And.intro;focus exact leaf))|fail)))
theorem l11Fault (s : Lin) (h : LinB s) : CallA S 214 [.ptr (.loc 0) 4 none 0] ⟨⟨.loc 0, false, .raw (linC (.loc 1) (.loc 2) s)⟩ :: linH false (.loc 1) (.loc 2) s [], 3⟩ (Ret1 (.int .i64 (linF s)) ⟨[], 3⟩) := by
  refine .ofC hS _ _ _ Tryz.func214 ?_
  conv => whnf
  have h' := h
  obtain ⟨h0, h1, h2⟩ := h'
  repeat' (first|refine Seal.mk ?_|(refine wS ?_;(conv=>whnf);fail_if_success show False)|((first|refine opsA_step ?_|refine drawS_go ?_|apply wL (l11Size _ _)|apply wL (l1In _ _ _));conv=>whnf)|(intro _;first|omega|conv=>whnf)|(apply And.intro<;>intro _<;>first|omega|conv=>whnf)|refine ⟨Seal.mk ?_,Seal.mk ?_⟩|((first|(apply And.intro;focus exact leaf)|(apply Or.inl;apply And.intro;focus exact leaf)|apply Or.inr|refine ⟨_,rfl,?_⟩|refine ⟨_,⟨rfl,rfl⟩,?_⟩|refine ⟨intE .u8,⟨rfl,fun _=>rfl⟩,?_⟩|(refine Exists.intro _ (And.intro (And.intro rfl (And.intro rfl ?_)) ?_);focus exact leaf));conv=>whnf)|with_reducible assumption|((fail_if_success refine Exists.intro ?_ ?_);exact leaf)|fail)
  all_goals (refine ⟨(), trivial, ?_⟩; (try refine FitsT.now hS ?_); (conv => whnf); apply And.intro; (case right => (repeat' (first|exact ⟨⟩|(apply And.intro;focus exact leaf)|((conv=>whnf);first|exact ⟨⟩|(apply And.intro;focus exact leaf))|fail))))
  all_goals (unfold linF; by_cases q : s.ready.length ≤ 40 ∧ s.edit.length + sumC List.length s.ready ≤ 40 <;> by_cases r : 0 ≤ s.breaks ∧ s.breaks ≤ 999 <;> simp_all <;> omega)
theorem l11Asked (w : Wy) (s : Lin) (h : LinB s) : CallA S 160 [.ptr (.loc 0) 7 none 0, .ptr (.loc 1) 4 none 0] ⟨⟨.loc 0, false, .raw (wyC w)⟩ :: ⟨.loc 1, false, .raw (linC (.loc 2) (.loc 3) s)⟩ :: linH false (.loc 2) (.loc 3) s [], 4⟩ (Ret1 (.int .i64 (firstNZ [wayF w, linF s])) ⟨[], 4⟩) := by
  refine .ofC hS _ _ _ Tryz.func160 ?_
  conv => whnf
  repeat' (first|refine Seal.mk ?_|(refine wS ?_;(conv=>whnf);fail_if_success show False)|((first|refine opsA_step ?_|refine drawS_go ?_|apply wL (l10Fault _)|apply wL (l11Fault _ _));conv=>whnf)|(intro _;first|omega|conv=>whnf)|(apply And.intro<;>intro _<;>first|omega|conv=>whnf)|refine ⟨Seal.mk ?_,Seal.mk ?_⟩|((first|(apply And.intro;focus exact leaf)|(apply Or.inl;apply And.intro;focus exact leaf)|apply Or.inr|refine ⟨_,rfl,?_⟩|refine ⟨_,⟨rfl,rfl⟩,?_⟩|refine ⟨intE .u8,⟨rfl,fun _=>rfl⟩,?_⟩|(refine Exists.intro _ (And.intro (And.intro rfl (And.intro rfl ?_)) ?_);focus exact leaf));conv=>whnf)|with_reducible assumption|((fail_if_success refine Exists.intro ?_ ?_);exact leaf)|fail)
  all_goals (refine ⟨(), trivial, ?_⟩; (try refine FitsT.now hS ?_); (conv => whnf); apply And.intro; (case right => (repeat' (first|exact ⟨⟩|(apply And.intro;focus exact leaf)|((conv=>whnf);first|exact ⟨⟩|(apply And.intro;focus exact leaf))|fail))))
  all_goals (simp only [firstNZ]; simp_all)
theorem l13Fault (s : Con) (h : ConB s) : CallA S 106 [.ptr (.loc 0) 38 none 0] ⟨⟨.loc 0, false, .raw (conC (.loc 1) (.loc 2) (.loc 3) (.loc 4) (.loc 5) (.loc 6) (.loc 7) s)⟩ :: conH false (.loc 1) (.loc 2) (.loc 3) (.loc 4) (.loc 5) (.loc 6) (.loc 7) s [], 8⟩ (Ret1 (.int .i64 (conF s)) ⟨[], 8⟩) := by
  refine .ofC hS _ _ _ Tryz.func106 ?_
  conv => whnf
  obtain ⟨h0, h1⟩ := h
  repeat' (first|refine Seal.mk ?_|(refine wS ?_;(conv=>whnf);fail_if_success show False)|((first|refine opsA_step ?_|refine drawS_go ?_|refine wD (id:=4) (.quick 0 (.quick 1 (.quick 2 (.quick 3 (.quick 4 (.quick 5 (.all (.step 6 (.quick 7 .done))))))))) [6] (by kernel_rfl) rfl ?_|apply wL (l6Fault _ _)|apply wL (l11Asked _ _ _));conv=>whnf)|(intro _;first|omega|conv=>whnf)|(apply And.intro<;>intro _<;>first|omega|conv=>whnf)|refine ⟨Seal.mk ?_,Seal.mk ?_⟩|((first|(apply And.intro;focus exact leaf)|(apply Or.inl;apply And.intro;focus exact leaf)|apply Or.inr|refine ⟨_,rfl,?_⟩|refine ⟨_,⟨rfl,rfl⟩,?_⟩|refine ⟨intE .u8,⟨rfl,fun _=>rfl⟩,?_⟩|(refine Exists.intro _ (And.intro (And.intro rfl (And.intro rfl ?_)) ?_);focus exact leaf));conv=>whnf)|with_reducible assumption|((fail_if_success refine Exists.intro ?_ ?_);exact leaf)|fail)
  all_goals (refine ⟨(), trivial, ?_⟩; (try refine FitsT.now hS ?_); (conv => whnf); apply And.intro; (case right => (repeat' (first|exact ⟨⟩|(apply And.intro;focus exact leaf)|((conv=>whnf);first|exact ⟨⟩|(apply And.intro;focus exact leaf))|fail))))
  all_goals (unfold conF; simp only [firstNZ]; simp_all [firstNZ])
end Go.Mu
