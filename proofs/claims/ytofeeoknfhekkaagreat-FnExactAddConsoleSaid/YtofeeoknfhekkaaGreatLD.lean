/- The law's own functions: slices of slices, of texts. -/
import Derived.Test.YtofeeoknfhekkaaGreatLC
set_option linter.unusedSimpArgs false
set_option linter.unusedVariables false
set_option linter.constructorNameAsVariable false
namespace Go.Mu
open Go Go.Vm Go.RowKit Go.Proofs
attribute [local irreducible] wpA opsA stillA drawA drawS
set_option maxRecDepth 20000
set_option maxHeartbeats 4000000
theorem toByteSS (xs : List (List Int)) (hx : xs.length ≤ 1048576) (hs : sumC List.length xs ≤ 1048576) : CallA S 222 [.sl (.loc 0) 1 none xs.length] ⟨[⟨.loc 0, false, bytesN xs⟩], 1⟩ (Ret1 (.sl (.loc 1) 1 none xs.length) ⟨[⟨.loc 1, true, bytesN xs⟩], 2⟩) := by
  refine .ofC hS _ _ _ Tryz.func222 ?_
  conv => whnf
  repeat' (first|refine Seal.mk ?_|(refine wS ?_;(conv=>whnf);fail_if_success show False)|((first|refine opsA_step ?_|refine drawS_go ?_);conv=>whnf)|(intro _;first|omega|conv=>whnf)|(apply And.intro<;>intro _<;>first|omega|conv=>whnf)|refine ⟨Seal.mk ?_,Seal.mk ?_⟩|((first|(apply And.intro;focus exact leaf)|(apply Or.inl;apply And.intro;focus exact leaf)|apply Or.inr|refine ⟨_,rfl,?_⟩|refine ⟨_,⟨rfl,rfl⟩,?_⟩|refine ⟨intE .u8,⟨rfl,fun _=>rfl⟩,?_⟩|(refine Exists.intro _ (And.intro (And.intro rfl (And.intro rfl ?_)) ?_);focus exact leaf));conv=>whnf)|with_reducible assumption|((fail_if_success refine Exists.intro ?_ ?_);exact leaf)|fail)
  refine .loop hS (γ := Nat) (fun i => ⟨[(0, .sl (.loc 0) 1 none xs.length), (3, .sl (.loc 1) 1 none xs.length), (4, .int .i64 i)],
    ⟨[⟨.loc 1, true, bytesN (xs.take i ++ List.replicate (xs.length - i) [])⟩, ⟨.loc 0, false, bytesN xs⟩], 2⟩, 23, 1⟩) (fun i => i ≤ xs.length) (fun i => xs.length - i) 0 (by omega) ?_ ?_
  · ((try dsimp only);((try refine wF ?_);repeat' (first|exact ⟨⟩|(apply And.intro;focus exact leaf)|((conv=>whnf);first|exact ⟨⟩|(apply And.intro;focus exact leaf))|fail)))
  · intro i hi
    have hl : (xs.take i ++ List.replicate (xs.length - i) []).length = xs.length := by simp; omega
    have hb := sumC_get (cnt := List.length) (xs := xs) (i : Int).toNat [] rfl
    conv => whnf
    repeat' (first|refine Seal.mk ?_|(refine wS ?_;(conv=>whnf);fail_if_success show False)|((first|refine opsA_step ?_|refine drawS_go ?_|apply wL (toByteS _ _));conv=>whnf)|(intro _;first|omega|conv=>whnf)|(apply And.intro<;>intro _<;>first|omega|conv=>whnf)|refine ⟨Seal.mk ?_,Seal.mk ?_⟩|((first|(apply And.intro;focus exact leaf)|(apply Or.inl;apply And.intro;focus exact leaf)|apply Or.inr|refine ⟨_,rfl,?_⟩|refine ⟨_,⟨rfl,rfl⟩,?_⟩|refine ⟨intE .u8,⟨rfl,fun _=>rfl⟩,?_⟩|(refine Exists.intro _ (And.intro (And.intro rfl (And.intro rfl ?_)) ?_);focus exact leaf));conv=>whnf)|with_reducible assumption|((fail_if_success refine Exists.intro ?_ ?_);exact leaf)|fail)
    · have hs := fill_set (xs := xs) (d := []) (i := i) (by omega)
      refine ⟨i + 1, ⟨by omega, by omega⟩, ?_⟩
      apply FitsT.turn; (focus (apply Turn.close hS (nb := 1) (x := xs.getD (i : Int).toNat []) (xs' := xs.take (i + 1) ++ List.replicate (xs.length - (i + 1)) []); (conv => whnf); refine And.intro ⟨rfl, ?_⟩ ?_; (focus (first | exact Or.inr ⟨by omega, by omega, by first | (with_reducible assumption) | (exact Eq.symm (by with_reducible assumption)) | rfl⟩ | exact Or.inl ⟨by first | rfl | omega, by first | (with_reducible assumption) | rfl⟩)); (focus ((conv=>whnf);repeat' (first|exact rfl|(apply And.intro;focus exact leaf)|((conv=>whnf);first|exact rfl|(apply And.intro;focus exact leaf))|fail)))))
      ((try dsimp only);((try refine wF ?_);repeat' (first|exact ⟨⟩|(apply And.intro;focus exact leaf)|((conv=>whnf);first|exact ⟨⟩|(apply And.intro;focus exact leaf))|fail)))
    · have hi : i = xs.length := by omega
      subst hi
      have h0 : xs.take xs.length ++ List.replicate (xs.length - xs.length) [] = xs := by simp
      (refine ⟨(),⟨⟩,?_⟩;((try refine wF ?_);repeat' (first|exact ⟨⟩|(apply And.intro;focus exact leaf)|((conv=>whnf);first|exact ⟨⟩|(apply And.intro;focus exact leaf))|fail)))
theorem eqByteSS (xs : List (List Int)) (hx : xs.length ≤ 1048576) (hs : sumC List.length xs ≤ 1048576) : CallA S 232 [.sl (.loc 0) 1 none xs.length, .sl (.loc 1) 1 none xs.length] ⟨[⟨.loc 0, false, bytesN xs⟩, ⟨.loc 1, false, bytesN xs⟩], 2⟩ (Ret1 (.tt) ⟨[], 2⟩) := by
  refine .ofC hS _ _ _ Tryz.func232 ?_
  conv => whnf
  repeat' (first|refine Seal.mk ?_|(refine wS ?_;(conv=>whnf);fail_if_success show False)|((first|refine opsA_step ?_|refine drawS_go ?_|refine wD (id:=6) (.quick 0 (.quick 1 (.quick 2 (.quick 4 (.quick 5 (.quick 6 (.stable 3 (.stable 7 (.all (.step 8 (.quick 9 .done))))))))))) [8] (by kernel_rfl) rfl ?_);conv=>whnf)|(intro _;first|omega|conv=>whnf)|(apply And.intro<;>intro _<;>first|omega|conv=>whnf)|refine ⟨Seal.mk ?_,Seal.mk ?_⟩|((first|(apply And.intro;focus exact leaf)|(apply Or.inl;apply And.intro;focus exact leaf)|apply Or.inr|refine ⟨_,rfl,?_⟩|refine ⟨_,⟨rfl,rfl⟩,?_⟩|refine ⟨intE .u8,⟨rfl,fun _=>rfl⟩,?_⟩|(refine Exists.intro _ (And.intro (And.intro rfl (And.intro rfl ?_)) ?_);focus exact leaf));conv=>whnf)|with_reducible assumption|((fail_if_success refine Exists.intro ?_ ?_);exact leaf)|fail)
  refine .loop hS (γ := Nat) (fun i => ⟨[(0, .sl (.loc 0) 1 none xs.length), (1, .sl (.loc 1) 1 none xs.length), (5, .int .i64 i)],
    ⟨[⟨.loc 0, false, bytesN xs⟩, ⟨.loc 1, false, bytesN xs⟩], 2⟩, 27, 2⟩) (fun i => i ≤ xs.length) (fun i => xs.length - i) 0 (by omega) ?_ ?_
  · ((try dsimp only);((try refine wF ?_);repeat' (first|exact ⟨⟩|(apply And.intro;focus exact leaf)|((conv=>whnf);first|exact ⟨⟩|(apply And.intro;focus exact leaf))|fail)))
  · intro i hi
    have hb := sumC_get (cnt := List.length) (xs := xs) (i : Int).toNat [] rfl
    conv => whnf
    repeat' (first|refine Seal.mk ?_|(refine wS ?_;(conv=>whnf);fail_if_success show False)|((first|refine opsA_step ?_|refine drawS_go ?_|refine wD (id:=6) (.quick 0 (.quick 1 (.quick 2 (.quick 4 (.quick 5 (.quick 6 (.stable 3 (.stable 7 (.all (.step 8 (.quick 9 .done))))))))))) [8] (by kernel_rfl) rfl ?_|apply wL (eqByteS _ _));conv=>whnf)|(intro _;first|omega|conv=>whnf)|(apply And.intro<;>intro _<;>first|omega|conv=>whnf)|refine ⟨Seal.mk ?_,Seal.mk ?_⟩|((first|(apply And.intro;focus exact leaf)|(apply Or.inl;apply And.intro;focus exact leaf)|apply Or.inr|refine ⟨_,rfl,?_⟩|refine ⟨_,⟨rfl,rfl⟩,?_⟩|refine ⟨intE .u8,⟨rfl,fun _=>rfl⟩,?_⟩|(refine Exists.intro _ (And.intro (And.intro rfl (And.intro rfl ?_)) ?_);focus exact leaf));conv=>whnf)|with_reducible assumption|((fail_if_success refine Exists.intro ?_ ?_);exact leaf)|fail)
    all_goals (first | (exact absurd rfl (by assumption)) | (exact absurd Iff.rfl (by assumption)) | (refine ⟨(),⟨⟩,?_⟩;((try refine wF ?_);repeat' (first|exact ⟨⟩|(apply And.intro;focus exact leaf)|((conv=>whnf);first|exact ⟨⟩|(apply And.intro;focus exact leaf))|fail))) | (refine ⟨i + 1, ⟨by omega, by omega⟩, ?_⟩; ((try dsimp only);((try refine wF ?_);repeat' (first|exact ⟨⟩|(apply And.intro;focus exact leaf)|((conv=>whnf);first|exact ⟨⟩|(apply And.intro;focus exact leaf))|fail)))))
theorem szByteSS (xs : List (List Int)) (left : Int) (hl : -1 ≤ left) (hl' : left ≤ 1048576) : CallA S 209 [.sl (.loc 0) 1 none xs.length, .int .i64 left] ⟨[⟨.loc 0, false, bytesN xs⟩], 1⟩ (Ret (γ := Int) (fun g => (left - xs.length - sumC List.length xs < 0 → g = -1) ∧ (¬ left - xs.length - sumC List.length xs < 0 → g = left - xs.length - sumC List.length xs)) (fun g => .int .i64 g) fun g => ⟨[], 1⟩) := by
  refine .ofC hS _ _ _ Tryz.func209 ?_
  conv => whnf
  have h0 : sumC List.length (xs.take 0) = 0 := by simp [sumC]
  repeat' (first|refine Seal.mk ?_|(refine wS ?_;(conv=>whnf);fail_if_success show False)|((first|refine opsA_step ?_|refine drawS_go ?_);conv=>whnf)|(intro _;first|omega|conv=>whnf)|(apply And.intro<;>intro _<;>first|omega|conv=>whnf)|refine ⟨Seal.mk ?_,Seal.mk ?_⟩|((first|(apply And.intro;focus exact leaf)|(apply Or.inl;apply And.intro;focus exact leaf)|apply Or.inr|refine ⟨_,rfl,?_⟩|refine ⟨_,⟨rfl,rfl⟩,?_⟩|refine ⟨intE .u8,⟨rfl,fun _=>rfl⟩,?_⟩|(refine Exists.intro _ (And.intro (And.intro rfl (And.intro rfl ?_)) ?_);focus exact leaf));conv=>whnf)|with_reducible assumption|((fail_if_success refine Exists.intro ?_ ?_);exact leaf)|fail)
  all_goals (first | (refine ⟨-1, ⟨by omega, by omega⟩, ?_⟩; ((try refine wF ?_);repeat' (first|exact ⟨⟩|(apply And.intro;focus exact leaf)|((conv=>whnf);first|exact ⟨⟩|(apply And.intro;focus exact leaf))|fail))) | skip)
  refine .loop hS (γ := Nat) (fun i => ⟨[(0, .sl (.loc 0) 1 none xs.length), (1, .int .i64 (left - xs.length - sumC List.length (xs.take i))), (5, .int .i64 i)],
    ⟨[⟨.loc 0, false, bytesN xs⟩], 1⟩, 27, 1⟩) (fun i => i ≤ xs.length ∧ 0 ≤ left - xs.length - sumC List.length (xs.take i)) (fun i => xs.length - i) 0 ⟨by omega, by simp [sumC]; omega⟩ ?_ ?_
  · ((try refine wF ?_);repeat' (first|exact ⟨⟩|(apply And.intro;focus exact leaf)|((conv=>whnf);first|exact ⟨⟩|(apply And.intro;focus exact leaf))|fail))
  · intro i hi
    obtain ⟨hi, hk⟩ := hi
    have ha : i < xs.length → sumC List.length (xs.take (i + 1)) = sumC List.length (xs.take i) + List.length (xs.getD (i : Int).toNat []) := fun h => sumC_take h _
    have hb := sumC_le (cnt := List.length) (xs := xs) (i + 1)
    have ht : xs.take xs.length = xs := List.take_length
    conv => whnf
    repeat' (first|refine Seal.mk ?_|(refine wS ?_;(conv=>whnf);fail_if_success show False)|((first|refine opsA_step ?_|refine drawS_go ?_|apply wL (szByteS _ _ _ _));conv=>whnf)|(intro _;first|omega|conv=>whnf)|(apply And.intro<;>intro _<;>first|omega|conv=>whnf)|refine ⟨Seal.mk ?_,Seal.mk ?_⟩|((first|(apply And.intro;focus exact leaf)|(apply Or.inl;apply And.intro;focus exact leaf)|apply Or.inr|refine ⟨_,rfl,?_⟩|refine ⟨_,⟨rfl,rfl⟩,?_⟩|refine ⟨intE .u8,⟨rfl,fun _=>rfl⟩,?_⟩|(refine Exists.intro _ (And.intro (And.intro rfl (And.intro rfl ?_)) ?_);focus exact leaf));conv=>whnf)|with_reducible assumption|((fail_if_success refine Exists.intro ?_ ?_);exact leaf)|fail)
    all_goals (first
      | (refine ⟨-1, ⟨by omega, by omega⟩, ?_⟩; ((try refine wF ?_);repeat' (first|exact ⟨⟩|(apply And.intro;focus exact leaf)|((conv=>whnf);first|exact ⟨⟩|(apply And.intro;focus exact leaf))|fail)))
      | (refine ⟨i + 1, ⟨⟨by omega, by omega⟩, by omega⟩, ?_⟩; ((try refine wF ?_);repeat' (first|exact ⟨⟩|(apply And.intro;focus exact leaf)|((conv=>whnf);first|exact ⟨⟩|(apply And.intro;focus exact leaf))|fail)))
      | (have hi : i = xs.length := by omega
         subst hi
         rw [ht] at *
         refine ⟨left - xs.length - sumC List.length xs, ⟨by omega, by omega⟩, ?_⟩; ((try refine wF ?_);repeat' (first|exact ⟨⟩|(apply And.intro;focus exact leaf)|((conv=>whnf);first|exact ⟨⟩|(apply And.intro;focus exact leaf))|fail))))
theorem szStringS (xs : List (List Int)) (left : Int) (hl : -1 ≤ left) (hl' : left ≤ 1048576) : CallA S 13 [.sl (.loc 0) 1 none xs.length, .int .i64 left] ⟨[⟨.loc 0, false, .arr strE xs⟩], 1⟩ (Ret (γ := Int) (fun g => (left - xs.length - sumC List.length xs < 0 → g = -1) ∧ (¬ left - xs.length - sumC List.length xs < 0 → g = left - xs.length - sumC List.length xs)) (fun g => .int .i64 g) fun g => ⟨[], 1⟩) := by
  refine .ofC hS _ _ _ Tryz.func13 ?_
  conv => whnf
  have h0 : sumC List.length (xs.take 0) = 0 := by simp [sumC]
  repeat' (first|refine Seal.mk ?_|(refine wS ?_;(conv=>whnf);fail_if_success show False)|((first|refine opsA_step ?_|refine drawS_go ?_);conv=>whnf)|(intro _;first|omega|conv=>whnf)|(apply And.intro<;>intro _<;>first|omega|conv=>whnf)|refine ⟨Seal.mk ?_,Seal.mk ?_⟩|((first|(apply And.intro;focus exact leaf)|(apply Or.inl;apply And.intro;focus exact leaf)|apply Or.inr|refine ⟨_,rfl,?_⟩|refine ⟨_,⟨rfl,rfl⟩,?_⟩|refine ⟨intE .u8,⟨rfl,fun _=>rfl⟩,?_⟩|(refine Exists.intro _ (And.intro (And.intro rfl (And.intro rfl ?_)) ?_);focus exact leaf));conv=>whnf)|with_reducible assumption|((fail_if_success refine Exists.intro ?_ ?_);exact leaf)|fail)
  all_goals (first | (refine ⟨-1, ⟨by omega, by omega⟩, ?_⟩; ((try refine wF ?_);repeat' (first|exact ⟨⟩|(apply And.intro;focus exact leaf)|((conv=>whnf);first|exact ⟨⟩|(apply And.intro;focus exact leaf))|fail))) | skip)
  refine .loop hS (γ := Nat) (fun i => ⟨[(0, .sl (.loc 0) 1 none xs.length), (1, .int .i64 (left - xs.length - sumC List.length (xs.take i))), (5, .int .i64 i)],
    ⟨[⟨.loc 0, false, .arr strE xs⟩], 1⟩, 28, 1⟩) (fun i => i ≤ xs.length ∧ 0 ≤ left - xs.length - sumC List.length (xs.take i)) (fun i => xs.length - i) 0 ⟨by omega, by simp [sumC]; omega⟩ ?_ ?_
  · ((try refine wF ?_);repeat' (first|exact ⟨⟩|(apply And.intro;focus exact leaf)|((conv=>whnf);first|exact ⟨⟩|(apply And.intro;focus exact leaf))|fail))
  · intro i hi
    obtain ⟨hi, hk⟩ := hi
    have ha : i < xs.length → sumC List.length (xs.take (i + 1)) = sumC List.length (xs.take i) + List.length (xs.getD (i : Int).toNat strE.d) := fun h => sumC_take h _
    have hb := sumC_le (cnt := List.length) (xs := xs) (i + 1)
    have ht : xs.take xs.length = xs := List.take_length
    conv => whnf
    repeat' (first|refine Seal.mk ?_|(refine wS ?_;(conv=>whnf);fail_if_success show False)|((first|refine opsA_step ?_|refine drawS_go ?_);conv=>whnf)|(intro _;first|omega|conv=>whnf)|(apply And.intro<;>intro _<;>first|omega|conv=>whnf)|refine ⟨Seal.mk ?_,Seal.mk ?_⟩|((first|(apply And.intro;focus exact leaf)|(apply Or.inl;apply And.intro;focus exact leaf)|apply Or.inr|refine ⟨_,rfl,?_⟩|refine ⟨_,⟨rfl,rfl⟩,?_⟩|refine ⟨intE .u8,⟨rfl,fun _=>rfl⟩,?_⟩|(refine Exists.intro _ (And.intro (And.intro rfl (And.intro rfl ?_)) ?_);focus exact leaf));conv=>whnf)|with_reducible assumption|((fail_if_success refine Exists.intro ?_ ?_);exact leaf)|fail)
    all_goals (first
      | (refine ⟨-1, ⟨by omega, by omega⟩, ?_⟩; ((try refine wF ?_);repeat' (first|exact ⟨⟩|(apply And.intro;focus exact leaf)|((conv=>whnf);first|exact ⟨⟩|(apply And.intro;focus exact leaf))|fail)))
      | (refine ⟨i + 1, ⟨⟨by omega, by omega⟩, by omega⟩, ?_⟩; ((try refine wF ?_);repeat' (first|exact ⟨⟩|(apply And.intro;focus exact leaf)|((conv=>whnf);first|exact ⟨⟩|(apply And.intro;focus exact leaf))|fail)))
      | (have hi : i = xs.length := by omega
         subst hi
         rw [ht] at *
         refine ⟨left - xs.length - sumC List.length xs, ⟨by omega, by omega⟩, ?_⟩; ((try refine wF ?_);repeat' (first|exact ⟨⟩|(apply And.intro;focus exact leaf)|((conv=>whnf);first|exact ⟨⟩|(apply And.intro;focus exact leaf))|fail))))
end Go.Mu

namespace Go.Mu
open Go Go.Vm Go.RowKit Go.Proofs
attribute [local irreducible] wpA opsA stillA drawA drawS
set_option maxRecDepth 20000
set_option maxHeartbeats 4000000
theorem toLine (s : Lin) (h : LinB s) : CallA S 165 [.agg (linC (.loc 0) (.loc 1) s)] ⟨linH false (.loc 0) (.loc 1) s [], 2⟩ (Ret1 (.agg (linC (.loc 2) (.loc 3) s)) ⟨linH true (.loc 2) (.loc 3) s [], 4⟩) := by
  refine .ofC hS _ _ _ Tryz.func165 ?_
  conv => whnf
  obtain ⟨h0, h1, h2⟩ := h
  repeat' (first|refine Seal.mk ?_|(refine wS ?_;(conv=>whnf);fail_if_success show False)|((first|refine opsA_step ?_|refine drawS_go ?_|apply wL (toByteSS _ _ _)|apply wL (toByteS _ _));conv=>whnf)|(intro _;first|omega|conv=>whnf)|(apply And.intro<;>intro _<;>first|omega|conv=>whnf)|refine ⟨Seal.mk ?_,Seal.mk ?_⟩|((first|(apply And.intro;focus exact leaf)|(apply Or.inl;apply And.intro;focus exact leaf)|apply Or.inr|refine ⟨_,rfl,?_⟩|refine ⟨_,⟨rfl,rfl⟩,?_⟩|refine ⟨intE .u8,⟨rfl,fun _=>rfl⟩,?_⟩|(refine Exists.intro _ (And.intro (And.intro rfl (And.intro rfl ?_)) ?_);focus exact leaf));conv=>whnf)|with_reducible assumption|((fail_if_success refine Exists.intro ?_ ?_);exact leaf)|fail)
  (refine ⟨(),⟨⟩,?_⟩;((try refine wF ?_);repeat' (first|exact ⟨⟩|(apply And.intro;focus exact leaf)|((conv=>whnf);first|exact ⟨⟩|(apply And.intro;focus exact leaf))|fail)))
theorem eqLine (s : Lin) (h : LinB s) : CallA S 176 [.agg (linC (.loc 0) (.loc 1) s), .agg (linC (.loc 2) (.loc 3) s)] ⟨linH false (.loc 0) (.loc 1) s (linH false (.loc 2) (.loc 3) s []), 4⟩ (Ret1 (.tt) ⟨[], 4⟩) := by
  refine .ofC hS _ _ _ Tryz.func176 ?_
  conv => whnf
  obtain ⟨h0, h1, h2⟩ := h
  repeat' (first|refine Seal.mk ?_|(refine wS ?_;(conv=>whnf);fail_if_success show False)|((first|refine opsA_step ?_|refine drawS_go ?_|apply wL (eqByteSS _ _ _)|apply wL (eqByteS _ _));conv=>whnf)|(intro _;first|omega|conv=>whnf)|(apply And.intro<;>intro _<;>first|omega|conv=>whnf)|refine ⟨Seal.mk ?_,Seal.mk ?_⟩|((first|(apply And.intro;focus exact leaf)|(apply Or.inl;apply And.intro;focus exact leaf)|apply Or.inr|refine ⟨_,rfl,?_⟩|refine ⟨_,⟨rfl,rfl⟩,?_⟩|refine ⟨intE .u8,⟨rfl,fun _=>rfl⟩,?_⟩|(refine Exists.intro _ (And.intro (And.intro rfl (And.intro rfl ?_)) ?_);focus exact leaf));conv=>whnf)|with_reducible assumption|((fail_if_success refine Exists.intro ?_ ?_);exact leaf)|fail)
  all_goals (first | (exact absurd rfl (by assumption)) | (exact absurd Iff.rfl (by assumption)) | (refine ⟨(),⟨⟩,?_⟩;((try refine wF ?_);repeat' (first|exact ⟨⟩|(apply And.intro;focus exact leaf)|((conv=>whnf);first|exact ⟨⟩|(apply And.intro;focus exact leaf))|fail))))
theorem szLine (s : Lin) (left : Int) (hl : -1 ≤ left) (hl' : left ≤ 1048576) : CallA S 158 [.agg (linC (.loc 0) (.loc 1) s), .int .i64 left] ⟨linH false (.loc 0) (.loc 1) s [], 2⟩ (Ret (γ := Int) (fun g => (left - s.ready.length - sumC List.length s.ready - s.edit.length < 0 → g = -1) ∧ (¬ left - s.ready.length - sumC List.length s.ready - s.edit.length < 0 → g = left - s.ready.length - sumC List.length s.ready - s.edit.length)) (fun g => .int .i64 g) fun g => ⟨[], 2⟩) := by
  refine .ofC hS _ _ _ Tryz.func158 ?_
  conv => whnf
  repeat' (first|refine Seal.mk ?_|(refine wS ?_;(conv=>whnf);fail_if_success show False)|((first|refine opsA_step ?_|refine drawS_go ?_|apply wL (szByteSS _ _ _ _)|apply wL (szByteS _ _ _ _));conv=>whnf)|(intro _;first|omega|conv=>whnf)|(apply And.intro<;>intro _<;>first|omega|conv=>whnf)|refine ⟨Seal.mk ?_,Seal.mk ?_⟩|((first|(apply And.intro;focus exact leaf)|(apply Or.inl;apply And.intro;focus exact leaf)|apply Or.inr|refine ⟨_,rfl,?_⟩|refine ⟨_,⟨rfl,rfl⟩,?_⟩|refine ⟨intE .u8,⟨rfl,fun _=>rfl⟩,?_⟩|(refine Exists.intro _ (And.intro (And.intro rfl (And.intro rfl ?_)) ?_);focus exact leaf));conv=>whnf)|with_reducible assumption|((fail_if_success refine Exists.intro ?_ ?_);exact leaf)|fail)
  all_goals (first | (refine ⟨-1, ⟨by omega, by omega⟩, ?_⟩; ((try refine wF ?_);repeat' (first|exact ⟨⟩|(apply And.intro;focus exact leaf)|((conv=>whnf);first|exact ⟨⟩|(apply And.intro;focus exact leaf))|fail))) | (refine ⟨left - s.ready.length - sumC List.length s.ready - s.edit.length, ⟨by omega, by omega⟩, ?_⟩; ((try refine wF ?_);repeat' (first|exact ⟨⟩|(apply And.intro;focus exact leaf)|((conv=>whnf);first|exact ⟨⟩|(apply And.intro;focus exact leaf))|fail))))
theorem toConsole (s : Con) (h : ConB s) : CallA S 114 [.agg (conC (.loc 0) (.loc 1) (.loc 2) (.loc 3) (.loc 4) (.loc 5) (.loc 6) s)] ⟨conH false (.loc 0) (.loc 1) (.loc 2) (.loc 3) (.loc 4) (.loc 5) (.loc 6) s [], 7⟩ (Ret1 (.agg (conC (.loc 7) (.loc 8) (.loc 9) (.loc 10) (.loc 11) (.loc 12) (.loc 13) s)) ⟨conH true (.loc 7) (.loc 8) (.loc 9) (.loc 10) (.loc 11) (.loc 12) (.loc 13) s [], 14⟩) := by
  refine .ofC hS _ _ _ Tryz.func114 ?_
  conv => whnf
  obtain ⟨h0, h1⟩ := h
  repeat' (first|refine Seal.mk ?_|(refine wS ?_;(conv=>whnf);fail_if_success show False)|((first|refine opsA_step ?_|refine drawS_go ?_|apply wL (toVt _ _)|apply wL (toWay _)|apply wL (toLine _ _));conv=>whnf)|(intro _;first|omega|conv=>whnf)|(apply And.intro<;>intro _<;>first|omega|conv=>whnf)|refine ⟨Seal.mk ?_,Seal.mk ?_⟩|((first|(apply And.intro;focus exact leaf)|(apply Or.inl;apply And.intro;focus exact leaf)|apply Or.inr|refine ⟨_,rfl,?_⟩|refine ⟨_,⟨rfl,rfl⟩,?_⟩|refine ⟨intE .u8,⟨rfl,fun _=>rfl⟩,?_⟩|(refine Exists.intro _ (And.intro (And.intro rfl (And.intro rfl ?_)) ?_);focus exact leaf));conv=>whnf)|with_reducible assumption|((fail_if_success refine Exists.intro ?_ ?_);exact leaf)|fail)
  (refine ⟨(),⟨⟩,?_⟩;((try refine wF ?_);repeat' (first|exact ⟨⟩|(apply And.intro;focus exact leaf)|((conv=>whnf);first|exact ⟨⟩|(apply And.intro;focus exact leaf))|fail)))
theorem eqConsole (s : Con) (h : ConB s) : CallA S 124 [.agg (conC (.loc 0) (.loc 1) (.loc 2) (.loc 3) (.loc 4) (.loc 5) (.loc 6) s), .agg (conC (.loc 7) (.loc 8) (.loc 9) (.loc 10) (.loc 11) (.loc 12) (.loc 13) s)] ⟨conH false (.loc 0) (.loc 1) (.loc 2) (.loc 3) (.loc 4) (.loc 5) (.loc 6) s (conH false (.loc 7) (.loc 8) (.loc 9) (.loc 10) (.loc 11) (.loc 12) (.loc 13) s []), 14⟩ (Ret1 (.tt) ⟨[], 14⟩) := by
  refine .ofC hS _ _ _ Tryz.func124 ?_
  conv => whnf
  obtain ⟨h0, h1⟩ := h
  repeat' (first|refine Seal.mk ?_|(refine wS ?_;(conv=>whnf);fail_if_success show False)|((first|refine opsA_step ?_|refine drawS_go ?_|apply wL (eqVt _ _)|apply wL (eqWay _)|apply wL (eqLine _ _));conv=>whnf)|(intro _;first|omega|conv=>whnf)|(apply And.intro<;>intro _<;>first|omega|conv=>whnf)|refine ⟨Seal.mk ?_,Seal.mk ?_⟩|((first|(apply And.intro;focus exact leaf)|(apply Or.inl;apply And.intro;focus exact leaf)|apply Or.inr|refine ⟨_,rfl,?_⟩|refine ⟨_,⟨rfl,rfl⟩,?_⟩|refine ⟨intE .u8,⟨rfl,fun _=>rfl⟩,?_⟩|(refine Exists.intro _ (And.intro (And.intro rfl (And.intro rfl ?_)) ?_);focus exact leaf));conv=>whnf)|with_reducible assumption|((fail_if_success refine Exists.intro ?_ ?_);exact leaf)|fail)
  all_goals (first | (exact absurd rfl (by assumption)) | (exact absurd Iff.rfl (by assumption)) | (refine ⟨(),⟨⟩,?_⟩;((try refine wF ?_);repeat' (first|exact ⟨⟩|(apply And.intro;focus exact leaf)|((conv=>whnf);first|exact ⟨⟩|(apply And.intro;focus exact leaf))|fail))))
theorem szConsole (s : Con) (left : Int) (hl : -1 ≤ left) (hl' : left ≤ 1048576) : CallA S 103 [.agg (conC (.loc 0) (.loc 1) (.loc 2) (.loc 3) (.loc 4) (.loc 5) (.loc 6) s), .int .i64 left] ⟨conH false (.loc 0) (.loc 1) (.loc 2) (.loc 3) (.loc 4) (.loc 5) (.loc 6) s [], 7⟩ (Ret (γ := Int) (fun g => (left - s.vt.par.params.length - s.vt.scr.grid.cells.length - s.vt.scr.grid.back.length - s.vt.scr.tabs.length - s.vt.scr.sets.length - s.lin.ready.length - sumC List.length s.lin.ready - s.lin.edit.length < 0 → g = -1) ∧ (¬ left - s.vt.par.params.length - s.vt.scr.grid.cells.length - s.vt.scr.grid.back.length - s.vt.scr.tabs.length - s.vt.scr.sets.length - s.lin.ready.length - sumC List.length s.lin.ready - s.lin.edit.length < 0 → g = left - s.vt.par.params.length - s.vt.scr.grid.cells.length - s.vt.scr.grid.back.length - s.vt.scr.tabs.length - s.vt.scr.sets.length - s.lin.ready.length - sumC List.length s.lin.ready - s.lin.edit.length)) (fun g => .int .i64 g) fun g => ⟨[], 7⟩) := by
  refine .ofC hS _ _ _ Tryz.func103 ?_
  conv => whnf
  repeat' (first|refine Seal.mk ?_|(refine wS ?_;(conv=>whnf);fail_if_success show False)|((first|refine opsA_step ?_|refine drawS_go ?_|apply wL (szVt _ _ _ _)|apply wL (szLine _ _ _ _));conv=>whnf)|(intro _;first|omega|conv=>whnf)|(apply And.intro<;>intro _<;>first|omega|conv=>whnf)|refine ⟨Seal.mk ?_,Seal.mk ?_⟩|((first|(apply And.intro;focus exact leaf)|(apply Or.inl;apply And.intro;focus exact leaf)|apply Or.inr|refine ⟨_,rfl,?_⟩|refine ⟨_,⟨rfl,rfl⟩,?_⟩|refine ⟨intE .u8,⟨rfl,fun _=>rfl⟩,?_⟩|(refine Exists.intro _ (And.intro (And.intro rfl (And.intro rfl ?_)) ?_);focus exact leaf));conv=>whnf)|with_reducible assumption|((fail_if_success refine Exists.intro ?_ ?_);exact leaf)|fail)
  all_goals (first | (refine ⟨-1, ⟨by omega, by omega⟩, ?_⟩; ((try refine wF ?_);repeat' (first|exact ⟨⟩|(apply And.intro;focus exact leaf)|((conv=>whnf);first|exact ⟨⟩|(apply And.intro;focus exact leaf))|fail))) | (refine ⟨left - s.vt.par.params.length - s.vt.scr.grid.cells.length - s.vt.scr.grid.back.length - s.vt.scr.tabs.length - s.vt.scr.sets.length - s.lin.ready.length - sumC List.length s.lin.ready - s.lin.edit.length, ⟨by omega, by omega⟩, ?_⟩; ((try refine wF ?_);repeat' (first|exact ⟨⟩|(apply And.intro;focus exact leaf)|((conv=>whnf);first|exact ⟨⟩|(apply And.intro;focus exact leaf))|fail))))
end Go.Mu
