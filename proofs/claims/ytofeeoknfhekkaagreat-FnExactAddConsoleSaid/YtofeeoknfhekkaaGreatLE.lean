/- The law's own functions: slices of consoles. -/
import Derived.Test.YtofeeoknfhekkaaGreatLD
set_option linter.unusedSimpArgs false
set_option linter.unusedVariables false
set_option linter.constructorNameAsVariable false
namespace Go.Mu
open Go Go.Vm Go.RowKit Go.Proofs
attribute [local irreducible] wpA opsA stillA drawA drawS
set_option maxRecDepth 20000
set_option maxHeartbeats 4000000
theorem leafL10 {P : Prop} (h : P := by
  first
  | exact leaf
  | (rw [bytesCon]; omega)
  | fail) : P := h
theorem toConsoleS (xs : List Con) (hx : xs.length ≤ 1048576) (hs : AllCon xs) : CallA S 53 [.sl (.loc 0) 38 none xs.length] ⟨[⟨.loc 0, false, consN xs⟩], 1⟩ (Ret1 (.sl (.loc 1) 38 none xs.length) ⟨[⟨.loc 1, true, consN xs⟩], 2⟩) := by
  refine .ofC hS _ _ _ Tryz.func53 ?_
  conv => whnf
  repeat' (first|refine Seal.mk ?_|(refine wS ?_;(conv=>whnf);fail_if_success show False)|((first|refine opsA_step ?_|refine drawS_go ?_);conv=>whnf)|(intro _;first|omega|conv=>whnf)|(apply And.intro<;>intro _<;>first|omega|conv=>whnf)|refine ⟨Seal.mk ?_,Seal.mk ?_⟩|((first|(apply And.intro;focus exact leafL10)|(apply Or.inl;apply And.intro;focus exact leafL10)|apply Or.inr|refine ⟨_,rfl,?_⟩|refine ⟨_,⟨rfl,rfl⟩,?_⟩|refine ⟨intE .u8,⟨rfl,fun _=>rfl⟩,?_⟩|(refine Exists.intro _ (And.intro (And.intro rfl (And.intro rfl ?_)) ?_);focus exact leafL10));conv=>whnf)|with_reducible assumption|((fail_if_success refine Exists.intro ?_ ?_);exact leafL10)|fail)
  refine .loop hS (γ := Nat) (fun i => ⟨[(0, .sl (.loc 0) 38 none xs.length), (3, .sl (.loc 1) 38 none xs.length), (4, .int .i64 i)],
    ⟨[⟨.loc 1, true, consN (xs.take i ++ List.replicate (xs.length - i) con0)⟩, ⟨.loc 0, false, consN xs⟩], 2⟩, 23, 1⟩) (fun i => i ≤ xs.length) (fun i => xs.length - i) 0 (by omega) ?_ ?_
  · ((try dsimp only);((try refine wF ?_);repeat' (first|exact ⟨⟩|(apply And.intro;focus exact leafL10)|((conv=>whnf);first|exact ⟨⟩|(apply And.intro;focus exact leafL10))|fail)))
  · intro i hi
    have hl : (xs.take i ++ List.replicate (xs.length - i) con0).length = xs.length := by simp; omega
    have hb := getD_all (d := con0) hs.all con0B (i : Int).toNat
    conv => whnf
    repeat' (first|refine Seal.mk ?_|(refine wS ?_;(conv=>whnf);fail_if_success show False)|((first|refine opsA_step ?_|refine drawS_go ?_|apply wL (toConsole _ _));conv=>whnf)|(intro _;first|omega|conv=>whnf)|(apply And.intro<;>intro _<;>first|omega|conv=>whnf)|refine ⟨Seal.mk ?_,Seal.mk ?_⟩|((first|(apply And.intro;focus exact leafL10)|(apply Or.inl;apply And.intro;focus exact leafL10)|apply Or.inr|refine ⟨_,rfl,?_⟩|refine ⟨_,⟨rfl,rfl⟩,?_⟩|refine ⟨intE .u8,⟨rfl,fun _=>rfl⟩,?_⟩|(refine Exists.intro _ (And.intro (And.intro rfl (And.intro rfl ?_)) ?_);focus exact leafL10));conv=>whnf)|with_reducible assumption|((fail_if_success refine Exists.intro ?_ ?_);exact leafL10)|fail)
    · have hs := fill_set (xs := xs) (d := con0) (i := i) (by omega)
      refine ⟨i + 1, ⟨by omega, by omega⟩, ?_⟩
      apply FitsT.turn; (focus (apply Turn.close hS (nb := 1) (x := xs.getD (i : Int).toNat con0) (xs' := xs.take (i + 1) ++ List.replicate (xs.length - (i + 1)) con0); (conv => whnf); refine And.intro ⟨rfl, ?_⟩ ?_; (focus (first | exact Or.inr ⟨by omega, by omega, by first | (with_reducible assumption) | (exact Eq.symm (by with_reducible assumption)) | rfl⟩ | exact Or.inl ⟨by first | rfl | omega, by first | (with_reducible assumption) | rfl⟩)); (focus ((conv=>whnf);repeat' (first|exact rfl|(apply And.intro;focus exact leafL10)|((conv=>whnf);first|exact rfl|(apply And.intro;focus exact leafL10))|fail)))))
      ((try dsimp only);((try refine wF ?_);repeat' (first|exact ⟨⟩|(apply And.intro;focus exact leafL10)|((conv=>whnf);first|exact ⟨⟩|(apply And.intro;focus exact leafL10))|fail)))
    · have hi : i = xs.length := by omega
      subst hi
      have h0 : xs.take xs.length ++ List.replicate (xs.length - xs.length) con0 = xs := by simp
      (refine ⟨(),⟨⟩,?_⟩;((try refine wF ?_);repeat' (first|exact ⟨⟩|(apply And.intro;focus exact leafL10)|((conv=>whnf);first|exact ⟨⟩|(apply And.intro;focus exact leafL10))|fail)))
theorem eqConsoleS (xs : List Con) (hx : xs.length ≤ 1048576) (hs : AllCon xs) : CallA S 64 [.sl (.loc 0) 38 none xs.length, .sl (.loc 1) 38 none xs.length] ⟨[⟨.loc 0, false, consN xs⟩, ⟨.loc 1, false, consN xs⟩], 2⟩ (Ret1 (.tt) ⟨[], 2⟩) := by
  refine .ofC hS _ _ _ Tryz.func64 ?_
  conv => whnf
  repeat' (first|refine Seal.mk ?_|(refine wS ?_;(conv=>whnf);fail_if_success show False)|((first|refine opsA_step ?_|refine drawS_go ?_|refine wD (id:=6) (.quick 0 (.quick 1 (.quick 2 (.quick 4 (.quick 5 (.quick 6 (.stable 3 (.stable 7 (.all (.step 8 (.quick 9 .done))))))))))) [8] (by kernel_rfl) rfl ?_);conv=>whnf)|(intro _;first|omega|conv=>whnf)|(apply And.intro<;>intro _<;>first|omega|conv=>whnf)|refine ⟨Seal.mk ?_,Seal.mk ?_⟩|((first|(apply And.intro;focus exact leafL10)|(apply Or.inl;apply And.intro;focus exact leafL10)|apply Or.inr|refine ⟨_,rfl,?_⟩|refine ⟨_,⟨rfl,rfl⟩,?_⟩|refine ⟨intE .u8,⟨rfl,fun _=>rfl⟩,?_⟩|(refine Exists.intro _ (And.intro (And.intro rfl (And.intro rfl ?_)) ?_);focus exact leafL10));conv=>whnf)|with_reducible assumption|((fail_if_success refine Exists.intro ?_ ?_);exact leafL10)|fail)
  refine .loop hS (γ := Nat) (fun i => ⟨[(0, .sl (.loc 0) 38 none xs.length), (1, .sl (.loc 1) 38 none xs.length), (5, .int .i64 i)],
    ⟨[⟨.loc 0, false, consN xs⟩, ⟨.loc 1, false, consN xs⟩], 2⟩, 27, 2⟩) (fun i => i ≤ xs.length) (fun i => xs.length - i) 0 (by omega) ?_ ?_
  · ((try dsimp only);((try refine wF ?_);repeat' (first|exact ⟨⟩|(apply And.intro;focus exact leafL10)|((conv=>whnf);first|exact ⟨⟩|(apply And.intro;focus exact leafL10))|fail)))
  · intro i hi
    have hb := getD_all (d := con0) hs.all con0B (i : Int).toNat
    conv => whnf
    repeat' (first|refine Seal.mk ?_|(refine wS ?_;(conv=>whnf);fail_if_success show False)|((first|refine opsA_step ?_|refine drawS_go ?_|refine wD (id:=6) (.quick 0 (.quick 1 (.quick 2 (.quick 4 (.quick 5 (.quick 6 (.stable 3 (.stable 7 (.all (.step 8 (.quick 9 .done))))))))))) [8] (by kernel_rfl) rfl ?_|apply wL (eqConsole _ _));conv=>whnf)|(intro _;first|omega|conv=>whnf)|(apply And.intro<;>intro _<;>first|omega|conv=>whnf)|refine ⟨Seal.mk ?_,Seal.mk ?_⟩|((first|(apply And.intro;focus exact leafL10)|(apply Or.inl;apply And.intro;focus exact leafL10)|apply Or.inr|refine ⟨_,rfl,?_⟩|refine ⟨_,⟨rfl,rfl⟩,?_⟩|refine ⟨intE .u8,⟨rfl,fun _=>rfl⟩,?_⟩|(refine Exists.intro _ (And.intro (And.intro rfl (And.intro rfl ?_)) ?_);focus exact leafL10));conv=>whnf)|with_reducible assumption|((fail_if_success refine Exists.intro ?_ ?_);exact leafL10)|fail)
    all_goals (first | (exact absurd rfl (by assumption)) | (exact absurd Iff.rfl (by assumption)) | (refine ⟨(),⟨⟩,?_⟩;((try refine wF ?_);repeat' (first|exact ⟨⟩|(apply And.intro;focus exact leafL10)|((conv=>whnf);first|exact ⟨⟩|(apply And.intro;focus exact leafL10))|fail))) | (refine ⟨i + 1, ⟨by omega, by omega⟩, ?_⟩; ((try dsimp only);((try refine wF ?_);repeat' (first|exact ⟨⟩|(apply And.intro;focus exact leafL10)|((conv=>whnf);first|exact ⟨⟩|(apply And.intro;focus exact leafL10))|fail)))))
theorem szConsoleS (xs : List Con) (left : Int) (hl : -1 ≤ left) (hl' : left ≤ 1048576) : CallA S 45 [.sl (.loc 0) 38 none xs.length, .int .i64 left] ⟨[⟨.loc 0, false, consN xs⟩], 1⟩ (Ret (γ := Int) (fun g => (left - xs.length - sumC szC xs < 0 → g = -1) ∧ (¬ left - xs.length - sumC szC xs < 0 → g = left - xs.length - sumC szC xs)) (fun g => .int .i64 g) fun g => ⟨[], 1⟩) := by
  refine .ofC hS _ _ _ Tryz.func45 ?_
  conv => whnf
  have h0 : sumC szC (xs.take 0) = 0 := by simp [sumC]
  repeat' (first|refine Seal.mk ?_|(refine wS ?_;(conv=>whnf);fail_if_success show False)|((first|refine opsA_step ?_|refine drawS_go ?_);conv=>whnf)|(intro _;first|omega|conv=>whnf)|(apply And.intro<;>intro _<;>first|omega|conv=>whnf)|refine ⟨Seal.mk ?_,Seal.mk ?_⟩|((first|(apply And.intro;focus exact leafL10)|(apply Or.inl;apply And.intro;focus exact leafL10)|apply Or.inr|refine ⟨_,rfl,?_⟩|refine ⟨_,⟨rfl,rfl⟩,?_⟩|refine ⟨intE .u8,⟨rfl,fun _=>rfl⟩,?_⟩|(refine Exists.intro _ (And.intro (And.intro rfl (And.intro rfl ?_)) ?_);focus exact leafL10));conv=>whnf)|with_reducible assumption|((fail_if_success refine Exists.intro ?_ ?_);exact leafL10)|fail)
  all_goals (first | (refine ⟨-1, ⟨by omega, by omega⟩, ?_⟩; ((try refine wF ?_);repeat' (first|exact ⟨⟩|(apply And.intro;focus exact leafL10)|((conv=>whnf);first|exact ⟨⟩|(apply And.intro;focus exact leafL10))|fail))) | skip)
  refine .loop hS (γ := Nat) (fun i => ⟨[(0, .sl (.loc 0) 38 none xs.length), (1, .int .i64 (left - xs.length - sumC szC (xs.take i))), (5, .int .i64 i)],
    ⟨[⟨.loc 0, false, consN xs⟩], 1⟩, 27, 1⟩) (fun i => i ≤ xs.length ∧ 0 ≤ left - xs.length - sumC szC (xs.take i)) (fun i => xs.length - i) 0 ⟨by omega, by simp [sumC]; omega⟩ ?_ ?_
  · ((try refine wF ?_);repeat' (first|exact ⟨⟩|(apply And.intro;focus exact leafL10)|((conv=>whnf);first|exact ⟨⟩|(apply And.intro;focus exact leafL10))|fail))
  · intro i hi
    obtain ⟨hi, hk⟩ := hi
    have ha : i < xs.length → sumC szC (xs.take (i + 1)) = sumC szC (xs.take i) + szC (xs.getD (i : Int).toNat con0) := fun h => sumC_take h _
    have hb := sumC_le (cnt := szC) (xs := xs) (i + 1)
    have hc := szC_eq (xs.getD (i : Int).toNat con0)
    have ht : xs.take xs.length = xs := List.take_length
    conv => whnf
    repeat' (first|refine Seal.mk ?_|(refine wS ?_;(conv=>whnf);fail_if_success show False)|((first|refine opsA_step ?_|refine drawS_go ?_|apply wL (szConsole _ _ _ _));conv=>whnf)|(intro _;first|omega|conv=>whnf)|(apply And.intro<;>intro _<;>first|omega|conv=>whnf)|refine ⟨Seal.mk ?_,Seal.mk ?_⟩|((first|(apply And.intro;focus exact leafL10)|(apply Or.inl;apply And.intro;focus exact leafL10)|apply Or.inr|refine ⟨_,rfl,?_⟩|refine ⟨_,⟨rfl,rfl⟩,?_⟩|refine ⟨intE .u8,⟨rfl,fun _=>rfl⟩,?_⟩|(refine Exists.intro _ (And.intro (And.intro rfl (And.intro rfl ?_)) ?_);focus exact leafL10));conv=>whnf)|with_reducible assumption|((fail_if_success refine Exists.intro ?_ ?_);exact leafL10)|fail)
    all_goals (first
      | (refine ⟨-1, ⟨by omega, by omega⟩, ?_⟩; ((try refine wF ?_);repeat' (first|exact ⟨⟩|(apply And.intro;focus exact leafL10)|((conv=>whnf);first|exact ⟨⟩|(apply And.intro;focus exact leafL10))|fail)))
      | (refine ⟨i + 1, ⟨⟨by omega, by omega⟩, by omega⟩, ?_⟩; ((try refine wF ?_);repeat' (first|exact ⟨⟩|(apply And.intro;focus exact leafL10)|((conv=>whnf);first|exact ⟨⟩|(apply And.intro;focus exact leafL10))|fail)))
      | (have hi : i = xs.length := by omega
         subst hi
         rw [ht] at *
         refine ⟨left - xs.length - sumC szC xs, ⟨by omega, by omega⟩, ?_⟩; ((try refine wF ?_);repeat' (first|exact ⟨⟩|(apply And.intro;focus exact leafL10)|((conv=>whnf);first|exact ⟨⟩|(apply And.intro;focus exact leafL10))|fail))))
end Go.Mu

namespace Go.Mu
open Go Go.Vm Go.RowKit Go.Proofs
attribute [local irreducible] wpA opsA stillA drawA drawS
set_option maxRecDepth 20000
set_option maxHeartbeats 4000000
theorem toMux (s : Mux) (h : MuxB s) : CallA S 15 [.agg (muxC (.loc 0) (.loc 1) (.loc 2) (.loc 3) (.loc 4) s)] ⟨muxH false (.loc 0) (.loc 1) (.loc 2) (.loc 3) (.loc 4) s [], 5⟩ (Ret1 (.agg (muxC (.loc 5) (.loc 6) (.loc 7) (.loc 8) (.loc 9) s)) ⟨muxH true (.loc 5) (.loc 6) (.loc 7) (.loc 8) (.loc 9) s [], 10⟩) := by
  refine .ofC hS _ _ _ Tryz.func15 ?_
  conv => whnf
  obtain ⟨h0, h1, h2, h3, h4, h5, h6⟩ := h
  repeat' (first|refine Seal.mk ?_|(refine wS ?_;(conv=>whnf);fail_if_success show False)|((first|refine opsA_step ?_|refine drawS_go ?_|apply wL (toConsoleS _ _ _)|apply wL (toBoolS _ _)|apply wL (toBindS _ _)|apply wL (toStringS _ _)|apply wL (toKeyboard _ _));conv=>whnf)|(intro _;first|omega|conv=>whnf)|(apply And.intro<;>intro _<;>first|omega|conv=>whnf)|refine ⟨Seal.mk ?_,Seal.mk ?_⟩|((first|(apply And.intro;focus exact leaf)|(apply Or.inl;apply And.intro;focus exact leaf)|apply Or.inr|refine ⟨_,rfl,?_⟩|refine ⟨_,⟨rfl,rfl⟩,?_⟩|refine ⟨intE .u8,⟨rfl,fun _=>rfl⟩,?_⟩|(refine Exists.intro _ (And.intro (And.intro rfl (And.intro rfl ?_)) ?_);focus exact leaf));conv=>whnf)|with_reducible assumption|((fail_if_success refine Exists.intro ?_ ?_);exact leaf)|fail)
  (refine ⟨(),⟨⟩,?_⟩;((try refine wF ?_);repeat' (first|exact ⟨⟩|(apply And.intro;focus exact leaf)|((conv=>whnf);first|exact ⟨⟩|(apply And.intro;focus exact leaf))|fail)))
theorem eqMux (s : Mux) (h : MuxB s) : CallA S 20 [.agg (muxC (.loc 0) (.loc 1) (.loc 2) (.loc 3) (.loc 4) s), .agg (muxC (.loc 5) (.loc 6) (.loc 7) (.loc 8) (.loc 9) s)] ⟨muxH false (.loc 0) (.loc 1) (.loc 2) (.loc 3) (.loc 4) s (muxH false (.loc 5) (.loc 6) (.loc 7) (.loc 8) (.loc 9) s []), 10⟩ (Ret1 (.tt) ⟨[], 10⟩) := by
  refine .ofC hS _ _ _ Tryz.func20 ?_
  conv => whnf
  obtain ⟨h0, h1, h2, h3, h4, h5, h6⟩ := h
  repeat' (first|refine Seal.mk ?_|(refine wS ?_;(conv=>whnf);fail_if_success show False)|((first|refine opsA_step ?_|refine drawS_go ?_|apply wL (eqConsoleS _ _ _)|apply wL (eqBoolS _ _)|apply wL (eqBindS _ _)|apply wL (eqStringS _ _)|apply wL (eqKeyboard _ _));conv=>whnf)|(intro _;first|omega|conv=>whnf)|(apply And.intro<;>intro _<;>first|omega|conv=>whnf)|refine ⟨Seal.mk ?_,Seal.mk ?_⟩|((first|(apply And.intro;focus exact leaf)|(apply Or.inl;apply And.intro;focus exact leaf)|apply Or.inr|refine ⟨_,rfl,?_⟩|refine ⟨_,⟨rfl,rfl⟩,?_⟩|refine ⟨intE .u8,⟨rfl,fun _=>rfl⟩,?_⟩|(refine Exists.intro _ (And.intro (And.intro rfl (And.intro rfl ?_)) ?_);focus exact leaf));conv=>whnf)|with_reducible assumption|((fail_if_success refine Exists.intro ?_ ?_);exact leaf)|fail)
  all_goals (first | (exact absurd rfl (by assumption)) | (exact absurd Iff.rfl (by assumption)) | (refine ⟨(),⟨⟩,?_⟩;((try refine wF ?_);repeat' (first|exact ⟨⟩|(apply And.intro;focus exact leaf)|((conv=>whnf);first|exact ⟨⟩|(apply And.intro;focus exact leaf))|fail))))
theorem szMux (s : Mux) (left : Int) (hl : -1 ≤ left) (hl' : left ≤ 1048576) : CallA S 11 [.agg (muxC (.loc 0) (.loc 1) (.loc 2) (.loc 3) (.loc 4) s), .int .i64 left] ⟨muxH false (.loc 0) (.loc 1) (.loc 2) (.loc 3) (.loc 4) s [], 5⟩ (Ret (γ := Int) (fun g => (left - s.cons.length - sumC szC s.cons - s.polite.length - s.binds.length - s.texts.length - sumC List.length s.texts - s.kbd.holds.length < 0 → g = -1) ∧ (¬ left - s.cons.length - sumC szC s.cons - s.polite.length - s.binds.length - s.texts.length - sumC List.length s.texts - s.kbd.holds.length < 0 → g = left - s.cons.length - sumC szC s.cons - s.polite.length - s.binds.length - s.texts.length - sumC List.length s.texts - s.kbd.holds.length)) (fun g => .int .i64 g) fun g => ⟨[], 5⟩) := by
  refine .ofC hS _ _ _ Tryz.func11 ?_
  conv => whnf
  repeat' (first|refine Seal.mk ?_|(refine wS ?_;(conv=>whnf);fail_if_success show False)|((first|refine opsA_step ?_|refine drawS_go ?_|apply wL (szConsoleS _ _ _ _)|apply wL (szBoolS _ _ _ _)|apply wL (szBindS _ _ _ _)|apply wL (szStringS _ _ _ _)|apply wL (szKeyboard _ _ _ _));conv=>whnf)|(intro _;first|omega|conv=>whnf)|(apply And.intro<;>intro _<;>first|omega|conv=>whnf)|refine ⟨Seal.mk ?_,Seal.mk ?_⟩|((first|(apply And.intro;focus exact leaf)|(apply Or.inl;apply And.intro;focus exact leaf)|apply Or.inr|refine ⟨_,rfl,?_⟩|refine ⟨_,⟨rfl,rfl⟩,?_⟩|refine ⟨intE .u8,⟨rfl,fun _=>rfl⟩,?_⟩|(refine Exists.intro _ (And.intro (And.intro rfl (And.intro rfl ?_)) ?_);focus exact leaf));conv=>whnf)|with_reducible assumption|((fail_if_success refine Exists.intro ?_ ?_);exact leaf)|fail)
  all_goals (first | (refine ⟨-1, ⟨by omega, by omega⟩, ?_⟩; ((try refine wF ?_);repeat' (first|exact ⟨⟩|(apply And.intro;focus exact leaf)|((conv=>whnf);first|exact ⟨⟩|(apply And.intro;focus exact leaf))|fail))) | (refine ⟨left - s.cons.length - sumC szC s.cons - s.polite.length - s.binds.length - s.texts.length - sumC List.length s.texts - s.kbd.holds.length, ⟨by omega, by omega⟩, ?_⟩; ((try refine wF ?_);repeat' (first|exact ⟨⟩|(apply And.intro;focus exact leaf)|((conv=>whnf);first|exact ⟨⟩|(apply And.intro;focus exact leaf))|fail))))
end Go.Mu
