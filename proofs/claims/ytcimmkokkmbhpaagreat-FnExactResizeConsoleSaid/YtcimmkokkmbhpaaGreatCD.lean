/- Copies: lines and consoles, as the program and as the reference make them. -/
import Derived.Test.YtcimmkokkmbhpaaGreatCB
import Derived.Test.YtcimmkokkmbhpaaGreatCC
import Derived.Test.YtcimmkokkmbhpaaGreatLH
import Derived.Test.YtcimmkokkmbhpaaGreatVmI
set_option linter.unusedSimpArgs false
set_option linter.unusedVariables false
set_option linter.constructorNameAsVariable false
namespace Go.Mu
open Go Go.Vm Go.RowKit Go.Proofs
attribute [local irreducible] wpA opsA stillA drawA drawS
set_option maxRecDepth 20000
set_option maxHeartbeats 4000000
theorem leafC4 {P : Prop} (h : P := by
  first
  | exact leaf
  | exact PreC.of_eq (by simp)
  | fail) : P := h
theorem take_next {α : Type} {xs : List α} {i : Nat} (h : i < xs.length) (d : α) : xs.take (i + 1) = xs.take i ++ [xs.getD (i : Int).toNat d] := by
  rw [Int.toNat_natCast, List.take_succ_eq_append_getElem h, show xs.getD i d = xs[i] by simp [h]]
theorem cloneLin (s : Lin) (h : LinB s) : CallA S 199 [.agg (linC (.loc 0) (.loc 1) s)] ⟨linH false (.loc 0) (.loc 1) s [], 2⟩ (Ret1 (.agg (linC (.loc 2) (.loc 3) s)) ⟨linH true (.loc 2) (.loc 3) s [], 4⟩) := by
  refine .ofC hS _ _ _ Tryz.func199 ?_
  conv => whnf
  obtain ⟨h0, h1, h2⟩ := h
  repeat' (first|refine Seal.mk ?_|(refine wS ?_;(conv=>whnf);fail_if_success show False)|((first|refine opsA_step ?_|refine drawS_go ?_);conv=>whnf)|(intro _;first|omega|conv=>whnf)|(apply And.intro<;>intro _<;>first|omega|conv=>whnf)|refine ⟨Seal.mk ?_,Seal.mk ?_⟩|((first|refine ⟨leafC4,?_⟩|refine Or.inl ⟨leafC4,?_⟩|apply Or.inr|refine ⟨_,rfl,?_⟩|refine ⟨_,⟨rfl,rfl⟩,?_⟩|refine ⟨intE .u8,⟨rfl,fun _=>rfl⟩,?_⟩|refine ⟨_,⟨rfl,rfl,leafC4⟩,?_⟩);conv=>whnf)|with_reducible assumption|exact leafC4|fail)
  refine .loop hS (γ := Nat) (fun i => ⟨[(1, .ptr (.loc 2) 4 none 0), (2, .ptr (.loc 3) 4 none 0), (3, .sl (.loc 4) 1 none i), (8, .sl (.loc 0) 1 none s.ready.length), (9, .int .i64 s.ready.length), (10, .int .i64 i)],
      ⟨[⟨.loc 4, true, bytesN (s.ready.take i)⟩, ⟨.loc 2, true, .raw (linC (.loc 0) (.loc 1) s)⟩, ⟨.loc 3, true, .raw [.nils, .nils, .ff, .int .i64 0]⟩, ⟨.loc 0, false, bytesN s.ready⟩, ⟨.loc 1, false, .arr (intE .u8) s.edit⟩], 5⟩, 27, 2⟩) (fun i => i ≤ s.ready.length) (fun i => s.ready.length - i) 0 (by omega) ?_ ?_
  · ((try dsimp only);((try refine wF ?_);repeat' (first|exact ⟨⟩|refine ⟨leafC4,?_⟩|((conv=>whnf);first|exact ⟨⟩|refine ⟨leafC4,?_⟩))))
  · intro i hi
    have hb := sumC_get (cnt := List.length) (xs := s.ready) (i : Int).toNat [] rfl
    have ht : s.ready.take s.ready.length = s.ready := List.take_length
    have hlt : (s.ready.take i).length = i := by simp; omega
    conv => whnf
    repeat' (first|refine Seal.mk ?_|(refine wS ?_;(conv=>whnf);fail_if_success show False)|((first|refine opsA_step ?_|refine drawS_go ?_|apply wL (cloneU _ _));conv=>whnf)|(intro _;first|omega|conv=>whnf)|(apply And.intro<;>intro _<;>first|omega|conv=>whnf)|refine ⟨Seal.mk ?_,Seal.mk ?_⟩|((first|refine ⟨leafC4,?_⟩|refine Or.inl ⟨leafC4,?_⟩|apply Or.inr|refine ⟨_,rfl,?_⟩|refine ⟨_,⟨rfl,rfl⟩,?_⟩|refine ⟨intE .u8,⟨rfl,fun _=>rfl⟩,?_⟩|refine ⟨_,⟨rfl,rfl,leafC4⟩,?_⟩);conv=>whnf)|with_reducible assumption|exact leafC4|fail)
    · have htk : s.ready.take (i + 1) = s.ready.take i ++ [s.ready.getD (i : Int).toNat []] := take_next (by omega) _
      refine ⟨i + 1, ⟨by omega, by omega⟩, ?_⟩
      apply FitsT.turn; (focus (apply Turn.close hS (nb := 7) (x := s.ready.getD (i : Int).toNat []) (xs' := s.ready.take (i + 1)); (conv => whnf); refine And.intro ⟨rfl, ?_⟩ ?_; (focus (first | exact Or.inr ⟨by omega, by omega, by first | rfl | (with_reducible assumption) | (exact Eq.symm (by with_reducible assumption))⟩ | exact Or.inl ⟨by first | rfl | omega, by first | rfl | (with_reducible assumption)⟩)); (focus ((conv=>whnf);repeat' (first|exact rfl|refine ⟨leafC4,?_⟩|((conv=>whnf);first|exact rfl|refine ⟨leafC4,?_⟩))))))
      ((try dsimp only);((try refine wF ?_);repeat' (first|exact ⟨⟩|refine ⟨leafC4,?_⟩|((conv=>whnf);first|exact ⟨⟩|refine ⟨leafC4,?_⟩))))
    · have hi : i = s.ready.length := by omega
      subst hi
      rw [ht]
      repeat' (first|refine Seal.mk ?_|(refine wS ?_;(conv=>whnf);fail_if_success show False)|((first|refine opsA_step ?_|refine drawS_go ?_|apply wL (cloneU _ _));conv=>whnf)|(intro _;first|omega|conv=>whnf)|(apply And.intro<;>intro _<;>first|omega|conv=>whnf)|refine ⟨Seal.mk ?_,Seal.mk ?_⟩|((first|refine ⟨leafC4,?_⟩|refine Or.inl ⟨leafC4,?_⟩|apply Or.inr|refine ⟨_,rfl,?_⟩|refine ⟨_,⟨rfl,rfl⟩,?_⟩|refine ⟨intE .u8,⟨rfl,fun _=>rfl⟩,?_⟩|refine ⟨_,⟨rfl,rfl,leafC4⟩,?_⟩);conv=>whnf)|with_reducible assumption|exact leafC4|fail)
      (refine ⟨(),⟨⟩,?_⟩;((try refine wF ?_);repeat' (first|exact ⟨⟩|refine ⟨leafC4,?_⟩|((conv=>whnf);first|exact ⟨⟩|refine ⟨leafC4,?_⟩))))
theorem cloneCon (s : Con) (h : ConB s) : CallA S 105 [.agg (conC (.loc 0) (.loc 1) (.loc 2) (.loc 3) (.loc 4) (.loc 5) (.loc 6) s)] ⟨conH false (.loc 0) (.loc 1) (.loc 2) (.loc 3) (.loc 4) (.loc 5) (.loc 6) s [], 7⟩ (Ret1 (.agg (conC (.loc 7) (.loc 8) (.loc 9) (.loc 10) (.loc 11) (.loc 12) (.loc 13) s)) ⟨conH true (.loc 7) (.loc 8) (.loc 9) (.loc 10) (.loc 11) (.loc 12) (.loc 13) s [], 14⟩) := by
  refine .ofC hS _ _ _ Tryz.func105 ?_
  conv => whnf
  obtain ⟨h0, h1⟩ := h
  repeat' (first|refine Seal.mk ?_|(refine wS ?_;(conv=>whnf);fail_if_success show False)|((first|refine opsA_step ?_|refine drawS_go ?_|refine wD (id:=1) (.quick 0 (.quick 3 (.all (.fork (.step 1 (.all (.fork (.step 2 (.all (.step 4 (.quick 6 (.all (.step 5 (.all (.step 7 (.quick 8 (.all (.step 9 .done))))))))))) (.step 4 (.all (.step 2 (.quick 6 (.all (.step 5 (.all (.step 7 (.quick 8 (.all (.step 9 .done)))))))))))))) (.step 4 (.all (.step 1 (.all (.step 2 (.quick 6 (.all (.step 5 (.all (.step 7 (.quick 8 (.all (.step 9 .done))))))))))))))))) [1, 2, 4, 5, 7, 9] (by kernel_rfl) rfl ?_|apply wL (cloneVt _ _)|apply wL (cloneLin _ _));conv=>whnf)|(intro _;first|omega|conv=>whnf)|(apply And.intro<;>intro _<;>first|omega|conv=>whnf)|refine ⟨Seal.mk ?_,Seal.mk ?_⟩|((first|refine ⟨leafC4,?_⟩|refine Or.inl ⟨leafC4,?_⟩|apply Or.inr|refine ⟨_,rfl,?_⟩|refine ⟨_,⟨rfl,rfl⟩,?_⟩|refine ⟨intE .u8,⟨rfl,fun _=>rfl⟩,?_⟩|refine ⟨_,⟨rfl,rfl,leafC4⟩,?_⟩);conv=>whnf)|with_reducible assumption|exact leafC4|fail)
  all_goals (refine ⟨(),⟨⟩,?_⟩;((try refine wF ?_);repeat' (first|exact ⟨⟩|refine ⟨leafC4,?_⟩|((conv=>whnf);first|exact ⟨⟩|refine ⟨leafC4,?_⟩))))
theorem l11Copy (s : Lin) (h : LinB s) : CallA S 197 [.agg (linC (.loc 0) (.loc 1) s)] ⟨linH false (.loc 0) (.loc 1) s [], 2⟩ (Ret1 (.agg (linC (.loc 2) (.loc 3) s)) ⟨linH true (.loc 2) (.loc 3) s [], 4⟩) := by
  refine .ofC hS _ _ _ Tryz.func197 ?_
  conv => whnf
  obtain ⟨h0, h1, h2⟩ := h
  repeat' (first|refine Seal.mk ?_|(refine wS ?_;(conv=>whnf);fail_if_success show False)|((first|refine opsA_step ?_|refine drawS_go ?_);conv=>whnf)|(intro _;first|omega|conv=>whnf)|(apply And.intro<;>intro _<;>first|omega|conv=>whnf)|refine ⟨Seal.mk ?_,Seal.mk ?_⟩|((first|refine ⟨leafC4,?_⟩|refine Or.inl ⟨leafC4,?_⟩|apply Or.inr|refine ⟨_,rfl,?_⟩|refine ⟨_,⟨rfl,rfl⟩,?_⟩|refine ⟨intE .u8,⟨rfl,fun _=>rfl⟩,?_⟩|refine ⟨_,⟨rfl,rfl,leafC4⟩,?_⟩);conv=>whnf)|with_reducible assumption|exact leafC4|fail)
  refine Wp.see ⟨[(1, .ptr (.loc 2) 4 none 0), (2, .ptr (.loc 3) 4 none 0)], ⟨⟨.loc 2, false, .raw (linC (.loc 0) (.loc 1) s)⟩ :: ⟨.loc 3, true, .raw [.nils, .nils, .ff, .int .i64 0]⟩ :: linH false (.loc 0) (.loc 1) s [], 4⟩, 32, 2⟩ ?_ ?_
  · ((try dsimp only);((try refine wF ?_);repeat' (first|exact ⟨⟩|refine ⟨leafC4,?_⟩|((conv=>whnf);first|exact ⟨⟩|refine ⟨leafC4,?_⟩))))
  repeat' (first|refine Seal.mk ?_|(refine wS ?_;(conv=>whnf);fail_if_success show False)|((first|refine opsA_step ?_|refine drawS_go ?_|refine wD (id:=1) (.quick 0 (.quick 3 (.quick 5 (.stable 1 (.stable 4 (.stable 6 (.all (.fork (.step 2 (.quick 7 (.all (.step 8 (.all (.step 9 .done)))))) (.step 8 (.all (.step 2 (.quick 7 (.all (.step 9 .done)))))))))))))) [2, 8, 9] (by kernel_rfl) rfl ?_|refine wD (id:=5) (.quick 0 (.quick 2 (.quick 4 (.stable 3 (.quick 5 (.stable 6 (.all (.fork (.step 1 (.all (.step 7 (.all (.step 8 (.all (.step 9 (.quick 10 (.all (.step 11 .done)))))))))) (.step 7 (.all (.fork (.step 1 (.all (.step 8 (.all (.step 9 (.quick 10 (.all (.step 11 .done)))))))) (.step 8 (.all (.step 1 (.all (.step 9 (.quick 10 (.all (.step 11 .done))))))))))))))))))) [1, 7, 8, 9, 11] (by kernel_rfl) rfl ?_|apply wL (l1Copy _ _));conv=>whnf)|(intro _;first|omega|conv=>whnf)|(apply And.intro<;>intro _<;>first|omega|conv=>whnf)|refine ⟨Seal.mk ?_,Seal.mk ?_⟩|((first|refine ⟨leafC4,?_⟩|refine Or.inl ⟨leafC4,?_⟩|apply Or.inr|refine ⟨_,rfl,?_⟩|refine ⟨_,⟨rfl,rfl⟩,?_⟩|refine ⟨intE .u8,⟨rfl,fun _=>rfl⟩,?_⟩|refine ⟨_,⟨rfl,rfl,leafC4⟩,?_⟩);conv=>whnf)|with_reducible assumption|exact leafC4|fail)
  all_goals
    refine .loop hS (γ := Nat) (fun i => ⟨[(1, .ptr (.loc 2) 4 none 0), (2, .ptr (.loc 3) 4 none 0), (3, .ptr (.loc 5) 4 none 0), (4, .int .i64 i)],
        ⟨[⟨.loc 6, true, bytesN (s.ready.take i)⟩, ⟨.loc 5, true, .raw [.sl (.loc 6) 1 none i, .sl (.loc 4) 1 none s.edit.length, .prop (s.lit = true), .int .i64 s.breaks]⟩, ⟨.loc 4, true, .arr (intE .u8) s.edit⟩, ⟨.loc 2, false, .raw (linC (.loc 0) (.loc 1) s)⟩, ⟨.loc 3, true, .raw [.nils, .nils, .ff, .int .i64 0]⟩, ⟨.loc 0, false, bytesN s.ready⟩, ⟨.loc 1, false, .arr (intE .u8) s.edit⟩], 7⟩, 32, 2⟩) (fun i => i ≤ s.ready.length) (fun i => s.ready.length - i) 0 (by omega) ?_ ?_
    · ((try dsimp only);((try refine wF ?_);repeat' (first|exact ⟨⟩|refine ⟨leafC4,?_⟩|((conv=>whnf);first|exact ⟨⟩|refine ⟨leafC4,?_⟩))))
    · intro i hi
      have hb := sumC_get (cnt := List.length) (xs := s.ready) (i : Int).toNat [] rfl
      have ht : s.ready.take s.ready.length = s.ready := List.take_length
      have hlt : (s.ready.take i).length = i := by simp; omega
      conv => whnf
      by_cases hc : i < s.ready.length
      · have htk : s.ready.take (i + 1) = s.ready.take i ++ [s.ready.getD (i : Int).toNat []] := take_next (by omega) _
        repeat' (first|refine Seal.mk ?_|(refine wS ?_;(conv=>whnf);fail_if_success show False)|((first|refine opsA_step ?_|refine drawS_go ?_|refine wD (id:=1) (.quick 0 (.quick 3 (.quick 5 (.stable 1 (.stable 4 (.stable 6 (.all (.fork (.step 2 (.quick 7 (.all (.step 8 (.all (.step 9 .done)))))) (.step 8 (.all (.step 2 (.quick 7 (.all (.step 9 .done)))))))))))))) [2, 8, 9] (by kernel_rfl) rfl ?_|refine wD (id:=5) (.quick 0 (.quick 2 (.quick 4 (.stable 3 (.quick 5 (.stable 6 (.all (.fork (.step 1 (.all (.step 7 (.all (.step 8 (.all (.step 9 (.quick 10 (.all (.step 11 .done)))))))))) (.step 7 (.all (.fork (.step 1 (.all (.step 8 (.all (.step 9 (.quick 10 (.all (.step 11 .done)))))))) (.step 8 (.all (.step 1 (.all (.step 9 (.quick 10 (.all (.step 11 .done))))))))))))))))))) [1, 7, 8, 9, 11] (by kernel_rfl) rfl ?_|apply wL (l1Copy _ _));conv=>whnf)|(intro _;first|omega|conv=>whnf)|(apply And.intro<;>intro _<;>first|omega|conv=>whnf)|refine ⟨Seal.mk ?_,Seal.mk ?_⟩|((first|refine ⟨leafC4,?_⟩|refine Or.inl ⟨leafC4,?_⟩|apply Or.inr|refine ⟨_,rfl,?_⟩|refine ⟨_,⟨rfl,rfl⟩,?_⟩|refine ⟨intE .u8,⟨rfl,fun _=>rfl⟩,?_⟩|refine ⟨_,⟨rfl,rfl,leafC4⟩,?_⟩);conv=>whnf)|with_reducible assumption|exact leafC4|fail)
        all_goals
          refine ⟨i + 1, ⟨by omega, by omega⟩, ?_⟩
          apply FitsT.turn; (focus (apply Turn.close hS (nb := 9) (x := s.ready.getD (i : Int).toNat []) (xs' := s.ready.take (i + 1)); (conv => whnf); refine And.intro ⟨rfl, ?_⟩ ?_; (focus (first | exact Or.inr ⟨by omega, by omega, by first | rfl | (with_reducible assumption) | (exact Eq.symm (by with_reducible assumption))⟩ | exact Or.inl ⟨by first | rfl | omega, by first | rfl | (with_reducible assumption)⟩)); (focus ((conv=>whnf);repeat' (first|exact rfl|refine ⟨leafC4,?_⟩|((conv=>whnf);first|exact rfl|refine ⟨leafC4,?_⟩))))))
          ((try dsimp only);((try refine wF ?_);repeat' (first|exact ⟨⟩|refine ⟨leafC4,?_⟩|((conv=>whnf);first|exact ⟨⟩|refine ⟨leafC4,?_⟩))))
      · have hi : i = s.ready.length := by omega
        subst hi
        repeat' (first|refine Seal.mk ?_|(refine wS ?_;(conv=>whnf);fail_if_success show False)|((first|refine opsA_step ?_|refine drawS_go ?_);conv=>whnf)|(intro _;first|omega|conv=>whnf)|(apply And.intro<;>intro _<;>first|omega|conv=>whnf)|refine ⟨Seal.mk ?_,Seal.mk ?_⟩|((first|refine ⟨leafC4,?_⟩|refine Or.inl ⟨leafC4,?_⟩|apply Or.inr|refine ⟨_,rfl,?_⟩|refine ⟨_,⟨rfl,rfl⟩,?_⟩|refine ⟨intE .u8,⟨rfl,fun _=>rfl⟩,?_⟩|refine ⟨_,⟨rfl,rfl,leafC4⟩,?_⟩);conv=>whnf)|with_reducible assumption|exact leafC4|fail)
        rw [ht]
        (refine ⟨(),⟨⟩,?_⟩;((try refine wF ?_);repeat' (first|exact ⟨⟩|refine ⟨leafC4,?_⟩|((conv=>whnf);first|exact ⟨⟩|refine ⟨leafC4,?_⟩))))
theorem l13Copy (s : Con) (h : ConB s) : CallA S 103 [.agg (conC (.loc 0) (.loc 1) (.loc 2) (.loc 3) (.loc 4) (.loc 5) (.loc 6) s)] ⟨conH false (.loc 0) (.loc 1) (.loc 2) (.loc 3) (.loc 4) (.loc 5) (.loc 6) s [], 7⟩ (Ret1 (.agg (conC (.loc 7) (.loc 8) (.loc 9) (.loc 10) (.loc 11) (.loc 12) (.loc 13) s)) ⟨conH true (.loc 7) (.loc 8) (.loc 9) (.loc 10) (.loc 11) (.loc 12) (.loc 13) s [], 14⟩) := by
  refine .ofC hS _ _ _ Tryz.func103 ?_
  conv => whnf
  obtain ⟨h0, h1⟩ := h
  repeat' (first|refine Seal.mk ?_|(refine wS ?_;(conv=>whnf);fail_if_success show False)|((first|refine opsA_step ?_|refine drawS_go ?_|refine wD (id:=1) (.quick 0 (.quick 3 (.quick 5 (.all (.fork (.fork (.step 1 (.all (.fork (.fork (.step 2 (.all (.fork (.step 4 (.all (.step 6 (.all (.step 7 (.quick 8 (.all (.step 9 .done)))))))) (.step 6 (.all (.fork (.step 4 (.all (.step 7 (.quick 8 (.all (.step 9 .done)))))) (.step 7 (.all (.step 4 (.quick 8 (.all (.step 9 .done)))))))))))) (.step 4 (.all (.fork (.step 2 (.all (.step 6 (.all (.step 7 (.quick 8 (.all (.step 9 .done)))))))) (.step 6 (.all (.step 2 (.all (.step 7 (.quick 8 (.all (.step 9 .done)))))))))))) (.step 6 (.all (.fork (.step 2 (.all (.fork (.step 4 (.all (.step 7 (.quick 8 (.all (.step 9 .done)))))) (.step 7 (.all (.step 4 (.quick 8 (.all (.step 9 .done))))))))) (.step 4 (.all (.step 2 (.all (.step 7 (.quick 8 (.all (.step 9 .done)))))))))))))) (.step 4 (.all (.fork (.step 1 (.all (.fork (.step 2 (.all (.step 6 (.all (.step 7 (.quick 8 (.all (.step 9 .done)))))))) (.step 6 (.all (.step 2 (.all (.step 7 (.quick 8 (.all (.step 9 .done))))))))))) (.step 6 (.all (.step 1 (.all (.step 2 (.all (.step 7 (.quick 8 (.all (.step 9 .done)))))))))))))) (.step 6 (.all (.fork (.step 1 (.all (.fork (.step 2 (.all (.fork (.step 4 (.all (.step 7 (.quick 8 (.all (.step 9 .done)))))) (.step 7 (.all (.step 4 (.quick 8 (.all (.step 9 .done))))))))) (.step 4 (.all (.step 2 (.all (.step 7 (.quick 8 (.all (.step 9 .done))))))))))) (.step 4 (.all (.step 1 (.all (.step 2 (.all (.step 7 (.quick 8 (.all (.step 9 .done)))))))))))))))))) [1, 2, 4, 6, 7, 9] (by kernel_rfl) rfl ?_|apply wL (l6Copy _ _)|apply wL (l11Copy _ _));conv=>whnf)|(intro _;first|omega|conv=>whnf)|(apply And.intro<;>intro _<;>first|omega|conv=>whnf)|refine ⟨Seal.mk ?_,Seal.mk ?_⟩|((first|refine ⟨leafC4,?_⟩|refine Or.inl ⟨leafC4,?_⟩|apply Or.inr|refine ⟨_,rfl,?_⟩|refine ⟨_,⟨rfl,rfl⟩,?_⟩|refine ⟨intE .u8,⟨rfl,fun _=>rfl⟩,?_⟩|refine ⟨_,⟨rfl,rfl,leafC4⟩,?_⟩);conv=>whnf)|with_reducible assumption|exact leafC4|fail)
  all_goals (refine ⟨(),⟨⟩,?_⟩;((try refine wF ?_);repeat' (first|exact ⟨⟩|refine ⟨leafC4,?_⟩|((conv=>whnf);first|exact ⟨⟩|refine ⟨leafC4,?_⟩))))
theorem l13Bad (k : Int) : CallA S 101 [.int .i64 k] ⟨[], 0⟩ (Ret1 (.agg [.int .i64 k, .ff, .nils, .int .i64 0, .int .i64 0, .int .i64 0, .int .i64 0, .int .i64 0, .ff, .nils, .int .i64 0, .int .i64 0, .nils, .nils, .int .i64 0, .int .i64 0, .ff, .int .i64 0, .int .i64 0, .int .i64 0, .ff, .ff, .ff, .nils, .int .i64 0, .int .i64 0, .int .i64 0, .nils, .int .i64 0, .int .i64 0, .int .i64 0, .int .i64 0, .int .i64 0, .int .i64 0, .int .i64 0, .int .i64 0, .int .i64 0, .nils, .nils, .ff, .int .i64 0]) ⟨[], 0⟩) := by
  refine .ofC hS _ _ _ Tryz.func101 ?_
  conv => whnf
  repeat' (first|refine Seal.mk ?_|(refine wS ?_;(conv=>whnf);fail_if_success show False)|((first|refine opsA_step ?_|refine drawS_go ?_);conv=>whnf)|(intro _;first|omega|conv=>whnf)|(apply And.intro<;>intro _<;>first|omega|conv=>whnf)|refine ⟨Seal.mk ?_,Seal.mk ?_⟩|((first|refine ⟨leafC4,?_⟩|refine Or.inl ⟨leafC4,?_⟩|apply Or.inr|refine ⟨_,rfl,?_⟩|refine ⟨_,⟨rfl,rfl⟩,?_⟩|refine ⟨intE .u8,⟨rfl,fun _=>rfl⟩,?_⟩|refine ⟨_,⟨rfl,rfl,leafC4⟩,?_⟩);conv=>whnf)|with_reducible assumption|exact leafC4|fail)
  (refine ⟨(),⟨⟩,?_⟩;((try refine wF ?_);repeat' (first|exact ⟨⟩|refine ⟨leafC4,?_⟩|((conv=>whnf);first|exact ⟨⟩|refine ⟨leafC4,?_⟩))))
end Go.Mu
