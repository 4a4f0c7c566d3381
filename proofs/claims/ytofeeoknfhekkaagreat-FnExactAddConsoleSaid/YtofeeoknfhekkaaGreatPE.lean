/- What is wrong with a way, a line, a console, as the program tells. -/
import Derived.Test.YtofeeoknfhekkaaGreatPD
set_option linter.unusedSimpArgs false
set_option linter.unusedVariables false
set_option linter.constructorNameAsVariable false
namespace Go.Mu
open Go Go.Vm Go.RowKit Go.Proofs
attribute [local irreducible] wpA opsA stillA drawA drawS
set_option maxRecDepth 20000
set_option maxHeartbeats 4000000

def wayL (w : Wy) : List Int := [w.flags, w.erase, w.kill, w.word, w.fin, w.brk, w.next]
def okW (k : Nat) (n : Int) : Prop := (0 ≤ n ∧ n ≤ 255) ∨ (k = 0 ∧ 0 ≤ n ∧ n ≤ 511)
theorem wayP_all (w : Wy) : wayP w ↔ ∀ k, k < 7 → okW k ((wayL w).getD k 0) := by
  constructor
  · rintro ⟨h0, h1, h2, h3, h4, h5, h6⟩ k hk
    have : k = 0 ∨ k = 1 ∨ k = 2 ∨ k = 3 ∨ k = 4 ∨ k = 5 ∨ k = 6 := by omega
    rcases this with rfl | rfl | rfl | rfl | rfl | rfl | rfl
    · exact .inr ⟨rfl, h0⟩
    · exact .inl h1
    · exact .inl h2
    · exact .inl h3
    · exact .inl h4
    · exact .inl h5
    · exact .inl h6
  · intro h
    have h0 : okW 0 w.flags := h 0 (by omega)
    have h1 : okW 1 w.erase := h 1 (by omega)
    have h2 : okW 2 w.kill := h 2 (by omega)
    have h3 : okW 3 w.word := h 3 (by omega)
    have h4 : okW 4 w.fin := h 4 (by omega)
    have h5 : okW 5 w.brk := h 5 (by omega)
    have h6 : okW 6 w.next := h 6 (by omega)
    unfold okW at *
    unfold wayP
    omega
theorem all_succ {P : Nat → Prop} {i : Nat} (h : ∀ k, k < i → P k) (h' : P i) : ∀ k, k < i + 1 → P k := fun k hk => by
  rcases Nat.lt_or_eq_of_le (Nat.le_of_lt_succ hk) with q | q
  · exact h k q
  · exact q ▸ h'
theorem numbers (w : Wy) : CallA S 183 [.agg (wyC w)] ⟨[], 0⟩ (Ret1 (.sl (.loc 0) 1 none 7) ⟨[⟨.loc 0, true, .arr (intE .i64) (wayL w)⟩], 1⟩) := by
  refine .ofC hS _ _ _ Tryz.func183 ?_
  conv => whnf
  repeat' (first|refine Seal.mk ?_|(refine wS ?_;(conv=>whnf);fail_if_success show False)|((first|refine opsA_step ?_|refine drawS_go ?_);conv=>whnf)|(intro _;first|omega|conv=>whnf)|(apply And.intro<;>intro _<;>first|omega|conv=>whnf)|refine ⟨Seal.mk ?_,Seal.mk ?_⟩|((first|(apply And.intro;focus exact leaf)|(apply Or.inl;apply And.intro;focus exact leaf)|apply Or.inr|refine ⟨_,rfl,?_⟩|refine ⟨_,⟨rfl,rfl⟩,?_⟩|refine ⟨intE .u8,⟨rfl,fun _=>rfl⟩,?_⟩|(refine Exists.intro _ (And.intro (And.intro rfl (And.intro rfl ?_)) ?_);focus exact leaf));conv=>whnf)|with_reducible assumption|((fail_if_success refine Exists.intro ?_ ?_);exact leaf)|fail)
  (refine ⟨(),⟨⟩,?_⟩;((try refine wF ?_);repeat' (first|exact ⟨⟩|(apply And.intro;focus exact leaf)|((conv=>whnf);first|exact ⟨⟩|(apply And.intro;focus exact leaf))|fail)))
theorem wayFault (w : Wy) : CallA S 140 [.agg (wyC w)] ⟨[], 0⟩ (Ret1 (.int .i64 (wayF w)) ⟨[], 0⟩) := by
  refine .ofC hS _ _ _ Tryz.func140 ?_
  conv => whnf
  have hl : (wayL w).length = 7 := rfl
  repeat' (first|refine Seal.mk ?_|(refine wS ?_;(conv=>whnf);fail_if_success show False)|((first|refine opsA_step ?_|refine drawS_go ?_|apply wL (numbers _));conv=>whnf)|(intro _;first|omega|conv=>whnf)|(apply And.intro<;>intro _<;>first|omega|conv=>whnf)|refine ⟨Seal.mk ?_,Seal.mk ?_⟩|((first|(apply And.intro;focus exact leaf)|(apply Or.inl;apply And.intro;focus exact leaf)|apply Or.inr|refine ⟨_,rfl,?_⟩|refine ⟨_,⟨rfl,rfl⟩,?_⟩|refine ⟨intE .u8,⟨rfl,fun _=>rfl⟩,?_⟩|(refine Exists.intro _ (And.intro (And.intro rfl (And.intro rfl ?_)) ?_);focus exact leaf));conv=>whnf)|with_reducible assumption|((fail_if_success refine Exists.intro ?_ ?_);exact leaf)|fail)
  refine .loop hS (γ := Nat) (fun i => ⟨[(6, .sl (.loc 0) 1 none 7), (7, .int .i64 7), (8, .int .i64 i)],
      ⟨[⟨.loc 0, true, .arr (intE .i64) (wayL w)⟩], 1⟩, 26, 0⟩) (fun i => i ≤ 7 ∧ ∀ k, k < i → okW k ((wayL w).getD k 0)) (fun i => 7 - i) 0 ⟨by omega, by omega⟩ ?_ ?_
  · ((try dsimp only);((try refine wF ?_);repeat' (first|exact ⟨⟩|(apply And.intro;focus exact leaf)|((conv=>whnf);first|exact ⟨⟩|(apply And.intro;focus exact leaf))|fail)))
  · intro i hi
    obtain ⟨hi, hk⟩ := hi
    have hw : i < 7 → wayP w → okW i ((wayL w).getD i 0) := fun h q => (wayP_all w).1 q i h
    have hz : 7 ≤ i → wayP w := fun h => (wayP_all w).2 fun k q => hk k (by omega)
    conv => whnf
    repeat' (first|refine Seal.mk ?_|(refine wS ?_;(conv=>whnf);fail_if_success show False)|((first|refine opsA_step ?_|refine drawS_go ?_|apply wL (inF _ _ _));conv=>whnf)|(intro _;first|omega|conv=>whnf)|(apply And.intro<;>intro _<;>first|omega|conv=>whnf)|refine ⟨Seal.mk ?_,Seal.mk ?_⟩|((first|(apply And.intro;focus exact leaf)|(apply Or.inl;apply And.intro;focus exact leaf)|apply Or.inr|refine ⟨_,rfl,?_⟩|refine ⟨_,⟨rfl,rfl⟩,?_⟩|refine ⟨intE .u8,⟨rfl,fun _=>rfl⟩,?_⟩|(refine Exists.intro _ (And.intro (And.intro rfl (And.intro rfl ?_)) ?_);focus exact leaf));conv=>whnf)|with_reducible assumption|((fail_if_success refine Exists.intro ?_ ?_);exact leaf)|fail)
    all_goals first
      | (refine ⟨i + 1, ⟨⟨by omega, all_succ hk (by show okW i ((wayL w).getD (i : Int).toNat (intE .i64).d); unfold okW; omega)⟩, by omega⟩, ?_⟩; ((try dsimp only);((try refine wF ?_);repeat' (first|exact ⟨⟩|(apply And.intro;focus exact leaf)|((conv=>whnf);first|exact ⟨⟩|(apply And.intro;focus exact leaf))|fail))))
      | (have hn : ¬ wayP w := fun q => by
           have q1 : okW i ((wayL w).getD (i : Int).toNat (intE .i64).d) := hw (by omega) q
           unfold okW at q1; omega
         (refine ⟨(), trivial, ?_⟩; (try refine FitsT.now hS ?_); (conv => whnf); apply And.intro; (case right => (repeat' (first|exact ⟨⟩|(apply And.intro;focus exact leaf)|((conv=>whnf);first|exact ⟨⟩|(apply And.intro;focus exact leaf))|fail)))); unfold wayF; rw [if_neg hn])
      | (have hp : wayP w := hz (by omega)
         (refine ⟨(), trivial, ?_⟩; (try refine FitsT.now hS ?_); (conv => whnf); apply And.intro; (case right => (repeat' (first|exact ⟨⟩|(apply And.intro;focus exact leaf)|((conv=>whnf);first|exact ⟨⟩|(apply And.intro;focus exact leaf))|fail)))); unfold wayF; rw [if_pos hp])
theorem lineSize (s : Lin) (h : LinB s) : CallA S 199 [.agg (linC (.loc 0) (.loc 1) s)] ⟨linH false (.loc 0) (.loc 1) s [], 2⟩ (Ret1 (.int .i64 (s.edit.length + sumC List.length s.ready)) ⟨[], 2⟩) := by
  refine .ofC hS _ _ _ Tryz.func199 ?_
  conv => whnf
  obtain ⟨h0, h1, h2⟩ := h
  have h00 : sumC List.length (s.ready.take 0) = 0 := by simp [sumC]
  repeat' (first|refine Seal.mk ?_|(refine wS ?_;(conv=>whnf);fail_if_success show False)|((first|refine opsA_step ?_|refine drawS_go ?_);conv=>whnf)|(intro _;first|omega|conv=>whnf)|(apply And.intro<;>intro _<;>first|omega|conv=>whnf)|refine ⟨Seal.mk ?_,Seal.mk ?_⟩|((first|(apply And.intro;focus exact leaf)|(apply Or.inl;apply And.intro;focus exact leaf)|apply Or.inr|refine ⟨_,rfl,?_⟩|refine ⟨_,⟨rfl,rfl⟩,?_⟩|refine ⟨intE .u8,⟨rfl,fun _=>rfl⟩,?_⟩|(refine Exists.intro _ (And.intro (And.intro rfl (And.intro rfl ?_)) ?_);focus exact leaf));conv=>whnf)|with_reducible assumption|((fail_if_success refine Exists.intro ?_ ?_);exact leaf)|fail)
  refine .loop hS (γ := Nat) (fun i => ⟨[(3, .int .i64 (s.edit.length + sumC List.length (s.ready.take i))), (10, .sl (.loc 0) 1 none s.ready.length), (11, .int .i64 s.ready.length), (12, .int .i64 i)],
      ⟨[⟨.loc 0, false, bytesN s.ready⟩], 2⟩, 22, 2⟩) (fun i => i ≤ s.ready.length) (fun i => s.ready.length - i) 0 (by omega) ?_ ?_
  · ((try dsimp only);((try refine wF ?_);repeat' (first|exact ⟨⟩|(apply And.intro;focus exact leaf)|((conv=>whnf);first|exact ⟨⟩|(apply And.intro;focus exact leaf))|fail)))
  · intro i hi
    have ha : i < s.ready.length → sumC List.length (s.ready.take (i + 1)) = sumC List.length (s.ready.take i) + (s.ready.getD (i : Int).toNat []).length := fun h => sumC_take h _
    have hb := sumC_le (cnt := List.length) (xs := s.ready) (i + 1)
    have ht : s.ready.take s.ready.length = s.ready := List.take_length
    conv => whnf
    repeat' (first|refine Seal.mk ?_|(refine wS ?_;(conv=>whnf);fail_if_success show False)|((first|refine opsA_step ?_|refine drawS_go ?_);conv=>whnf)|(intro _;first|omega|conv=>whnf)|(apply And.intro<;>intro _<;>first|omega|conv=>whnf)|refine ⟨Seal.mk ?_,Seal.mk ?_⟩|((first|(apply And.intro;focus exact leaf)|(apply Or.inl;apply And.intro;focus exact leaf)|apply Or.inr|refine ⟨_,rfl,?_⟩|refine ⟨_,⟨rfl,rfl⟩,?_⟩|refine ⟨intE .u8,⟨rfl,fun _=>rfl⟩,?_⟩|(refine Exists.intro _ (And.intro (And.intro rfl (And.intro rfl ?_)) ?_);focus exact leaf));conv=>whnf)|with_reducible assumption|((fail_if_success refine Exists.intro ?_ ?_);exact leaf)|fail)
    · refine ⟨i + 1, ⟨by omega, by omega⟩, ?_⟩
      ((try dsimp only);((try refine wF ?_);repeat' (first|exact ⟨⟩|(apply And.intro;focus exact leaf)|((conv=>whnf);first|exact ⟨⟩|(apply And.intro;focus exact leaf))|fail)))
    · have hi : i = s.ready.length := by omega
      have he : sumC List.length (s.ready.take i) = sumC List.length s.ready := by rw [hi, ht]
      (refine ⟨(),⟨⟩,?_⟩;((try refine wF ?_);repeat' (first|exact ⟨⟩|(apply And.intro;focus exact leaf)|((conv=>whnf);first|exact ⟨⟩|(apply And.intro;focus exact leaf))|fail)))
theorem lineFault (s : Lin) (h : LinB s) : CallA S 148 [.agg (linC (.loc 0) (.loc 1) s)] ⟨linH false (.loc 0) (.loc 1) s [], 2⟩ (Ret1 (.int .i64 (linF s)) ⟨[], 2⟩) := by
  refine .ofC hS _ _ _ Tryz.func148 ?_
  conv => whnf
  have h' := h
  obtain ⟨h0, h1, h2⟩ := h'
  repeat' (first|refine Seal.mk ?_|(refine wS ?_;(conv=>whnf);fail_if_success show False)|((first|refine opsA_step ?_|refine drawS_go ?_|refine wD (id:=1) (.quick 0 (.quick 10 (.all (.fork (.step 1 (.quick 2 (.quick 3 (.quick 4 (.all (.fork (.step 5 (.all (.fork (.step 6 (.quick 7 (.quick 8 (.all (.fork (.step 9 (.all (.step 11 (.all (.step 12 (.all (.step 13 (.all (.step 14 (.all (.step 15 (.quick 16 .done)))))))))))) (.step 11 (.all (.step 9 (.all (.step 12 (.all (.step 13 (.all (.step 14 (.all (.step 15 (.quick 16 .done))))))))))))))))) (.step 11 (.all (.step 6 (.quick 7 (.quick 8 (.all (.step 9 (.all (.step 12 (.all (.step 13 (.all (.step 14 (.all (.step 15 (.quick 16 .done))))))))))))))))))) (.step 11 (.all (.step 5 (.all (.step 6 (.quick 7 (.quick 8 (.all (.step 9 (.all (.step 12 (.all (.step 13 (.all (.step 14 (.all (.step 15 (.quick 16 .done)))))))))))))))))))))))) (.step 11 (.all (.step 1 (.quick 2 (.quick 3 (.quick 4 (.all (.step 5 (.all (.step 6 (.quick 7 (.quick 8 (.all (.step 9 (.all (.step 12 (.all (.step 13 (.all (.step 14 (.all (.step 15 (.quick 16 .done))))))))))))))))))))))))))) [1, 5, 6, 9, 11, 12, 13, 14, 15] (by kernel_rfl) rfl ?_|apply wL (lineSize _ _)|apply wL (inF _ _ _)|apply wL (unlessF _ _)|apply wL (first [_, _] (Nat.le_of_ble_eq_true rfl)));conv=>whnf)|(intro _;first|omega|conv=>whnf)|(apply And.intro<;>intro _<;>first|omega|conv=>whnf)|refine ⟨Seal.mk ?_,Seal.mk ?_⟩|((first|(apply And.intro;focus exact leaf)|(apply Or.inl;apply And.intro;focus exact leaf)|apply Or.inr|refine ⟨_,rfl,?_⟩|refine ⟨_,⟨rfl,rfl⟩,?_⟩|refine ⟨intE .u8,⟨rfl,fun _=>rfl⟩,?_⟩|(refine Exists.intro _ (And.intro (And.intro rfl (And.intro rfl ?_)) ?_);focus exact leaf));conv=>whnf)|with_reducible assumption|((fail_if_success refine Exists.intro ?_ ?_);exact leaf)|fail)
  all_goals (refine ⟨(), trivial, ?_⟩; (try refine FitsT.now hS ?_); (conv => whnf); apply And.intro; (case right => (repeat' (first|exact ⟨⟩|(apply And.intro;focus exact leaf)|((conv=>whnf);first|exact ⟨⟩|(apply And.intro;focus exact leaf))|fail))))
  all_goals (unfold linF; by_cases q : s.ready.length ≤ 40 ∧ s.edit.length + sumC List.length s.ready ≤ 40 <;> by_cases r : 0 ≤ s.breaks ∧ s.breaks ≤ 999 <;> simp_all [firstNZ] <;> omega)
theorem conFault (s : Con) (h : ConB s) : CallA S 92 [.agg (conC (.loc 0) (.loc 1) (.loc 2) (.loc 3) (.loc 4) (.loc 5) (.loc 6) s)] ⟨conH false (.loc 0) (.loc 1) (.loc 2) (.loc 3) (.loc 4) (.loc 5) (.loc 6) s [], 7⟩ (Ret1 (.int .i64 (conF s)) ⟨[], 7⟩) := by
  refine .ofC hS _ _ _ Tryz.func92 ?_
  conv => whnf
  obtain ⟨h0, h1⟩ := h
  repeat' (first|refine Seal.mk ?_|(refine wS ?_;(conv=>whnf);fail_if_success show False)|((first|refine opsA_step ?_|refine drawS_go ?_|refine wD (id:=1) (.quick 0 (.quick 3 (.quick 6 (.all (.fork (.fork (.step 1 (.all (.fork (.fork (.step 2 (.all (.fork (.step 4 (.all (.fork (.step 5 (.all (.step 7 (.all (.step 8 (.all (.step 9 (.all (.step 10 (.quick 11 .done)))))))))) (.step 7 (.all (.step 5 (.all (.step 8 (.all (.step 9 (.all (.step 10 (.quick 11 .done))))))))))))) (.step 7 (.all (.step 4 (.all (.step 5 (.all (.step 8 (.all (.step 9 (.all (.step 10 (.quick 11 .done))))))))))))))) (.step 4 (.all (.fork (.step 2 (.all (.fork (.step 5 (.all (.step 7 (.all (.step 8 (.all (.step 9 (.all (.step 10 (.quick 11 .done)))))))))) (.step 7 (.all (.step 5 (.all (.step 8 (.all (.step 9 (.all (.step 10 (.quick 11 .done))))))))))))) (.step 7 (.all (.step 2 (.all (.step 5 (.all (.step 8 (.all (.step 9 (.all (.step 10 (.quick 11 .done)))))))))))))))) (.step 7 (.all (.fork (.step 2 (.all (.step 4 (.all (.step 5 (.all (.step 8 (.all (.step 9 (.all (.step 10 (.quick 11 .done)))))))))))) (.step 4 (.all (.step 2 (.all (.step 5 (.all (.step 8 (.all (.step 9 (.all (.step 10 (.quick 11 .done)))))))))))))))))) (.step 4 (.all (.fork (.step 1 (.all (.fork (.step 2 (.all (.fork (.step 5 (.all (.step 7 (.all (.step 8 (.all (.step 9 (.all (.step 10 (.quick 11 .done)))))))))) (.step 7 (.all (.step 5 (.all (.step 8 (.all (.step 9 (.all (.step 10 (.quick 11 .done))))))))))))) (.step 7 (.all (.step 2 (.all (.step 5 (.all (.step 8 (.all (.step 9 (.all (.step 10 (.quick 11 .done))))))))))))))) (.step 7 (.all (.step 1 (.all (.step 2 (.all (.step 5 (.all (.step 8 (.all (.step 9 (.all (.step 10 (.quick 11 .done)))))))))))))))))) (.step 7 (.all (.fork (.step 1 (.all (.fork (.step 2 (.all (.step 4 (.all (.step 5 (.all (.step 8 (.all (.step 9 (.all (.step 10 (.quick 11 .done)))))))))))) (.step 4 (.all (.step 2 (.all (.step 5 (.all (.step 8 (.all (.step 9 (.all (.step 10 (.quick 11 .done))))))))))))))) (.step 4 (.all (.step 1 (.all (.step 2 (.all (.step 5 (.all (.step 8 (.all (.step 9 (.all (.step 10 (.quick 11 .done)))))))))))))))))))))) [1, 2, 4, 5, 7, 8, 9, 10] (by kernel_rfl) rfl ?_|apply wL (vtFault _ _)|apply wL (wayFault _)|apply wL (lineFault _ _)|apply wL (first [_, _, _] (Nat.le_of_ble_eq_true rfl)));conv=>whnf)|(intro _;first|omega|conv=>whnf)|(apply And.intro<;>intro _<;>first|omega|conv=>whnf)|refine ⟨Seal.mk ?_,Seal.mk ?_⟩|((first|(apply And.intro;focus exact leaf)|(apply Or.inl;apply And.intro;focus exact leaf)|apply Or.inr|refine ⟨_,rfl,?_⟩|refine ⟨_,⟨rfl,rfl⟩,?_⟩|refine ⟨intE .u8,⟨rfl,fun _=>rfl⟩,?_⟩|(refine Exists.intro _ (And.intro (And.intro rfl (And.intro rfl ?_)) ?_);focus exact leaf));conv=>whnf)|with_reducible assumption|((fail_if_success refine Exists.intro ?_ ?_);exact leaf)|fail)
  all_goals (refine ⟨(),⟨⟩,?_⟩;((try refine wF ?_);repeat' (first|exact ⟨⟩|(apply And.intro;focus exact leaf)|((conv=>whnf);first|exact ⟨⟩|(apply And.intro;focus exact leaf))|fail)))
end Go.Mu
