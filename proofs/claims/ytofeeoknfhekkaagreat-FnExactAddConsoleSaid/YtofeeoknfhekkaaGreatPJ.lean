/- What is wrong with binds, texts, a keyboard, as the reference tells. -/
import Derived.Test.YtofeeoknfhekkaaGreatPH
import Derived.Test.YtofeeoknfhekkaaGreatPF
import Derived.Test.YtofeeoknfhekkaaGreatPI
set_option linter.unusedSimpArgs false
set_option linter.unusedVariables false
set_option linter.constructorNameAsVariable false
namespace Go.Mu
open Go Go.Vm Go.RowKit Go.Proofs
attribute [local irreducible] wpA opsA stillA drawA drawS
set_option maxRecDepth 20000
set_option maxHeartbeats 4000000

theorem l8Value (k v : Int) (hk : 0 ≤ k ∧ k ≤ 6) : CallA S 161 [.ptr (.loc 0) 2 none 0] ⟨[⟨.loc 0, false, .raw [.int .i64 k, .int .i64 v]⟩], 1⟩ (Ret1 (.prop (symP k v)) ⟨[], 1⟩) := by
  refine .ofC hS _ _ _ Tryz.func161 ?_
  conv => whnf
  repeat' (first|refine Seal.mk ?_|(refine wS ?_;(conv=>whnf);fail_if_success show False)|((first|refine opsA_step ?_|refine drawS_go ?_|apply wL (l1Char _)|apply wL (l1In _ _ _));conv=>whnf)|(intro _;first|omega|conv=>whnf)|(apply And.intro<;>intro _<;>first|omega|conv=>whnf)|refine ⟨Seal.mk ?_,Seal.mk ?_⟩|((first|(apply And.intro;focus exact leaf)|(apply Or.inl;apply And.intro;focus exact leaf)|apply Or.inr|refine ⟨_,rfl,?_⟩|refine ⟨_,⟨rfl,rfl⟩,?_⟩|refine ⟨intE .u8,⟨rfl,fun _=>rfl⟩,?_⟩|(refine Exists.intro _ (And.intro (And.intro rfl (And.intro rfl ?_)) ?_);focus exact leaf));conv=>whnf)|with_reducible assumption|((fail_if_success refine Exists.intro ?_ ?_);exact leaf)|fail)
  all_goals (unfold symP; (refine ⟨(),⟨⟩,?_⟩;((try refine wF ?_);repeat' (first|exact ⟨⟩|(apply And.intro;focus exact leaf)|((conv=>whnf);first|exact ⟨⟩|(apply And.intro;focus exact leaf))|fail))))
theorem l8Sym (k v : Int) : CallA S 110 [.ptr (.loc 0) 2 none 0] ⟨[⟨.loc 0, false, .raw [.int .i64 k, .int .i64 v]⟩], 1⟩ (Ret1 (.int .i64 (symF k v)) ⟨[], 1⟩) := by
  refine .ofC hS _ _ _ Tryz.func110 ?_
  conv => whnf
  repeat' (first|refine Seal.mk ?_|(refine wS ?_;(conv=>whnf);fail_if_success show False)|((first|refine opsA_step ?_|refine drawS_go ?_|apply wL (l1In _ _ _)|apply wL (l8Value k v (by omega)));conv=>whnf)|(intro _;first|omega|conv=>whnf)|(apply And.intro<;>intro _<;>first|omega|conv=>whnf)|refine ⟨Seal.mk ?_,Seal.mk ?_⟩|((first|(apply And.intro;focus exact leaf)|(apply Or.inl;apply And.intro;focus exact leaf)|apply Or.inr|refine ⟨_,rfl,?_⟩|refine ⟨_,⟨rfl,rfl⟩,?_⟩|refine ⟨intE .u8,⟨rfl,fun _=>rfl⟩,?_⟩|(refine Exists.intro _ (And.intro (And.intro rfl (And.intro rfl ?_)) ?_);focus exact leaf));conv=>whnf)|with_reducible assumption|((fail_if_success refine Exists.intro ?_ ?_);exact leaf)|fail)
  all_goals (refine ⟨(), trivial, ?_⟩; (try refine FitsT.now hS ?_); (conv => whnf); apply And.intro; (case right => (repeat' (first|exact ⟨⟩|(apply And.intro;focus exact leaf)|((conv=>whnf);first|exact ⟨⟩|(apply And.intro;focus exact leaf))|fail))))
  all_goals (unfold symF; by_cases q : symP k v <;> by_cases r : 0 ≤ k ∧ k ≤ 6 <;> simp_all)
theorem l8Key (k m : Int) : CallA S 109 [.int .i64 k, .int .i64 m] ⟨[], 0⟩ (Ret1 (.prop ((1 ≤ k ∧ k ≤ 40) ∧ 0 ≤ m ∧ m ≤ 7)) ⟨[], 0⟩) := by
  refine .ofC hS _ _ _ Tryz.func109 ?_
  conv => whnf
  repeat' (first|refine Seal.mk ?_|(refine wS ?_;(conv=>whnf);fail_if_success show False)|((first|refine opsA_step ?_|refine drawS_go ?_|apply wL (l1In _ _ _));conv=>whnf)|(intro _;first|omega|conv=>whnf)|(apply And.intro<;>intro _<;>first|omega|conv=>whnf)|refine ⟨Seal.mk ?_,Seal.mk ?_⟩|((first|(apply And.intro;focus exact leaf)|(apply Or.inl;apply And.intro;focus exact leaf)|apply Or.inr|refine ⟨_,rfl,?_⟩|refine ⟨_,⟨rfl,rfl⟩,?_⟩|refine ⟨intE .u8,⟨rfl,fun _=>rfl⟩,?_⟩|(refine Exists.intro _ (And.intro (And.intro rfl (And.intro rfl ?_)) ?_);focus exact leaf));conv=>whnf)|with_reducible assumption|((fail_if_success refine Exists.intro ?_ ?_);exact leaf)|fail)
  all_goals (refine ⟨(),⟨⟩,?_⟩;((try refine wF ?_);repeat' (first|exact ⟨⟩|(apply And.intro;focus exact leaf)|((conv=>whnf);first|exact ⟨⟩|(apply And.intro;focus exact leaf))|fail)))
theorem l8Ahead (a b : Qd) : CallA S 111 [.ptr (.loc 0) 4 none 0, .ptr (.loc 1) 4 none 0] ⟨[⟨.loc 0, false, .raw [.int .i64 a.1, .int .i64 a.2.1, .int .i64 a.2.2.1, .int .i64 a.2.2.2]⟩, ⟨.loc 1, false, .raw [.int .i64 b.1, .int .i64 b.2.1, .int .i64 b.2.2.1, .int .i64 b.2.2.2]⟩], 2⟩ (Ret1 (.prop (aheadP a b)) ⟨[], 2⟩) := by
  refine .ofC hS _ _ _ Tryz.func111 ?_
  conv => whnf
  repeat' (first|refine Seal.mk ?_|(refine wS ?_;(conv=>whnf);fail_if_success show False)|((first|refine opsA_step ?_|refine drawS_go ?_|refine wD (id:=1) (.quick 0 (.quick 1 (.quick 2 (.quick 4 (.quick 5 (.quick 6 (.stable 3 (.stable 7 (.quick 8 (.quick 9 (.quick 10 (.quick 11 (.quick 12 (.quick 14 (.quick 15 (.quick 16 (.stable 13 (.stable 17 (.quick 18 (.quick 19 (.quick 20 (.quick 21 (.quick 22 (.quick 24 (.quick 25 (.quick 26 (.stable 23 (.stable 27 (.quick 28 (.quick 29 (.quick 30 (.quick 31 .done)))))))))))))))))))))))))))))))) [] (by kernel_rfl) rfl ?_);conv=>whnf)|(intro _;first|omega|conv=>whnf)|(apply And.intro<;>intro _<;>first|omega|conv=>whnf)|refine ⟨Seal.mk ?_,Seal.mk ?_⟩|((first|(apply And.intro;focus exact leaf)|(apply Or.inl;apply And.intro;focus exact leaf)|apply Or.inr|refine ⟨_,rfl,?_⟩|refine ⟨_,⟨rfl,rfl⟩,?_⟩|refine ⟨intE .u8,⟨rfl,fun _=>rfl⟩,?_⟩|(refine Exists.intro _ (And.intro (And.intro rfl (And.intro rfl ?_)) ?_);focus exact leaf));conv=>whnf)|with_reducible assumption|((fail_if_success refine Exists.intro ?_ ?_);exact leaf)|fail)
  all_goals (unfold aheadP; (refine ⟨(),⟨⟩,?_⟩;((try refine wF ?_);repeat' (first|exact ⟨⟩|(apply And.intro;focus exact leaf)|((conv=>whnf);first|exact ⟨⟩|(apply And.intro;focus exact leaf))|fail))))
theorem l9Texts (xs : List (List Int)) (hx : xs.length ≤ 1048576) : CallA S 51 [.sl (.loc 0) 1 none xs.length] ⟨[⟨.loc 0, false, .arr strE xs⟩], 1⟩ (Ret1 (.int .i64 (textsF xs)) ⟨[], 1⟩) := by
  refine .ofC hS _ _ _ Tryz.func51 ?_
  conv => whnf
  repeat' (first|refine Seal.mk ?_|(refine wS ?_;(conv=>whnf);fail_if_success show False)|((first|refine opsA_step ?_|refine drawS_go ?_);conv=>whnf)|(intro _;first|omega|conv=>whnf)|(apply And.intro<;>intro _<;>first|omega|conv=>whnf)|refine ⟨Seal.mk ?_,Seal.mk ?_⟩|((first|(apply And.intro;focus exact leaf)|(apply Or.inl;apply And.intro;focus exact leaf)|apply Or.inr|refine ⟨_,rfl,?_⟩|refine ⟨_,⟨rfl,rfl⟩,?_⟩|refine ⟨intE .u8,⟨rfl,fun _=>rfl⟩,?_⟩|(refine Exists.intro _ (And.intro (And.intro rfl (And.intro rfl ?_)) ?_);focus exact leaf));conv=>whnf)|with_reducible assumption|((fail_if_success refine Exists.intro ?_ ?_);exact leaf)|fail)
  · (refine ⟨(), trivial, ?_⟩; (try refine FitsT.now hS ?_); (conv => whnf); apply And.intro; (case right => (repeat' (first|exact ⟨⟩|(apply And.intro;focus exact leaf)|((conv=>whnf);first|exact ⟨⟩|(apply And.intro;focus exact leaf))|fail))))
    unfold textsF; rw [if_neg (by omega)]
  refine .loop hS (γ := Nat) (fun i => ⟨[(0, .sl (.loc 0) 1 none xs.length), (3, .int .i64 i)],
      ⟨[⟨.loc 0, false, .arr strE xs⟩], 1⟩, 19, 1⟩) (fun i => i ≤ xs.length ∧ ∀ k, k < i → (xs.getD k strE.d).length ≤ 10) (fun i => xs.length - i) 0 ⟨by omega, by omega⟩ ?_ ?_
  · ((try dsimp only);((try refine wF ?_);repeat' (first|exact ⟨⟩|(apply And.intro;focus exact leaf)|((conv=>whnf);first|exact ⟨⟩|(apply And.intro;focus exact leaf))|fail)))
  · intro i hi
    obtain ⟨hi, hk⟩ := hi
    have e0 : xs.getD (i : Int).toNat strE.d = xs.getD i strE.d := rfl
    conv => whnf
    repeat' (first|refine Seal.mk ?_|(refine wS ?_;(conv=>whnf);fail_if_success show False)|((first|refine opsA_step ?_|refine drawS_go ?_);conv=>whnf)|(intro _;first|omega|conv=>whnf)|(apply And.intro<;>intro _<;>first|omega|conv=>whnf)|refine ⟨Seal.mk ?_,Seal.mk ?_⟩|((first|(apply And.intro;focus exact leaf)|(apply Or.inl;apply And.intro;focus exact leaf)|apply Or.inr|refine ⟨_,rfl,?_⟩|refine ⟨_,⟨rfl,rfl⟩,?_⟩|refine ⟨intE .u8,⟨rfl,fun _=>rfl⟩,?_⟩|(refine Exists.intro _ (And.intro (And.intro rfl (And.intro rfl ?_)) ?_);focus exact leaf));conv=>whnf)|with_reducible assumption|((fail_if_success refine Exists.intro ?_ ?_);exact leaf)|fail)
    all_goals (simp only [e0] at *)
    all_goals first
      | (refine ⟨i + 1, ⟨⟨by omega, all_next hk (by omega)⟩, by omega⟩, ?_⟩; ((try dsimp only);((try refine wF ?_);repeat' (first|exact ⟨⟩|(apply And.intro;focus exact leaf)|((conv=>whnf);first|exact ⟨⟩|(apply And.intro;focus exact leaf))|fail))))
      | (have hn : ¬ ∀ k, k < xs.length → (xs.getD k strE.d).length ≤ 10 := fun q => by
           have q1 := q i (by omega)
           omega
         (refine ⟨(), trivial, ?_⟩; (try refine FitsT.now hS ?_); (conv => whnf); apply And.intro; (case right => (repeat' (first|exact ⟨⟩|(apply And.intro;focus exact leaf)|((conv=>whnf);first|exact ⟨⟩|(apply And.intro;focus exact leaf))|fail)))); unfold textsF; rw [if_pos (by omega), if_neg hn])
      | (have hp : ∀ k, k < xs.length → (xs.getD k strE.d).length ≤ 10 := fun k q => hk k (by omega)
         (refine ⟨(), trivial, ?_⟩; (try refine FitsT.now hS ?_); (conv => whnf); apply And.intro; (case right => (repeat' (first|exact ⟨⟩|(apply And.intro;focus exact leaf)|((conv=>whnf);first|exact ⟨⟩|(apply And.intro;focus exact leaf))|fail)))); unfold textsF; rw [if_pos (by omega), if_pos hp])
theorem l9Fault (s : Kbd) (h : KbdB s) : CallA S 108 [.ptr (.loc 0) 3 none 0] ⟨⟨.loc 0, false, .raw (kbdC (.loc 1) s)⟩ :: kbdH false (.loc 1) s [], 2⟩ (Ret1 (.int .i64 (kbdF s)) ⟨[], 2⟩) := by
  refine .ofC hS _ _ _ Tryz.func108 ?_
  conv => whnf
  obtain ⟨h0⟩ := h
  repeat' (first|refine Seal.mk ?_|(refine wS ?_;(conv=>whnf);fail_if_success show False)|((first|refine opsA_step ?_|refine drawS_go ?_|refine wD (id:=7) (.quick 0 (.read 1 (.all (.step 2 (.quick 3 (.quick 4 (.quick 5 (.read 6 (.quick 7 (.quick 8 (.quick 9 (.read 10 (.quick 11 (.quick 12 (.quick 13 (.quick 14 (.read 15 (.quick 16 (.quick 17 (.quick 18 (.quick 19 (.quick 20 (.quick 21 (.quick 22 (.quick 23 (.quick 25 (.quick 26 (.quick 27 (.quick 29 (.quick 30 (.stable 28 (.quick 31 (.quick 32 (.stable 33 (.read 24 (.quick 34 (.quick 35 (.quick 36 .done)))))))))))))))))))))))))))))))))))))) [2] (by kernel_rfl) rfl ?_);conv=>whnf)|(intro _;first|omega|conv=>whnf)|(apply And.intro<;>intro _<;>first|omega|conv=>whnf)|refine ⟨Seal.mk ?_,Seal.mk ?_⟩|((first|(apply And.intro;focus exact leaf)|(apply Or.inl;apply And.intro;focus exact leaf)|apply Or.inr|refine ⟨_,rfl,?_⟩|refine ⟨_,⟨rfl,rfl⟩,?_⟩|refine ⟨intE .u8,⟨rfl,fun _=>rfl⟩,?_⟩|(refine Exists.intro _ (And.intro (And.intro rfl (And.intro rfl ?_)) ?_);focus exact leaf));conv=>whnf)|with_reducible assumption|((fail_if_success refine Exists.intro ?_ ?_);exact leaf)|fail)
  · (refine ⟨(), trivial, ?_⟩; (try refine FitsT.now hS ?_); (conv => whnf); apply And.intro; (case right => (repeat' (first|exact ⟨⟩|(apply And.intro;focus exact leaf)|((conv=>whnf);first|exact ⟨⟩|(apply And.intro;focus exact leaf))|fail))))
    unfold kbdF; rw [if_neg (by omega)]
  refine .loop hS (γ := Nat) (fun i => ⟨[(0, .ptr (.loc 0) 3 none 0), (3, .int .i64 i)],
      ⟨⟨.loc 0, false, .raw (kbdC (.loc 1) s)⟩ :: kbdH false (.loc 1) s [], 2⟩, 70, 2⟩) (fun i => i ≤ s.holds.length ∧ ∀ k, k < i → holdP s.holds k) (fun i => s.holds.length - i) 0 ⟨by omega, by omega⟩ ?_ ?_
  · ((try dsimp only);((try refine wF ?_);repeat' (first|exact ⟨⟩|(apply And.intro;focus exact leaf)|((conv=>whnf);first|exact ⟨⟩|(apply And.intro;focus exact leaf))|fail)))
  · intro i hi
    obtain ⟨hi, hk⟩ := hi
    have e0 : s.holds.getD (i : Int).toNat pairE.d = s.holds.getD i pairE.d := rfl
    have e1 : s.holds.getD ((i : Int) - 1).toNat pairE.d = s.holds.getD (i - 1) pairE.d := by rw [show ((i : Int) - 1).toNat = i - 1 by omega]
    conv => whnf
    repeat' (first|refine Seal.mk ?_|(refine wS ?_;(conv=>whnf);fail_if_success show False)|((first|refine opsA_step ?_|refine drawS_go ?_|refine wD (id:=7) (.quick 0 (.read 1 (.all (.step 2 (.quick 3 (.quick 4 (.quick 5 (.read 6 (.quick 7 (.quick 8 (.quick 9 (.read 10 (.quick 11 (.quick 12 (.quick 13 (.quick 14 (.read 15 (.quick 16 (.quick 17 (.quick 18 (.quick 19 (.quick 20 (.quick 21 (.quick 22 (.quick 23 (.quick 25 (.quick 26 (.quick 27 (.quick 29 (.quick 30 (.stable 28 (.quick 31 (.quick 32 (.stable 33 (.read 24 (.quick 34 (.quick 35 (.quick 36 .done)))))))))))))))))))))))))))))))))))))) [2] (by kernel_rfl) rfl ?_|apply wL (l1In _ _ _));conv=>whnf)|(intro _;first|omega|conv=>whnf)|(apply And.intro<;>intro _<;>first|omega|conv=>whnf)|refine ⟨Seal.mk ?_,Seal.mk ?_⟩|((first|(apply And.intro;focus exact leaf)|(apply Or.inl;apply And.intro;focus exact leaf)|apply Or.inr|refine ⟨_,rfl,?_⟩|refine ⟨_,⟨rfl,rfl⟩,?_⟩|refine ⟨intE .u8,⟨rfl,fun _=>rfl⟩,?_⟩|(refine Exists.intro _ (And.intro (And.intro rfl (And.intro rfl ?_)) ?_);focus exact leaf));conv=>whnf)|with_reducible assumption|((fail_if_success refine Exists.intro ?_ ?_);exact leaf)|fail)
    all_goals (simp only [e0, e1] at *)
    all_goals first
      | (refine ⟨i + 1, ⟨⟨by omega, all_next hk (by unfold holdP; omega)⟩, by omega⟩, ?_⟩; ((try dsimp only);((try refine wF ?_);repeat' (first|exact ⟨⟩|(apply And.intro;focus exact leaf)|((conv=>whnf);first|exact ⟨⟩|(apply And.intro;focus exact leaf))|fail))))
      | (have hn : ¬ ∀ k, k < s.holds.length → holdP s.holds k := fun q => by
           have q1 := q i (by omega)
           unfold holdP at q1; omega
         (refine ⟨(), trivial, ?_⟩; (try refine FitsT.now hS ?_); (conv => whnf); apply And.intro; (case right => (repeat' (first|exact ⟨⟩|(apply And.intro;focus exact leaf)|((conv=>whnf);first|exact ⟨⟩|(apply And.intro;focus exact leaf))|fail)))); unfold kbdF; rw [if_pos (by omega), if_neg fun q => hn q.1])
      | (have hp : ∀ k, k < s.holds.length → holdP s.holds k := fun k q => hk k (by omega)
         (refine ⟨(), trivial, ?_⟩; (try refine FitsT.now hS ?_); (conv => whnf); apply And.intro; (case right => (repeat' (first|exact ⟨⟩|(apply And.intro;focus exact leaf)|((conv=>whnf);first|exact ⟨⟩|(apply And.intro;focus exact leaf))|fail)))); unfold kbdF; rw [if_pos (by omega)]
         by_cases q : 0 ≤ s.accent ∧ s.accent ≤ 3
         · first | (rw [if_pos ⟨hp, q⟩]; done) | omega
         · first | (rw [if_neg fun x => q x.2]; done) | omega)
end Go.Mu

namespace Go.Mu
open Go Go.Vm Go.RowKit Go.Proofs
attribute [local irreducible] wpA opsA stillA drawA drawS
set_option maxRecDepth 20000
set_option maxHeartbeats 4000000

theorem bindF_cases (xs : List Qd) (i : Nat) :
    (¬ ((1 ≤ (xs.getD (i : Int).toNat quadE.d).1 ∧ (xs.getD (i : Int).toNat quadE.d).1 ≤ 40) ∧ 0 ≤ (xs.getD (i : Int).toNat quadE.d).2.1 ∧ (xs.getD (i : Int).toNat quadE.d).2.1 ≤ 7) → bindF xs i = 3) ∧
    (((1 ≤ (xs.getD (i : Int).toNat quadE.d).1 ∧ (xs.getD (i : Int).toNat quadE.d).1 ≤ 40) ∧ 0 ≤ (xs.getD (i : Int).toNat quadE.d).2.1 ∧ (xs.getD (i : Int).toNat quadE.d).2.1 ≤ 7) →
      (¬ symF (xs.getD (i : Int).toNat quadE.d).2.2.1 (xs.getD (i : Int).toNat quadE.d).2.2.2 = 0 → bindF xs i = symF (xs.getD (i : Int).toNat quadE.d).2.2.1 (xs.getD (i : Int).toNat quadE.d).2.2.2) ∧
      (symF (xs.getD (i : Int).toNat quadE.d).2.2.1 (xs.getD (i : Int).toNat quadE.d).2.2.2 = 0 → (¬ (0 : Int) < i → bindF xs i = 0) ∧ ((0 : Int) < i → (aheadP (xs.getD ((i : Int) - 1).toNat quadE.d) (xs.getD (i : Int).toNat quadE.d) → bindF xs i = 0) ∧
        (¬ aheadP (xs.getD ((i : Int) - 1).toNat quadE.d) (xs.getD (i : Int).toNat quadE.d) → bindF xs i = 1)))) := by
  rw [Int.toNat_natCast, show ((i : Int) - 1).toNat = i - 1 by omega]
  unfold bindF bcodeF
  refine ⟨fun h => by rw [if_neg h, if_neg (by omega)], fun h => ⟨fun q => by rw [if_pos h, if_neg q], fun q => ⟨fun r => by rw [if_pos h, if_pos q, if_pos (.inl (by omega))], fun r => ⟨fun w => by rw [if_pos h, if_pos q, if_pos (.inr w)], fun w => by rw [if_pos h, if_pos q, if_neg]; rintro (x | x); omega; exact w x⟩⟩⟩⟩
theorem l8Fault (xs : List Qd) (hx : xs.length ≤ 1048576) : CallA S 50 [.sl (.loc 0) 4 none xs.length] ⟨[⟨.loc 0, false, .arr quadE xs⟩], 1⟩ (Ret1 (.int .i64 (bindsF xs)) ⟨[], 1⟩) := by
  refine .ofC hS _ _ _ Tryz.func50 ?_
  conv => whnf
  repeat' (first|refine Seal.mk ?_|(refine wS ?_;(conv=>whnf);fail_if_success show False)|((first|refine opsA_step ?_|refine drawS_go ?_|refine wD (id:=6) (.quick 0 (.quick 1 (.quick 2 (.quick 3 (.quick 5 (.quick 6 (.quick 7 (.quick 8 (.stable 4 (.stable 9 (.all (.step 10 (.quick 11 .done))))))))))))) [10] (by kernel_rfl) rfl ?_|refine wD (id:=11) (.quick 0 (.quick 1 (.quick 2 (.quick 3 (.quick 4 (.quick 5 (.quick 6 (.quick 7 (.quick 8 (.quick 9 (.all (.step 10 (.quick 11 (.quick 12 .done)))))))))))))) [10] (by kernel_rfl) rfl ?_);conv=>whnf)|(intro _;first|omega|conv=>whnf)|(apply And.intro<;>intro _<;>first|omega|conv=>whnf)|refine ⟨Seal.mk ?_,Seal.mk ?_⟩|((first|(apply And.intro;focus exact leaf)|(apply Or.inl;apply And.intro;focus exact leaf)|apply Or.inr|refine ⟨_,rfl,?_⟩|refine ⟨_,⟨rfl,rfl⟩,?_⟩|refine ⟨intE .u8,⟨rfl,fun _=>rfl⟩,?_⟩|(refine Exists.intro _ (And.intro (And.intro rfl (And.intro rfl ?_)) ?_);focus exact leaf));conv=>whnf)|with_reducible assumption|((fail_if_success refine Exists.intro ?_ ?_);exact leaf)|fail)
  · (refine ⟨(), trivial, ?_⟩; (try refine FitsT.now hS ?_); (conv => whnf); apply And.intro; (case right => (repeat' (first|exact ⟨⟩|(apply And.intro;focus exact leaf)|((conv=>whnf);first|exact ⟨⟩|(apply And.intro;focus exact leaf))|fail))))
    unfold bindsF; rw [if_neg (by omega)]
  refine .loop hS (γ := Nat) (fun i => ⟨[(0, .sl (.loc 0) 4 none xs.length), (3, .int .i64 i)],
      ⟨[⟨.loc 0, false, .arr quadE xs⟩], 1⟩, 47, 1⟩) (fun i => i ≤ xs.length ∧ ∀ k, k < i → bindF xs k = 0) (fun i => xs.length - i) 0 ⟨by omega, by omega⟩ ?_ ?_
  · ((try dsimp only);((try refine wF ?_);repeat' (first|exact ⟨⟩|(apply And.intro;focus exact leaf)|((conv=>whnf);first|exact ⟨⟩|(apply And.intro;focus exact leaf))|fail)))
  · intro i hi
    obtain ⟨hi, hk⟩ := hi
    conv => whnf
    repeat' (first|refine Seal.mk ?_|(refine wS ?_;(conv=>whnf);fail_if_success show False)|((first|refine opsA_step ?_|refine drawS_go ?_|refine wD (id:=6) (.quick 0 (.quick 1 (.quick 2 (.quick 3 (.quick 5 (.quick 6 (.quick 7 (.quick 8 (.stable 4 (.stable 9 (.all (.step 10 (.quick 11 .done))))))))))))) [10] (by kernel_rfl) rfl ?_|refine wD (id:=11) (.quick 0 (.quick 1 (.quick 2 (.quick 3 (.quick 4 (.quick 5 (.quick 6 (.quick 7 (.quick 8 (.quick 9 (.all (.step 10 (.quick 11 (.quick 12 .done)))))))))))))) [10] (by kernel_rfl) rfl ?_|apply wL (l8Key _ _)|apply wL (l8Sym (xs.getD (i : Int).toNat quadE.d).2.2.1 (xs.getD (i : Int).toNat quadE.d).2.2.2)|apply wL (l8Ahead (xs.getD ((i : Int) - 1).toNat quadE.d) (xs.getD (i : Int).toNat quadE.d)));conv=>whnf)|(intro _;first|omega|conv=>whnf)|(apply And.intro<;>intro _<;>first|omega|conv=>whnf)|refine ⟨Seal.mk ?_,Seal.mk ?_⟩|((first|(apply And.intro;focus exact leaf)|(apply Or.inl;apply And.intro;focus exact leaf)|apply Or.inr|refine ⟨_,rfl,?_⟩|refine ⟨_,⟨rfl,rfl⟩,?_⟩|refine ⟨intE .u8,⟨rfl,fun _=>rfl⟩,?_⟩|(refine Exists.intro _ (And.intro (And.intro rfl (And.intro rfl ?_)) ?_);focus exact leaf));conv=>whnf)|with_reducible assumption|((fail_if_success refine Exists.intro ?_ ?_);exact leaf)|fail)
    all_goals obtain ⟨cA, cB⟩ := bindF_cases xs i
    · have e := cA ‹_›
      have e2 := firstF_at (f := bindF xs) (n := xs.length) (i := i) (by omega) hk (by omega)
      (refine ⟨(), trivial, ?_⟩; (try refine FitsT.now hS ?_); (conv => whnf); apply And.intro; (case right => (repeat' (first|exact ⟨⟩|(apply And.intro;focus exact leaf)|((conv=>whnf);first|exact ⟨⟩|(apply And.intro;focus exact leaf))|fail)))); rw [bindsF, if_pos (by omega), e2, e]
    · have e := (cB (Classical.not_not.1 ‹_›)).1 ‹_›
      have e2 := firstF_at (f := bindF xs) (n := xs.length) (i := i) (by omega) hk (by rw [e]; assumption)
      (refine ⟨(), trivial, ?_⟩; (try refine FitsT.now hS ?_); (conv => whnf); apply And.intro; (case right => (repeat' (first|exact ⟨⟩|(apply And.intro;focus exact leaf)|((conv=>whnf);first|exact ⟨⟩|(apply And.intro;focus exact leaf))|fail)))); rw [bindsF, if_pos (by omega), e2, e]
    · have e := (((cB (Classical.not_not.1 ‹_›)).2 (Classical.not_not.1 ‹¬¬ symF _ _ = 0›)).2 (by omega)).2 ‹_›
      have e2 := firstF_at (f := bindF xs) (n := xs.length) (i := i) (by omega) hk (by omega)
      (refine ⟨(), trivial, ?_⟩; (try refine FitsT.now hS ?_); (conv => whnf); apply And.intro; (case right => (repeat' (first|exact ⟨⟩|(apply And.intro;focus exact leaf)|((conv=>whnf);first|exact ⟨⟩|(apply And.intro;focus exact leaf))|fail)))); rw [bindsF, if_pos (by omega), e2, e]
    · have e := (((cB (Classical.not_not.1 ‹_›)).2 (Classical.not_not.1 ‹¬¬ symF _ _ = 0›)).2 (by omega)).1 (Classical.not_not.1 ‹_›)
      refine ⟨i + 1, ⟨⟨by omega, all_next hk e⟩, by omega⟩, ?_⟩
      ((try dsimp only);((try refine wF ?_);repeat' (first|exact ⟨⟩|(apply And.intro;focus exact leaf)|((conv=>whnf);first|exact ⟨⟩|(apply And.intro;focus exact leaf))|fail)))
    · have e := ((cB (Classical.not_not.1 ‹_›)).2 (Classical.not_not.1 ‹¬¬ symF _ _ = 0›)).1 (by omega)
      refine ⟨i + 1, ⟨⟨by omega, all_next hk e⟩, by omega⟩, ?_⟩
      ((try dsimp only);((try refine wF ?_);repeat' (first|exact ⟨⟩|(apply And.intro;focus exact leaf)|((conv=>whnf);first|exact ⟨⟩|(apply And.intro;focus exact leaf))|fail)))
    · (refine ⟨(), trivial, ?_⟩; (try refine FitsT.now hS ?_); (conv => whnf); apply And.intro; (case right => (repeat' (first|exact ⟨⟩|(apply And.intro;focus exact leaf)|((conv=>whnf);first|exact ⟨⟩|(apply And.intro;focus exact leaf))|fail)))); rw [bindsF, if_pos (by omega)]; exact (firstF_none fun k h => hk k (by omega)).symm
theorem l14Waits (s : Mux) (ha : 0 ≤ s.active) (ha' : s.active < s.polite.length) (hp : 0 ≤ s.pending) (hp' : s.pending ≤ 1048576) : CallA S 107 [.ptr (.loc 0) 10 none 0] ⟨⟨.loc 0, false, .raw (muxC (.loc 1) (.loc 2) (.loc 3) (.loc 4) (.loc 5) s)⟩ :: muxH false (.loc 1) (.loc 2) (.loc 3) (.loc 4) (.loc 5) s [], 6⟩ (Ret1 (.prop (waitsP s)) ⟨[], 6⟩) := by
  refine .ofC hS _ _ _ Tryz.func107 ?_
  conv => whnf
  repeat' (first|refine Seal.mk ?_|(refine wS ?_;(conv=>whnf);fail_if_success show False)|((first|refine opsA_step ?_|refine drawS_go ?_|refine wD (id:=1) (.quick 0 (.quick 1 (.quick 2 (.stable 3 (.quick 4 (.quick 5 (.quick 6 (.quick 7 (.quick 8 (.quick 11 (.quick 12 (.quick 13 (.stable 9 (.quick 10 (.stable 14 (.quick 15 (.quick 16 (.quick 17 (.quick 18 (.quick 19 (.quick 21 (.quick 22 (.quick 23 (.stable 20 (.stable 24 (.quick 25 (.stable 26 (.quick 27 (.quick 28 (.quick 29 .done)))))))))))))))))))))))))))))) [] (by kernel_rfl) rfl ?_);conv=>whnf)|(intro _;first|omega|conv=>whnf)|(apply And.intro<;>intro _<;>first|omega|conv=>whnf)|refine ⟨Seal.mk ?_,Seal.mk ?_⟩|((first|(apply And.intro;focus exact leaf)|(apply Or.inl;apply And.intro;focus exact leaf)|apply Or.inr|refine ⟨_,rfl,?_⟩|refine ⟨_,⟨rfl,rfl⟩,?_⟩|refine ⟨intE .u8,⟨rfl,fun _=>rfl⟩,?_⟩|(refine Exists.intro _ (And.intro (And.intro rfl (And.intro rfl ?_)) ?_);focus exact leaf));conv=>whnf)|with_reducible assumption|((fail_if_success refine Exists.intro ?_ ?_);exact leaf)|fail)
  all_goals (refine ⟨(), trivial, ?_⟩; (try refine FitsT.now hS ?_); (conv => whnf); apply And.intro; (case right => (repeat' (first|exact ⟨⟩|(apply And.intro;focus exact leaf)|((conv=>whnf);first|exact ⟨⟩|(apply And.intro;focus exact leaf))|fail))))
  all_goals (unfold waitsP; simp_all)
end Go.Mu
