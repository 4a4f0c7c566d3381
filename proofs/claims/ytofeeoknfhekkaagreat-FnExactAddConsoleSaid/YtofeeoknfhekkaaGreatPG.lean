/- What is wrong with binds, as the program tells. -/
import Derived.Test.YtofeeoknfhekkaaGreatPB
set_option linter.unusedSimpArgs false
set_option linter.unusedVariables false
set_option linter.constructorNameAsVariable false
namespace Go.Mu
open Go Go.Vm Go.RowKit Go.Proofs
attribute [local irreducible] wpA opsA stillA drawA drawS
set_option maxRecDepth 20000
set_option maxHeartbeats 4000000

theorem firstF_at {f : Nat → Int} {n i : Nat} (hi : i < n) (h : ∀ k, k < i → f k = 0) (hc : ¬ f i = 0) : firstNZ (mks f n) = f i := by
  have e : ∀ k, k < n → (mks f n).getD k 0 = f k := fun k hk => mks_get hk 0
  rw [firstNZ_at (i := i) (by rw [mks_len]; exact hi) (fun k hk => by rw [e k (by omega)]; exact h k hk) (by rw [e i hi]; exact hc), e i hi]
theorem firstF_none {f : Nat → Int} {n : Nat} (h : ∀ k, k < n → f k = 0) : firstNZ (mks f n) = 0 :=
  firstNZ_none fun k hk => by rw [mks_len] at hk; rw [show (mks f n).getD k 0 = f k from mks_get hk 0]; exact h k hk
theorem all_next {P : Nat → Prop} {i : Nat} (h : ∀ k, k < i → P k) (h' : P i) : ∀ k, k < i + 1 → P k := fun k hk => by
  rcases Nat.lt_or_eq_of_le (Nat.le_of_lt_succ hk) with q | q
  · exact h k q
  · exact q ▸ h'

def keyP (n : Int) : Prop := 1 ≤ n ∧ n ≤ 40
def symP (k v : Int) : Prop := (k = 0 ∧ v = 0) ∨ (k = 4 ∧ v = 0) ∨ (k = 1 ∧ (0 ≤ v ∧ v ≤ 65535) ∧ ¬ (55296 ≤ v ∧ v ≤ 57343)) ∨ (k = 2 ∧ 0 ≤ v ∧ v ≤ 3) ∨ (k = 3 ∧ (v = 1 ∨ v = 2 ∨ v = 4)) ∨ (k = 5 ∧ 1 ≤ v ∧ v ≤ 3) ∨ (k = 6 ∧ 0 ≤ v ∧ v ≤ 2)
def aheadP (a b : Qd) : Prop := a.1 < b.1 ∨ (a.1 = b.1 ∧ a.2.1 < b.2.1)
open Classical in
noncomputable def symF (k v : Int) : Int := if 0 ≤ k ∧ k ≤ 6 then (if symP k v then 0 else 3) else 1
open Classical in
noncomputable def bcodeF (b : Qd) : Int := if (1 ≤ b.1 ∧ b.1 ≤ 40) ∧ 0 ≤ b.2.1 ∧ b.2.1 ≤ 7 then symF b.2.2.1 b.2.2.2 else 3
open Classical in
noncomputable def bindF (l : List Qd) (i : Nat) : Int := if bcodeF (l.getD i quadE.d) = 0 then (if i = 0 ∨ aheadP (l.getD (i - 1) quadE.d) (l.getD i quadE.d) then 0 else 1) else bcodeF (l.getD i quadE.d)
open Classical in
noncomputable def bindsF (l : List Qd) : Int := if l.length ≤ 24 then firstNZ (mks (bindF l) l.length) else 2

theorem isKey (n : Int) : CallA S 149 [.int .i64 n] ⟨[], 0⟩ (Ret1 (.prop (1 ≤ n ∧ n ≤ 40)) ⟨[], 0⟩) := by
  refine .ofC hS _ _ _ Tryz.func149 ?_
  conv => whnf
  repeat' (first|refine Seal.mk ?_|(refine wS ?_;(conv=>whnf);fail_if_success show False)|((first|refine opsA_step ?_|refine drawS_go ?_|apply wL (inF _ _ _));conv=>whnf)|(intro _;first|omega|conv=>whnf)|(apply And.intro<;>intro _<;>first|omega|conv=>whnf)|refine ⟨Seal.mk ?_,Seal.mk ?_⟩|((first|(apply And.intro;focus exact leaf)|(apply Or.inl;apply And.intro;focus exact leaf)|apply Or.inr|refine ⟨_,rfl,?_⟩|refine ⟨_,⟨rfl,rfl⟩,?_⟩|refine ⟨intE .u8,⟨rfl,fun _=>rfl⟩,?_⟩|(refine Exists.intro _ (And.intro (And.intro rfl (And.intro rfl ?_)) ?_);focus exact leaf));conv=>whnf)|with_reducible assumption|((fail_if_success refine Exists.intro ?_ ?_);exact leaf)|fail)
  all_goals (refine ⟨(),⟨⟩,?_⟩;((try refine wF ?_);repeat' (first|exact ⟨⟩|(apply And.intro;focus exact leaf)|((conv=>whnf);first|exact ⟨⟩|(apply And.intro;focus exact leaf))|fail)))
theorem isBit (n : Int) : CallA S 150 [.int .i64 n] ⟨[], 0⟩ (Ret1 (.prop (n = 1 ∨ n = 2 ∨ n = 4)) ⟨[], 0⟩) := by
  refine .ofC hS _ _ _ Tryz.func150 ?_
  conv => whnf
  repeat' (first|refine Seal.mk ?_|(refine wS ?_;(conv=>whnf);fail_if_success show False)|((first|refine opsA_step ?_|refine drawS_go ?_);conv=>whnf)|(intro _;first|omega|conv=>whnf)|(apply And.intro<;>intro _<;>first|omega|conv=>whnf)|refine ⟨Seal.mk ?_,Seal.mk ?_⟩|((first|(apply And.intro;focus exact leaf)|(apply Or.inl;apply And.intro;focus exact leaf)|apply Or.inr|refine ⟨_,rfl,?_⟩|refine ⟨_,⟨rfl,rfl⟩,?_⟩|refine ⟨intE .u8,⟨rfl,fun _=>rfl⟩,?_⟩|(refine Exists.intro _ (And.intro (And.intro rfl (And.intro rfl ?_)) ?_);focus exact leaf));conv=>whnf)|with_reducible assumption|((fail_if_success refine Exists.intro ?_ ?_);exact leaf)|fail)
  all_goals (refine ⟨(),⟨⟩,?_⟩;((try refine wF ?_);repeat' (first|exact ⟨⟩|(apply And.intro;focus exact leaf)|((conv=>whnf);first|exact ⟨⟩|(apply And.intro;focus exact leaf))|fail)))
theorem symFault (k v : Int) : CallA S 167 [.agg [.int .i64 k, .int .i64 v]] ⟨[], 0⟩ (Ret1 (.int .i64 (symF k v)) ⟨[], 0⟩) := by
  refine .ofC hS _ _ _ Tryz.func167 ?_
  conv => whnf
  repeat' (first|refine Seal.mk ?_|(refine wS ?_;(conv=>whnf);fail_if_success show False)|((first|refine opsA_step ?_|refine drawS_go ?_|apply wL (inF _ _ _)|apply wL (isBit _)|apply wL (isChar _)|apply wL (unlessF _ _));conv=>whnf)|(intro _;first|omega|conv=>whnf)|(apply And.intro<;>intro _<;>first|omega|conv=>whnf)|refine ⟨Seal.mk ?_,Seal.mk ?_⟩|((first|(apply And.intro;focus exact leaf)|(apply Or.inl;apply And.intro;focus exact leaf)|apply Or.inr|refine ⟨_,rfl,?_⟩|refine ⟨_,⟨rfl,rfl⟩,?_⟩|refine ⟨intE .u8,⟨rfl,fun _=>rfl⟩,?_⟩|(refine Exists.intro _ (And.intro (And.intro rfl (And.intro rfl ?_)) ?_);focus exact leaf));conv=>whnf)|with_reducible assumption|((fail_if_success refine Exists.intro ?_ ?_);exact leaf)|fail)
  all_goals (refine ⟨(), trivial, ?_⟩; (try refine FitsT.now hS ?_); (conv => whnf); apply And.intro; (case right => (repeat' (first|exact ⟨⟩|(apply And.intro;focus exact leaf)|((conv=>whnf);first|exact ⟨⟩|(apply And.intro;focus exact leaf))|fail))))
  all_goals (unfold symF; first
    | (rw [if_neg (by omega)]; done)
    | (rw [if_pos (by omega)]
       by_cases q : symP k v
       · rw [if_pos q]; unfold symP at q; omega
       · rw [if_neg q]; unfold symP at q; omega))
theorem bindCode (b : Qd) : CallA S 117 [.agg [.int .i64 b.1, .int .i64 b.2.1, .int .i64 b.2.2.1, .int .i64 b.2.2.2]] ⟨[], 0⟩ (Ret1 (.int .i64 (bcodeF b)) ⟨[], 0⟩) := by
  refine .ofC hS _ _ _ Tryz.func117 ?_
  conv => whnf
  repeat' (first|refine Seal.mk ?_|(refine wS ?_;(conv=>whnf);fail_if_success show False)|((first|refine opsA_step ?_|refine drawS_go ?_|refine wD (id:=1) (.quick 0 (.quick 9 (.all (.fork (.step 1 (.all (.fork (.step 2 (.quick 3 (.quick 4 (.all (.fork (.step 5 (.all (.fork (.step 6 (.quick 7 (.all (.fork (.step 8 (.all (.step 10 (.all (.step 11 (.all (.step 12 (.all (.step 13 (.quick 14 .done)))))))))) (.step 10 (.all (.step 8 (.all (.step 11 (.all (.step 12 (.all (.step 13 (.quick 14 .done)))))))))))))) (.step 10 (.all (.step 6 (.quick 7 (.all (.step 8 (.all (.step 11 (.all (.step 12 (.all (.step 13 (.quick 14 .done)))))))))))))))) (.step 10 (.all (.step 5 (.all (.step 6 (.quick 7 (.all (.step 8 (.all (.step 11 (.all (.step 12 (.all (.step 13 (.quick 14 .done)))))))))))))))))))) (.step 10 (.all (.step 2 (.quick 3 (.quick 4 (.all (.step 5 (.all (.step 6 (.quick 7 (.all (.step 8 (.all (.step 11 (.all (.step 12 (.all (.step 13 (.quick 14 .done)))))))))))))))))))))) (.step 10 (.all (.step 1 (.all (.step 2 (.quick 3 (.quick 4 (.all (.step 5 (.all (.step 6 (.quick 7 (.all (.step 8 (.all (.step 11 (.all (.step 12 (.all (.step 13 (.quick 14 .done))))))))))))))))))))))))) [1, 2, 5, 6, 8, 10, 11, 12, 13] (by kernel_rfl) rfl ?_|apply wL (inF _ _ _)|apply wL (isKey _)|apply wL (symFault _ _)|apply wL (unlessF _ _)|apply wL (first [_, _] (Nat.le_of_ble_eq_true rfl)));conv=>whnf)|(intro _;first|omega|conv=>whnf)|(apply And.intro<;>intro _<;>first|omega|conv=>whnf)|refine ⟨Seal.mk ?_,Seal.mk ?_⟩|((first|(apply And.intro;focus exact leaf)|(apply Or.inl;apply And.intro;focus exact leaf)|apply Or.inr|refine ⟨_,rfl,?_⟩|refine ⟨_,⟨rfl,rfl⟩,?_⟩|refine ⟨intE .u8,⟨rfl,fun _=>rfl⟩,?_⟩|(refine Exists.intro _ (And.intro (And.intro rfl (And.intro rfl ?_)) ?_);focus exact leaf));conv=>whnf)|with_reducible assumption|((fail_if_success refine Exists.intro ?_ ?_);exact leaf)|fail)
  all_goals (refine ⟨(), trivial, ?_⟩; (try refine FitsT.now hS ?_); (conv => whnf); apply And.intro; (case right => (repeat' (first|exact ⟨⟩|(apply And.intro;focus exact leaf)|((conv=>whnf);first|exact ⟨⟩|(apply And.intro;focus exact leaf))|fail))))
  all_goals (unfold bcodeF; by_cases q : (1 ≤ b.1 ∧ b.1 ≤ 40) ∧ 0 ≤ b.2.1 ∧ b.2.1 ≤ 7 <;> simp_all [firstNZ] <;> (intros; omega))
theorem isNaN (n : Int) : CallA S 225 [.int .i64 n] ⟨[], 0⟩ (Ret1 .ff ⟨[], 0⟩) := by
  refine .ofC hS _ _ _ Tryz.func225 ?_
  conv => whnf
  repeat' (first|refine Seal.mk ?_|(refine wS ?_;(conv=>whnf);fail_if_success show False)|((first|refine opsA_step ?_|refine drawS_go ?_);conv=>whnf)|(intro _;first|omega|conv=>whnf)|(apply And.intro<;>intro _<;>first|omega|conv=>whnf)|refine ⟨Seal.mk ?_,Seal.mk ?_⟩|((first|(apply And.intro;focus exact leaf)|(apply Or.inl;apply And.intro;focus exact leaf)|apply Or.inr|refine ⟨_,rfl,?_⟩|refine ⟨_,⟨rfl,rfl⟩,?_⟩|refine ⟨intE .u8,⟨rfl,fun _=>rfl⟩,?_⟩|(refine Exists.intro _ (And.intro (And.intro rfl (And.intro rfl ?_)) ?_);focus exact leaf));conv=>whnf)|with_reducible assumption|((fail_if_success refine Exists.intro ?_ ?_);exact leaf)|fail)
  all_goals (refine ⟨(),⟨⟩,?_⟩;((try refine wF ?_);repeat' (first|exact ⟨⟩|(apply And.intro;focus exact leaf)|((conv=>whnf);first|exact ⟨⟩|(apply And.intro;focus exact leaf))|fail)))
theorem cmpCompare (x y : Int) : CallA S 169 [.int .i64 x, .int .i64 y] ⟨[], 0⟩ (Ret (γ := Int) (fun g => (x < y → g = -1) ∧ (y < x → g = 1) ∧ (x = y → g = 0)) (fun g => .int .i64 g) fun _ => ⟨[], 0⟩) := by
  refine .ofC hS _ _ _ Tryz.func169 ?_
  conv => whnf
  repeat' (first|refine Seal.mk ?_|(refine wS ?_;(conv=>whnf);fail_if_success show False)|((first|refine opsA_step ?_|refine drawS_go ?_|apply wL (isNaN _));conv=>whnf)|(intro _;first|omega|conv=>whnf)|(apply And.intro<;>intro _<;>first|omega|conv=>whnf)|refine ⟨Seal.mk ?_,Seal.mk ?_⟩|((first|(apply And.intro;focus exact leaf)|(apply Or.inl;apply And.intro;focus exact leaf)|apply Or.inr|refine ⟨_,rfl,?_⟩|refine ⟨_,⟨rfl,rfl⟩,?_⟩|refine ⟨intE .u8,⟨rfl,fun _=>rfl⟩,?_⟩|(refine Exists.intro _ (And.intro (And.intro rfl (And.intro rfl ?_)) ?_);focus exact leaf));conv=>whnf)|with_reducible assumption|((fail_if_success refine Exists.intro ?_ ?_);exact leaf)|fail)
  · refine ⟨-1, ⟨by omega, by omega, by omega⟩, ?_⟩; ((try refine wF ?_);repeat' (first|exact ⟨⟩|(apply And.intro;focus exact leaf)|((conv=>whnf);first|exact ⟨⟩|(apply And.intro;focus exact leaf))|fail))
  · refine ⟨1, ⟨by omega, by omega, by omega⟩, ?_⟩; ((try refine wF ?_);repeat' (first|exact ⟨⟩|(apply And.intro;focus exact leaf)|((conv=>whnf);first|exact ⟨⟩|(apply And.intro;focus exact leaf))|fail))
  · refine ⟨0, ⟨by omega, by omega, by omega⟩, ?_⟩; ((try refine wF ?_);repeat' (first|exact ⟨⟩|(apply And.intro;focus exact leaf)|((conv=>whnf);first|exact ⟨⟩|(apply And.intro;focus exact leaf))|fail))
theorem cmpOr (cs : List Int) (hx : cs.length ≤ 1048576) : CallA S 168 [.sl (.loc 0) 1 none cs.length] ⟨[⟨.loc 0, false, .arr (intE .i64) cs⟩], 1⟩ (Ret1 (.int .i64 (firstNZ cs)) ⟨[], 1⟩) := by
  refine .ofC hS _ _ _ Tryz.func168 ?_
  conv => whnf
  repeat' (first|refine Seal.mk ?_|(refine wS ?_;(conv=>whnf);fail_if_success show False)|((first|refine opsA_step ?_|refine drawS_go ?_);conv=>whnf)|(intro _;first|omega|conv=>whnf)|(apply And.intro<;>intro _<;>first|omega|conv=>whnf)|refine ⟨Seal.mk ?_,Seal.mk ?_⟩|((first|(apply And.intro;focus exact leaf)|(apply Or.inl;apply And.intro;focus exact leaf)|apply Or.inr|refine ⟨_,rfl,?_⟩|refine ⟨_,⟨rfl,rfl⟩,?_⟩|refine ⟨intE .u8,⟨rfl,fun _=>rfl⟩,?_⟩|(refine Exists.intro _ (And.intro (And.intro rfl (And.intro rfl ?_)) ?_);focus exact leaf));conv=>whnf)|with_reducible assumption|((fail_if_success refine Exists.intro ?_ ?_);exact leaf)|fail)
  refine .loop hS (γ := Nat) (fun i => ⟨[(3, .int .i64 0), (6, .sl (.loc 0) 1 none cs.length), (7, .int .i64 cs.length), (8, .int .i64 i)], ⟨[⟨.loc 0, false, .arr (intE .i64) cs⟩], 1⟩, 18, 1⟩)
      (fun i => i ≤ cs.length ∧ ∀ k, k < i → cs.getD k 0 = 0) (fun i => cs.length - i) 0 ⟨by omega, by omega⟩ ?_ ?_
  · ((try dsimp only);((try refine wF ?_);repeat' (first|exact ⟨⟩|(apply And.intro;focus exact leaf)|((conv=>whnf);first|exact ⟨⟩|(apply And.intro;focus exact leaf))|fail)))
  · intro i hi
    obtain ⟨hi, hk⟩ := hi
    conv => whnf
    repeat' (first|refine Seal.mk ?_|(refine wS ?_;(conv=>whnf);fail_if_success show False)|((first|refine opsA_step ?_|refine drawS_go ?_);conv=>whnf)|(intro _;first|omega|conv=>whnf)|(apply And.intro<;>intro _<;>first|omega|conv=>whnf)|refine ⟨Seal.mk ?_,Seal.mk ?_⟩|((first|(apply And.intro;focus exact leaf)|(apply Or.inl;apply And.intro;focus exact leaf)|apply Or.inr|refine ⟨_,rfl,?_⟩|refine ⟨_,⟨rfl,rfl⟩,?_⟩|refine ⟨intE .u8,⟨rfl,fun _=>rfl⟩,?_⟩|(refine Exists.intro _ (And.intro (And.intro rfl (And.intro rfl ?_)) ?_);focus exact leaf));conv=>whnf)|with_reducible assumption|((fail_if_success refine Exists.intro ?_ ?_);exact leaf)|fail)
    · have he : cs.getD (i : Int).toNat (intE .i64).d = firstNZ cs := (firstNZ_at (by omega) hk ‹_›).symm
      (refine ⟨(),⟨⟩,?_⟩;((try refine wF ?_);repeat' (first|exact ⟨⟩|(apply And.intro;focus exact leaf)|((conv=>whnf);first|exact ⟨⟩|(apply And.intro;focus exact leaf))|fail)))
    · refine ⟨i + 1, ⟨⟨by omega, all_next hk (Classical.not_not.1 ‹_›)⟩, by omega⟩, ?_⟩
      ((try dsimp only);((try refine wF ?_);repeat' (first|exact ⟨⟩|(apply And.intro;focus exact leaf)|((conv=>whnf);first|exact ⟨⟩|(apply And.intro;focus exact leaf))|fail)))
    · have he : 0 = firstNZ cs := (firstNZ_none fun k hk' => hk k (by omega)).symm
      (refine ⟨(),⟨⟩,?_⟩;((try refine wF ?_);repeat' (first|exact ⟨⟩|(apply And.intro;focus exact leaf)|((conv=>whnf);first|exact ⟨⟩|(apply And.intro;focus exact leaf))|fail)))
theorem bindCompare (a b : Qd) : CallA S 118 [.agg [.int .i64 a.1, .int .i64 a.2.1, .int .i64 a.2.2.1, .int .i64 a.2.2.2], .agg [.int .i64 b.1, .int .i64 b.2.1, .int .i64 b.2.2.1, .int .i64 b.2.2.2]] ⟨[], 0⟩
    (Ret (γ := Int) (fun g => g < 0 ↔ aheadP a b) (fun g => .int .i64 g) fun _ => ⟨[], 0⟩) := by
  refine .ofC hS _ _ _ Tryz.func118 ?_
  conv => whnf
  repeat' (first|refine Seal.mk ?_|(refine wS ?_;(conv=>whnf);fail_if_success show False)|((first|refine opsA_step ?_|refine drawS_go ?_|refine wD (id:=1) (.quick 0 (.quick 2 (.quick 5 (.quick 7 (.all (.fork (.fork (.fork (.step 1 (.all (.fork (.fork (.step 3 (.all (.fork (.fork (.step 4 (.all (.fork (.step 6 (.all (.step 8 (.all (.step 9 (.all (.step 10 (.all (.step 11 (.quick 12 .done)))))))))) (.step 8 (.all (.step 6 (.all (.step 9 (.all (.step 10 (.all (.step 11 (.quick 12 .done))))))))))))) (.step 6 (.all (.fork (.step 4 (.all (.step 8 (.all (.step 9 (.all (.step 10 (.all (.step 11 (.quick 12 .done)))))))))) (.step 8 (.all (.step 4 (.all (.step 9 (.all (.step 10 (.all (.step 11 (.quick 12 .done)))))))))))))) (.step 8 (.all (.fork (.step 4 (.all (.step 6 (.all (.step 9 (.all (.step 10 (.all (.step 11 (.quick 12 .done)))))))))) (.step 6 (.all (.step 4 (.all (.step 9 (.all (.step 10 (.all (.step 11 (.quick 12 .done)))))))))))))))) (.step 6 (.all (.fork (.step 3 (.all (.fork (.step 4 (.all (.step 8 (.all (.step 9 (.all (.step 10 (.all (.step 11 (.quick 12 .done)))))))))) (.step 8 (.all (.step 4 (.all (.step 9 (.all (.step 10 (.all (.step 11 (.quick 12 .done))))))))))))) (.step 8 (.all (.step 3 (.all (.step 4 (.all (.step 9 (.all (.step 10 (.all (.step 11 (.quick 12 .done)))))))))))))))) (.step 8 (.all (.fork (.step 3 (.all (.fork (.step 4 (.all (.step 6 (.all (.step 9 (.all (.step 10 (.all (.step 11 (.quick 12 .done)))))))))) (.step 6 (.all (.step 4 (.all (.step 9 (.all (.step 10 (.all (.step 11 (.quick 12 .done))))))))))))) (.step 6 (.all (.step 3 (.all (.step 4 (.all (.step 9 (.all (.step 10 (.all (.step 11 (.quick 12 .done)))))))))))))))))) (.step 3 (.all (.fork (.fork (.step 1 (.all (.fork (.fork (.step 4 (.all (.fork (.step 6 (.all (.step 8 (.all (.step 9 (.all (.step 10 (.all (.step 11 (.quick 12 .done)))))))))) (.step 8 (.all (.step 6 (.all (.step 9 (.all (.step 10 (.all (.step 11 (.quick 12 .done))))))))))))) (.step 6 (.all (.fork (.step 4 (.all (.step 8 (.all (.step 9 (.all (.step 10 (.all (.step 11 (.quick 12 .done)))))))))) (.step 8 (.all (.step 4 (.all (.step 9 (.all (.step 10 (.all (.step 11 (.quick 12 .done)))))))))))))) (.step 8 (.all (.fork (.step 4 (.all (.step 6 (.all (.step 9 (.all (.step 10 (.all (.step 11 (.quick 12 .done)))))))))) (.step 6 (.all (.step 4 (.all (.step 9 (.all (.step 10 (.all (.step 11 (.quick 12 .done)))))))))))))))) (.step 6 (.all (.fork (.step 1 (.all (.fork (.step 4 (.all (.step 8 (.all (.step 9 (.all (.step 10 (.all (.step 11 (.quick 12 .done)))))))))) (.step 8 (.all (.step 4 (.all (.step 9 (.all (.step 10 (.all (.step 11 (.quick 12 .done))))))))))))) (.step 8 (.all (.step 1 (.all (.step 4 (.all (.step 9 (.all (.step 10 (.all (.step 11 (.quick 12 .done)))))))))))))))) (.step 8 (.all (.fork (.step 1 (.all (.fork (.step 4 (.all (.step 6 (.all (.step 9 (.all (.step 10 (.all (.step 11 (.quick 12 .done)))))))))) (.step 6 (.all (.step 4 (.all (.step 9 (.all (.step 10 (.all (.step 11 (.quick 12 .done))))))))))))) (.step 6 (.all (.step 1 (.all (.step 4 (.all (.step 9 (.all (.step 10 (.all (.step 11 (.quick 12 .done))))))))))))))))))) (.step 6 (.all (.fork (.fork (.step 1 (.all (.fork (.step 3 (.all (.fork (.step 4 (.all (.step 8 (.all (.step 9 (.all (.step 10 (.all (.step 11 (.quick 12 .done)))))))))) (.step 8 (.all (.step 4 (.all (.step 9 (.all (.step 10 (.all (.step 11 (.quick 12 .done))))))))))))) (.step 8 (.all (.step 3 (.all (.step 4 (.all (.step 9 (.all (.step 10 (.all (.step 11 (.quick 12 .done))))))))))))))) (.step 3 (.all (.fork (.step 1 (.all (.fork (.step 4 (.all (.step 8 (.all (.step 9 (.all (.step 10 (.all (.step 11 (.quick 12 .done)))))))))) (.step 8 (.all (.step 4 (.all (.step 9 (.all (.step 10 (.all (.step 11 (.quick 12 .done))))))))))))) (.step 8 (.all (.step 1 (.all (.step 4 (.all (.step 9 (.all (.step 10 (.all (.step 11 (.quick 12 .done)))))))))))))))) (.step 8 (.all (.fork (.step 1 (.all (.step 3 (.all (.step 4 (.all (.step 9 (.all (.step 10 (.all (.step 11 (.quick 12 .done)))))))))))) (.step 3 (.all (.step 1 (.all (.step 4 (.all (.step 9 (.all (.step 10 (.all (.step 11 (.quick 12 .done))))))))))))))))))) (.step 8 (.all (.fork (.fork (.step 1 (.all (.fork (.step 3 (.all (.fork (.step 4 (.all (.step 6 (.all (.step 9 (.all (.step 10 (.all (.step 11 (.quick 12 .done)))))))))) (.step 6 (.all (.step 4 (.all (.step 9 (.all (.step 10 (.all (.step 11 (.quick 12 .done))))))))))))) (.step 6 (.all (.step 3 (.all (.step 4 (.all (.step 9 (.all (.step 10 (.all (.step 11 (.quick 12 .done))))))))))))))) (.step 3 (.all (.fork (.step 1 (.all (.fork (.step 4 (.all (.step 6 (.all (.step 9 (.all (.step 10 (.all (.step 11 (.quick 12 .done)))))))))) (.step 6 (.all (.step 4 (.all (.step 9 (.all (.step 10 (.all (.step 11 (.quick 12 .done))))))))))))) (.step 6 (.all (.step 1 (.all (.step 4 (.all (.step 9 (.all (.step 10 (.all (.step 11 (.quick 12 .done)))))))))))))))) (.step 6 (.all (.fork (.step 1 (.all (.step 3 (.all (.step 4 (.all (.step 9 (.all (.step 10 (.all (.step 11 (.quick 12 .done)))))))))))) (.step 3 (.all (.step 1 (.all (.step 4 (.all (.step 9 (.all (.step 10 (.all (.step 11 (.quick 12 .done)))))))))))))))))))))))) [1, 3, 4, 6, 8, 9, 10, 11] (by kernel_rfl) rfl ?_|apply wL (cmpCompare _ _)|apply wL (cmpOr [_, _] (Nat.le_of_ble_eq_true rfl)));conv=>whnf)|(intro _;first|omega|conv=>whnf)|(apply And.intro<;>intro _<;>first|omega|conv=>whnf)|refine ⟨Seal.mk ?_,Seal.mk ?_⟩|((first|(apply And.intro;focus exact leaf)|(apply Or.inl;apply And.intro;focus exact leaf)|apply Or.inr|refine ⟨_,rfl,?_⟩|refine ⟨_,⟨rfl,rfl⟩,?_⟩|refine ⟨intE .u8,⟨rfl,fun _=>rfl⟩,?_⟩|(refine Exists.intro _ (And.intro (And.intro rfl (And.intro rfl ?_)) ?_);focus exact leaf));conv=>whnf)|with_reducible assumption|((fail_if_success refine Exists.intro ?_ ?_);exact leaf)|fail)
  all_goals (apply Exists.intro; apply And.intro; (case right => ((try refine wF ?_);repeat' (first|exact ⟨⟩|(apply And.intro;focus exact leaf)|((conv=>whnf);first|exact ⟨⟩|(apply And.intro;focus exact leaf))|fail))))
  all_goals (unfold aheadP firstNZ firstNZ firstNZ; split <;> (try split) <;> omega)
end Go.Mu

namespace Go.Mu
open Go Go.Vm Go.RowKit Go.Proofs
attribute [local irreducible] wpA opsA stillA drawA drawS
set_option maxRecDepth 20000
set_option maxHeartbeats 4000000

def holdP (l : List (Int × Int)) (i : Nat) : Prop := (1 ≤ (l.getD i pairE.d).1 ∧ (l.getD i pairE.d).1 ≤ 40) ∧ ((l.getD i pairE.d).2 = 1 ∨ (l.getD i pairE.d).2 = 2 ∨ (l.getD i pairE.d).2 = 4) ∧ (i = 0 ∨ (l.getD (i - 1) pairE.d).1 < (l.getD i pairE.d).1)
open Classical in
noncomputable def textsF (l : List (List Int)) : Int := if l.length ≤ 4 then (if ∀ k, k < l.length → (l.getD k strE.d).length ≤ 10 then 0 else 3) else 2
open Classical in
noncomputable def kbdF (k : Kbd) : Int := if k.holds.length ≤ 4 then (if (∀ i, i < k.holds.length → holdP k.holds i) ∧ 0 ≤ k.accent ∧ k.accent ≤ 3 then 0 else 3) else 2

theorem bind_at {xs : List Qd} {i : Nat} {g : Int} {p : Prop} (hp : p ↔ (i = 0 ∨ aheadP (xs.getD (i - 1) quadE.d) (xs.getD i quadE.d))) (hg : (p → g = 0) ∧ (¬ p → g = 1)) : firstNZ [bcodeF (xs.getD (i : Int).toNat quadE.d), g] = bindF xs i := by
  unfold bindF
  rw [Int.toNat_natCast]
  by_cases q : bcodeF (xs.getD i quadE.d) = 0
  · rw [if_pos q]
    by_cases r : p
    · rw [if_pos (hp.1 r), hg.1 r, q]; rfl
    · rw [if_neg fun x => r (hp.2 x), hg.2 r, q]; rfl
  · rw [if_neg q]
    simp only [firstNZ]; rw [if_neg q]
theorem bindsFault (xs : List Qd) (hx : xs.length ≤ 1048576) : CallA S 58 [.sl (.loc 0) 4 none xs.length] ⟨[⟨.loc 0, false, .arr quadE xs⟩], 1⟩ (Ret1 (.int .i64 (bindsF xs)) ⟨[], 1⟩) := by
  refine .ofC hS _ _ _ Tryz.func58 ?_
  conv => whnf
  repeat' (first|refine Seal.mk ?_|(refine wS ?_;(conv=>whnf);fail_if_success show False)|((first|refine opsA_step ?_|refine drawS_go ?_|refine wD (id:=6) (.quick 2 (.quick 3 (.read 0 (.all (.step 1 (.quick 4 (.quick 5 (.quick 6 (.quick 7 (.quick 8 (.stable 9 (.read 10 (.all (.step 11 (.quick 12 (.quick 13 (.all (.step 14 (.all (.step 15 (.all (.step 16 (.quick 17 .done))))))))))))))))))))))) [1, 11, 14, 15, 16] (by kernel_rfl) rfl ?_);conv=>whnf)|(intro _;first|omega|conv=>whnf)|(apply And.intro<;>intro _<;>first|omega|conv=>whnf)|refine ⟨Seal.mk ?_,Seal.mk ?_⟩|((first|(apply And.intro;focus exact leaf)|(apply Or.inl;apply And.intro;focus exact leaf)|apply Or.inr|refine ⟨_,rfl,?_⟩|refine ⟨_,⟨rfl,rfl⟩,?_⟩|refine ⟨intE .u8,⟨rfl,fun _=>rfl⟩,?_⟩|(refine Exists.intro _ (And.intro (And.intro rfl (And.intro rfl ?_)) ?_);focus exact leaf));conv=>whnf)|with_reducible assumption|((fail_if_success refine Exists.intro ?_ ?_);exact leaf)|fail)
  · (refine ⟨(), trivial, ?_⟩; (try refine FitsT.now hS ?_); (conv => whnf); apply And.intro; (case right => (repeat' (first|exact ⟨⟩|(apply And.intro;focus exact leaf)|((conv=>whnf);first|exact ⟨⟩|(apply And.intro;focus exact leaf))|fail))))
    unfold bindsF; rw [if_neg (by omega)]
  refine .loop hS (γ := Nat) (fun i => ⟨[(0, .sl (.loc 0) 4 none xs.length), (9, .sl (.loc 0) 4 none xs.length), (10, .int .i64 xs.length), (11, .int .i64 i)],
      ⟨[⟨.loc 0, false, .arr quadE xs⟩], 1⟩, 37, 1⟩) (fun i => i ≤ xs.length ∧ ∀ k, k < i → bindF xs k = 0) (fun i => xs.length - i) 0 ⟨by omega, by omega⟩ ?_ ?_
  · ((try dsimp only);((try refine wF ?_);repeat' (first|exact ⟨⟩|(apply And.intro;focus exact leaf)|((conv=>whnf);first|exact ⟨⟩|(apply And.intro;focus exact leaf))|fail)))
  · intro i hi
    obtain ⟨hi, hk⟩ := hi
    have he0 : i = 0 → ∀ g : Int, ((True → g = 0) ∧ (¬ True → g = 1)) → firstNZ [bcodeF (xs.getD (i : Int).toNat quadE.d), g] = bindF xs i := fun h g hg => bind_at (p := True) (by simp [h]) hg
    have he1 : ¬ i = 0 → ∀ c g : Int, (c < 0 ↔ aheadP (xs.getD ((i : Int) - 1).toNat quadE.d) (xs.getD (i : Int).toNat quadE.d)) → ((c < 0 → g = 0) ∧ (¬ c < 0 → g = 1)) → firstNZ [bcodeF (xs.getD (i : Int).toNat quadE.d), g] = bindF xs i := fun h c g hc hg => bind_at (p := c < 0) (by rw [hc, Int.toNat_natCast, show ((i : Int) - 1).toNat = i - 1 by omega]; simp [h]) hg
    have he2 : ¬ i = 0 → ∀ g : Int, ((aheadP (xs.getD ((i : Int) - 1).toNat quadE.d) (xs.getD (i : Int).toNat quadE.d) → g = 0) ∧ (¬ aheadP (xs.getD ((i : Int) - 1).toNat quadE.d) (xs.getD (i : Int).toNat quadE.d) → g = 1)) → firstNZ [bcodeF (xs.getD (i : Int).toNat quadE.d), g] = bindF xs i := fun h g hg => bind_at (by rw [Int.toNat_natCast, show ((i : Int) - 1).toNat = i - 1 by omega]; simp [h]) hg
    conv => whnf
    repeat' (first|refine Seal.mk ?_|(refine wS ?_;(conv=>whnf);fail_if_success show False)|((first|refine opsA_step ?_|refine drawS_go ?_|refine wD (id:=6) (.quick 2 (.quick 3 (.read 0 (.all (.step 1 (.quick 4 (.quick 5 (.quick 6 (.quick 7 (.quick 8 (.stable 9 (.read 10 (.all (.step 11 (.quick 12 (.quick 13 (.all (.step 14 (.all (.step 15 (.all (.step 16 (.quick 17 .done))))))))))))))))))))))) [1, 11, 14, 15, 16] (by kernel_rfl) rfl ?_|apply wL (bindCode (xs.getD (i : Int).toNat quadE.d))|apply wL (bindCompare (xs.getD _ quadE.d) (xs.getD (i : Int).toNat quadE.d))|apply wL (unlessF _ _)|apply wL (first [_, _] (Nat.le_of_ble_eq_true rfl)));conv=>whnf)|(intro _;first|omega|conv=>whnf)|(apply And.intro<;>intro _<;>first|omega|conv=>whnf)|refine ⟨Seal.mk ?_,Seal.mk ?_⟩|((first|(apply And.intro;focus exact leaf)|(apply Or.inl;apply And.intro;focus exact leaf)|apply Or.inr|refine ⟨_,rfl,?_⟩|refine ⟨_,⟨rfl,rfl⟩,?_⟩|refine ⟨intE .u8,⟨rfl,fun _=>rfl⟩,?_⟩|(refine Exists.intro _ (And.intro (And.intro rfl (And.intro rfl ?_)) ?_);focus exact leaf));conv=>whnf)|with_reducible assumption|((fail_if_success refine Exists.intro ?_ ?_);exact leaf)|fail)
    all_goals (try first | (have e := he0 (by omega) _ ‹_›) | (have e := he1 (by omega) _ _ ‹_› ‹_›) | (have e := he2 (by omega) _ ‹_›))
    all_goals first
      | (refine ⟨i + 1, ⟨⟨by omega, all_next hk (by rw [← e]; exact Classical.not_not.1 ‹_›)⟩, by omega⟩, ?_⟩; ((try dsimp only);((try refine wF ?_);repeat' (first|exact ⟨⟩|(apply And.intro;focus exact leaf)|((conv=>whnf);first|exact ⟨⟩|(apply And.intro;focus exact leaf))|fail))))
      | (have e2 := firstF_at (f := bindF xs) (n := xs.length) (i := i) (by omega) hk (by rw [← e]; assumption)
         (refine ⟨(), trivial, ?_⟩; (try refine FitsT.now hS ?_); (conv => whnf); apply And.intro; (case right => (repeat' (first|exact ⟨⟩|(apply And.intro;focus exact leaf)|((conv=>whnf);first|exact ⟨⟩|(apply And.intro;focus exact leaf))|fail)))); rw [bindsF, if_pos (by omega), e, e2])
      | ((refine ⟨(), trivial, ?_⟩; (try refine FitsT.now hS ?_); (conv => whnf); apply And.intro; (case right => (repeat' (first|exact ⟨⟩|(apply And.intro;focus exact leaf)|((conv=>whnf);first|exact ⟨⟩|(apply And.intro;focus exact leaf))|fail)))); rw [bindsF, if_pos (by omega)]; exact (firstF_none fun k h => hk k (by omega)).symm)
theorem wrongText (s : List Int) : CallA S 120 [.str s] ⟨[], 0⟩ (Ret1 (.prop (¬ s.length ≤ 10)) ⟨[], 0⟩) := by
  refine .ofC hS _ _ _ Tryz.func120 ?_
  conv => whnf
  repeat' (first|refine Seal.mk ?_|(refine wS ?_;(conv=>whnf);fail_if_success show False)|((first|refine opsA_step ?_|refine drawS_go ?_);conv=>whnf)|(intro _;first|omega|conv=>whnf)|(apply And.intro<;>intro _<;>first|omega|conv=>whnf)|refine ⟨Seal.mk ?_,Seal.mk ?_⟩|((first|(apply And.intro;focus exact leaf)|(apply Or.inl;apply And.intro;focus exact leaf)|apply Or.inr|refine ⟨_,rfl,?_⟩|refine ⟨_,⟨rfl,rfl⟩,?_⟩|refine ⟨intE .u8,⟨rfl,fun _=>rfl⟩,?_⟩|(refine Exists.intro _ (And.intro (And.intro rfl (And.intro rfl ?_)) ?_);focus exact leaf));conv=>whnf)|with_reducible assumption|((fail_if_success refine Exists.intro ?_ ?_);exact leaf)|fail)
  all_goals (refine ⟨(),⟨⟩,?_⟩;((try refine wF ?_);repeat' (first|exact ⟨⟩|(apply And.intro;focus exact leaf)|((conv=>whnf);first|exact ⟨⟩|(apply And.intro;focus exact leaf))|fail)))
theorem indexText (xs : List (List Int)) (hx : xs.length ≤ 1048576) : CallA S 170 [.sl (.loc 0) 1 none xs.length, .fn 120 []] ⟨[⟨.loc 0, false, .arr strE xs⟩], 1⟩
    (Ret (γ := Int) (fun g => (g < 0 ↔ ∀ k, k < xs.length → (xs.getD k strE.d).length ≤ 10)) (fun g => .int .i64 g) fun _ => ⟨[], 1⟩) := by
  refine .ofC hS _ _ _ Tryz.func170 ?_
  conv => whnf
  repeat' (first|refine Seal.mk ?_|(refine wS ?_;(conv=>whnf);fail_if_success show False)|((first|refine opsA_step ?_|refine drawS_go ?_);conv=>whnf)|(intro _;first|omega|conv=>whnf)|(apply And.intro<;>intro _<;>first|omega|conv=>whnf)|refine ⟨Seal.mk ?_,Seal.mk ?_⟩|((first|(apply And.intro;focus exact leaf)|(apply Or.inl;apply And.intro;focus exact leaf)|apply Or.inr|refine ⟨_,rfl,?_⟩|refine ⟨_,⟨rfl,rfl⟩,?_⟩|refine ⟨intE .u8,⟨rfl,fun _=>rfl⟩,?_⟩|(refine Exists.intro _ (And.intro (And.intro rfl (And.intro rfl ?_)) ?_);focus exact leaf));conv=>whnf)|with_reducible assumption|((fail_if_success refine Exists.intro ?_ ?_);exact leaf)|fail)
  refine .loop hS (γ := Nat) (fun i => ⟨[(0, .sl (.loc 0) 1 none xs.length), (1, .fn 120 []), (7, .int .i64 xs.length), (8, .int .i64 i)],
      ⟨[⟨.loc 0, false, .arr strE xs⟩], 1⟩, 19, 1⟩) (fun i => i ≤ xs.length ∧ ∀ k, k < i → (xs.getD k strE.d).length ≤ 10) (fun i => xs.length - i) 0 ⟨by omega, by omega⟩ ?_ ?_
  · ((try dsimp only);((try refine wF ?_);repeat' (first|exact ⟨⟩|(apply And.intro;focus exact leaf)|((conv=>whnf);first|exact ⟨⟩|(apply And.intro;focus exact leaf))|fail)))
  · intro i hi
    obtain ⟨hi, hk⟩ := hi
    conv => whnf
    repeat' (first|refine Seal.mk ?_|(refine wS ?_;(conv=>whnf);fail_if_success show False)|((first|refine opsA_step ?_|refine drawS_go ?_|apply wL (wrongText _));conv=>whnf)|(intro _;first|omega|conv=>whnf)|(apply And.intro<;>intro _<;>first|omega|conv=>whnf)|refine ⟨Seal.mk ?_,Seal.mk ?_⟩|((first|(apply And.intro;focus exact leaf)|(apply Or.inl;apply And.intro;focus exact leaf)|apply Or.inr|refine ⟨_,rfl,?_⟩|refine ⟨_,⟨rfl,rfl⟩,?_⟩|refine ⟨intE .u8,⟨rfl,fun _=>rfl⟩,?_⟩|(refine Exists.intro _ (And.intro (And.intro rfl (And.intro rfl ?_)) ?_);focus exact leaf));conv=>whnf)|with_reducible assumption|((fail_if_success refine Exists.intro ?_ ?_);exact leaf)|fail)
    · refine ⟨(i : Int), ⟨fun h => by omega, fun h => absurd (h i (by omega)) ‹_›⟩, ?_⟩
      ((try dsimp only);((try refine wF ?_);repeat' (first|exact ⟨⟩|(apply And.intro;focus exact leaf)|((conv=>whnf);first|exact ⟨⟩|(apply And.intro;focus exact leaf))|fail)))
    · refine ⟨i + 1, ⟨⟨by omega, all_next hk (Classical.not_not.1 ‹_›)⟩, by omega⟩, ?_⟩
      ((try dsimp only);((try refine wF ?_);repeat' (first|exact ⟨⟩|(apply And.intro;focus exact leaf)|((conv=>whnf);first|exact ⟨⟩|(apply And.intro;focus exact leaf))|fail)))
    · refine ⟨-1, ⟨fun _ k hk' => hk k (by omega), fun _ => by omega⟩, ?_⟩
      ((try dsimp only);((try refine wF ?_);repeat' (first|exact ⟨⟩|(apply And.intro;focus exact leaf)|((conv=>whnf);first|exact ⟨⟩|(apply And.intro;focus exact leaf))|fail)))
theorem containsText (xs : List (List Int)) (hx : xs.length ≤ 1048576) : CallA S 119 [.sl (.loc 0) 1 none xs.length, .fn 120 []] ⟨[⟨.loc 0, false, .arr strE xs⟩], 1⟩ (Ret1 (.prop (¬ ∀ k, k < xs.length → (xs.getD k strE.d).length ≤ 10)) ⟨[], 1⟩) := by
  refine .ofC hS _ _ _ Tryz.func119 ?_
  conv => whnf
  repeat' (first|refine Seal.mk ?_|(refine wS ?_;(conv=>whnf);fail_if_success show False)|((first|refine opsA_step ?_|refine drawS_go ?_|apply wL (indexText _ _));conv=>whnf)|(intro _;first|omega|conv=>whnf)|(apply And.intro<;>intro _<;>first|omega|conv=>whnf)|refine ⟨Seal.mk ?_,Seal.mk ?_⟩|((first|(apply And.intro;focus exact leaf)|(apply Or.inl;apply And.intro;focus exact leaf)|apply Or.inr|refine ⟨_,rfl,?_⟩|refine ⟨_,⟨rfl,rfl⟩,?_⟩|refine ⟨intE .u8,⟨rfl,fun _=>rfl⟩,?_⟩|(refine Exists.intro _ (And.intro (And.intro rfl (And.intro rfl ?_)) ?_);focus exact leaf));conv=>whnf)|with_reducible assumption|((fail_if_success refine Exists.intro ?_ ?_);exact leaf)|fail)
  rename_i g h
  (refine ⟨(), trivial, ?_⟩; (try refine FitsT.now hS ?_); (conv => whnf); apply And.intro; (case right => (repeat' (first|exact ⟨⟩|(apply And.intro;focus exact leaf)|((conv=>whnf);first|exact ⟨⟩|(apply And.intro;focus exact leaf))|fail))))
  rw [← h]; omega
theorem textsFault (xs : List (List Int)) (hx : xs.length ≤ 1048576) : CallA S 59 [.sl (.loc 0) 1 none xs.length] ⟨[⟨.loc 0, false, .arr strE xs⟩], 1⟩ (Ret1 (.int .i64 (textsF xs)) ⟨[], 1⟩) := by
  refine .ofC hS _ _ _ Tryz.func59 ?_
  conv => whnf
  repeat' (first|refine Seal.mk ?_|(refine wS ?_;(conv=>whnf);fail_if_success show False)|((first|refine opsA_step ?_|refine drawS_go ?_|apply wL (containsText _ _)|apply wL (unlessF _ _));conv=>whnf)|(intro _;first|omega|conv=>whnf)|(apply And.intro<;>intro _<;>first|omega|conv=>whnf)|refine ⟨Seal.mk ?_,Seal.mk ?_⟩|((first|(apply And.intro;focus exact leaf)|(apply Or.inl;apply And.intro;focus exact leaf)|apply Or.inr|refine ⟨_,rfl,?_⟩|refine ⟨_,⟨rfl,rfl⟩,?_⟩|refine ⟨intE .u8,⟨rfl,fun _=>rfl⟩,?_⟩|(refine Exists.intro _ (And.intro (And.intro rfl (And.intro rfl ?_)) ?_);focus exact leaf));conv=>whnf)|with_reducible assumption|((fail_if_success refine Exists.intro ?_ ?_);exact leaf)|fail)
  all_goals (refine ⟨(), trivial, ?_⟩; (try refine FitsT.now hS ?_); (conv => whnf); apply And.intro; (case right => (repeat' (first|exact ⟨⟩|(apply And.intro;focus exact leaf)|((conv=>whnf);first|exact ⟨⟩|(apply And.intro;focus exact leaf))|fail))))
  all_goals unfold textsF
  all_goals first
    | (rw [if_neg (by omega)]; done)
    | (rw [if_pos (by omega)]
       rename_i hg
       by_cases q : ∀ k, k < xs.length → (xs.getD k strE.d).length ≤ 10
       · rw [if_pos q]; exact hg.1 (by first | exact q | exact not_not_intro q)
       · rw [if_neg q]; exact hg.2 (by first | exact q | exact not_not_intro q))
end Go.Mu
