/- What is wrong with a decoder, a parser, a way, a line: in plain terms, and as the program tells. -/
import Derived.Test.YtofeeoknfhekkaaGreatPB
set_option linter.unusedSimpArgs false
set_option linter.unusedVariables false
set_option linter.constructorNameAsVariable false
namespace Go.Mu
open Go Go.Vm Go.RowKit Go.Proofs
attribute [local irreducible] wpA opsA stillA drawA drawS
set_option maxRecDepth 20000
set_option maxHeartbeats 4000000

def decP (d : Dec) : Prop := (d.left = 0 ∧ d.low = 0 ∧ d.value = 0) ∨ (d.left = 1 ∧ d.low = 128 ∧ 2 ≤ d.value ∧ d.value ≤ 31) ∨ (d.left = 2 ∧ d.low = 2048 ∧ 0 ≤ d.value ∧ d.value ≤ 15) ∨ (d.left = 1 ∧ d.low = 2048 ∧ 0 ≤ d.value ∧ d.value ≤ 1023)
def allParams (l : List Int) : Prop := ∀ k, k < l.length → 0 ≤ l.getD k 0 ∧ l.getD k 0 ≤ 999
def wayP (w : Wy) : Prop := (0 ≤ w.flags ∧ w.flags ≤ 511) ∧ (0 ≤ w.erase ∧ w.erase ≤ 255) ∧ (0 ≤ w.kill ∧ w.kill ≤ 255) ∧ (0 ≤ w.word ∧ w.word ≤ 255) ∧ (0 ≤ w.fin ∧ w.fin ≤ 255) ∧ (0 ≤ w.brk ∧ w.brk ≤ 255) ∧ (0 ≤ w.next ∧ w.next ≤ 255)
open Classical in
noncomputable def decF (d : Dec) : Int := if decP d then 0 else 3
open Classical in
noncomputable def parmsF (l : List Int) : Int := if 1 ≤ l.length ∧ l.length ≤ 6 then (if allParams l then 0 else 3) else 2
open Classical in
noncomputable def parF (p : Par) : Int :=
  if p.mode = 0 ∨ p.mode = 1 then (if p.params.length = 0 ∧ p.priv = false ∧ p.set = 0 then 0 else 1)
  else if p.mode = 3 then (if p.params.length = 0 ∧ p.priv = false then (if 1 ≤ p.set ∧ p.set ≤ 2 then 0 else 3) else 1)
  else if p.mode = 2 then (if p.set = 0 then parmsF p.params else 1) else 1
open Classical in
noncomputable def wayF (w : Wy) : Int := if wayP w then 0 else 3
open Classical in
noncomputable def linF (l : Lin) : Int := if l.ready.length ≤ 40 ∧ l.edit.length + sumC List.length l.ready ≤ 40 then (if 0 ≤ l.breaks ∧ l.breaks ≤ 999 then 0 else 3) else 2
/-- what is wrong with a terminal -/
noncomputable def vtF (v : Vt) : Int := firstNZ [decF v.dec, parF v.par, scrF v.scr]
/-- what is wrong with a console -/
noncomputable def conF (c : Con) : Int := firstNZ [vtF c.vt, wayF c.way, linF c.lin]

theorem decoderFault (d : Dec) : CallA S 196 [.agg (decC d)] ⟨[], 0⟩ (Ret1 (.int .i64 (decF d)) ⟨[], 0⟩) := by
  refine .ofC hS _ _ _ Tryz.func196 ?_
  conv => whnf
  repeat' (first|refine Seal.mk ?_|(refine wS ?_;(conv=>whnf);fail_if_success show False)|((first|refine opsA_step ?_|refine drawS_go ?_|apply wL (inF _ _ _));conv=>whnf)|(intro _;first|omega|conv=>whnf)|(apply And.intro<;>intro _<;>first|omega|conv=>whnf)|refine ⟨Seal.mk ?_,Seal.mk ?_⟩|((first|(apply And.intro;focus exact leaf)|(apply Or.inl;apply And.intro;focus exact leaf)|apply Or.inr|refine ⟨_,rfl,?_⟩|refine ⟨_,⟨rfl,rfl⟩,?_⟩|refine ⟨intE .u8,⟨rfl,fun _=>rfl⟩,?_⟩|(refine Exists.intro _ (And.intro (And.intro rfl (And.intro rfl ?_)) ?_);focus exact leaf));conv=>whnf)|with_reducible assumption|((fail_if_success refine Exists.intro ?_ ?_);exact leaf)|fail)
  all_goals (refine ⟨(), trivial, ?_⟩; (try refine FitsT.now hS ?_); (conv => whnf); apply And.intro; (case right => (repeat' (first|exact ⟨⟩|(apply And.intro;focus exact leaf)|((conv=>whnf);first|exact ⟨⟩|(apply And.intro;focus exact leaf))|fail))))
  all_goals (unfold decF; first | (rw [if_pos (by unfold decP; omega)]; done) | (rw [if_neg (by unfold decP; omega)]; done))
theorem wrongParam (n : Int) : CallA S 287 [.int .i64 n] ⟨[], 0⟩ (Ret1 (.prop (¬ (0 ≤ n ∧ n ≤ 999))) ⟨[], 0⟩) := by
  refine .ofC hS _ _ _ Tryz.func287 ?_
  conv => whnf
  repeat' (first|refine Seal.mk ?_|(refine wS ?_;(conv=>whnf);fail_if_success show False)|((first|refine opsA_step ?_|refine drawS_go ?_|apply wL (inF _ _ _));conv=>whnf)|(intro _;first|omega|conv=>whnf)|(apply And.intro<;>intro _<;>first|omega|conv=>whnf)|refine ⟨Seal.mk ?_,Seal.mk ?_⟩|((first|(apply And.intro;focus exact leaf)|(apply Or.inl;apply And.intro;focus exact leaf)|apply Or.inr|refine ⟨_,rfl,?_⟩|refine ⟨_,⟨rfl,rfl⟩,?_⟩|refine ⟨intE .u8,⟨rfl,fun _=>rfl⟩,?_⟩|(refine Exists.intro _ (And.intro (And.intro rfl (And.intro rfl ?_)) ?_);focus exact leaf));conv=>whnf)|with_reducible assumption|((fail_if_success refine Exists.intro ?_ ?_);exact leaf)|fail)
  all_goals (refine ⟨(),⟨⟩,?_⟩;((try refine wF ?_);repeat' (first|exact ⟨⟩|(apply And.intro;focus exact leaf)|((conv=>whnf);first|exact ⟨⟩|(apply And.intro;focus exact leaf))|fail)))
theorem indexParam (xs : List Int) (hx : xs.length ≤ 1048576) : CallA S 326 [.sl (.loc 0) 1 none xs.length, .fn 287 []] ⟨[⟨.loc 0, false, .arr (intE .i64) xs⟩], 1⟩
    (Ret (γ := Int) (fun g => (g < 0 ↔ allParams xs)) (fun g => .int .i64 g) fun _ => ⟨[], 1⟩) := by
  refine .ofC hS _ _ _ Tryz.func326 ?_
  conv => whnf
  repeat' (first|refine Seal.mk ?_|(refine wS ?_;(conv=>whnf);fail_if_success show False)|((first|refine opsA_step ?_|refine drawS_go ?_);conv=>whnf)|(intro _;first|omega|conv=>whnf)|(apply And.intro<;>intro _<;>first|omega|conv=>whnf)|refine ⟨Seal.mk ?_,Seal.mk ?_⟩|((first|(apply And.intro;focus exact leaf)|(apply Or.inl;apply And.intro;focus exact leaf)|apply Or.inr|refine ⟨_,rfl,?_⟩|refine ⟨_,⟨rfl,rfl⟩,?_⟩|refine ⟨intE .u8,⟨rfl,fun _=>rfl⟩,?_⟩|(refine Exists.intro _ (And.intro (And.intro rfl (And.intro rfl ?_)) ?_);focus exact leaf));conv=>whnf)|with_reducible assumption|((fail_if_success refine Exists.intro ?_ ?_);exact leaf)|fail)
  refine .loop hS (γ := Nat) (fun i => ⟨[(0, .sl (.loc 0) 1 none xs.length), (1, .fn 287 []), (7, .int .i64 xs.length), (8, .int .i64 i)],
      ⟨[⟨.loc 0, false, .arr (intE .i64) xs⟩], 1⟩, 19, 1⟩) (fun i => i ≤ xs.length ∧ ∀ k, k < i → 0 ≤ xs.getD k 0 ∧ xs.getD k 0 ≤ 999) (fun i => xs.length - i) 0 ⟨by omega, by omega⟩ ?_ ?_
  · ((try dsimp only);((try refine wF ?_);repeat' (first|exact ⟨⟩|(apply And.intro;focus exact leaf)|((conv=>whnf);first|exact ⟨⟩|(apply And.intro;focus exact leaf))|fail)))
  · intro i hi
    obtain ⟨hi, hk⟩ := hi
    conv => whnf
    repeat' (first|refine Seal.mk ?_|(refine wS ?_;(conv=>whnf);fail_if_success show False)|((first|refine opsA_step ?_|refine drawS_go ?_|apply wL (wrongParam _));conv=>whnf)|(intro _;first|omega|conv=>whnf)|(apply And.intro<;>intro _<;>first|omega|conv=>whnf)|refine ⟨Seal.mk ?_,Seal.mk ?_⟩|((first|(apply And.intro;focus exact leaf)|(apply Or.inl;apply And.intro;focus exact leaf)|apply Or.inr|refine ⟨_,rfl,?_⟩|refine ⟨_,⟨rfl,rfl⟩,?_⟩|refine ⟨intE .u8,⟨rfl,fun _=>rfl⟩,?_⟩|(refine Exists.intro _ (And.intro (And.intro rfl (And.intro rfl ?_)) ?_);focus exact leaf));conv=>whnf)|with_reducible assumption|((fail_if_success refine Exists.intro ?_ ?_);exact leaf)|fail)
    · refine ⟨(i : Int), ⟨fun h => by omega, fun h => absurd (h i (by omega)) ‹_›⟩, ?_⟩
      ((try dsimp only);((try refine wF ?_);repeat' (first|exact ⟨⟩|(apply And.intro;focus exact leaf)|((conv=>whnf);first|exact ⟨⟩|(apply And.intro;focus exact leaf))|fail)))
    · refine ⟨i + 1, ⟨⟨by omega, fun k hk' => ?_⟩, by omega⟩, ?_⟩
      · rcases Nat.lt_or_eq_of_le (Nat.le_of_lt_succ hk') with q | q
        · exact hk k q
        · subst q; exact Classical.not_not.1 ‹_›
      · ((try dsimp only);((try refine wF ?_);repeat' (first|exact ⟨⟩|(apply And.intro;focus exact leaf)|((conv=>whnf);first|exact ⟨⟩|(apply And.intro;focus exact leaf))|fail)))
    · refine ⟨-1, ⟨fun _ k hk' => hk k (by omega), fun _ => by omega⟩, ?_⟩
      ((try dsimp only);((try refine wF ?_);repeat' (first|exact ⟨⟩|(apply And.intro;focus exact leaf)|((conv=>whnf);first|exact ⟨⟩|(apply And.intro;focus exact leaf))|fail)))
theorem containsParam (xs : List Int) (hx : xs.length ≤ 1048576) : CallA S 286 [.sl (.loc 0) 1 none xs.length, .fn 287 []] ⟨[⟨.loc 0, false, .arr (intE .i64) xs⟩], 1⟩ (Ret1 (.prop (¬ allParams xs)) ⟨[], 1⟩) := by
  refine .ofC hS _ _ _ Tryz.func286 ?_
  conv => whnf
  repeat' (first|refine Seal.mk ?_|(refine wS ?_;(conv=>whnf);fail_if_success show False)|((first|refine opsA_step ?_|refine drawS_go ?_|apply wL (indexParam _ _));conv=>whnf)|(intro _;first|omega|conv=>whnf)|(apply And.intro<;>intro _<;>first|omega|conv=>whnf)|refine ⟨Seal.mk ?_,Seal.mk ?_⟩|((first|(apply And.intro;focus exact leaf)|(apply Or.inl;apply And.intro;focus exact leaf)|apply Or.inr|refine ⟨_,rfl,?_⟩|refine ⟨_,⟨rfl,rfl⟩,?_⟩|refine ⟨intE .u8,⟨rfl,fun _=>rfl⟩,?_⟩|(refine Exists.intro _ (And.intro (And.intro rfl (And.intro rfl ?_)) ?_);focus exact leaf));conv=>whnf)|with_reducible assumption|((fail_if_success refine Exists.intro ?_ ?_);exact leaf)|fail)
  rename_i g h
  (refine ⟨(), trivial, ?_⟩; (try refine FitsT.now hS ?_); (conv => whnf); apply And.intro; (case right => (repeat' (first|exact ⟨⟩|(apply And.intro;focus exact leaf)|((conv=>whnf);first|exact ⟨⟩|(apply And.intro;focus exact leaf))|fail))))
  rw [← h]; omega
theorem paramsCode (xs : List Int) (hx : xs.length ≤ 1048576) : CallA S 248 [.sl (.loc 0) 1 none xs.length] ⟨[⟨.loc 0, false, .arr (intE .i64) xs⟩], 1⟩ (Ret1 (.int .i64 (parmsF xs)) ⟨[], 1⟩) := by
  refine .ofC hS _ _ _ Tryz.func248 ?_
  conv => whnf
  repeat' (first|refine Seal.mk ?_|(refine wS ?_;(conv=>whnf);fail_if_success show False)|((first|refine opsA_step ?_|refine drawS_go ?_|apply wL (inF _ _ _)|apply wL (containsParam _ _)|apply wL (unlessF _ _));conv=>whnf)|(intro _;first|omega|conv=>whnf)|(apply And.intro<;>intro _<;>first|omega|conv=>whnf)|refine ⟨Seal.mk ?_,Seal.mk ?_⟩|((first|(apply And.intro;focus exact leaf)|(apply Or.inl;apply And.intro;focus exact leaf)|apply Or.inr|refine ⟨_,rfl,?_⟩|refine ⟨_,⟨rfl,rfl⟩,?_⟩|refine ⟨intE .u8,⟨rfl,fun _=>rfl⟩,?_⟩|(refine Exists.intro _ (And.intro (And.intro rfl (And.intro rfl ?_)) ?_);focus exact leaf));conv=>whnf)|with_reducible assumption|((fail_if_success refine Exists.intro ?_ ?_);exact leaf)|fail)
  all_goals (refine ⟨(), trivial, ?_⟩; (try refine FitsT.now hS ?_); (conv => whnf); apply And.intro; (case right => (repeat' (first|exact ⟨⟩|(apply And.intro;focus exact leaf)|((conv=>whnf);first|exact ⟨⟩|(apply And.intro;focus exact leaf))|fail))))
  all_goals (unfold parmsF; by_cases q : allParams xs <;> by_cases r : 1 ≤ xs.length ∧ xs.length ≤ 6 <;> simp_all <;> omega)
theorem isSet (n : Int) : CallA S 247 [.int .i64 n] ⟨[], 0⟩ (Ret1 (.prop (1 ≤ n ∧ n ≤ 2)) ⟨[], 0⟩) := by
  refine .ofC hS _ _ _ Tryz.func247 ?_
  conv => whnf
  repeat' (first|refine Seal.mk ?_|(refine wS ?_;(conv=>whnf);fail_if_success show False)|((first|refine opsA_step ?_|refine drawS_go ?_|apply wL (inF _ _ _));conv=>whnf)|(intro _;first|omega|conv=>whnf)|(apply And.intro<;>intro _<;>first|omega|conv=>whnf)|refine ⟨Seal.mk ?_,Seal.mk ?_⟩|((first|(apply And.intro;focus exact leaf)|(apply Or.inl;apply And.intro;focus exact leaf)|apply Or.inr|refine ⟨_,rfl,?_⟩|refine ⟨_,⟨rfl,rfl⟩,?_⟩|refine ⟨intE .u8,⟨rfl,fun _=>rfl⟩,?_⟩|(refine Exists.intro _ (And.intro (And.intro rfl (And.intro rfl ?_)) ?_);focus exact leaf));conv=>whnf)|with_reducible assumption|((fail_if_success refine Exists.intro ?_ ?_);exact leaf)|fail)
  all_goals (refine ⟨(),⟨⟩,?_⟩;((try refine wF ?_);repeat' (first|exact ⟨⟩|(apply And.intro;focus exact leaf)|((conv=>whnf);first|exact ⟨⟩|(apply And.intro;focus exact leaf))|fail)))
theorem parserFault (p : Par) (h : ParB p) : CallA S 197 [.agg (parC (.loc 0) p)] ⟨parH false (.loc 0) p [], 1⟩ (Ret1 (.int .i64 (parF p)) ⟨[], 1⟩) := by
  refine .ofC hS _ _ _ Tryz.func197 ?_
  conv => whnf
  obtain ⟨h0⟩ := h
  repeat' (first|refine Seal.mk ?_|(refine wS ?_;(conv=>whnf);fail_if_success show False)|((first|refine opsA_step ?_|refine drawS_go ?_|refine wD (id:=7) (.quick 0 (.quick 2 (.all (.fork (.step 1 (.all (.step 3 (.all (.step 4 (.all (.step 5 (.all (.step 6 (.all (.step 7 (.quick 8 .done)))))))))))) (.step 3 (.all (.step 1 (.all (.step 4 (.all (.step 5 (.all (.step 6 (.all (.step 7 (.quick 8 .done)))))))))))))))) [1, 3, 4, 5, 6, 7] (by kernel_rfl) rfl ?_|refine wD (id:=9) (.quick 0 (.quick 4 (.all (.fork (.step 1 (.quick 2 (.all (.fork (.step 3 (.all (.step 5 (.all (.step 6 (.all (.step 7 (.all (.step 8 (.quick 9 .done)))))))))) (.step 5 (.all (.step 3 (.all (.step 6 (.all (.step 7 (.all (.step 8 (.quick 9 .done)))))))))))))) (.step 5 (.all (.step 1 (.quick 2 (.all (.step 3 (.all (.step 6 (.all (.step 7 (.all (.step 8 (.quick 9 .done))))))))))))))))) [1, 3, 5, 6, 7, 8] (by kernel_rfl) rfl ?_|apply wL (isSet _)|apply wL (paramsCode _ _)|apply wL (unlessF _ _)|apply wL (first [_, _] (Nat.le_of_ble_eq_true rfl)));conv=>whnf)|(intro _;first|omega|conv=>whnf)|(apply And.intro<;>intro _<;>first|omega|conv=>whnf)|refine ⟨Seal.mk ?_,Seal.mk ?_⟩|((first|(apply And.intro;focus exact leaf)|(apply Or.inl;apply And.intro;focus exact leaf)|apply Or.inr|refine ⟨_,rfl,?_⟩|refine ⟨_,⟨rfl,rfl⟩,?_⟩|refine ⟨intE .u8,⟨rfl,fun _=>rfl⟩,?_⟩|(refine Exists.intro _ (And.intro (And.intro rfl (And.intro rfl ?_)) ?_);focus exact leaf));conv=>whnf)|with_reducible assumption|((fail_if_success refine Exists.intro ?_ ?_);exact leaf)|fail)
  all_goals (refine ⟨(), trivial, ?_⟩; (try refine FitsT.now hS ?_); (conv => whnf); apply And.intro; (case right => (repeat' (first|exact ⟨⟩|(apply And.intro;focus exact leaf)|((conv=>whnf);first|exact ⟨⟩|(apply And.intro;focus exact leaf))|fail))))
  all_goals (unfold parF; cases e : p.priv <;> simp_all [firstNZ] <;> omega)
theorem screenFault' (s : Scr) (h : ScrB s) : CallA S 198 [.agg (scrC (.loc 0) (.loc 1) (.loc 2) (.loc 3) s)] ⟨scrH false (.loc 0) (.loc 1) (.loc 2) (.loc 3) s [], 4⟩ (Ret1 (.int .i64 (scrF s)) ⟨[], 4⟩) := by
  refine CallA.mono (screenFault s h.grid.cells h.grid.back h.tabs h.sets) fun v H' k => ?_
  obtain ⟨g, ⟨rfl, _⟩, h1, h2⟩ := k
  exact ⟨(), trivial, h1, h2⟩
theorem vtFault (s : Vt) (h : VtB s) : CallA S 147 [.agg (vtC (.loc 0) (.loc 1) (.loc 2) (.loc 3) (.loc 4) s)] ⟨vtH false (.loc 0) (.loc 1) (.loc 2) (.loc 3) (.loc 4) s [], 5⟩ (Ret1 (.int .i64 (vtF s)) ⟨[], 5⟩) := by
  refine .ofC hS _ _ _ Tryz.func147 ?_
  conv => whnf
  obtain ⟨h0, h1⟩ := h
  repeat' (first|refine Seal.mk ?_|(refine wS ?_;(conv=>whnf);fail_if_success show False)|((first|refine opsA_step ?_|refine drawS_go ?_|refine wD (id:=1) (.quick 0 (.quick 3 (.quick 6 (.all (.fork (.fork (.step 1 (.all (.fork (.fork (.step 2 (.all (.fork (.step 4 (.all (.fork (.step 5 (.all (.step 7 (.all (.step 8 (.all (.step 9 (.all (.step 10 (.quick 11 .done)))))))))) (.step 7 (.all (.step 5 (.all (.step 8 (.all (.step 9 (.all (.step 10 (.quick 11 .done))))))))))))) (.step 7 (.all (.step 4 (.all (.step 5 (.all (.step 8 (.all (.step 9 (.all (.step 10 (.quick 11 .done))))))))))))))) (.step 4 (.all (.fork (.step 2 (.all (.fork (.step 5 (.all (.step 7 (.all (.step 8 (.all (.step 9 (.all (.step 10 (.quick 11 .done)))))))))) (.step 7 (.all (.step 5 (.all (.step 8 (.all (.step 9 (.all (.step 10 (.quick 11 .done))))))))))))) (.step 7 (.all (.step 2 (.all (.step 5 (.all (.step 8 (.all (.step 9 (.all (.step 10 (.quick 11 .done)))))))))))))))) (.step 7 (.all (.fork (.step 2 (.all (.step 4 (.all (.step 5 (.all (.step 8 (.all (.step 9 (.all (.step 10 (.quick 11 .done)))))))))))) (.step 4 (.all (.step 2 (.all (.step 5 (.all (.step 8 (.all (.step 9 (.all (.step 10 (.quick 11 .done)))))))))))))))))) (.step 4 (.all (.fork (.step 1 (.all (.fork (.step 2 (.all (.fork (.step 5 (.all (.step 7 (.all (.step 8 (.all (.step 9 (.all (.step 10 (.quick 11 .done)))))))))) (.step 7 (.all (.step 5 (.all (.step 8 (.all (.step 9 (.all (.step 10 (.quick 11 .done))))))))))))) (.step 7 (.all (.step 2 (.all (.step 5 (.all (.step 8 (.all (.step 9 (.all (.step 10 (.quick 11 .done))))))))))))))) (.step 7 (.all (.step 1 (.all (.step 2 (.all (.step 5 (.all (.step 8 (.all (.step 9 (.all (.step 10 (.quick 11 .done)))))))))))))))))) (.step 7 (.all (.fork (.step 1 (.all (.fork (.step 2 (.all (.step 4 (.all (.step 5 (.all (.step 8 (.all (.step 9 (.all (.step 10 (.quick 11 .done)))))))))))) (.step 4 (.all (.step 2 (.all (.step 5 (.all (.step 8 (.all (.step 9 (.all (.step 10 (.quick 11 .done))))))))))))))) (.step 4 (.all (.step 1 (.all (.step 2 (.all (.step 5 (.all (.step 8 (.all (.step 9 (.all (.step 10 (.quick 11 .done)))))))))))))))))))))) [1, 2, 4, 5, 7, 8, 9, 10] (by kernel_rfl) rfl ?_|apply wL (decoderFault _)|apply wL (parserFault _ _)|apply wL (screenFault' _ _)|apply wL (first [_, _, _] (Nat.le_of_ble_eq_true rfl)));conv=>whnf)|(intro _;first|omega|conv=>whnf)|(apply And.intro<;>intro _<;>first|omega|conv=>whnf)|refine ⟨Seal.mk ?_,Seal.mk ?_⟩|((first|(apply And.intro;focus exact leaf)|(apply Or.inl;apply And.intro;focus exact leaf)|apply Or.inr|refine ⟨_,rfl,?_⟩|refine ⟨_,⟨rfl,rfl⟩,?_⟩|refine ⟨intE .u8,⟨rfl,fun _=>rfl⟩,?_⟩|(refine Exists.intro _ (And.intro (And.intro rfl (And.intro rfl ?_)) ?_);focus exact leaf));conv=>whnf)|with_reducible assumption|((fail_if_success refine Exists.intro ?_ ?_);exact leaf)|fail)
  all_goals (refine ⟨(),⟨⟩,?_⟩;((try refine wF ?_);repeat' (first|exact ⟨⟩|(apply And.intro;focus exact leaf)|((conv=>whnf);first|exact ⟨⟩|(apply And.intro;focus exact leaf))|fail)))
end Go.Mu
