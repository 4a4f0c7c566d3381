/- The law's own functions: texts and muxes marked, results of muxes. -/
import Derived.Test.YtofeeoknfhekkaaGreatLJ
import Derived.Test.YtofeeoknfhekkaaGreatLE
set_option linter.unusedSimpArgs false
set_option linter.unusedVariables false
set_option linter.constructorNameAsVariable false
namespace Go.Mu
open Go Go.Vm Go.RowKit Go.Proofs
attribute [local irreducible] wpA opsA stillA drawA drawS
set_option maxRecDepth 20000
set_option maxHeartbeats 40000000
theorem leafL15 {P : Prop} (h : P := by
  first
  | exact leaf
  | exact PreC.of_eq (mks_set (by omega))
  | exact PreC.of_eq ((set_two (by simp [mks_len]; omega) _ _ _ _).trans (mks_set (f := mkP n) (by omega)))
  | exact PreC.of_eq ((set_four (by simp [mks_len]; omega) _ _ _ _ _).trans (mks_set (f := mkQ n) (by omega)))
  | (simp [mks_len]; omega)
  | fail) : P := h
/-- digits of a number -/
def digs (k : Nat) : List Int := if h : k = 0 then [] else digs (k / 10) ++ [48 + ((k % 10 : Nat) : Int)]
termination_by k
decreasing_by omega
theorem digs_zero : digs 0 = [] := by rw [digs]; simp
theorem digs_pos {k : Nat} (h : 0 < k) : digs k = digs (k / 10) ++ [48 + ((k % 10 : Nat) : Int)] := by rw [digs, dif_neg (by omega)]
theorem digs_len (k : Nat) : (digs k).length ≤ k := by
  induction k using Nat.strongRecOn with
  | ind k ih =>
    by_cases h : k = 0
    · subst h; rw [digs_zero]; simp
    · rw [digs_pos (by omega)]
      have := ih (k / 10) (by omega)
      simp only [List.length_append, List.length_cons, List.length_nil]
      omega
/-- a mark told as a text -/
noncomputable def txtM (k : Int) : List Int := if k ≤ 0 then [109, 48] else 109 :: digs k.toNat
theorem markText (k : Int) (h0 : 0 ≤ k) (h1 : k ≤ 1099511627776) : CallA S 71 [.int .i64 k] ⟨[], 0⟩ (Ret1 (.str (txtM k)) ⟨[], 0⟩) := by
  refine .ofC hS _ _ _ Tryz.func71 ?_
  conv => whnf
  repeat' (first|refine Seal.mk ?_|(refine wS ?_;(conv=>whnf);fail_if_success show False)|((first|refine opsA_step ?_|refine drawS_go ?_);conv=>whnf)|(intro _;first|omega|conv=>whnf)|(apply And.intro<;>intro _<;>first|omega|conv=>whnf)|refine ⟨Seal.mk ?_,Seal.mk ?_⟩|((first|(apply And.intro;focus exact leafL15)|(apply Or.inl;apply And.intro;focus exact leafL15)|apply Or.inr|refine ⟨_,rfl,?_⟩|refine ⟨_,⟨rfl,rfl⟩,?_⟩|refine ⟨intE .u8,⟨rfl,fun _=>rfl⟩,?_⟩|(refine Exists.intro _ (And.intro (And.intro rfl (And.intro rfl ?_)) ?_);focus exact leafL15));conv=>whnf)|with_reducible assumption|((fail_if_success refine Exists.intro ?_ ?_);exact leafL15)|fail)
  · have e : txtM k = [109, 48] := by unfold txtM; rw [if_pos (by omega)]
    rw [e]
    (refine ⟨(),⟨⟩,?_⟩;((try refine wF ?_);repeat' (first|exact ⟨⟩|(apply And.intro;focus exact leafL15)|((conv=>whnf);first|exact ⟨⟩|(apply And.intro;focus exact leafL15))|fail)))
  obtain ⟨K, rfl⟩ := Int.eq_ofNat_of_zero_le h0
  have hK : txtM K = 109 :: digs K := by unfold txtM; rw [if_neg (by omega)]; rfl
  have hlK := digs_len K
  refine .loop hS (γ := Nat × List Int) (fun g => ⟨[(0, .int .i64 g.1), (3, .str g.2)], ⟨[], 0⟩, 20, 0⟩) (fun g => g.1 ≤ K ∧ digs K = digs g.1 ++ g.2) (fun g => g.1) (K, []) ⟨Nat.le_refl _, (List.append_nil _).symm⟩ ?_ ?_
  · ((try dsimp only);((try refine wF ?_);repeat' (first|exact ⟨⟩|(apply And.intro;focus exact leafL15)|((conv=>whnf);first|exact ⟨⟩|(apply And.intro;focus exact leafL15))|fail)))
  · rintro ⟨k, out⟩ ⟨hk, hd⟩
    simp only at hk hd ⊢
    have hlo : out.length ≤ K := by have := congrArg List.length hd; simp only [List.length_append] at this; omega
    conv => whnf
    repeat' (first|refine Seal.mk ?_|(refine wS ?_;(conv=>whnf);fail_if_success show False)|((first|refine opsA_step ?_|refine drawS_go ?_);conv=>whnf)|(intro _;first|omega|conv=>whnf)|(apply And.intro<;>intro _<;>first|omega|conv=>whnf)|refine ⟨Seal.mk ?_,Seal.mk ?_⟩|((first|(apply And.intro;focus exact leafL15)|(apply Or.inl;apply And.intro;focus exact leafL15)|apply Or.inr|refine ⟨_,rfl,?_⟩|refine ⟨_,⟨rfl,rfl⟩,?_⟩|refine ⟨intE .u8,⟨rfl,fun _=>rfl⟩,?_⟩|(refine Exists.intro _ (And.intro (And.intro rfl (And.intro rfl ?_)) ?_);focus exact leafL15));conv=>whnf)|with_reducible assumption|((fail_if_success refine Exists.intro ?_ ?_);exact leafL15)|fail)
    · refine ⟨(k / 10, (48 + (k : Int) % 10) :: out), ⟨⟨by simp only; omega, ?_⟩, by simp only; omega⟩, ?_⟩
      · rw [hd, digs_pos (k := k) (by omega)]
        simp
      · ((try dsimp only);((try refine wF ?_);repeat' (first|exact ⟨⟩|(apply And.intro;focus exact leafL15)|((conv=>whnf);first|exact ⟨⟩|(apply And.intro;focus exact leafL15))|fail)))
    · have e : txtM K = 109 :: out := by rw [hK, hd, show k = 0 by omega, digs_zero, List.nil_append]
      rw [e]
      (refine ⟨(),⟨⟩,?_⟩;((try refine wF ?_);repeat' (first|exact ⟨⟩|(apply And.intro;focus exact leafL15)|((conv=>whnf);first|exact ⟨⟩|(apply And.intro;focus exact leafL15))|fail)))
@[reducible] noncomputable def mkS (n : Int) (i : Nat) : List Int := txtM (n + i)
theorem markStringS (xs : List (List Int)) (hx : xs.length ≤ 1048576) (n : Int) (hn : 0 ≤ n) (hn' : n ≤ 549755813888) : CallA S 25 [.sl (.loc 0) 1 none xs.length, .int .i64 n] ⟨[⟨.loc 0, true, .arr strE xs⟩], 1⟩ (Ret1 (.int .i64 (n + xs.length)) ⟨[⟨.loc 0, true, .arr strE (mks (mkS n) xs.length)⟩], 1⟩) := by
  refine .ofC hS _ _ _ Tryz.func25 ?_
  conv => whnf
  repeat' (first|refine Seal.mk ?_|(refine wS ?_;(conv=>whnf);fail_if_success show False)|((first|refine opsA_step ?_|refine drawS_go ?_);conv=>whnf)|(intro _;first|omega|conv=>whnf)|(apply And.intro<;>intro _<;>first|omega|conv=>whnf)|refine ⟨Seal.mk ?_,Seal.mk ?_⟩|((first|(apply And.intro;focus exact leafL15)|(apply Or.inl;apply And.intro;focus exact leafL15)|apply Or.inr|refine ⟨_,rfl,?_⟩|refine ⟨_,⟨rfl,rfl⟩,?_⟩|refine ⟨intE .u8,⟨rfl,fun _=>rfl⟩,?_⟩|(refine Exists.intro _ (And.intro (And.intro rfl (And.intro rfl ?_)) ?_);focus exact leafL15));conv=>whnf)|with_reducible assumption|((fail_if_success refine Exists.intro ?_ ?_);exact leafL15)|fail)
  refine .loop hS (γ := Nat) (fun i => ⟨[(0, .sl (.loc 0) 1 none xs.length), (1, .int .i64 (n + i)), (5, .int .i64 i)],
    ⟨[⟨.loc 0, true, .arr strE (mks (mkS n) i ++ xs.drop i)⟩], 1⟩, 20, 1⟩) (fun i => i ≤ xs.length) (fun i => xs.length - i) 0 (by omega) ?_ ?_
  · have h0 : mks (mkS n) 0 ++ xs.drop 0 = xs := by simp [mks]
    have h1 := h0.symm
    ((try refine wF ?_);repeat' (first|exact ⟨⟩|(apply And.intro;focus exact leafL15)|((conv=>whnf);first|exact ⟨⟩|(apply And.intro;focus exact leafL15))|fail))
  · intro i hi
    have hl : (mks (mkS n) i ++ xs.drop i).length = xs.length := by simp [mks_len]; omega
    conv => whnf
    repeat' (first|refine Seal.mk ?_|(refine wS ?_;(conv=>whnf);fail_if_success show False)|((first|refine opsA_step ?_|refine drawS_go ?_|apply wL (markText _ _ _));conv=>whnf)|(intro _;first|omega|conv=>whnf)|(apply And.intro<;>intro _<;>first|omega|conv=>whnf)|refine ⟨Seal.mk ?_,Seal.mk ?_⟩|((first|(apply And.intro;focus exact leafL15)|(apply Or.inl;apply And.intro;focus exact leafL15)|apply Or.inr|refine ⟨_,rfl,?_⟩|refine ⟨_,⟨rfl,rfl⟩,?_⟩|refine ⟨intE .u8,⟨rfl,fun _=>rfl⟩,?_⟩|(refine Exists.intro _ (And.intro (And.intro rfl (And.intro rfl ?_)) ?_);focus exact leafL15));conv=>whnf)|with_reducible assumption|((fail_if_success refine Exists.intro ?_ ?_);exact leafL15)|fail)
    · refine ⟨i + 1, ⟨by omega, by omega⟩, ?_⟩
      ((try dsimp only);((try refine wF ?_);repeat' (first|exact ⟨⟩|(apply And.intro;focus exact leafL15)|((conv=>whnf);first|exact ⟨⟩|(apply And.intro;focus exact leafL15))|fail)))
    · have hi : i = xs.length := by omega
      subst hi
      have h0 : mks (mkS n) xs.length ++ xs.drop xs.length = mks (mkS n) xs.length := by simp
      (refine ⟨(),⟨⟩,?_⟩;((try refine wF ?_);repeat' (first|exact ⟨⟩|(apply And.intro;focus exact leafL15)|((conv=>whnf);first|exact ⟨⟩|(apply And.intro;focus exact leafL15))|fail)))
theorem heldStringS (n : Int) (k : Nat) (hk : k ≤ 1048576) (hn : 0 ≤ n) (hn' : n ≤ 549755813888) : CallA S 134 [.sl (.loc 0) 1 none k, .int .i64 n] ⟨[⟨.loc 0, false, .arr strE (mks (mkS n) k)⟩], 1⟩ (Ret1 (.int .i64 (n + k)) ⟨[], 1⟩) := by
  refine .ofC hS _ _ _ Tryz.func134 ?_
  conv => whnf
  repeat' (first|refine Seal.mk ?_|(refine wS ?_;(conv=>whnf);fail_if_success show False)|((first|refine opsA_step ?_|refine drawS_go ?_|refine wD (id:=4) (.quick 0 (.quick 1 (.quick 2 (.quick 4 (.stable 3 (.all (.step 5 (.quick 6 .done)))))))) [5] (by kernel_rfl) rfl ?_);conv=>whnf)|(intro _;first|omega|conv=>whnf)|(apply And.intro<;>intro _<;>first|omega|conv=>whnf)|refine ⟨Seal.mk ?_,Seal.mk ?_⟩|((first|(apply And.intro;focus exact leafL15)|(apply Or.inl;apply And.intro;focus exact leafL15)|apply Or.inr|refine ⟨_,rfl,?_⟩|refine ⟨_,⟨rfl,rfl⟩,?_⟩|refine ⟨intE .u8,⟨rfl,fun _=>rfl⟩,?_⟩|(refine Exists.intro _ (And.intro (And.intro rfl (And.intro rfl ?_)) ?_);focus exact leafL15));conv=>whnf)|with_reducible assumption|((fail_if_success refine Exists.intro ?_ ?_);exact leafL15)|fail)
  refine .loop hS (γ := Nat) (fun i => ⟨[(0, .sl (.loc 0) 1 none k), (1, .int .i64 (n + i)), (5, .int .i64 i)],
    ⟨[⟨.loc 0, false, .arr strE (mks (mkS n) k)⟩], 1⟩, 22, 1⟩) (fun i => i ≤ k) (fun i => k - i) 0 (by omega) ?_ ?_
  · ((try refine wF ?_);repeat' (first|exact ⟨⟩|(apply And.intro;focus exact leafL15)|((conv=>whnf);first|exact ⟨⟩|(apply And.intro;focus exact leafL15))|fail))
  · intro i hi
    have hl : (mks (mkS n) k).length = k := mks_len _ _
    have hm : i < k → (mks (mkS n) k).getD (i : Int).toNat strE.d = txtM (n + i) := fun h => mks_get h _
    conv => whnf
    repeat' (first|refine Seal.mk ?_|(refine wS ?_;(conv=>whnf);fail_if_success show False)|((first|refine opsA_step ?_|refine drawS_go ?_|refine wD (id:=4) (.quick 0 (.quick 1 (.quick 2 (.quick 4 (.stable 3 (.all (.step 5 (.quick 6 .done)))))))) [5] (by kernel_rfl) rfl ?_|apply wL (markText _ _ _));conv=>whnf)|(intro _;first|omega|conv=>whnf)|(apply And.intro<;>intro _<;>first|omega|conv=>whnf)|refine ⟨Seal.mk ?_,Seal.mk ?_⟩|((first|(apply And.intro;focus exact leafL15)|(apply Or.inl;apply And.intro;focus exact leafL15)|apply Or.inr|refine ⟨_,rfl,?_⟩|refine ⟨_,⟨rfl,rfl⟩,?_⟩|refine ⟨intE .u8,⟨rfl,fun _=>rfl⟩,?_⟩|(refine Exists.intro _ (And.intro (And.intro rfl (And.intro rfl ?_)) ?_);focus exact leafL15));conv=>whnf)|with_reducible assumption|((fail_if_success refine Exists.intro ?_ ?_);exact leafL15)|fail)
    all_goals (first
      | (exact absurd (hm (by omega)) (by assumption))
      | (refine ⟨i + 1, ⟨by omega, by omega⟩, ?_⟩; ((try refine wF ?_);repeat' (first|exact ⟨⟩|(apply And.intro;focus exact leafL15)|((conv=>whnf);first|exact ⟨⟩|(apply And.intro;focus exact leafL15))|fail)))
      | (have hi : i = k := by omega
         subst hi
         (refine ⟨(),⟨⟩,?_⟩;((try refine wF ?_);repeat' (first|exact ⟨⟩|(apply And.intro;focus exact leafL15)|((conv=>whnf);first|exact ⟨⟩|(apply And.intro;focus exact leafL15))|fail)))))
@[reducible] noncomputable def mkMux (n : Int) (s : Mux) : Mux := { s with cons := mkCS (n) s.cons, polite := mks (mkB (n + cntCS s.cons)) s.polite.length, binds := mks (mkQ (n + cntCS s.cons + s.polite.length)) s.binds.length, texts := mks (mkS (n + cntCS s.cons + s.polite.length + 4 * s.binds.length)) s.texts.length, kbd := mkKbd (n + cntCS s.cons + s.polite.length + 4 * s.binds.length + s.texts.length) s.kbd }
theorem markMux (s : Mux) (h : MuxB s) (hc : sumC cntE s.cons ≤ 268435456) (n : Int) (hn : 0 ≤ n) (hn' : n ≤ 4294967296) : CallA S 23 [.agg (muxC (.loc 0) (.loc 1) (.loc 2) (.loc 3) (.loc 4) s), .int .i64 n] ⟨muxH true (.loc 0) (.loc 1) (.loc 2) (.loc 3) (.loc 4) s [], 5⟩ (Ret1 (.int .i64 (n + cntCS s.cons + s.polite.length + 4 * s.binds.length + s.texts.length + 2 * s.kbd.holds.length)) ⟨muxH true (.loc 0) (.loc 1) (.loc 2) (.loc 3) (.loc 4) (mkMux n s) [], 5⟩) := by
  refine .ofC hS _ _ _ Tryz.func23 ?_
  conv => whnf
  obtain ⟨h0, h1, h2, h3, h4, h5, h6⟩ := h
  have h6x := h6
  obtain ⟨h6_0⟩ := h6x
  repeat' (first|refine Seal.mk ?_|(refine wS ?_;(conv=>whnf);fail_if_success show False)|((first|refine opsA_step ?_|refine drawS_go ?_|apply wL (markConsoleS _ _ _ _ _ _ _)|apply wL (markBoolS _ _ _ _ _)|apply wL (markBindS _ _ _ _ _)|apply wL (markStringS _ _ _ _ _)|apply wL (markKeyboard _ _ _ _ _));conv=>whnf)|(intro _;first|omega|conv=>whnf)|(apply And.intro<;>intro _<;>first|omega|conv=>whnf)|refine ⟨Seal.mk ?_,Seal.mk ?_⟩|((first|(apply And.intro;focus exact leafL15)|(apply Or.inl;apply And.intro;focus exact leafL15)|apply Or.inr|refine ⟨_,rfl,?_⟩|refine ⟨_,⟨rfl,rfl⟩,?_⟩|refine ⟨intE .u8,⟨rfl,fun _=>rfl⟩,?_⟩|(refine Exists.intro _ (And.intro (And.intro rfl (And.intro rfl ?_)) ?_);focus exact leafL15));conv=>whnf)|with_reducible assumption|((fail_if_success refine Exists.intro ?_ ?_);exact leafL15)|fail)
  (refine ⟨(),⟨⟩,?_⟩;((try refine wF ?_);repeat' (first|exact ⟨⟩|(apply And.intro;focus exact leafL15)|((conv=>whnf);first|exact ⟨⟩|(apply And.intro;focus exact leafL15))|fail)))
theorem heldMux (s : Mux) (h : MuxB s) (hc : sumC cntE s.cons ≤ 268435456) (n : Int) (hn : 0 ≤ n) (hn' : n ≤ 4294967296) : CallA S 74 [.agg (muxC (.loc 0) (.loc 1) (.loc 2) (.loc 3) (.loc 4) s), .int .i64 n] ⟨muxH true (.loc 0) (.loc 1) (.loc 2) (.loc 3) (.loc 4) (mkMux n s) [], 5⟩ (Ret1 (.int .i64 (n + cntCS s.cons + s.polite.length + 4 * s.binds.length + s.texts.length + 2 * s.kbd.holds.length)) ⟨muxH true (.loc 0) (.loc 1) (.loc 2) (.loc 3) (.loc 4) (mkMux n s) [], 5⟩) := by
  refine .ofC hS _ _ _ Tryz.func74 ?_
  conv => whnf
  obtain ⟨h0, h1, h2, h3, h4, h5, h6⟩ := h
  have h6x := h6
  obtain ⟨h6_0⟩ := h6x
  repeat' (first|refine Seal.mk ?_|(refine wS ?_;(conv=>whnf);fail_if_success show False)|((first|refine opsA_step ?_|refine drawS_go ?_|apply wL (heldConsoleS _ _ _ _ _ _ _)|apply wL (heldBoolS _ _ _ _ _)|apply wL (heldBindS _ _ _ _ _)|apply wL (heldStringS _ _ _ _ _)|apply wL (heldKeyboard _ _ _ _ _));conv=>whnf)|(intro _;first|omega|conv=>whnf)|(apply And.intro<;>intro _<;>first|omega|conv=>whnf)|refine ⟨Seal.mk ?_,Seal.mk ?_⟩|((first|(apply And.intro;focus exact leafL15)|(apply Or.inl;apply And.intro;focus exact leafL15)|apply Or.inr|refine ⟨_,rfl,?_⟩|refine ⟨_,⟨rfl,rfl⟩,?_⟩|refine ⟨intE .u8,⟨rfl,fun _=>rfl⟩,?_⟩|(refine Exists.intro _ (And.intro (And.intro rfl (And.intro rfl ?_)) ?_);focus exact leafL15));conv=>whnf)|with_reducible assumption|((fail_if_success refine Exists.intro ?_ ?_);exact leafL15)|fail)
  all_goals (refine ⟨(),⟨⟩,?_⟩;((try refine wF ?_);repeat' (first|exact ⟨⟩|(apply And.intro;focus exact leafL15)|((conv=>whnf);first|exact ⟨⟩|(apply And.intro;focus exact leafL15))|fail)))
theorem eqMuxResult (s : MuxR) (h : MuxRB s) : CallA S 19 [.agg (muxRC (.loc 0) (.loc 1) (.loc 2) (.loc 3) (.loc 4) (.loc 5) s), .agg (muxRC (.loc 6) (.loc 7) (.loc 8) (.loc 9) (.loc 10) (.loc 11) s)] ⟨muxRH false (.loc 0) (.loc 1) (.loc 2) (.loc 3) (.loc 4) (.loc 5) s (muxRH false (.loc 6) (.loc 7) (.loc 8) (.loc 9) (.loc 10) (.loc 11) s []), 12⟩ (Ret1 (.tt) ⟨[], 12⟩) := by
  refine .ofC hS _ _ _ Tryz.func19 ?_
  conv => whnf
  obtain ⟨h0, h1⟩ := h
  repeat' (first|refine Seal.mk ?_|(refine wS ?_;(conv=>whnf);fail_if_success show False)|((first|refine opsA_step ?_|refine drawS_go ?_|apply wL (eqByteS _ _)|apply wL (eqMux _ _));conv=>whnf)|(intro _;first|omega|conv=>whnf)|(apply And.intro<;>intro _<;>first|omega|conv=>whnf)|refine ⟨Seal.mk ?_,Seal.mk ?_⟩|((first|(apply And.intro;focus exact leafL15)|(apply Or.inl;apply And.intro;focus exact leafL15)|apply Or.inr|refine ⟨_,rfl,?_⟩|refine ⟨_,⟨rfl,rfl⟩,?_⟩|refine ⟨intE .u8,⟨rfl,fun _=>rfl⟩,?_⟩|(refine Exists.intro _ (And.intro (And.intro rfl (And.intro rfl ?_)) ?_);focus exact leafL15));conv=>whnf)|with_reducible assumption|((fail_if_success refine Exists.intro ?_ ?_);exact leafL15)|fail)
  all_goals (first | (exact absurd rfl (by assumption)) | (exact absurd Iff.rfl (by assumption)) | (refine ⟨(),⟨⟩,?_⟩;((try refine wF ?_);repeat' (first|exact ⟨⟩|(apply And.intro;focus exact leafL15)|((conv=>whnf);first|exact ⟨⟩|(apply And.intro;focus exact leafL15))|fail))))
@[reducible] noncomputable def mkMuxR (n : Int) (s : MuxR) : MuxR := { s with bytes := mks (mkU (n)) s.bytes.length, mux := mkMux (n + s.bytes.length) s.mux }
theorem markMuxResult (s : MuxR) (h : MuxRB s) (hc : sumC cntE s.mux.cons ≤ 268435456) (n : Int) (hn : 0 ≤ n) (hn' : n ≤ 2147483648) : CallA S 26 [.agg (muxRC (.loc 0) (.loc 1) (.loc 2) (.loc 3) (.loc 4) (.loc 5) s), .int .i64 n] ⟨muxRH true (.loc 0) (.loc 1) (.loc 2) (.loc 3) (.loc 4) (.loc 5) s [], 6⟩ (Ret1 (.int .i64 (n + s.bytes.length + cntCS s.mux.cons + s.mux.polite.length + 4 * s.mux.binds.length + s.mux.texts.length + 2 * s.mux.kbd.holds.length)) ⟨muxRH true (.loc 0) (.loc 1) (.loc 2) (.loc 3) (.loc 4) (.loc 5) (mkMuxR n s) [], 6⟩) := by
  refine .ofC hS _ _ _ Tryz.func26 ?_
  conv => whnf
  obtain ⟨h0, h1⟩ := h
  have h1x := h1
  obtain ⟨h1_0, h1_1, h1_2, h1_3, h1_4, h1_5, h1_6⟩ := h1x
  have h1_6x := h1_6
  obtain ⟨h1_6_0⟩ := h1_6x
  repeat' (first|refine Seal.mk ?_|(refine wS ?_;(conv=>whnf);fail_if_success show False)|((first|refine opsA_step ?_|refine drawS_go ?_|apply wL (markByteS _ _ _ _ _)|apply wL (markMux _ _ _ _ _ _));conv=>whnf)|(intro _;first|omega|conv=>whnf)|(apply And.intro<;>intro _<;>first|omega|conv=>whnf)|refine ⟨Seal.mk ?_,Seal.mk ?_⟩|((first|(apply And.intro;focus exact leafL15)|(apply Or.inl;apply And.intro;focus exact leafL15)|apply Or.inr|refine ⟨_,rfl,?_⟩|refine ⟨_,⟨rfl,rfl⟩,?_⟩|refine ⟨intE .u8,⟨rfl,fun _=>rfl⟩,?_⟩|(refine Exists.intro _ (And.intro (And.intro rfl (And.intro rfl ?_)) ?_);focus exact leafL15));conv=>whnf)|with_reducible assumption|((fail_if_success refine Exists.intro ?_ ?_);exact leafL15)|fail)
  (refine ⟨(),⟨⟩,?_⟩;((try refine wF ?_);repeat' (first|exact ⟨⟩|(apply And.intro;focus exact leafL15)|((conv=>whnf);first|exact ⟨⟩|(apply And.intro;focus exact leafL15))|fail)))
theorem heldMuxResult (s : MuxR) (h : MuxRB s) (hc : sumC cntE s.mux.cons ≤ 268435456) (n : Int) (hn : 0 ≤ n) (hn' : n ≤ 2147483648) : CallA S 27 [.agg (muxRC (.loc 0) (.loc 1) (.loc 2) (.loc 3) (.loc 4) (.loc 5) s), .int .i64 n] ⟨muxRH true (.loc 0) (.loc 1) (.loc 2) (.loc 3) (.loc 4) (.loc 5) (mkMuxR n s) [], 6⟩ (Ret1 (.int .i64 (n + s.bytes.length + cntCS s.mux.cons + s.mux.polite.length + 4 * s.mux.binds.length + s.mux.texts.length + 2 * s.mux.kbd.holds.length)) ⟨muxRH true (.loc 0) (.loc 1) (.loc 2) (.loc 3) (.loc 4) (.loc 5) (mkMuxR n s) [], 6⟩) := by
  refine .ofC hS _ _ _ Tryz.func27 ?_
  conv => whnf
  obtain ⟨h0, h1⟩ := h
  have h1x := h1
  obtain ⟨h1_0, h1_1, h1_2, h1_3, h1_4, h1_5, h1_6⟩ := h1x
  have h1_6x := h1_6
  obtain ⟨h1_6_0⟩ := h1_6x
  repeat' (first|refine Seal.mk ?_|(refine wS ?_;(conv=>whnf);fail_if_success show False)|((first|refine opsA_step ?_|refine drawS_go ?_|apply wL (heldByteS _ _ _ _ _)|apply wL (heldMux _ _ _ _ _ _));conv=>whnf)|(intro _;first|omega|conv=>whnf)|(apply And.intro<;>intro _<;>first|omega|conv=>whnf)|refine ⟨Seal.mk ?_,Seal.mk ?_⟩|((first|(apply And.intro;focus exact leafL15)|(apply Or.inl;apply And.intro;focus exact leafL15)|apply Or.inr|refine ⟨_,rfl,?_⟩|refine ⟨_,⟨rfl,rfl⟩,?_⟩|refine ⟨intE .u8,⟨rfl,fun _=>rfl⟩,?_⟩|(refine Exists.intro _ (And.intro (And.intro rfl (And.intro rfl ?_)) ?_);focus exact leafL15));conv=>whnf)|with_reducible assumption|((fail_if_success refine Exists.intro ?_ ?_);exact leafL15)|fail)
  all_goals (refine ⟨(),⟨⟩,?_⟩;((try refine wF ?_);repeat' (first|exact ⟨⟩|(apply And.intro;focus exact leafL15)|((conv=>whnf);first|exact ⟨⟩|(apply And.intro;focus exact leafL15))|fail)))
end Go.Mu
