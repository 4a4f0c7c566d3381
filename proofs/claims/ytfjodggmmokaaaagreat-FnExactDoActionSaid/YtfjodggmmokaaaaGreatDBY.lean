/- The law on an action done on a screen. -/
import Derived.Test.YtfjodggmmokaaaaGreatDAK
import Derived.Test.YtfjodggmmokaaaaGreatDBX
import Derived.Test.YtfjodggmmokaaaaGreatDAM
import Derived.Test.YtfjodggmmokaaaaGreatDAR
import Derived.Test.YtfjodggmmokaaaaGreatDAJ
import Derived.Deep.Slices
import Derived.Deep.SlicePairs
import Derived.ChangeArms
import Derived.Below
set_option linter.unusedSimpArgs false
set_option linter.unusedVariables false
set_option linter.constructorNameAsVariable false
namespace Go.Mu
open Go Go.Vm Go.RowKit Go.Proofs
attribute [local irreducible] wpA opsA stillA drawA drawS
set_option maxRecDepth 20000
set_option maxHeartbeats 40000000
theorem lawDoAction (s : Scr) (a : Vm.Act) : CallA S 3 [.agg (scrC (.loc 0) (.loc 1) (.loc 2) (.loc 3) s), .agg (actC (.loc 4) a)] ⟨scrH false (.loc 0) (.loc 1) (.loc 2) (.loc 3) s (actH false (.loc 4) a []), 5⟩ (Ret1 .tt ⟨[], 5⟩) := by
  refine .ofC hS _ _ _ Tryz.func3 ?_
  conv => whnf
  repeat' (first|refine Seal.mk ?_|(refine wS ?_;(conv=>whnf);fail_if_success show False)|((first|refine opsA_step ?_|refine drawS_go ?_|apply wL (szScreen s _ _ _)|apply wL (szAction a _ _ _));conv=>whnf)|(intro _;first|omega|conv=>whnf)|(apply And.intro<;>intro _<;>first|omega|conv=>whnf)|refine sM ?_ ?_|((first|refine aLQ ?_|refine ⟨_,rfl,?_⟩|refine ⟨_,⟨rfl,rfl⟩,?_⟩|refine ⟨_,⟨rfl,rfl,leafQ⟩,?_⟩);conv=>whnf)|with_reducible assumption|exact lfQ|fail)
  · (refine ⟨(),⟨⟩,?_⟩;exact fzQ)
  · (refine ⟨(),⟨⟩,?_⟩;exact fzQ)
  have hB : ScrB s := ⟨⟨by omega, by omega⟩, by omega, by omega⟩
  have hA : ActB a := ⟨by omega⟩
  have hR : ScrRB (doR s a) := doR_B a
  repeat' (first|refine Seal.mk ?_|(refine wS ?_;(conv=>whnf);fail_if_success show False)|((first|refine opsA_step ?_|refine drawS_go ?_|apply wL (toScreen _ hB)|apply wL (toAction _ hA)|apply wL (implDoAction _ hB _ hA)|apply wL (specDoAction _ hB _ hA)|apply wL (eqScreenResult _ hR)|apply wL (eqScreen _ hB)|apply wL (eqAction _ hA)|apply wL (markScreen _ hB _ _ _)|apply wL (markAction _ hA _ _ _)|apply wL (markScreenResult _ hR _ _ _)|apply wL (heldScreenResult (doR s a) hR _ _ _));conv=>whnf)|(intro _;first|omega|conv=>whnf)|(apply And.intro<;>intro _<;>first|omega|conv=>whnf)|refine sM ?_ ?_|((first|refine aLQ ?_|refine ⟨_,rfl,?_⟩|refine ⟨_,⟨rfl,rfl⟩,?_⟩|refine ⟨_,⟨rfl,rfl,leafQ⟩,?_⟩);conv=>whnf)|with_reducible assumption|exact lfQ|fail)
  (apply Wp.keep [2, 3, 4]; (conv => whnf); apply Wp.meet; (focus ((repeat' (first|refine Seal.mk ?_|(refine wS ?_;(conv=>whnf);fail_if_success show False)|((first|refine opsA_step ?_|refine drawS_go ?_|refine wD (id:=8) (.stable 0 (.stable 2 (.all (.fork (.step 1 (.all (.fork (.step 3 (.all (.fork (.step 4 (.all (.step 5 (.all (.step 6 .done))))) (.step 5 (.all (.step 4 (.all (.step 6 .done)))))))) (.step 5 (.all (.step 3 (.all (.step 4 (.all (.step 6 .done)))))))))) (.step 5 (.all (.step 1 (.all (.step 3 (.all (.step 4 (.all (.step 6 .done))))))))))))) [1, 3, 4, 5, 6] (by kernel_rfl) rfl ?_|refine wD (id:=14) (.stable 0 (.stable 1 (.all (.step 2 (.all (.step 3 (.quick 4 .done))))))) [2, 3] (by kernel_rfl) rfl ?_|refine wD (id:=16) (.stable 0 (.stable 1 (.all (.step 2 (.all (.step 3 (.quick 4 .done))))))) [2, 3] (by kernel_rfl) rfl ?_|refine wD (id:=31) (.stable 0 (.stable 2 (.all (.fork (.step 1 (.all (.fork (.step 3 (.all (.fork (.step 4 (.all (.step 5 (.all (.step 6 .done))))) (.step 5 (.all (.step 4 (.all (.step 6 .done)))))))) (.step 5 (.all (.step 3 (.all (.step 4 (.all (.step 6 .done)))))))))) (.step 5 (.all (.step 1 (.all (.step 3 (.all (.step 4 (.all (.step 6 .done))))))))))))) [1, 3, 4, 5, 6] (by kernel_rfl) rfl ?_|apply wL (toScreen _ hB)|apply wL (toAction _ hA)|apply wL (implDoAction _ hB _ hA)|apply wL (specDoAction _ hB _ hA)|apply wL (eqScreenResult _ hR)|apply wL (eqScreen _ hB)|apply wL (eqAction _ hA)|apply wL (markScreen _ hB _ _ _)|apply wL (markAction _ hA _ _ _)|apply wL (markScreenResult _ hR _ _ _)|apply wL (heldScreenResult (doR s a) hR _ _ _));conv=>whnf)|(intro _;first|omega|conv=>whnf)|(apply And.intro<;>intro _<;>first|omega|conv=>whnf)|refine sM ?_ ?_|((first|refine aLQ ?_|refine ⟨_,rfl,?_⟩|refine ⟨_,⟨rfl,rfl⟩,?_⟩|refine ⟨_,⟨rfl,rfl,leafQ⟩,?_⟩);conv=>whnf)|with_reducible assumption|exact lfQ|fail)); (focus ((conv => whnf); apply FitsT.keep [2, 3, 4, 6]; (conv => whnf); (try exact rfl))); (all_goals (exact fzQ)))); (conv => whnf))
  repeat' (first|refine Seal.mk ?_|(refine wS ?_;(conv=>whnf);fail_if_success show False)|((first|refine opsA_step ?_|refine drawS_go ?_|apply wL (toScreen _ hB)|apply wL (toAction _ hA)|apply wL (implDoAction _ hB _ hA)|apply wL (specDoAction _ hB _ hA)|apply wL (eqScreenResult _ hR)|apply wL (eqScreen _ hB)|apply wL (eqAction _ hA)|apply wL (markScreen _ hB _ _ _)|apply wL (markAction _ hA _ _ _)|apply wL (markScreenResult _ hR _ _ _)|apply wL (heldScreenResult (doR s a) hR _ _ _));conv=>whnf)|(intro _;first|omega|conv=>whnf)|(apply And.intro<;>intro _<;>first|omega|conv=>whnf)|refine sM ?_ ?_|((first|refine aLQ ?_|refine ⟨_,rfl,?_⟩|refine ⟨_,⟨rfl,rfl⟩,?_⟩|refine ⟨_,⟨rfl,rfl,leafQ⟩,?_⟩);conv=>whnf)|with_reducible assumption|exact lfQ|fail)
  (apply Wp.keep [2, 3, 4, 6, 7, 8, 9]; (conv => whnf); apply Wp.meet; (focus ((repeat' (first|refine Seal.mk ?_|(refine wS ?_;(conv=>whnf);fail_if_success show False)|((first|refine opsA_step ?_|refine drawS_go ?_|refine wD (id:=8) (.stable 0 (.stable 2 (.all (.fork (.step 1 (.all (.fork (.step 3 (.all (.fork (.step 4 (.all (.step 5 (.all (.step 6 .done))))) (.step 5 (.all (.step 4 (.all (.step 6 .done)))))))) (.step 5 (.all (.step 3 (.all (.step 4 (.all (.step 6 .done)))))))))) (.step 5 (.all (.step 1 (.all (.step 3 (.all (.step 4 (.all (.step 6 .done))))))))))))) [1, 3, 4, 5, 6] (by kernel_rfl) rfl ?_|refine wD (id:=14) (.stable 0 (.stable 1 (.all (.step 2 (.all (.step 3 (.quick 4 .done))))))) [2, 3] (by kernel_rfl) rfl ?_|refine wD (id:=16) (.stable 0 (.stable 1 (.all (.step 2 (.all (.step 3 (.quick 4 .done))))))) [2, 3] (by kernel_rfl) rfl ?_|refine wD (id:=31) (.stable 0 (.stable 2 (.all (.fork (.step 1 (.all (.fork (.step 3 (.all (.fork (.step 4 (.all (.step 5 (.all (.step 6 .done))))) (.step 5 (.all (.step 4 (.all (.step 6 .done)))))))) (.step 5 (.all (.step 3 (.all (.step 4 (.all (.step 6 .done)))))))))) (.step 5 (.all (.step 1 (.all (.step 3 (.all (.step 4 (.all (.step 6 .done))))))))))))) [1, 3, 4, 5, 6] (by kernel_rfl) rfl ?_|apply wL (toScreen _ hB)|apply wL (toAction _ hA)|apply wL (implDoAction _ hB _ hA)|apply wL (specDoAction _ hB _ hA)|apply wL (eqScreenResult _ hR)|apply wL (eqScreen _ hB)|apply wL (eqAction _ hA)|apply wL (markScreen _ hB _ _ _)|apply wL (markAction _ hA _ _ _)|apply wL (markScreenResult _ hR _ _ _)|apply wL (heldScreenResult (doR s a) hR _ _ _));conv=>whnf)|(intro _;first|omega|conv=>whnf)|(apply And.intro<;>intro _<;>first|omega|conv=>whnf)|refine sM ?_ ?_|((first|refine aLQ ?_|refine ⟨_,rfl,?_⟩|refine ⟨_,⟨rfl,rfl⟩,?_⟩|refine ⟨_,⟨rfl,rfl,leafQ⟩,?_⟩);conv=>whnf)|with_reducible assumption|exact lfQ|fail)); (focus ((conv => whnf); apply FitsT.keep [2, 3, 4, 6, 7, 8, 9, 44]; (conv => whnf); (try exact rfl))); (all_goals (exact fzQ)))); (conv => whnf))
  repeat' (first|refine Seal.mk ?_|(refine wS ?_;(conv=>whnf);fail_if_success show False)|((first|refine opsA_step ?_|refine drawS_go ?_|apply wL (toScreen _ hB)|apply wL (toAction _ hA)|apply wL (implDoAction _ hB _ hA)|apply wL (specDoAction _ hB _ hA)|apply wL (eqScreenResult _ hR)|apply wL (eqScreen _ hB)|apply wL (eqAction _ hA)|apply wL (markScreen _ hB _ _ _)|apply wL (markAction _ hA _ _ _)|apply wL (markScreenResult _ hR _ _ _)|apply wL (heldScreenResult (doR s a) hR _ _ _));conv=>whnf)|(intro _;first|omega|conv=>whnf)|(apply And.intro<;>intro _<;>first|omega|conv=>whnf)|refine sM ?_ ?_|((first|refine aLQ ?_|refine ⟨_,rfl,?_⟩|refine ⟨_,⟨rfl,rfl⟩,?_⟩|refine ⟨_,⟨rfl,rfl,leafQ⟩,?_⟩);conv=>whnf)|with_reducible assumption|exact lfQ|fail)
  (apply Wp.keep [2, 3, 4, 6, 7, 8, 9]; (conv => whnf); apply Wp.meet; (focus ((repeat' (first|refine Seal.mk ?_|(refine wS ?_;(conv=>whnf);fail_if_success show False)|((first|refine opsA_step ?_|refine drawS_go ?_|refine wD (id:=8) (.stable 0 (.stable 2 (.all (.fork (.step 1 (.all (.fork (.step 3 (.all (.fork (.step 4 (.all (.step 5 (.all (.step 6 .done))))) (.step 5 (.all (.step 4 (.all (.step 6 .done)))))))) (.step 5 (.all (.step 3 (.all (.step 4 (.all (.step 6 .done)))))))))) (.step 5 (.all (.step 1 (.all (.step 3 (.all (.step 4 (.all (.step 6 .done))))))))))))) [1, 3, 4, 5, 6] (by kernel_rfl) rfl ?_|refine wD (id:=14) (.stable 0 (.stable 1 (.all (.step 2 (.all (.step 3 (.quick 4 .done))))))) [2, 3] (by kernel_rfl) rfl ?_|refine wD (id:=16) (.stable 0 (.stable 1 (.all (.step 2 (.all (.step 3 (.quick 4 .done))))))) [2, 3] (by kernel_rfl) rfl ?_|refine wD (id:=31) (.stable 0 (.stable 2 (.all (.fork (.step 1 (.all (.fork (.step 3 (.all (.fork (.step 4 (.all (.step 5 (.all (.step 6 .done))))) (.step 5 (.all (.step 4 (.all (.step 6 .done)))))))) (.step 5 (.all (.step 3 (.all (.step 4 (.all (.step 6 .done)))))))))) (.step 5 (.all (.step 1 (.all (.step 3 (.all (.step 4 (.all (.step 6 .done))))))))))))) [1, 3, 4, 5, 6] (by kernel_rfl) rfl ?_|apply wL (toScreen _ hB)|apply wL (toAction _ hA)|apply wL (implDoAction _ hB _ hA)|apply wL (specDoAction _ hB _ hA)|apply wL (eqScreenResult _ hR)|apply wL (eqScreen _ hB)|apply wL (eqAction _ hA)|apply wL (markScreen _ hB _ _ _)|apply wL (markAction _ hA _ _ _)|apply wL (markScreenResult _ hR _ _ _)|apply wL (heldScreenResult (doR s a) hR _ _ _));conv=>whnf)|(intro _;first|omega|conv=>whnf)|(apply And.intro<;>intro _<;>first|omega|conv=>whnf)|refine sM ?_ ?_|((first|refine aLQ ?_|refine ⟨_,rfl,?_⟩|refine ⟨_,⟨rfl,rfl⟩,?_⟩|refine ⟨_,⟨rfl,rfl,leafQ⟩,?_⟩);conv=>whnf)|with_reducible assumption|exact lfQ|fail)); (focus ((conv => whnf); apply FitsT.keep [2, 3, 4, 6, 7, 8, 9, 49]; (conv => whnf); (try exact rfl))); (all_goals (exact fzQ)))); (conv => whnf))
  repeat' (first|refine Seal.mk ?_|(refine wS ?_;(conv=>whnf);fail_if_success show False)|((first|refine opsA_step ?_|refine drawS_go ?_|apply wL (toScreen _ hB)|apply wL (toAction _ hA)|apply wL (implDoAction _ hB _ hA)|apply wL (specDoAction _ hB _ hA)|apply wL (eqScreenResult _ hR)|apply wL (eqScreen _ hB)|apply wL (eqAction _ hA)|apply wL (markScreen _ hB _ _ _)|apply wL (markAction _ hA _ _ _)|apply wL (markScreenResult _ hR _ _ _)|apply wL (heldScreenResult (doR s a) hR _ _ _));conv=>whnf)|(intro _;first|omega|conv=>whnf)|(apply And.intro<;>intro _<;>first|omega|conv=>whnf)|refine sM ?_ ?_|((first|refine aLQ ?_|refine ⟨_,rfl,?_⟩|refine ⟨_,⟨rfl,rfl⟩,?_⟩|refine ⟨_,⟨rfl,rfl,leafQ⟩,?_⟩);conv=>whnf)|with_reducible assumption|exact lfQ|fail)
  (apply Wp.keep [2, 3, 4, 6, 9, 11]; (conv => whnf); apply Wp.meet; (focus ((repeat' (first|refine Seal.mk ?_|(refine wS ?_;(conv=>whnf);fail_if_success show False)|((first|refine opsA_step ?_|refine drawS_go ?_|refine wD (id:=8) (.stable 0 (.stable 2 (.all (.fork (.step 1 (.all (.fork (.step 3 (.all (.fork (.step 4 (.all (.step 5 (.all (.step 6 .done))))) (.step 5 (.all (.step 4 (.all (.step 6 .done)))))))) (.step 5 (.all (.step 3 (.all (.step 4 (.all (.step 6 .done)))))))))) (.step 5 (.all (.step 1 (.all (.step 3 (.all (.step 4 (.all (.step 6 .done))))))))))))) [1, 3, 4, 5, 6] (by kernel_rfl) rfl ?_|refine wD (id:=14) (.stable 0 (.stable 1 (.all (.step 2 (.all (.step 3 (.quick 4 .done))))))) [2, 3] (by kernel_rfl) rfl ?_|refine wD (id:=16) (.stable 0 (.stable 1 (.all (.step 2 (.all (.step 3 (.quick 4 .done))))))) [2, 3] (by kernel_rfl) rfl ?_|refine wD (id:=31) (.stable 0 (.stable 2 (.all (.fork (.step 1 (.all (.fork (.step 3 (.all (.fork (.step 4 (.all (.step 5 (.all (.step 6 .done))))) (.step 5 (.all (.step 4 (.all (.step 6 .done)))))))) (.step 5 (.all (.step 3 (.all (.step 4 (.all (.step 6 .done)))))))))) (.step 5 (.all (.step 1 (.all (.step 3 (.all (.step 4 (.all (.step 6 .done))))))))))))) [1, 3, 4, 5, 6] (by kernel_rfl) rfl ?_|apply wL (toScreen _ hB)|apply wL (toAction _ hA)|apply wL (implDoAction _ hB _ hA)|apply wL (specDoAction _ hB _ hA)|apply wL (eqScreenResult _ hR)|apply wL (eqScreen _ hB)|apply wL (eqAction _ hA)|apply wL (markScreen _ hB _ _ _)|apply wL (markAction _ hA _ _ _)|apply wL (markScreenResult _ hR _ _ _)|apply wL (heldScreenResult (doR s a) hR _ _ _));conv=>whnf)|(intro _;first|omega|conv=>whnf)|(apply And.intro<;>intro _<;>first|omega|conv=>whnf)|refine sM ?_ ?_|((first|refine aLQ ?_|refine ⟨_,rfl,?_⟩|refine ⟨_,⟨rfl,rfl⟩,?_⟩|refine ⟨_,⟨rfl,rfl,leafQ⟩,?_⟩);conv=>whnf)|with_reducible assumption|exact lfQ|fail)); (focus ((conv => whnf); apply FitsT.keep [4, 6, 9, 11, 13]; (conv => whnf); (try exact rfl))); (all_goals (exact fzQ)))); (conv => whnf))
  repeat' (first|refine Seal.mk ?_|(refine wS ?_;(conv=>whnf);fail_if_success show False)|((first|refine opsA_step ?_|refine drawS_go ?_|apply wL (toScreen _ hB)|apply wL (toAction _ hA)|apply wL (implDoAction _ hB _ hA)|apply wL (specDoAction _ hB _ hA)|apply wL (eqScreenResult _ hR)|apply wL (eqScreen _ hB)|apply wL (eqAction _ hA)|apply wL (markScreen _ hB _ _ _)|apply wL (markAction _ hA _ _ _)|apply wL (markScreenResult _ hR _ _ _)|apply wL (heldScreenResult (doR s a) hR _ _ _));conv=>whnf)|(intro _;first|omega|conv=>whnf)|(apply And.intro<;>intro _<;>first|omega|conv=>whnf)|refine sM ?_ ?_|((first|refine aLQ ?_|refine ⟨_,rfl,?_⟩|refine ⟨_,⟨rfl,rfl⟩,?_⟩|refine ⟨_,⟨rfl,rfl,leafQ⟩,?_⟩);conv=>whnf)|with_reducible assumption|exact lfQ|fail)
  all_goals (first | (exact absurd rfl (by assumption)) | (exact absurd Iff.rfl (by assumption)) | (exfalso; omega) | (refine ⟨(),⟨⟩,?_⟩;exact fzQ))
end Go.Mu

namespace Go.Vm
open Go.RowKit
abbrev Pm := List (Int × Nat) → Option (Nat × (Nat × Nat))
def AtQ (ρ : Loc) (b : Blk) (q : Pm) : Prop := ∀ p, ρ (ext b p) = q p
theorem AtQ.self {ρ : Loc} {b : Blk} {q : Pm} (h : AtQ ρ b q) : ρ b = q [] := h []
def allF (W : World) : Foot := fun k _ => k < W.heap.size
def OpenAt (ρ : Loc) (W : World) (c : Cont) (b : Blk) : Prop := ∀ N, Holds ρ N W false c b (allF W)
theorem lies_all {ρ : Loc} {N : Nat} {W : World} {b : Blk} {c : Cont} (h : Lies ρ N W false b c) : ∀ k c', regF (ρ b) k c' → allF W k c' := by
  rintro k c' ⟨z, hz, _⟩
  unfold Lies at h
  rw [hz] at h
  obtain ⟨arr, T, fz, h1, _⟩ := h
  exact (Array.getElem?_eq_some_iff.1 h1).1
def FlatT (H : Type) (P : Program) (e : TypeId) {α : Type} (E : Enc α) : Prop :=
  P.cellsOf e = E.m ∧ ∀ (enc : TypeId × Value → H) (w : World) (base : Nat) (held : Bool) (fuel : Nat) (cs : List Value) (x : DataW H × List MemPlace),
    DataW.trod enc P w base (fun _ => true) held fuel e cs = some x → ∃ a, ∀ ρ, VRels ρ (E.cells a) cs
theorem flat_int {H : Type} {P : Program} {e : TypeId} {k : IntKind} (he : P.underlying e = some (.int k)) (hc : P.cellsOf e = 1) : FlatT H P e (intE k) :=
  ⟨hc, fun _ _ _ _ _ _ _ h => by
    obtain ⟨n, rfl, _, hw⟩ := DataW.trod_int he h
    exact ⟨n, fun ρ => ⟨_, [], rfl, rfl, rfl⟩⟩⟩
theorem flat_bool {H : Type} {P : Program} {e : TypeId} (he : P.underlying e = some .bool) (hc : P.cellsOf e = 1) : FlatT H P e boolE :=
  ⟨hc, fun _ _ _ _ _ _ _ h => by
    obtain ⟨b, rfl, _⟩ := DataW.trod_bool he h
    exact ⟨b, fun ρ => ⟨_, [], rfl, ⟨b, rfl, Iff.rfl⟩, rfl⟩⟩⟩
theorem flat_pair {H : Type} {P : Program} {e f : TypeId} {f0 f1 : Field} (he : P.underlying e = some (.struct #[f0, f1])) (hc : P.cellsOf e = 2) (h0 : f0.type = f) (h1 : f1.type = f)
    (o0 : f0.offset = 0) (o1 : f1.offset = 1) (hf : P.underlying f = some (.int .i64)) (hfc : P.cellsOf f = 1) : FlatT H P e pairE :=
  ⟨hc, fun _ _ _ _ _ cs _ h => by
    obtain ⟨xs, k, hk, hxy, hl, hxl, hfs⟩ := DataW.trod_struct he h
    have g0 := hfs 0 f0 rfl
    have g1 := hfs 1 f1 rfl
    rw [hc] at hl
    match xs, hxl, cs, hl with
    | [y0, y1], _, [v0, v1], _ =>
      simp [o0, o1, h0, h1, hfc] at g0 g1
      obtain ⟨a, e0, _, w0⟩ := DataW.trod_int hf g0
      obtain ⟨b, e1, _, w1⟩ := DataW.trod_int hf g1
      simp only [List.cons.injEq, and_true] at e0 e1
      subst e0; subst e1
      exact ⟨(a, b), fun ρ => ⟨_, _, rfl, rfl, ⟨_, [], rfl, rfl, rfl⟩⟩⟩⟩
theorem open_raw {H : Type} {enc : TypeId × Value → H} {P : Program} {W : World} {base : Nat} {held : Bool} {fuel : Nat} {t e : TypeId} {cs : List Value} {x : DataW H × List MemPlace} {m : Nat}
    (ht : P.underlying t = some (.slice e)) (hm : P.cellsOf e = m) (hpos : 0 < m) (h : DataW.trod enc P W base (fun _ => true) held fuel t cs = some x) :
    (∃ a, cs = [.slice a 0 0]) ∨ ∃ k off len cap c T fz n, cs = [.slice (some ⟨k, off, none⟩) len cap] ∧ len ≤ cap ∧ cap ≤ 9223372036854775807 ∧ W.heap[k]? = some (.cells c T fz) ∧ off + cap * m ≤ c.size ∧
      ∀ i, i < cap → ∃ y, DataW.trod enc P W base (fun _ => true) held n e (((own c (off, cap * m)).toList.drop (i * m)).take m) = some y := by
  rcases Go.Deep.open_slice ht h with ⟨hcs, _⟩ | ⟨a, len, cap, mm, n0, D, Pl, hcs, hb, hl, hcm, hmm, _, hel⟩
  · exact .inl ⟨_, hcs⟩
  · simp only [if_true] at hmm
    subst hmm
    rw [hm] at hel
    rcases Nat.eq_zero_or_pos mm with h0 | hpos'
    · have : len = 0 := by omega
      subst h0; subst this
      exact .inl ⟨_, hcs⟩
    · -- the block
      obtain ⟨cs0, hc0, _⟩ := hel 0 hpos'
      obtain ⟨_, hlen0, hcell0⟩ := World.cells?_some hc0
      have h00 := hcell0 0 hpos
      obtain ⟨k, off, spot⟩ := a
      have hsome : cs0[0]? = some (cs0[0]'(by omega)) := by simp [hlen0, hpos]
      rw [hsome] at h00
      simp only [Nat.zero_mul, Addr.add, if_true] at h00
      unfold World.cell? at h00
      simp only at h00
      split at h00
      · rename_i c T fz hh
        split at h00
        · simp at h00
        · rename_i hsp
          have hsp : spot = none := by simpa using hsp
          subst hsp
          have hcell : ∀ i, i < mm → ∃ cs', cs'.length = m ∧ (∃ y, DataW.trod enc P W base (fun _ => true) held n0 e cs' = some y) ∧ ∀ j, j < m → c[off + (i * m + j)]? = cs'[j]? := by
            intro i hi
            obtain ⟨cs', h1, h2⟩ := hel i hi
            obtain ⟨_, h3, h4⟩ := World.cells?_some h1
            refine ⟨cs', h3, ⟨_, h2⟩, fun j hj => ?_⟩
            have h5 := h4 j hj
            have e5 : ((⟨k, off, none⟩ : Addr).add (i * m)).add j = ⟨k, off + (i * m + j), none⟩ := by
              unfold Addr.add
              split
              · split <;> simp_all
              · split <;> simp_all [Nat.add_assoc]
            rw [e5] at h5
            simpa [World.cell?, hh] using h5
          have hsize : off + mm * m ≤ c.size := by
            obtain ⟨cs', h1, _, h3⟩ := hcell (mm - 1) (by omega)
            have h4 := h3 (m - 1) (by omega)
            rw [show cs'[m - 1]? = some (cs'[m - 1]'(by omega)) by simp [h1, hpos]] at h4
            have h5 := (Array.getElem?_eq_some_iff.1 h4).1
            have h6 : (mm - 1) * m + m = mm * m := by
              rw [← Nat.succ_mul]; congr 1; omega
            omega
          refine .inr ⟨k, off, len, mm, c, T, fz, n0, hcs, hl, Nat.le_trans hcm (by decide), hh, hsize, fun i hi => ?_⟩
          obtain ⟨cs', g1, ⟨y, g2⟩, g3⟩ := hcell i hi
          have e1 : ((own c (off, mm * m)).toList.drop (i * m)).take m = cs' := by
            apply List.ext_getElem?
            intro j
            rw [List.getElem?_take]
            split
            · rename_i hj
              rw [List.getElem?_drop]
              have hj2 : i * m + j < mm * m := by
                have : (i + 1) * m ≤ mm * m := Nat.mul_le_mul_right _ (by omega)
                rw [Nat.succ_mul] at this
                omega
              unfold own
              simp only
              rw [List.getElem?_take, if_pos hj2, List.getElem?_drop]
              simpa using g3 j hj
            · rename_i hj
              rw [List.getElem?_eq_none (by omega)]
          rw [e1]
          exact ⟨y, g2⟩
      · simp at h00
theorem vrel_sl {ρ : Loc} {b : Blk} {k off len cap m : Nat} (hb : ρ b = some (k, (off, cap * m))) (h1 : len ≤ cap) (h2 : cap ≤ 9223372036854775807) : VRel ρ (.sl b m none len) (.slice (some ⟨k, off, none⟩) len cap) :=
  .inr ⟨k, (off, cap * m), cap, off, hb, by simp, by simp, by simpa using h1, h2, by simp, .inr (by simp), by simp⟩
theorem vrel_sl0 {ρ : Loc} {b : Blk} {m : Nat} {a : Option Addr} (hb : ρ b = none) : VRel ρ (.sl b m none ((0 : Nat) : Int)) (.slice a 0 0) :=
  .inl ⟨hb, rfl, rfl, a, rfl⟩
theorem open_sl {H : Type} {enc : TypeId × Value → H} {P : Program} {W : World} {base : Nat} {held : Bool} {fuel : Nat} {t e : TypeId} {cs : List Value} {x : DataW H × List MemPlace} {α : Type} {E : Enc α}
    (ht : P.underlying t = some (.slice e)) (hE : EncOk P e E) (hF : FlatT H P e E) (h : DataW.trod enc P W base (fun _ => true) held fuel t cs = some x) :
    ∃ (xs : List α) (q : Pm) (v : Value), cs = [v] ∧ ∀ (ρ : Loc) (b : Blk), AtQ ρ b q → VRel ρ (.sl b E.m none xs.length) v ∧ OpenAt ρ W (.arr E xs) b := by
  rcases open_raw ht hF.1 hE.pos h with ⟨a, rfl⟩ | ⟨k, off, len, cap, c, T, fz, n, rfl, hl, hcap, hh, hsize, hel⟩
  · refine ⟨[], fun _ => none, _, rfl, fun ρ b hq => ⟨vrel_sl0 hq.self, fun N => ?_⟩⟩
    have hL : Lies ρ N W false b (.arr E []) := by unfold Lies; rw [hq.self]; rfl
    exact ⟨hL, lies_all hL⟩
  · haveI : Inhabited α := ⟨E.d⟩
    obtain ⟨A, hA⟩ := Go.Deep.choose_lt (p := fun i y => ∀ ρ, VRels ρ (E.cells y) (((own c (off, cap * E.m)).toList.drop (i * E.m)).take E.m)) (fun i hi => by
      obtain ⟨y, hy⟩ := hel i hi
      exact hF.2 _ _ _ _ _ _ _ hy)
    refine ⟨(List.range len).map A, fun p => match p with | [] => some (k, (off, cap * E.m)) | _ => none, _, rfl, fun ρ b hq => ?_⟩
    have hb : ρ b = some (k, (off, cap * E.m)) := hq.self
    refine ⟨by simpa using vrel_sl hb hl hcap, fun N => ?_⟩
    have hL : Lies ρ N W false b (.arr E ((List.range len).map A)) := by
      unfold Lies
      simp only [hb]
      refine ⟨c, T, fz, hh, hsize, (fun q => by cases q), ?_, fun i hi => ⟨?_, hE.plain _ _⟩⟩
      · rw [own_size hsize]; simpa using Nat.mul_le_mul_right _ hl
      · have hi : i < len := by simpa using hi
        have e2 : ((List.range len).map A).getD i E.d = A i := by simp [List.getD_eq_getElem?_getD, hi]
        show VRels ρ (E.cells (((List.range len).map A).getD i E.d)) _
        rw [e2]
        exact hA i (by omega) ρ
    exact ⟨hL, lies_all hL⟩
theorem hrel_ro {S : Seat} {ρ : Loc} {W : World} {es : List Ent} {N : Nat} (hl : ∀ e ∈ es, e.rw = false ∧ e.c.closed ∧ ContOk S e.c ∧ OpenAt ρ W e.c e.b ∧ e.b.lt N ∧ e.b.isKey)
    (hk : es.Pairwise fun e e' => e.b ≠ e'.b) (hg : ∀ g, ∃ n, ρ (.glob g) = some (g, (0, n))) : HRel S ⟨ρ, fun _ => allF W⟩ ⟨es, N⟩ W where
  holds := fun e he => by
    obtain ⟨h1, h2, _, h4, _⟩ := hl e he
    rw [h1]
    exact (h4 N).toE h2
  key := fun e he => (hl e he).2.2.2.2
  sep := fun e he e' he' hor => by
    rw [(hl e he).1, (hl e' he').1] at hor
    simp at hor
  keys := hk
  glob := hg
  enc := fun e he => (hl e he).2.2.1
  low := fun e he k c h => h
  root := fun e he h => by
    rw [(hl e he).1] at h
    cases h
def argAt (l : List Pm) : Blk → List (Int × Nat) → Option (Nat × (Nat × Nat))
  | .loc n, p => l.getD n (fun _ => none) p
  | .glob g, p => match p with
    | [] => some (g, (0, 0))
    | _ => none
  | .sub b i j, p => argAt l b ((i, j) :: p)
def argLoc (l : List Pm) : Loc := fun b => argAt l b []
theorem argAt_ext (l : List Pm) : ∀ (p r : List (Int × Nat)) (b : Blk), argAt l (ext b p) r = argAt l b (p ++ r)
  | [], _, _ => rfl
  | (i, j) :: p, r, b => by
    show argAt l (ext (.sub b i j) p) r = _
    rw [argAt_ext l p r]
    rfl
theorem argLoc_at (l : List Pm) (n : Nat) : AtQ (argLoc l) (.loc n) (l.getD n fun _ => none) := fun p => by
  show argAt l (ext (.loc n) p) [] = _
  rw [argAt_ext, List.append_nil]
  rfl
theorem call_ro {S : Seat} {f : Nat} {es : List Ent} {N : Nat} {args : List AV} {rs : List Value} {l : List Pm} {W : World} {H' : Heap} (hlaw : CallA S f args ⟨es, N⟩ fun v H => ∃ _ : Unit, True ∧ v = .tt ∧ H = H')
    (hl : ∀ e ∈ es, e.rw = false ∧ e.c.closed ∧ ContOk S e.c ∧ OpenAt (argLoc l) W e.c e.b ∧ e.b.lt N ∧ e.b.isKey) (hk : es.Pairwise fun e e' => e.b ≠ e'.b) (hargs : VRels (argLoc l) args rs) (hlt : AV.lts N args) :
    Calls S.P f rs.toArray W fun e W' => e = .returned (.bool true) ∧ Below W.heap.size W W' := by
  unfold CallA at hlaw
  refine (hlaw ⟨argLoc l, fun _ => allF W⟩ W rs (hrel_ro hl hk fun g => ⟨0, rfl⟩) hargs hlt).mono ?_
  rintro e W' ⟨v', r', H', ρ', rfl, ⟨_, _, rfl, rfl⟩, hv', _, ha⟩
  have hv' : r' = .bool true := hv'
  subst hv'
  refine ⟨rfl, ha.os, ha.tape, ha.output, ha.size, fun k hk => ?_⟩
  obtain ⟨o, ho⟩ : ∃ o, W.heap[k]? = some o := ⟨_, Array.getElem?_eq_getElem hk⟩
  rw [ho]
  refine ha.frame.obj k o ho fun c => ?_
  rintro ⟨e, he, hrw, _⟩
  rw [(hl e he).1] at hrw
  cases hrw
end Go.Vm
