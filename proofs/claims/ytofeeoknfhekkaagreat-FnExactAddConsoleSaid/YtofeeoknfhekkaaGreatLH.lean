/- The law's own functions: slices of slices marked, lines, consoles. -/
import Derived.Test.YtofeeoknfhekkaaGreatLG
import Derived.Test.YtofeeoknfhekkaaGreatLD
set_option linter.unusedSimpArgs false
set_option linter.unusedVariables false
set_option linter.constructorNameAsVariable false
namespace Go.Mu
open Go Go.Vm Go.RowKit Go.Proofs
attribute [local irreducible] wpA opsA stillA drawA drawS
set_option maxRecDepth 20000
set_option maxHeartbeats 4000000
theorem leafL12 {P : Prop} (h : P := by
  first
  | exact leaf
  | exact PreC.of_eq (mkAll_set' _ (by with_reducible assumption))
  | fail) : P := h
@[reducible] def mkBytes (n : Int) (x : List Int) : List Int := mks (mkU n) x.length
@[reducible] def mkUU (n : Int) (xs : List (List Int)) : List (List Int) := mkAll List.length mkBytes n xs
theorem markByteSS (xs : List (List Int)) (hx : xs.length ≤ 1048576) (hs : sumC List.length xs ≤ 1048576) (n : Int) (hn : 0 ≤ n) (hn' : n ≤ 137438953472) : CallA S 129 [.sl (.loc 0) 1 none xs.length, .int .i64 n] ⟨[⟨.loc 0, true, bytesN xs⟩], 1⟩ (Ret1 (.int .i64 (n + sumC List.length xs)) ⟨[⟨.loc 0, true, bytesN (mkUU n xs)⟩], 1⟩) := by
  refine .ofC hS _ _ _ Tryz.func129 ?_
  conv => whnf
  repeat' (first|refine Seal.mk ?_|(refine wS ?_;(conv=>whnf);fail_if_success show False)|((first|refine opsA_step ?_|refine drawS_go ?_);conv=>whnf)|(intro _;first|omega|conv=>whnf)|(apply And.intro<;>intro _<;>first|omega|conv=>whnf)|refine ⟨Seal.mk ?_,Seal.mk ?_⟩|((first|(apply And.intro;focus exact leafL12)|(apply Or.inl;apply And.intro;focus exact leafL12)|apply Or.inr|refine ⟨_,rfl,?_⟩|refine ⟨_,⟨rfl,rfl⟩,?_⟩|refine ⟨intE .u8,⟨rfl,fun _=>rfl⟩,?_⟩|(refine Exists.intro _ (And.intro (And.intro rfl (And.intro rfl ?_)) ?_);focus exact leafL12));conv=>whnf)|with_reducible assumption|((fail_if_success refine Exists.intro ?_ ?_);exact leafL12)|fail)
  refine .loop hS (γ := Nat) (fun i => ⟨[(0, .sl (.loc 0) 1 none xs.length), (1, .int .i64 (n + sumC List.length (xs.take i))), (5, .int .i64 i)],
    ⟨[⟨.loc 0, true, bytesN (mkUU n (xs.take i) ++ xs.drop i)⟩], 1⟩, 19, 1⟩) (fun i => i ≤ xs.length) (fun i => xs.length - i) 0 (by omega) ?_ ?_
  · have h0 : mkUU n (xs.take 0) ++ xs.drop 0 = xs := by simp [mkAll]
    have h1 := h0.symm
    have h2 : sumC List.length (xs.take 0) = 0 := by simp [sumC]
    ((try dsimp only);((try refine wF ?_);repeat' (first|exact ⟨⟩|(apply And.intro;focus exact leafL12)|((conv=>whnf);first|exact ⟨⟩|(apply And.intro;focus exact leafL12))|fail)))
  · intro i hi
    have hl : (mkUU n (xs.take i) ++ xs.drop i).length = xs.length := by simp [mkAll_len]; omega
    have hb := sumC_get (cnt := List.length) (xs := xs) (i : Int).toNat [] rfl
    have hle := sumC_le (cnt := List.length) (xs := xs) i
    by_cases hlt : i < xs.length
    · have hcur := mkAll_cur (cnt := List.length) (mk := mkBytes) (n := n) hlt ([] : List Int)
      have hnx := sumC_take (cnt := List.length) hlt ([] : List Int)
      have hset := mkAll_set (cnt := List.length) (mk := mkBytes) (n := n) hlt ([] : List Int)
      conv => whnf
      apply Wp.turn; (focus (apply Turn.open hS (nb := 0) (i0 := (i : Int)); (conv => whnf); refine And.intro ⟨by omega, by omega⟩ ?_; (focus ((conv=>whnf);repeat' (first|exact rfl|(apply And.intro;focus exact leafL12)|((conv=>whnf);first|exact rfl|(apply And.intro;focus exact leafL12))|fail))))); (conv => whnf)
      rw [hcur]
      generalize hz : xs.getD (i : Int).toNat [] = z at *
      repeat' (first|refine Seal.mk ?_|(refine wS ?_;(conv=>whnf);fail_if_success show False)|((first|refine opsA_step ?_|refine drawS_go ?_|apply wL (markByteS _ _ _ _ _));conv=>whnf)|(intro _;first|omega|conv=>whnf)|(apply And.intro<;>intro _<;>first|omega|conv=>whnf)|refine ⟨Seal.mk ?_,Seal.mk ?_⟩|((first|(apply And.intro;focus exact leafL12)|(apply Or.inl;apply And.intro;focus exact leafL12)|apply Or.inr|refine ⟨_,rfl,?_⟩|refine ⟨_,⟨rfl,rfl⟩,?_⟩|refine ⟨intE .u8,⟨rfl,fun _=>rfl⟩,?_⟩|(refine Exists.intro _ (And.intro (And.intro rfl (And.intro rfl ?_)) ?_);focus exact leafL12));conv=>whnf)|with_reducible assumption|((fail_if_success refine Exists.intro ?_ ?_);exact leafL12)|fail)
      have hlz : (mkBytes (n + sumC List.length (xs.take i)) z).length = z.length := mks_len _ _
      have hlz' : ((mkBytes (n + sumC List.length (xs.take i)) z).length : Int) = z.length := by omega
      have hlz2 := hlz'.symm
      refine ⟨i + 1, ⟨by omega, by omega⟩, ?_⟩
      apply FitsT.turn; (focus (apply Turn.close hS (nb := 0) (x := mkBytes (n + sumC List.length (xs.take i)) z) (xs' := mkUU n (xs.take (i + 1)) ++ xs.drop (i + 1)); (conv => whnf); refine And.intro ⟨rfl, ?_⟩ ?_; (focus (first | exact Or.inr ⟨by omega, by omega, by first | (with_reducible assumption) | (exact Eq.symm (by with_reducible assumption)) | rfl⟩ | exact Or.inl ⟨by first | rfl | omega, by first | (with_reducible assumption) | rfl⟩)); (focus ((conv=>whnf);repeat' (first|exact rfl|(apply And.intro;focus exact leafL12)|((conv=>whnf);first|exact rfl|(apply And.intro;focus exact leafL12))|fail)))))
      ((try dsimp only);((try refine wF ?_);repeat' (first|exact ⟨⟩|(apply And.intro;focus exact leafL12)|((conv=>whnf);first|exact ⟨⟩|(apply And.intro;focus exact leafL12))|fail)))
    · have hi : i = xs.length := by omega
      subst hi
      have h0 : mkUU n (xs.take xs.length) ++ xs.drop xs.length = mkUU n xs := by simp
      have h2 : xs.take xs.length = xs := List.take_length
      conv => whnf
      repeat' (first|refine Seal.mk ?_|(refine wS ?_;(conv=>whnf);fail_if_success show False)|((first|refine opsA_step ?_|refine drawS_go ?_);conv=>whnf)|(intro _;first|omega|conv=>whnf)|(apply And.intro<;>intro _<;>first|omega|conv=>whnf)|refine ⟨Seal.mk ?_,Seal.mk ?_⟩|((first|(apply And.intro;focus exact leafL12)|(apply Or.inl;apply And.intro;focus exact leafL12)|apply Or.inr|refine ⟨_,rfl,?_⟩|refine ⟨_,⟨rfl,rfl⟩,?_⟩|refine ⟨intE .u8,⟨rfl,fun _=>rfl⟩,?_⟩|(refine Exists.intro _ (And.intro (And.intro rfl (And.intro rfl ?_)) ?_);focus exact leafL12));conv=>whnf)|with_reducible assumption|((fail_if_success refine Exists.intro ?_ ?_);exact leafL12)|fail)
      (refine ⟨(),⟨⟩,?_⟩;((try refine wF ?_);repeat' (first|exact ⟨⟩|(apply And.intro;focus exact leafL12)|((conv=>whnf);first|exact ⟨⟩|(apply And.intro;focus exact leafL12))|fail)))
theorem heldByteSS (xs : List (List Int)) (hx : xs.length ≤ 1048576) (hs : sumC List.length xs ≤ 1048576) (n : Int) (hn : 0 ≤ n) (hn' : n ≤ 137438953472) : CallA S 180 [.sl (.loc 0) 1 none xs.length, .int .i64 n] ⟨[⟨.loc 0, false, bytesN (mkUU n xs)⟩], 1⟩ (Ret1 (.int .i64 (n + sumC List.length xs)) ⟨[], 1⟩) := by
  refine .ofC hS _ _ _ Tryz.func180 ?_
  conv => whnf
  have hl : (mkUU n xs).length = xs.length := mkAll_len _ _
  repeat' (first|refine Seal.mk ?_|(refine wS ?_;(conv=>whnf);fail_if_success show False)|((first|refine opsA_step ?_|refine drawS_go ?_);conv=>whnf)|(intro _;first|omega|conv=>whnf)|(apply And.intro<;>intro _<;>first|omega|conv=>whnf)|refine ⟨Seal.mk ?_,Seal.mk ?_⟩|((first|(apply And.intro;focus exact leafL12)|(apply Or.inl;apply And.intro;focus exact leafL12)|apply Or.inr|refine ⟨_,rfl,?_⟩|refine ⟨_,⟨rfl,rfl⟩,?_⟩|refine ⟨intE .u8,⟨rfl,fun _=>rfl⟩,?_⟩|(refine Exists.intro _ (And.intro (And.intro rfl (And.intro rfl ?_)) ?_);focus exact leafL12));conv=>whnf)|with_reducible assumption|((fail_if_success refine Exists.intro ?_ ?_);exact leafL12)|fail)
  refine .loop hS (γ := Nat) (fun i => ⟨[(0, .sl (.loc 0) 1 none xs.length), (1, .int .i64 (n + sumC List.length (xs.take i))), (5, .int .i64 i)],
    ⟨[⟨.loc 0, false, bytesN (mkUU n xs)⟩], 1⟩, 21, 1⟩) (fun i => i ≤ xs.length) (fun i => xs.length - i) 0 (by omega) ?_ ?_
  · have h2 : sumC List.length (xs.take 0) = 0 := by simp [sumC]
    ((try dsimp only);((try refine wF ?_);repeat' (first|exact ⟨⟩|(apply And.intro;focus exact leafL12)|((conv=>whnf);first|exact ⟨⟩|(apply And.intro;focus exact leafL12))|fail)))
  · intro i hi
    have hb := sumC_get (cnt := List.length) (xs := xs) (i : Int).toNat [] rfl
    have hle := sumC_le (cnt := List.length) (xs := xs) i
    by_cases hlt : i < xs.length
    · have hnx := sumC_take (cnt := List.length) hlt ([] : List Int)
      have hget := mkAll_get (cnt := List.length) (mk := mkBytes) (n := n) hlt ([] : List Int)
      have hgl : ((mkUU n xs).getD (i : Int).toNat []).length = (xs.getD (i : Int).toNat []).length := by rw [hget]; exact mks_len _ _
      have hge : (mkUU n xs).getD (i : Int).toNat [] = mks (mkU (n + sumC List.length (xs.take i))) ((mkUU n xs).getD (i : Int).toNat []).length := by rw [hgl]; exact hget
      conv => whnf
      repeat' (first|refine Seal.mk ?_|(refine wS ?_;(conv=>whnf);fail_if_success show False)|((first|refine opsA_step ?_|refine drawS_go ?_|apply wL (heldByteS _ _ _ _ _));conv=>whnf)|(intro _;first|omega|conv=>whnf)|(apply And.intro<;>intro _<;>first|omega|conv=>whnf)|refine ⟨Seal.mk ?_,Seal.mk ?_⟩|((first|(apply And.intro;focus exact leafL12)|(apply Or.inl;apply And.intro;focus exact leafL12)|apply Or.inr|refine ⟨_,rfl,?_⟩|refine ⟨_,⟨rfl,rfl⟩,?_⟩|refine ⟨intE .u8,⟨rfl,fun _=>rfl⟩,?_⟩|(refine Exists.intro _ (And.intro (And.intro rfl (And.intro rfl ?_)) ?_);focus exact leafL12));conv=>whnf)|with_reducible assumption|((fail_if_success refine Exists.intro ?_ ?_);exact leafL12)|fail)
      all_goals (refine ⟨i + 1, ⟨by omega, by omega⟩, ?_⟩; ((try dsimp only);((try refine wF ?_);repeat' (first|exact ⟨⟩|(apply And.intro;focus exact leafL12)|((conv=>whnf);first|exact ⟨⟩|(apply And.intro;focus exact leafL12))|fail))))
    · have hi : i = xs.length := by omega
      subst hi
      have h2 : xs.take xs.length = xs := List.take_length
      conv => whnf
      repeat' (first|refine Seal.mk ?_|(refine wS ?_;(conv=>whnf);fail_if_success show False)|((first|refine opsA_step ?_|refine drawS_go ?_);conv=>whnf)|(intro _;first|omega|conv=>whnf)|(apply And.intro<;>intro _<;>first|omega|conv=>whnf)|refine ⟨Seal.mk ?_,Seal.mk ?_⟩|((first|(apply And.intro;focus exact leafL12)|(apply Or.inl;apply And.intro;focus exact leafL12)|apply Or.inr|refine ⟨_,rfl,?_⟩|refine ⟨_,⟨rfl,rfl⟩,?_⟩|refine ⟨intE .u8,⟨rfl,fun _=>rfl⟩,?_⟩|(refine Exists.intro _ (And.intro (And.intro rfl (And.intro rfl ?_)) ?_);focus exact leafL12));conv=>whnf)|with_reducible assumption|((fail_if_success refine Exists.intro ?_ ?_);exact leafL12)|fail)
      (refine ⟨(),⟨⟩,?_⟩;((try refine wF ?_);repeat' (first|exact ⟨⟩|(apply And.intro;focus exact leafL12)|((conv=>whnf);first|exact ⟨⟩|(apply And.intro;focus exact leafL12))|fail)))
@[reducible] noncomputable def mkLin (n : Int) (s : Lin) : Lin := { s with ready := mkUU (n) s.ready, edit := mks (mkU (n + sumC List.length s.ready)) s.edit.length }
@[reducible] noncomputable def mkCon (n : Int) (s : Con) : Con := { s with vt := mkVt (n) s.vt, lin := mkLin (n + s.vt.par.params.length + 2 * s.vt.scr.grid.cells.length + 2 * s.vt.scr.grid.back.length + s.vt.scr.tabs.length + s.vt.scr.sets.length) s.lin }
end Go.Mu

namespace Go.Mu
open Go Go.Vm Go.RowKit Go.Proofs
attribute [local irreducible] wpA opsA stillA drawA drawS
set_option maxRecDepth 20000
set_option maxHeartbeats 4000000
@[reducible] noncomputable def mkVtR (n : Int) (s : VtR) : VtR := { s with vt := mkVt (n) s.vt }
@[reducible] noncomputable def mkConR (n : Int) (s : ConR) : ConR := { s with bytes := mks (mkU (n)) s.bytes.length, con := mkCon (n + s.bytes.length) s.con }
end Go.Mu
