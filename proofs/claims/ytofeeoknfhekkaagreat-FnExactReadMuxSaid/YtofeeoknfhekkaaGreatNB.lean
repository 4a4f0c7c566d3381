/- Reading a line, as the reference does. -/
import Derived.Test.YtofeeoknfhekkaaGreatNA
set_option linter.unusedSimpArgs false
set_option linter.unusedVariables false
set_option linter.constructorNameAsVariable false
namespace Go.Mu
open Go Go.Vm Go.RowKit Go.Proofs
attribute [local irreducible] wpA opsA stillA drawA drawS
set_option maxRecDepth 20000
set_option maxHeartbeats 4000000
theorem leafN4 {P : Prop} (h : P := by
  first
  | exact leaf
  | exact ⟨_, [], rfl, by omega, by omega, (List.append_nil _).symm⟩
  | exact ⟨_, rfl, by omega, by omega, rfl⟩
  | fail) : P := h
theorem min1 (a b : Int) : CallA S 137 [.int .i64 a, .int .i64 b] ⟨[], 0⟩ (Ret1 (.int .i64 (min a b)) ⟨[], 0⟩) := by
  refine .ofC hS _ _ _ Tryz.func137 ?_
  conv => whnf
  repeat' (first|refine Seal.mk ?_|(refine wS ?_;(conv=>whnf);fail_if_success show False)|((first|refine opsA_step ?_|refine drawS_go ?_);conv=>whnf)|(intro _;first|omega|conv=>whnf)|(apply And.intro<;>intro _<;>first|omega|conv=>whnf)|refine ⟨Seal.mk ?_,Seal.mk ?_⟩|((first|(apply And.intro;focus exact leafN4)|(apply Or.inl;apply And.intro;focus exact leafN4)|apply Or.inr|refine ⟨_,rfl,?_⟩|refine ⟨_,⟨rfl,rfl⟩,?_⟩|refine ⟨intE .u8,⟨rfl,fun _=>rfl⟩,?_⟩|(refine Exists.intro _ (And.intro (And.intro rfl (And.intro rfl ?_)) ?_);focus exact leafN4));conv=>whnf)|with_reducible assumption|((fail_if_success refine Exists.intro ?_ ?_);exact leafN4)|fail)
  all_goals (refine ⟨(),⟨⟩,?_⟩;((try refine wF ?_);repeat' (first|exact ⟨⟩|(apply And.intro;focus exact leafN4)|((conv=>whnf);first|exact ⟨⟩|(apply And.intro;focus exact leafN4))|fail)))
theorem set_get {X : List (List Int)} {i : Int} (h : i.toNat < X.length) : X = X.set i.toNat (X.getD i.toNat []) := by
  apply List.ext_getElem?
  intro j
  rw [List.getElem?_set]
  split
  · rename_i e; subst e; simp [h]
  · rfl
noncomputable def hd (c : Prop) (ps : List (List Int)) (n : Nat) : List Int × List (List Int) :=
  if n = 0 ∨ ps.length = 0 then ([], ps) else rd c ps n
def Head (c : Prop) (ps : List (List Int)) (n : Nat) (X : List (List Int)) (k : Nat) (out : List Int) : Prop :=
  out.length ≤ n ∧ rd c ps n = (out ++ (hd c (X.drop k) (n - out.length)).1, (hd c (X.drop k) (n - out.length)).2)
theorem Head.first (c : Prop) (ps : List (List Int)) {n : Nat} (h : 0 < n) : Head c ps n ps 0 [] := by
  refine ⟨by simp, ?_⟩
  unfold hd
  split
  · rename_i q
    rcases q with q | q
    · simp at q; omega
    · rw [List.drop_zero] at q
      have := List.eq_nil_of_length_eq_zero q
      subst this
      rfl
  · simp
theorem Head.ahead {c : Prop} {ps : List (List Int)} {n : Nat} {X : List (List Int)} {k : Nat} {out : List Int} (h : Head c ps n X k out) (hk : k < X.length) (hl : out.length < n) : Ahead c ps n X k out := by
  refine ⟨hl, ?_⟩
  rw [h.2]
  unfold hd
  rw [if_neg (by rw [List.length_drop]; omega)]
theorem Head.done {c : Prop} {ps : List (List Int)} {n : Nat} {X : List (List Int)} {k : Nat} {out : List Int} (h : Head c ps n X k out) (he : X.length ≤ k ∨ n ≤ out.length) : rd c ps n = (out, X.drop k) := by
  rw [h.2]
  unfold hd
  rw [if_pos (by rw [List.length_drop]; omega)]
  simp
theorem Sofar.head {c : Prop} {ps : List (List Int)} {n : Nat} {X : List (List Int)} {k : Nat} {out : List Int} (h : Sofar c ps n X k out) (hc : ¬ c) : Head c ps n X k out := by
  refine ⟨h.1, ?_⟩
  rw [h.2]
  unfold hd
  split
  · rename_i q
    rw [tl_end (by
      rcases q with q | q
      · exact .inr (.inr q)
      · exact .inr (.inl (List.eq_nil_of_length_eq_zero q)))]
  · rw [tl_rd hc (by omega)]
theorem l1CopyK (p : List Int) (j : Nat) (hj : j ≤ p.length) (hx : p.length ≤ 1048576) : CallA S 218 [.sl (.loc 0) 1 (some j) (p.length - j)] ⟨[⟨.loc 0, false, .arr (intE .u8) p⟩], 1⟩ (Ret1 (.sl (.loc 1) 1 none (p.drop j).length) ⟨[⟨.loc 1, true, .arr (intE .u8) (p.drop j)⟩], 2⟩) := by
  refine .ofC hS _ _ _ Tryz.func218 ?_
  conv => whnf
  have hl : (p.drop j).length = p.length - j := List.length_drop
  have e : ([] : List Int) ++ (p.drop (j : Int).toNat).take ((p.length : Int) - j).toNat = p.drop j := by
    rw [Int.toNat_natCast, List.nil_append, List.take_of_length_le (by rw [List.length_drop]; omega)]
  have e' : ([] : List Int).length + ((p.drop (j : Int).toNat).take ((p.length : Int) - j).toNat).length = (p.drop j).length := by
    rw [← List.length_append, e]
  repeat' (first|refine Seal.mk ?_|(refine wS ?_;(conv=>whnf);fail_if_success show False)|((first|refine opsA_step ?_|refine drawS_go ?_);conv=>whnf)|(intro _;first|omega|conv=>whnf)|(apply And.intro<;>intro _<;>first|omega|conv=>whnf)|refine ⟨Seal.mk ?_,Seal.mk ?_⟩|((first|(apply And.intro;focus exact leafN4)|(apply Or.inl;apply And.intro;focus exact leafN4)|apply Or.inr|refine ⟨_,rfl,?_⟩|refine ⟨_,⟨rfl,rfl⟩,?_⟩|refine ⟨intE .u8,⟨rfl,fun _=>rfl⟩,?_⟩|(refine Exists.intro _ (And.intro (And.intro rfl (And.intro rfl ?_)) ?_);focus exact leafN4));conv=>whnf)|with_reducible assumption|((fail_if_success refine Exists.intro ?_ ?_);exact leafN4)|fail)
  all_goals (refine ⟨(),⟨⟩,?_⟩;((try refine wF ?_);repeat' (first|exact ⟨⟩|(apply And.intro;focus exact leafN4)|((conv=>whnf);first|exact ⟨⟩|(apply And.intro;focus exact leafN4))|fail)))
theorem l11Read (w : Wy) (hf0 : 0 ≤ w.flags) (hf1 : w.flags ≤ 511) (xs : List (List Int)) (hx : xs.length ≤ 1048576) (hsum : sumC List.length xs ≤ 1048576) (n : Int) (hn : 1 ≤ n ∧ n ≤ 99) (ed : List Int) (lit : Bool) (br : Int) :
    CallA S 204 [.ptr (.loc 0) 7 none 0, .ptr (.loc 1) 4 none 0, .int .i64 n] ⟨[⟨.loc 0, false, .raw (wyC w)⟩, ⟨.loc 1, true, .raw [.sl (.loc 2) 1 none xs.length, .sl (.loc 3) 1 none ed.length, .prop (lit = true), .int .i64 br]⟩, ⟨.loc 2, true, bytesN xs⟩, ⟨.loc 3, true, .arr (intE .u8) ed⟩], 4⟩
    (Ret1 (.sl (.loc 4) 1 none (rd (canon w) xs n.toNat).1.length) ⟨[⟨.loc 4, true, .arr (intE .u8) (rd (canon w) xs n.toNat).1⟩, ⟨.loc 1, true, .raw [.sl (.loc 5) 1 none (rd (canon w) xs n.toNat).2.length, .sl (.loc 3) 1 none ed.length, .prop (lit = true), .int .i64 br]⟩, ⟨.loc 5, true, bytesN (rd (canon w) xs n.toNat).2⟩, ⟨.loc 3, true, .arr (intE .u8) ed⟩], 6⟩) := by
  refine .ofC hS _ _ _ Tryz.func204 ?_
  conv => whnf
  repeat' (first|refine Seal.mk ?_|(refine wS ?_;(conv=>whnf);fail_if_success show False)|((first|refine opsA_step ?_|refine drawS_go ?_);conv=>whnf)|(intro _;first|omega|conv=>whnf)|(apply And.intro<;>intro _<;>first|omega|conv=>whnf)|refine ⟨Seal.mk ?_,Seal.mk ?_⟩|((first|(apply And.intro;focus exact leafN4)|(apply Or.inl;apply And.intro;focus exact leafN4)|apply Or.inr|refine ⟨_,rfl,?_⟩|refine ⟨_,⟨rfl,rfl⟩,?_⟩|refine ⟨intE .u8,⟨rfl,fun _=>rfl⟩,?_⟩|(refine Exists.intro _ (And.intro (And.intro rfl (And.intro rfl ?_)) ?_);focus exact leafN4));conv=>whnf)|with_reducible assumption|((fail_if_success refine Exists.intro ?_ ?_);exact leafN4)|fail)
  have hs0 : Head (canon w) xs n.toNat xs 0 [] := Head.first _ _ (by omega)
  refine .loop hS (γ := Nat × List Int) (fun g => ⟨[(0, .ptr (.loc 0) 7 none 0), (1, .ptr (.loc 1) 4 none 0), (2, .int .i64 n), (7, .sl (.loc 4) 1 none g.2.length)],
      ⟨[⟨.loc 4, true, .arr (intE .u8) g.2⟩, ⟨.loc 0, false, .raw (wyC w)⟩, ⟨.loc 1, true, .raw [.sl (.loc 2) 1 (some g.1) (xs.length - g.1), .sl (.loc 3) 1 none ed.length, .prop (lit = true), .int .i64 br]⟩, ⟨.loc 2, true, bytesN xs⟩, ⟨.loc 3, true, .arr (intE .u8) ed⟩], 5⟩, 67, 4⟩)
    (fun g => Head (canon w) xs n.toNat xs g.1 g.2 ∧ g.1 ≤ xs.length) (fun g => xs.length - g.1) (0, []) ⟨hs0, by omega⟩ ?_ ?_
  · ((try dsimp only);((try refine wF ?_);repeat' (first|exact ⟨⟩|(apply And.intro;focus exact leafN4)|((conv=>whnf);first|exact ⟨⟩|(apply And.intro;focus exact leafN4))|fail)))
  · rintro ⟨k, out⟩ ⟨hs, hk⟩
    simp only at hs hk ⊢
    have ho := hs.1
    have ek : (k : Int).toNat = k := Int.toNat_natCast k
    by_cases hgo : k < xs.length ∧ out.length < n
    · have ha := hs.ahead hgo.1 (by omega)
      have hset := set_get (X := xs) (i := (k : Int)) (by omega)
      have hp : (xs.getD (k : Int).toNat []).length ≤ 1048576 := by have := sumC_get (cnt := List.length) (xs := xs) (k : Int).toNat [] rfl; omega
      conv => whnf
      apply Wp.turn; (focus (apply Turn.open hS (nb := 2) (i0 := (k : Int)); (conv => whnf); refine And.intro ⟨by omega, by omega⟩ ?_; (focus ((conv=>whnf);repeat' (first|exact rfl|(apply And.intro;focus exact leafN4)|((conv=>whnf);first|exact rfl|(apply And.intro;focus exact leafN4))|fail))))); (conv => whnf)
      have hz : xs.getD (k : Int).toNat [] = xs.getD k [] := by rw [ek]
      rw [hz] at hset hp ⊢
      generalize hgp : xs.getD k [] = p at *
      obtain ⟨m, hm⟩ : ∃ m : Nat, (m : Int) = min (p.length : Int) (n - out.length) := ⟨(min (p.length : Int) (n - out.length)).toNat, by omega⟩
      have hmp : m ≤ p.length := by omega
      have et : List.take (min (p.length : Int) (n - out.length) - 0).toNat (List.drop (Int.toNat 0) p) = p.take m := by rw [show (min (p.length : Int) (n - out.length) - 0).toNat = m by omega]; rfl
      have eo : out ++ List.take (min (p.length : Int) (n - out.length) - 0).toNat (List.drop (Int.toNat 0) p) = out ++ p.take m := by rw [et]
      have el : (out ++ p.take m).length = out.length + (List.take (min (p.length : Int) (n - out.length) - 0).toNat (List.drop (Int.toNat 0) p)).length := by rw [et, List.length_append]
      have em : (out ++ p.take m).length = out.length + m := by simp only [List.length_append, List.length_take]; omega
      have hsl : (xs.set (k : Int).toNat (p.drop m)).length = xs.length := List.length_set
      have hdl : (p.drop m).length = p.length - m := List.length_drop
      repeat' (first|refine Seal.mk ?_|(refine wS ?_;(conv=>whnf);fail_if_success show False)|((first|refine opsA_step ?_|refine drawS_go ?_|refine wD (id:=7) (.quick 0 (.quick 1 (.quick 2 (.quick 4 (.quick 5 (.quick 6 (.all (.fork (.step 3 (.all (.step 7 (.quick 8 (.all (.step 9 .done)))))) (.step 7 (.all (.step 3 (.quick 8 (.all (.step 9 .done)))))))))))))) [3, 7, 9] (by kernel_rfl) rfl ?_|apply wL (min1 _ _)|apply wL (hasS w hf0 hf1)|apply wL (l1CopyK p m hmp hp));conv=>whnf)|(intro _;first|omega|conv=>whnf)|(apply And.intro<;>intro _<;>first|omega|conv=>whnf)|refine ⟨Seal.mk ?_,Seal.mk ?_⟩|((first|(apply And.intro;focus exact leafN4)|(apply Or.inl;apply And.intro;focus exact leafN4)|apply Or.inr|refine ⟨_,rfl,?_⟩|refine ⟨_,⟨rfl,rfl⟩,?_⟩|refine ⟨intE .u8,⟨rfl,fun _=>rfl⟩,?_⟩|(refine Exists.intro _ (And.intro (And.intro rfl (And.intro rfl ?_)) ?_);focus exact leafN4));conv=>whnf)|with_reducible assumption|((fail_if_success refine Exists.intro ?_ ?_);exact leafN4)|fail)
      iterate 2
        rotate_right
      · have hst := ha.all' hgo.1 (by rw [hgp]; omega)
        rw [hgp] at hst
        have hm' : p.take m = p := by rw [show m = p.length by omega, List.take_length]
        rw [hm'] at et eo el em
        have hdn := hst.done (.inl (by with_reducible assumption))
        have hkl : (xs.drop (k + 1)).length = xs.length - (k + 1) := List.length_drop
        rw [hdn]
        refine ⟨(), trivial, ?_⟩
        dsimp only
        apply FitsT.turn; (focus (apply Turn.close hS (nb := 2) (x := p) (xs' := xs); (conv => whnf); refine And.intro ⟨rfl, ?_⟩ ?_; (focus (first | exact Or.inr ⟨by omega, by omega, by first | (with_reducible assumption) | (exact Eq.symm (by with_reducible assumption)) | rfl⟩ | exact Or.inl ⟨by first | rfl | omega, by first | (with_reducible assumption) | rfl⟩)); (focus ((conv=>whnf);repeat' (first|exact rfl|(apply And.intro;focus exact leafN4)|((conv=>whnf);first|exact rfl|(apply And.intro;focus exact leafN4))|fail)))))
        refine FitsT.told hS [(5, some (.trim (.loc 2) (k + 1) 1))] ?_
        (conv => whnf)
        repeat' (first|exact ⟨⟩|(apply And.intro;focus exact leafN4)|((conv=>whnf);first|exact ⟨⟩|(apply And.intro;focus exact leafN4))|fail)
      · have hst := ha.all' hgo.1 (by rw [hgp]; omega)
        rw [hgp] at hst
        have hm' : p.take m = p := by rw [show m = p.length by omega, List.take_length]
        rw [hm'] at et eo el em
        have hne := hst.head (by with_reducible assumption)
        refine ⟨(k + 1, out ++ p), ⟨⟨hne, by simp only; omega⟩, by simp only; omega⟩, ?_⟩
        apply FitsT.turn; (focus (apply Turn.close hS (nb := 2) (x := p) (xs' := xs); (conv => whnf); refine And.intro ⟨rfl, ?_⟩ ?_; (focus (first | exact Or.inr ⟨by omega, by omega, by first | (with_reducible assumption) | (exact Eq.symm (by with_reducible assumption)) | rfl⟩ | exact Or.inl ⟨by first | rfl | omega, by first | (with_reducible assumption) | rfl⟩)); (focus ((conv=>whnf);repeat' (first|exact rfl|(apply And.intro;focus exact leafN4)|((conv=>whnf);first|exact rfl|(apply And.intro;focus exact leafN4))|fail)))))
        ((try dsimp only);((try refine wF ?_);repeat' (first|exact ⟨⟩|(apply And.intro;focus exact leafN4)|((conv=>whnf);first|exact ⟨⟩|(apply And.intro;focus exact leafN4))|fail)))
      all_goals
        have hst := ha.some hgo.1 (by rw [hgp]; omega)
        rw [hgp, show n.toNat - out.length = m by omega, ← ek] at hst
        have hdn := hst.done (.inr (.inr (by omega)))
        have hkl : ((xs.set (k : Int).toNat (p.drop m)).drop (k : Int).toNat).length = xs.length - k := by rw [List.length_drop, hsl]; omega
        rw [hdn]
        refine ⟨(), trivial, ?_⟩
        dsimp only
        apply FitsT.turn; (focus (apply Turn.close hS (nb := 2) (x := p.drop m) (xs' := xs.set (k : Int).toNat (p.drop m)); (conv => whnf); refine And.intro ⟨rfl, ?_⟩ ?_; (focus (first | exact Or.inr ⟨by omega, by omega, by first | (with_reducible assumption) | (exact Eq.symm (by with_reducible assumption)) | rfl⟩ | exact Or.inl ⟨by first | rfl | omega, by first | (with_reducible assumption) | rfl⟩)); (focus ((conv=>whnf);repeat' (first|exact rfl|(apply And.intro;focus exact leafN4)|((conv=>whnf);first|exact rfl|(apply And.intro;focus exact leafN4))|fail)))))
        refine FitsT.told hS [(5, some (.trim (.loc 2) k 1))] ?_
        (conv => whnf)
        repeat' (first|exact ⟨⟩|(apply And.intro;focus exact leafN4)|((conv=>whnf);first|exact ⟨⟩|(apply And.intro;focus exact leafN4))|fail)
    · have hd : rd (canon w) xs n.toNat = (out, xs.drop k) := hs.done (by omega)
      conv => whnf
      repeat' (first|refine Seal.mk ?_|(refine wS ?_;(conv=>whnf);fail_if_success show False)|((first|refine opsA_step ?_|refine drawS_go ?_);conv=>whnf)|(intro _;first|omega|conv=>whnf)|(apply And.intro<;>intro _<;>first|omega|conv=>whnf)|refine ⟨Seal.mk ?_,Seal.mk ?_⟩|((first|(apply And.intro;focus exact leafN4)|(apply Or.inl;apply And.intro;focus exact leafN4)|apply Or.inr|refine ⟨_,rfl,?_⟩|refine ⟨_,⟨rfl,rfl⟩,?_⟩|refine ⟨intE .u8,⟨rfl,fun _=>rfl⟩,?_⟩|(refine Exists.intro _ (And.intro (And.intro rfl (And.intro rfl ?_)) ?_);focus exact leafN4));conv=>whnf)|with_reducible assumption|((fail_if_success refine Exists.intro ?_ ?_);exact leafN4)|fail)
      all_goals (rw [hd]; refine ⟨(), trivial, FitsT.told hS [(5, some (.trim (.loc 2) k 1))] ?_⟩; (conv => whnf); repeat' (first|exact ⟨⟩|(apply And.intro;focus exact leafN4)|((conv=>whnf);first|exact ⟨⟩|(apply And.intro;focus exact leafN4))|fail))
end Go.Mu

namespace Go.Mu
open Go Go.Vm Go.RowKit Go.Proofs
attribute [local irreducible] wpA opsA stillA drawA drawS
set_option maxRecDepth 20000
set_option maxHeartbeats 4000000
theorem leafN5 {P : Prop} (h : P := by
  first
  | exact leaf
  | exact PreC.of_eq rfl
  | rfl
  | exact Bool.false_ne_true
  | exact ⟨rfl, rfl⟩
  | fail) : P := h
def lin0 : Lin := ⟨[], [], false, 0⟩
theorem readLineBad (w : Wy) (s : Lin) (h : LinB s) (n : Int) (hw : wayF w = 0) (hl : linF s = 0) (hn : ¬ (1 ≤ n ∧ n ≤ 99)) : CallA S 156 [.agg (wyC w), .agg (linC (.loc 0) (.loc 1) s), .int .i64 n] ⟨linH false (.loc 0) (.loc 1) s [], 2⟩ (Ret1 (.agg [.int .i64 3, .ff, .nils, .nils, .nils, .nils, .ff, .int .i64 0]) ⟨[], 2⟩) := by
  have h' := h
  obtain ⟨h0, h1, h2⟩ := h'
  have e : firstNZ [wayF w, linF s, 3] = 3 := by simp [firstNZ, *]
  refine .ofC hS _ _ _ Tryz.func156 ?_
  conv => whnf
  repeat' (first|refine Seal.mk ?_|(refine wS ?_;(conv=>whnf);fail_if_success show False)|((first|refine opsA_step ?_|refine drawS_go ?_);conv=>whnf)|(intro _;first|omega|conv=>whnf)|(apply And.intro<;>intro _<;>first|omega|conv=>whnf)|refine ⟨Seal.mk ?_,Seal.mk ?_⟩|((first|(apply And.intro;focus exact leafN5)|(apply Or.inl;apply And.intro;focus exact leafN5)|apply Or.inr|refine ⟨_,rfl,?_⟩|refine ⟨_,⟨rfl,rfl⟩,?_⟩|refine ⟨intE .u8,⟨rfl,fun _=>rfl⟩,?_⟩|(refine Exists.intro _ (And.intro (And.intro rfl (And.intro rfl ?_)) ?_);focus exact leafN5));conv=>whnf)|with_reducible assumption|((fail_if_success refine Exists.intro ?_ ?_);exact leafN5)|fail)
  refine Wp.see ⟨[(2, .int .i64 n), (3, .ptr (.loc 2) 7 none 0), (4, .ptr (.loc 3) 4 none 0), (6, .ptr (.loc 4) 8 none 0)], ⟨⟨.loc 2, false, .raw (wyC w)⟩ :: ⟨.loc 3, false, .raw (linC (.loc 0) (.loc 1) s)⟩ :: ⟨.loc 4, true, .raw [.int .i64 0, .ff, .nils, .nils, .nils, .nils, .ff, .int .i64 0]⟩ :: linH false (.loc 0) (.loc 1) s [], 5⟩, 62, 2⟩ ?_ ?_
  · ((try dsimp only);((try refine wF ?_);repeat' (first|exact ⟨⟩|(apply And.intro;focus exact leafN5)|((conv=>whnf);first|exact ⟨⟩|(apply And.intro;focus exact leafN5))|fail)))
  repeat' (first|refine Seal.mk ?_|(refine wS ?_;(conv=>whnf);fail_if_success show False)|((first|refine opsA_step ?_|refine drawS_go ?_|refine wD (id:=1) (.quick 4 (.stable 0 (.stable 2 (.all (.step 1 (.all (.step 3 (.all (.step 5 (.all (.step 6 (.all (.step 7 (.all (.step 8 (.quick 9 .done)))))))))))))))) [1, 3, 5, 6, 7, 8] (by kernel_rfl) rfl ?_|apply wL (wayFault _)|apply wL (lineFault _ h)|apply wL (inF _ _ _)|apply wL (unlessN hn 3)|apply wL (first [_, _, _] (Nat.le_of_ble_eq_true rfl)));conv=>whnf)|(intro _;first|omega|conv=>whnf)|(apply And.intro<;>intro _<;>first|omega|conv=>whnf)|refine ⟨Seal.mk ?_,Seal.mk ?_⟩|((first|(apply And.intro;focus exact leafN5)|(apply Or.inl;apply And.intro;focus exact leafN5)|apply Or.inr|refine ⟨_,rfl,?_⟩|refine ⟨_,⟨rfl,rfl⟩,?_⟩|refine ⟨intE .u8,⟨rfl,fun _=>rfl⟩,?_⟩|(refine Exists.intro _ (And.intro (And.intro rfl (And.intro rfl ?_)) ?_);focus exact leafN5));conv=>whnf)|with_reducible assumption|((fail_if_success refine Exists.intro ?_ ?_);exact leafN5)|fail)
  all_goals (refine ⟨(),⟨⟩,?_⟩;((try refine wF ?_);repeat' (first|exact ⟨⟩|(apply And.intro;focus exact leafN5)|((conv=>whnf);first|exact ⟨⟩|(apply And.intro;focus exact leafN5))|fail)))
theorem specReadLineBad (w : Wy) (s : Lin) (h : LinB s) (n : Int) (hw : wayF w = 0) (hl : linF s = 0) (hn : ¬ (1 ≤ n ∧ n ≤ 99)) : CallA S 155 [.agg (wyC w), .agg (linC (.loc 0) (.loc 1) s), .int .i64 n] ⟨linH false (.loc 0) (.loc 1) s [], 2⟩ (Ret1 (.agg [.int .i64 3, .ff, .nils, .nils, .nils, .nils, .ff, .int .i64 0]) ⟨[], 2⟩) := by
  have e : firstNZ [wayF w, linF s] = 0 := by simp [firstNZ, *]
  refine .ofC hS _ _ _ Tryz.func155 ?_
  conv => whnf
  repeat' (first|refine Seal.mk ?_|(refine wS ?_;(conv=>whnf);fail_if_success show False)|((first|refine opsA_step ?_|refine drawS_go ?_|apply wL (l11Asked w s h)|apply wL (l1In _ _ _));conv=>whnf)|(intro _;first|omega|conv=>whnf)|(apply And.intro<;>intro _<;>first|omega|conv=>whnf)|refine ⟨Seal.mk ?_,Seal.mk ?_⟩|((first|(apply And.intro;focus exact leafN5)|(apply Or.inl;apply And.intro;focus exact leafN5)|apply Or.inr|refine ⟨_,rfl,?_⟩|refine ⟨_,⟨rfl,rfl⟩,?_⟩|refine ⟨intE .u8,⟨rfl,fun _=>rfl⟩,?_⟩|(refine Exists.intro _ (And.intro (And.intro rfl (And.intro rfl ?_)) ?_);focus exact leafN5));conv=>whnf)|with_reducible assumption|((fail_if_success refine Exists.intro ?_ ?_);exact leafN5)|fail)
  all_goals (first | (exfalso; omega) | (refine ⟨(),⟨⟩,?_⟩;((try refine wF ?_);repeat' (first|exact ⟨⟩|(apply And.intro;focus exact leafN5)|((conv=>whnf);first|exact ⟨⟩|(apply And.intro;focus exact leafN5))|fail))))
theorem rd_nil (c : Prop) (n : Nat) : rd c [] n = ([], []) := rfl
theorem gr_bounds : ∀ (xs : List (List Int)) (n : Nat), (gr xs n).1.length ≤ n ∧ (gr xs n).2.length ≤ xs.length ∧ sumC List.length (gr xs n).2 ≤ sumC List.length xs
  | [], n => by simp [gr]
  | p :: ps, n => by
    unfold gr
    split
    · simp
    · split
      · refine ⟨by simp only [List.length_take]; omega, by simp, ?_⟩
        simp only [sumC, List.length_drop]; omega
      · have := gr_bounds ps (n - p.length)
        refine ⟨by simp only [List.length_append]; omega, by simp only [List.length_cons]; omega, ?_⟩
        simp only [sumC]; omega
theorem tl_bounds (c : Prop) (xs : List (List Int)) (n : Nat) : (tl c xs n).1.length ≤ n ∧ (tl c xs n).2.length ≤ xs.length ∧ sumC List.length (tl c xs n).2 ≤ sumC List.length xs := by
  unfold tl
  split
  · simp
  · exact gr_bounds xs n
theorem rd_bounds (c : Prop) (xs : List (List Int)) (n : Nat) : (rd c xs n).1.length ≤ n ∧ (rd c xs n).2.length ≤ xs.length ∧ sumC List.length (rd c xs n).2 ≤ sumC List.length xs := by
  cases xs with
  | nil => simp [rd]
  | cons p r =>
    simp only [rd]
    split
    · refine ⟨by simp only [List.length_take]; omega, by simp, ?_⟩
      simp only [sumC, List.length_drop]; omega
    · have := tl_bounds c r (n - p.length)
      refine ⟨by simp only [List.length_append]; omega, by simp only [List.length_cons]; omega, ?_⟩
      simp only [sumC]; omega
theorem specReadLine (w : Wy) (s : Lin) (h : LinB s) (n : Int) (hw : wayF w = 0) (hl : linF s = 0) (hn : 1 ≤ n ∧ n ≤ 99) : CallA S 155 [.agg (wyC w), .agg (linC (.loc 0) (.loc 1) s), .int .i64 n] ⟨linH false (.loc 0) (.loc 1) s [], 2⟩ (Ret1 (.agg (linRC (.loc 2) (.loc 3) (.loc 4) (.loc 5) (readLR w s n))) ⟨linRH true (.loc 2) (.loc 3) (.loc 4) (.loc 5) (readLR w s n) [], 6⟩) := by
  obtain ⟨⟨hf0, hf1⟩, _⟩ := way_ok hw
  have h' := h
  obtain ⟨h0, h1, h2⟩ := h'
  have e : firstNZ [wayF w, linF s] = 0 := by simp [firstNZ, *]
  refine .ofC hS _ _ _ Tryz.func155 ?_
  conv => whnf
  repeat' (first|refine Seal.mk ?_|(refine wS ?_;(conv=>whnf);fail_if_success show False)|((first|refine opsA_step ?_|refine drawS_go ?_|apply wL (l11Asked w s h)|apply wL (l1In _ _ _));conv=>whnf)|(intro _;first|omega|conv=>whnf)|(apply And.intro<;>intro _<;>first|omega|conv=>whnf)|refine ⟨Seal.mk ?_,Seal.mk ?_⟩|((first|(apply And.intro;focus exact leafN5)|(apply Or.inl;apply And.intro;focus exact leafN5)|apply Or.inr|refine ⟨_,rfl,?_⟩|refine ⟨_,⟨rfl,rfl⟩,?_⟩|refine ⟨intE .u8,⟨rfl,fun _=>rfl⟩,?_⟩|(refine Exists.intro _ (And.intro (And.intro rfl (And.intro rfl ?_)) ?_);focus exact leafN5));conv=>whnf)|with_reducible assumption|((fail_if_success refine Exists.intro ?_ ?_);exact leafN5)|fail)
  refine Wp.see ⟨[(2, .int .i64 n), (3, .ptr (.loc 2) 7 none 0), (4, .ptr (.loc 3) 4 none 0), (6, .ptr (.loc 4) 8 none 0)], ⟨⟨.loc 2, false, .raw (wyC w)⟩ :: ⟨.loc 3, false, .raw (linC (.loc 0) (.loc 1) s)⟩ :: ⟨.loc 4, true, .raw [.int .i64 0, .ff, .nils, .nils, .nils, .nils, .ff, .int .i64 0]⟩ :: linH false (.loc 0) (.loc 1) s [], 5⟩, 30, 2⟩ ?_ ?_
  · ((try dsimp only);((try refine wF ?_);repeat' (first|exact ⟨⟩|(apply And.intro;focus exact leafN5)|((conv=>whnf);first|exact ⟨⟩|(apply And.intro;focus exact leafN5))|fail)))
  repeat' (first|refine Seal.mk ?_|(refine wS ?_;(conv=>whnf);fail_if_success show False)|((first|refine opsA_step ?_|refine drawS_go ?_|refine wD (id:=6) (.quick 2 (.stable 0 (.stable 3 (.quick 4 (.quick 5 (.all (.fork (.step 1 (.quick 6 (.all (.step 7 (.all (.step 8 .done)))))) (.step 7 (.all (.step 1 (.quick 6 (.all (.step 8 .done))))))))))))) [1, 7, 8] (by kernel_rfl) rfl ?_|apply wL (l11Copy _ h)|apply wL (l11Read w hf0 hf1 s.ready h0 h1 n hn s.edit s.lit s.breaks));conv=>whnf)|(intro _;first|omega|conv=>whnf)|(apply And.intro<;>intro _<;>first|omega|conv=>whnf)|refine ⟨Seal.mk ?_,Seal.mk ?_⟩|((first|(apply And.intro;focus exact leafN5)|(apply Or.inl;apply And.intro;focus exact leafN5)|apply Or.inr|refine ⟨_,rfl,?_⟩|refine ⟨_,⟨rfl,rfl⟩,?_⟩|refine ⟨intE .u8,⟨rfl,fun _=>rfl⟩,?_⟩|(refine Exists.intro _ (And.intro (And.intro rfl (And.intro rfl ?_)) ?_);focus exact leafN5));conv=>whnf)|with_reducible assumption|((fail_if_success refine Exists.intro ?_ ?_);exact leafN5)|fail)
  all_goals
    by_cases hr : s.ready = []
    · have hz : (s.ready.length : Int) = 0 := by rw [hr]; rfl
      rw [show readLR w s n = ⟨0, false, [], [], s⟩ from by unfold readLR; rw [if_pos hr]]
      have e1 : (rd (canon w) s.ready n.toNat).1 = [] := by rw [hr]; rfl
      have e2 : (rd (canon w) s.ready n.toNat).2 = s.ready := by rw [hr]; rfl
      rw [e1, e2]
      (refine ⟨(),⟨⟩,?_⟩;((try refine wF ?_);repeat' (first|exact ⟨⟩|(apply And.intro;focus exact leafN5)|((conv=>whnf);first|exact ⟨⟩|(apply And.intro;focus exact leafN5))|fail)))
    · rw [show readLR w s n = ⟨0, true, (rd (canon w) s.ready n.toNat).1, [], { s with ready := (rd (canon w) s.ready n.toNat).2 }⟩ from by unfold readLR; rw [if_neg hr]]
      have hz : 0 < s.ready.length := List.length_pos_iff.2 hr
      (refine ⟨(),⟨⟩,?_⟩;((try refine wF ?_);repeat' (first|exact ⟨⟩|(apply And.intro;focus exact leafN5)|((conv=>whnf);first|exact ⟨⟩|(apply And.intro;focus exact leafN5))|fail)))
end Go.Mu
