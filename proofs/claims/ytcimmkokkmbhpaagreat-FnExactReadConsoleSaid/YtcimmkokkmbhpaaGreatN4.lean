/- Reading a line, as the reference does. -/
import Derived.Test.YtcimmkokkmbhpaaGreatN3
set_option linter.unusedSimpArgs false
set_option linter.unusedVariables false
set_option linter.constructorNameAsVariable false
namespace Go.Mu
open Go Go.Vm Go.RowKit Go.Proofs
attribute [local irreducible] wpA opsA stillA drawA drawS
set_option maxRecDepth 20000
set_option maxHeartbeats 4000000
theorem min1 (a b : Int) : CallA S 176 [.int .i64 a, .int .i64 b] ⟨[], 0⟩ (Ret1 (.int .i64 (min a b)) ⟨[], 0⟩) := by
  refine .ofC hS _ _ _ Tryz.func176 ?_
  conv => whnf
  repeat' (first | (refine Seal.mk ?_) | (refine Wp.step hS ?_; (conv => whnf); (fail_if_success show False)) | (refine opsA_step ?_; (conv => whnf)) | (refine drawS_go ?_; (conv => whnf)) | (intro _; omega) | (intro _; (conv => whnf)) | (apply And.intro <;> intro _ <;> first | omega | (conv => whnf)) | (refine And.intro (Seal.mk ?_) (Seal.mk ?_)) | (apply And.intro; (case left => first | exact leaf | exact ⟨_, [], rfl, by omega, by omega, (List.append_nil _).symm⟩ | exact ⟨_, rfl, by omega, by omega, rfl⟩); (conv => whnf)) | (apply Or.inl; apply And.intro; (case left => first | exact leaf | exact ⟨_, [], rfl, by omega, by omega, (List.append_nil _).symm⟩ | exact ⟨_, rfl, by omega, by omega, rfl⟩); (conv => whnf)) | (apply Or.inr; (conv => whnf)) | (refine Exists.intro _ (And.intro rfl ?_); (conv => whnf)) | (refine Exists.intro _ (And.intro (And.intro rfl rfl) ?_); (conv => whnf)) | (refine Exists.intro (intE .u8) (And.intro ⟨rfl, fun _ => rfl⟩ ?_); (conv => whnf)) | (refine Exists.intro _ (And.intro (And.intro rfl (And.intro rfl ?leaf)) ?_); (case leaf => first | exact leaf | exact ⟨_, [], rfl, by omega, by omega, (List.append_nil _).symm⟩ | exact ⟨_, rfl, by omega, by omega, rfl⟩); (conv => whnf)) | with_reducible assumption | exact leaf | fail)
  all_goals (refine ⟨(), trivial, ?_⟩; ((try refine FitsT.now hS ?_); repeat' (first | exact True.intro | (apply And.intro; (case left => first | exact leaf | exact ⟨_, [], rfl, by omega, by omega, (List.append_nil _).symm⟩ | exact ⟨_, rfl, by omega, by omega, rfl⟩)) | ((conv => whnf); apply And.intro; (case left => first | exact leaf | exact ⟨_, [], rfl, by omega, by omega, (List.append_nil _).symm⟩ | exact ⟨_, rfl, by omega, by omega, rfl⟩)) | ((conv => whnf); exact True.intro))))
theorem set_get {X : List (List Int)} {i : Int} (h : i.toNat < X.length) : X = X.set i.toNat (X.getD i.toNat []) := by
  apply List.ext_getElem?
  intro j
  rw [List.getElem?_set]
  split
  · rename_i e; subst e; simp [h]
  · rfl
noncomputable def hd (c : Prop) (ps : List (List Int)) (n : Nat) : List Int × List (List Int) :=
  if n = 0 ∨ ps.length = 0 then ([], ps) else rd c ps n
def Head (c : Prop) (ps : List (List Int)) (n : Nat) (X : List (List Int)) (k : Nat) (out : List Int) : Prop :=
  out.length ≤ n ∧ rd c ps n = (out ++ (hd c (X.drop k) (n - out.length)).1, (hd c (X.drop k) (n - out.length)).2)
theorem Head.first (c : Prop) (ps : List (List Int)) {n : Nat} (h : 0 < n) : Head c ps n ps 0 [] := by
  refine ⟨by simp, ?_⟩
  unfold hd
  split
  · rename_i q
    rcases q with q | q
    · simp at q; omega
    · rw [List.drop_zero] at q
      have := List.eq_nil_of_length_eq_zero q
      subst this
      rfl
  · simp
theorem Head.ahead {c : Prop} {ps : List (List Int)} {n : Nat} {X : List (List Int)} {k : Nat} {out : List Int} (h : Head c ps n X k out) (hk : k < X.length) (hl : out.length < n) : Ahead c ps n X k out := by
  refine ⟨hl, ?_⟩
  rw [h.2]
  unfold hd
  rw [if_neg (by rw [List.length_drop]; omega)]
theorem Head.done {c : Prop} {ps : List (List Int)} {n : Nat} {X : List (List Int)} {k : Nat} {out : List Int} (h : Head c ps n X k out) (he : X.length ≤ k ∨ n ≤ out.length) : rd c ps n = (out, X.drop k) := by
  rw [h.2]
  unfold hd
  rw [if_pos (by rw [List.length_drop]; omega)]
  simp
theorem Sofar.head {c : Prop} {ps : List (List Int)} {n : Nat} {X : List (List Int)} {k : Nat} {out : List Int} (h : Sofar c ps n X k out) (hc : ¬ c) : Head c ps n X k out := by
  refine ⟨h.1, ?_⟩
  rw [h.2]
  unfold hd
  split
  · rename_i q
    rw [tl_end (by
      rcases q with q | q
      · exact .inr (.inr q)
      · exact .inr (.inl (List.eq_nil_of_length_eq_zero q)))]
  · rw [tl_rd hc (by omega)]
theorem l1CopyK (p : List Int) (j : Nat) (hj : j ≤ p.length) (hx : p.length ≤ 1048576) : CallA S 268 [.sl (.loc 0) 1 (some j) (p.length - j)] ⟨[⟨.loc 0, false, .arr (intE .u8) p⟩], 1⟩ (Ret1 (.sl (.loc 1) 1 none (p.drop j).length) ⟨[⟨.loc 1, true, .arr (intE .u8) (p.drop j)⟩], 2⟩) := by
  refine .ofC hS _ _ _ Tryz.func268 ?_
  conv => whnf
  have hl : (p.drop j).length = p.length - j := List.length_drop
  have e : ([] : List Int) ++ (p.drop (j : Int).toNat).take ((p.length : Int) - j).toNat = p.drop j := by
    rw [Int.toNat_natCast, List.nil_append, List.take_of_length_le (by rw [List.length_drop]; omega)]
  have e' : ([] : List Int).length + ((p.drop (j : Int).toNat).take ((p.length : Int) - j).toNat).length = (p.drop j).length := by
    rw [← List.length_append, e]
  repeat' (first | (refine Seal.mk ?_) | (refine Wp.step hS ?_; (conv => whnf); (fail_if_success show False)) | (refine opsA_step ?_; (conv => whnf)) | (refine drawS_go ?_; (conv => whnf)) | (intro _; omega) | (intro _; (conv => whnf)) | (apply And.intro <;> intro _ <;> first | omega | (conv => whnf)) | (refine And.intro (Seal.mk ?_) (Seal.mk ?_)) | (apply And.intro; (case left => first | exact leaf | exact ⟨_, [], rfl, by omega, by omega, (List.append_nil _).symm⟩ | exact ⟨_, rfl, by omega, by omega, rfl⟩); (conv => whnf)) | (apply Or.inl; apply And.intro; (case left => first | exact leaf | exact ⟨_, [], rfl, by omega, by omega, (List.append_nil _).symm⟩ | exact ⟨_, rfl, by omega, by omega, rfl⟩); (conv => whnf)) | (apply Or.inr; (conv => whnf)) | (refine Exists.intro _ (And.intro rfl ?_); (conv => whnf)) | (refine Exists.intro _ (And.intro (And.intro rfl rfl) ?_); (conv => whnf)) | (refine Exists.intro (intE .u8) (And.intro ⟨rfl, fun _ => rfl⟩ ?_); (conv => whnf)) | (refine Exists.intro _ (And.intro (And.intro rfl (And.intro rfl ?leaf)) ?_); (case leaf => first | exact leaf | exact ⟨_, [], rfl, by omega, by omega, (List.append_nil _).symm⟩ | exact ⟨_, rfl, by omega, by omega, rfl⟩); (conv => whnf)) | with_reducible assumption | exact leaf | fail)
  all_goals (refine ⟨(), trivial, ?_⟩; ((try refine FitsT.now hS ?_); repeat' (first | exact True.intro | (apply And.intro; (case left => first | exact leaf | exact ⟨_, [], rfl, by omega, by omega, (List.append_nil _).symm⟩ | exact ⟨_, rfl, by omega, by omega, rfl⟩)) | ((conv => whnf); apply And.intro; (case left => first | exact leaf | exact ⟨_, [], rfl, by omega, by omega, (List.append_nil _).symm⟩ | exact ⟨_, rfl, by omega, by omega, rfl⟩)) | ((conv => whnf); exact True.intro))))
theorem l11Read (w : Wy) (hf0 : 0 ≤ w.flags) (hf1 : w.flags ≤ 511) (xs : List (List Int)) (hx : xs.length ≤ 1048576) (hsum : sumC List.length xs ≤ 1048576) (n : Int) (hn : 1 ≤ n ∧ n ≤ 99) (ed : List Int) (lit : Bool) (br : Int) :
    CallA S 202 [.ptr (.loc 0) 7 none 0, .ptr (.loc 1) 4 none 0, .int .i64 n] ⟨[⟨.loc 0, false, .raw (wyC w)⟩, ⟨.loc 1, true, .raw [.sl (.loc 2) 1 none xs.length, .sl (.loc 3) 1 none ed.length, .prop (lit = true), .int .i64 br]⟩, ⟨.loc 2, true, bytesN xs⟩, ⟨.loc 3, true, .arr (intE .u8) ed⟩], 4⟩
    (Ret1 (.sl (.loc 4) 1 none (rd (canon w) xs n.toNat).1.length) ⟨[⟨.loc 4, true, .arr (intE .u8) (rd (canon w) xs n.toNat).1⟩, ⟨.loc 1, true, .raw [.sl (.loc 5) 1 none (rd (canon w) xs n.toNat).2.length, .sl (.loc 3) 1 none ed.length, .prop (lit = true), .int .i64 br]⟩, ⟨.loc 5, true, bytesN (rd (canon w) xs n.toNat).2⟩, ⟨.loc 3, true, .arr (intE .u8) ed⟩], 6⟩) := by
  refine .ofC hS _ _ _ Tryz.func202 ?_
  conv => whnf
  repeat' (first | (refine Seal.mk ?_) | (refine Wp.step hS ?_; (conv => whnf); (fail_if_success show False)) | (refine opsA_step ?_; (conv => whnf)) | (refine drawS_go ?_; (conv => whnf)) | (intro _; omega) | (intro _; (conv => whnf)) | (apply And.intro <;> intro _ <;> first | omega | (conv => whnf)) | (refine And.intro (Seal.mk ?_) (Seal.mk ?_)) | (apply And.intro; (case left => first | exact leaf | exact ⟨_, [], rfl, by omega, by omega, (List.append_nil _).symm⟩ | exact ⟨_, rfl, by omega, by omega, rfl⟩); (conv => whnf)) | (apply Or.inl; apply And.intro; (case left => first | exact leaf | exact ⟨_, [], rfl, by omega, by omega, (List.append_nil _).symm⟩ | exact ⟨_, rfl, by omega, by omega, rfl⟩); (conv => whnf)) | (apply Or.inr; (conv => whnf)) | (refine Exists.intro _ (And.intro rfl ?_); (conv => whnf)) | (refine Exists.intro _ (And.intro (And.intro rfl rfl) ?_); (conv => whnf)) | (refine Exists.intro (intE .u8) (And.intro ⟨rfl, fun _ => rfl⟩ ?_); (conv => whnf)) | (refine Exists.intro _ (And.intro (And.intro rfl (And.intro rfl ?leaf)) ?_); (case leaf => first | exact leaf | exact ⟨_, [], rfl, by omega, by omega, (List.append_nil _).symm⟩ | exact ⟨_, rfl, by omega, by omega, rfl⟩); (conv => whnf)) | with_reducible assumption | exact leaf | fail)
  have hs0 : Head (canon w) xs n.toNat xs 0 [] := Head.first _ _ (by omega)
  refine .loop hS (γ := Nat × List Int) (fun g => ⟨[(0, .ptr (.loc 0) 7 none 0), (1, .ptr (.loc 1) 4 none 0), (2, .int .i64 n), (7, .sl (.loc 4) 1 none g.2.length)],
      ⟨[⟨.loc 4, true, .arr (intE .u8) g.2⟩, ⟨.loc 0, false, .raw (wyC w)⟩, ⟨.loc 1, true, .raw [.sl (.loc 2) 1 (some g.1) (xs.length - g.1), .sl (.loc 3) 1 none ed.length, .prop (lit = true), .int .i64 br]⟩, ⟨.loc 2, true, bytesN xs⟩, ⟨.loc 3, true, .arr (intE .u8) ed⟩], 5⟩, 67, 4⟩)
    (fun g => Head (canon w) xs n.toNat xs g.1 g.2 ∧ g.1 ≤ xs.length) (fun g => xs.length - g.1) (0, []) ⟨hs0, by omega⟩ ?_ ?_
  · ((try dsimp only); ((try refine FitsT.now hS ?_); repeat' (first | exact True.intro | (apply And.intro; (case left => first | exact leaf | exact ⟨_, [], rfl, by omega, by omega, (List.append_nil _).symm⟩ | exact ⟨_, rfl, by omega, by omega, rfl⟩)) | ((conv => whnf); apply And.intro; (case left => first | exact leaf | exact ⟨_, [], rfl, by omega, by omega, (List.append_nil _).symm⟩ | exact ⟨_, rfl, by omega, by omega, rfl⟩)) | ((conv => whnf); exact True.intro))))
  · rintro ⟨k, out⟩ ⟨hs, hk⟩
    simp only at hs hk ⊢
    have ho := hs.1
    have ek : (k : Int).toNat = k := Int.toNat_natCast k
    by_cases hgo : k < xs.length ∧ out.length < n
    · have ha := hs.ahead hgo.1 (by omega)
      have hset := set_get (X := xs) (i := (k : Int)) (by omega)
      have hp : (xs.getD (k : Int).toNat []).length ≤ 1048576 := by have := sumC_get (cnt := List.length) (xs := xs) (k : Int).toNat [] rfl; omega
      conv => whnf
      apply Wp.turn; (focus (apply Turn.open hS (nb := 2) (i0 := (k : Int)); (conv => whnf); refine And.intro ⟨by omega, by omega⟩ ?_; (focus ((conv => whnf); repeat' (first | exact rfl | (apply And.intro; (case left => first | exact leaf | exact ⟨_, [], rfl, by omega, by omega, (List.append_nil _).symm⟩ | exact ⟨_, rfl, by omega, by omega, rfl⟩)) | ((conv => whnf); apply And.intro; (case left => first | exact leaf | exact ⟨_, [], rfl, by omega, by omega, (List.append_nil _).symm⟩ | exact ⟨_, rfl, by omega, by omega, rfl⟩)) | ((conv => whnf); exact rfl)))))); (conv => whnf)
      have hz : xs.getD (k : Int).toNat [] = xs.getD k [] := by rw [ek]
      rw [hz] at hset hp ⊢
      generalize hgp : xs.getD k [] = p at *
      obtain ⟨m, hm⟩ : ∃ m : Nat, (m : Int) = min (p.length : Int) (n - out.length) := ⟨(min (p.length : Int) (n - out.length)).toNat, by omega⟩
      have hmp : m ≤ p.length := by omega
      have et : List.take (min (p.length : Int) (n - out.length) - 0).toNat (List.drop (Int.toNat 0) p) = p.take m := by rw [show (min (p.length : Int) (n - out.length) - 0).toNat = m by omega]; rfl
      have eo : out ++ List.take (min (p.length : Int) (n - out.length) - 0).toNat (List.drop (Int.toNat 0) p) = out ++ p.take m := by rw [et]
      have el : (out ++ p.take m).length = out.length + (List.take (min (p.length : Int) (n - out.length) - 0).toNat (List.drop (Int.toNat 0) p)).length := by rw [et, List.length_append]
      have em : (out ++ p.take m).length = out.length + m := by simp only [List.length_append, List.length_take]; omega
      have hsl : (xs.set (k : Int).toNat (p.drop m)).length = xs.length := List.length_set
      have hdl : (p.drop m).length = p.length - m := List.length_drop
      repeat' (first | (refine Seal.mk ?_) | (refine Wp.step hS ?_; (conv => whnf); (fail_if_success show False)) | (refine opsA_step ?_; (conv => whnf)) | (refine drawS_go ?_; (conv => whnf)) | (refine Wp.drawS (id := 7) hS (.quick 0 (.quick 1 (.quick 2 (.quick 4 (.quick 5 (.quick 6 (.all (.fork (.step 3 (.all (.step 7 (.quick 8 (.all (.step 9 .done)))))) (.step 7 (.all (.step 3 (.quick 8 (.all (.step 9 .done)))))))))))))) [3, 7, 9] (by kernel_rfl) rfl ?_) | (apply CallA.liftC hS (min1 _ _); (conv => whnf)) | (apply CallA.liftC hS (hasS w hf0 hf1); (conv => whnf)) | (apply CallA.liftC hS (l1CopyK p m hmp hp); (conv => whnf)) | (intro _; omega) | (intro _; (conv => whnf)) | (apply And.intro <;> intro _ <;> first | omega | (conv => whnf)) | (refine And.intro (Seal.mk ?_) (Seal.mk ?_)) | (apply And.intro; (case left => first | exact leaf | exact ⟨_, [], rfl, by omega, by omega, (List.append_nil _).symm⟩ | exact ⟨_, rfl, by omega, by omega, rfl⟩); (conv => whnf)) | (apply Or.inl; apply And.intro; (case left => first | exact leaf | exact ⟨_, [], rfl, by omega, by omega, (List.append_nil _).symm⟩ | exact ⟨_, rfl, by omega, by omega, rfl⟩); (conv => whnf)) | (apply Or.inr; (conv => whnf)) | (refine Exists.intro _ (And.intro rfl ?_); (conv => whnf)) | (refine Exists.intro _ (And.intro (And.intro rfl rfl) ?_); (conv => whnf)) | (refine Exists.intro (intE .u8) (And.intro ⟨rfl, fun _ => rfl⟩ ?_); (conv => whnf)) | (refine Exists.intro _ (And.intro (And.intro rfl (And.intro rfl ?leaf)) ?_); (case leaf => first | exact leaf | exact ⟨_, [], rfl, by omega, by omega, (List.append_nil _).symm⟩ | exact ⟨_, rfl, by omega, by omega, rfl⟩); (conv => whnf)) | with_reducible assumption | exact leaf | fail)
      iterate 2
        rotate_right
      · have hst := ha.all' hgo.1 (by rw [hgp]; omega)
        rw [hgp] at hst
        have hm' : p.take m = p := by rw [show m = p.length by omega, List.take_length]
        rw [hm'] at et eo el em
        have hdn := hst.done (.inl (by with_reducible assumption))
        have hkl : (xs.drop (k + 1)).length = xs.length - (k + 1) := List.length_drop
        rw [hdn]
        refine ⟨(), trivial, ?_⟩
        dsimp only
        apply FitsT.turn; (focus (apply Turn.close hS (nb := 2) (x := p) (xs' := xs); (conv => whnf); refine And.intro ⟨rfl, ?_⟩ ?_; (focus (first | exact Or.inr ⟨by omega, by omega, by first | rfl | (with_reducible assumption) | (exact Eq.symm (by with_reducible assumption))⟩ | exact Or.inl ⟨by first | rfl | omega, by first | rfl | (with_reducible assumption)⟩)); (focus ((conv => whnf); repeat' (first | exact rfl | (apply And.intro; (case left => first | exact leaf | exact ⟨_, [], rfl, by omega, by omega, (List.append_nil _).symm⟩ | exact ⟨_, rfl, by omega, by omega, rfl⟩)) | ((conv => whnf); apply And.intro; (case left => first | exact leaf | exact ⟨_, [], rfl, by omega, by omega, (List.append_nil _).symm⟩ | exact ⟨_, rfl, by omega, by omega, rfl⟩)) | ((conv => whnf); exact rfl))))))
        refine FitsT.told hS [(5, some (.trim (.loc 2) (k + 1) 1))] ?_
        (conv => whnf)
        repeat' (first | exact True.intro | (apply And.intro; (case left => first | exact leaf | exact ⟨_, [], rfl, by omega, by omega, (List.append_nil _).symm⟩ | exact ⟨_, rfl, by omega, by omega, rfl⟩)) | ((conv => whnf); apply And.intro; (case left => first | exact leaf | exact ⟨_, [], rfl, by omega, by omega, (List.append_nil _).symm⟩ | exact ⟨_, rfl, by omega, by omega, rfl⟩)) | ((conv => whnf); exact True.intro))
      · have hst := ha.all' hgo.1 (by rw [hgp]; omega)
        rw [hgp] at hst
        have hm' : p.take m = p := by rw [show m = p.length by omega, List.take_length]
        rw [hm'] at et eo el em
        have hne := hst.head (by with_reducible assumption)
        refine ⟨(k + 1, out ++ p), ⟨⟨hne, by simp only; omega⟩, by simp only; omega⟩, ?_⟩
        apply FitsT.turn; (focus (apply Turn.close hS (nb := 2) (x := p) (xs' := xs); (conv => whnf); refine And.intro ⟨rfl, ?_⟩ ?_; (focus (first | exact Or.inr ⟨by omega, by omega, by first | rfl | (with_reducible assumption) | (exact Eq.symm (by with_reducible assumption))⟩ | exact Or.inl ⟨by first | rfl | omega, by first | rfl | (with_reducible assumption)⟩)); (focus ((conv => whnf); repeat' (first | exact rfl | (apply And.intro; (case left => first | exact leaf | exact ⟨_, [], rfl, by omega, by omega, (List.append_nil _).symm⟩ | exact ⟨_, rfl, by omega, by omega, rfl⟩)) | ((conv => whnf); apply And.intro; (case left => first | exact leaf | exact ⟨_, [], rfl, by omega, by omega, (List.append_nil _).symm⟩ | exact ⟨_, rfl, by omega, by omega, rfl⟩)) | ((conv => whnf); exact rfl))))))
        ((try dsimp only); ((try refine FitsT.now hS ?_); repeat' (first | exact True.intro | (apply And.intro; (case left => first | exact leaf | exact ⟨_, [], rfl, by omega, by omega, (List.append_nil _).symm⟩ | exact ⟨_, rfl, by omega, by omega, rfl⟩)) | ((conv => whnf); apply And.intro; (case left => first | exact leaf | exact ⟨_, [], rfl, by omega, by omega, (List.append_nil _).symm⟩ | exact ⟨_, rfl, by omega, by omega, rfl⟩)) | ((conv => whnf); exact True.intro))))
      all_goals
        have hst := ha.some hgo.1 (by rw [hgp]; omega)
        rw [hgp, show n.toNat - out.length = m by omega, ← ek] at hst
        have hdn := hst.done (.inr (.inr (by omega)))
        have hkl : ((xs.set (k : Int).toNat (p.drop m)).drop (k : Int).toNat).length = xs.length - k := by rw [List.length_drop, hsl]; omega
        rw [hdn]
        refine ⟨(), trivial, ?_⟩
        dsimp only
        apply FitsT.turn; (focus (apply Turn.close hS (nb := 2) (x := p.drop m) (xs' := xs.set (k : Int).toNat (p.drop m)); (conv => whnf); refine And.intro ⟨rfl, ?_⟩ ?_; (focus (first | exact Or.inr ⟨by omega, by omega, by first | rfl | (with_reducible assumption) | (exact Eq.symm (by with_reducible assumption))⟩ | exact Or.inl ⟨by first | rfl | omega, by first | rfl | (with_reducible assumption)⟩)); (focus ((conv => whnf); repeat' (first | exact rfl | (apply And.intro; (case left => first | exact leaf | exact ⟨_, [], rfl, by omega, by omega, (List.append_nil _).symm⟩ | exact ⟨_, rfl, by omega, by omega, rfl⟩)) | ((conv => whnf); apply And.intro; (case left => first | exact leaf | exact ⟨_, [], rfl, by omega, by omega, (List.append_nil _).symm⟩ | exact ⟨_, rfl, by omega, by omega, rfl⟩)) | ((conv => whnf); exact rfl))))))
        refine FitsT.told hS [(5, some (.trim (.loc 2) k 1))] ?_
        (conv => whnf)
        repeat' (first | exact True.intro | (apply And.intro; (case left => first | exact leaf | exact ⟨_, [], rfl, by omega, by omega, (List.append_nil _).symm⟩ | exact ⟨_, rfl, by omega, by omega, rfl⟩)) | ((conv => whnf); apply And.intro; (case left => first | exact leaf | exact ⟨_, [], rfl, by omega, by omega, (List.append_nil _).symm⟩ | exact ⟨_, rfl, by omega, by omega, rfl⟩)) | ((conv => whnf); exact True.intro))
    · have hd : rd (canon w) xs n.toNat = (out, xs.drop k) := hs.done (by omega)
      conv => whnf
      repeat' (first | (refine Seal.mk ?_) | (refine Wp.step hS ?_; (conv => whnf); (fail_if_success show False)) | (refine opsA_step ?_; (conv => whnf)) | (refine drawS_go ?_; (conv => whnf)) | (intro _; omega) | (intro _; (conv => whnf)) | (apply And.intro <;> intro _ <;> first | omega | (conv => whnf)) | (refine And.intro (Seal.mk ?_) (Seal.mk ?_)) | (apply And.intro; (case left => first | exact leaf | exact ⟨_, [], rfl, by omega, by omega, (List.append_nil _).symm⟩ | exact ⟨_, rfl, by omega, by omega, rfl⟩); (conv => whnf)) | (apply Or.inl; apply And.intro; (case left => first | exact leaf | exact ⟨_, [], rfl, by omega, by omega, (List.append_nil _).symm⟩ | exact ⟨_, rfl, by omega, by omega, rfl⟩); (conv => whnf)) | (apply Or.inr; (conv => whnf)) | (refine Exists.intro _ (And.intro rfl ?_); (conv => whnf)) | (refine Exists.intro _ (And.intro (And.intro rfl rfl) ?_); (conv => whnf)) | (refine Exists.intro (intE .u8) (And.intro ⟨rfl, fun _ => rfl⟩ ?_); (conv => whnf)) | (refine Exists.intro _ (And.intro (And.intro rfl (And.intro rfl ?leaf)) ?_); (case leaf => first | exact leaf | exact ⟨_, [], rfl, by omega, by omega, (List.append_nil _).symm⟩ | exact ⟨_, rfl, by omega, by omega, rfl⟩); (conv => whnf)) | with_reducible assumption | exact leaf | fail)
      all_goals (rw [hd]; refine ⟨(), trivial, FitsT.told hS [(5, some (.trim (.loc 2) k 1))] ?_⟩; (conv => whnf); repeat' (first | exact True.intro | (apply And.intro; (case left => first | exact leaf | exact ⟨_, [], rfl, by omega, by omega, (List.append_nil _).symm⟩ | exact ⟨_, rfl, by omega, by omega, rfl⟩)) | ((conv => whnf); apply And.intro; (case left => first | exact leaf | exact ⟨_, [], rfl, by omega, by omega, (List.append_nil _).symm⟩ | exact ⟨_, rfl, by omega, by omega, rfl⟩)) | ((conv => whnf); exact True.intro)))
end Go.Mu
