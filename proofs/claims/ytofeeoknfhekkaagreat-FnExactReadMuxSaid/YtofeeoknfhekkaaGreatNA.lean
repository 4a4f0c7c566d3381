/- Copies: a line whose first pieces are gone. -/
import Derived.Test.YtofeeoknfhekkaaGreatCD
import Derived.Test.YtofeeoknfhekkaaGreatPF
set_option linter.unusedSimpArgs false
set_option linter.unusedVariables false
set_option linter.constructorNameAsVariable false
namespace Go.Mu
open Go Go.Vm Go.RowKit Go.Proofs
attribute [local irreducible] wpA opsA stillA drawA drawS
set_option maxRecDepth 20000
set_option maxHeartbeats 4000000
theorem leafNK {P : Prop} (h : P := by
  first
  | exact leaf
  | exact PreC.of_eq (by simp)
  | fail) : P := h
theorem take_nextD {X : List (List Int)} {k i : Nat} (h : k + i < X.length) : (X.drop k).take (i + 1) = (X.drop k).take i ++ [X.getD ((k : Int) + (i : Int)).toNat []] := by
  rw [show ((k : Int) + (i : Int)).toNat = k + i by omega, List.take_succ_eq_append_getElem (by rw [List.length_drop]; omega)]
  simp [h]
theorem cloneLinK (X : List (List Int)) (k : Nat) (ed : List Int) (lit : Bool) (br : Int) (hk : k ≤ X.length) (hX : X.length ≤ 1048576) (hs : sumC List.length X ≤ 1048576) (he : ed.length ≤ 1048576) :
    CallA S 172 [.agg [.sl (.loc 0) 1 (some k) (X.length - k), .sl (.loc 1) 1 none ed.length, .prop (lit = true), .int .i64 br]] ⟨[⟨.loc 0, false, bytesN X⟩, ⟨.loc 1, false, .arr (intE .u8) ed⟩], 2⟩
      (Ret1 (.agg (linC (.loc 2) (.loc 3) ⟨X.drop k, ed, lit, br⟩)) ⟨linH true (.loc 2) (.loc 3) ⟨X.drop k, ed, lit, br⟩ [], 4⟩) := by
  refine .ofC hS _ _ _ Tryz.func172 ?_
  conv => whnf
  have hld : (X.drop k).length = X.length - k := List.length_drop
  repeat' (first|refine Seal.mk ?_|(refine wS ?_;(conv=>whnf);fail_if_success show False)|((first|refine opsA_step ?_|refine drawS_go ?_);conv=>whnf)|(intro _;first|omega|conv=>whnf)|(apply And.intro<;>intro _<;>first|omega|conv=>whnf)|refine ⟨Seal.mk ?_,Seal.mk ?_⟩|((first|(apply And.intro;focus exact leafNK)|(apply Or.inl;apply And.intro;focus exact leafNK)|apply Or.inr|refine ⟨_,rfl,?_⟩|refine ⟨_,⟨rfl,rfl⟩,?_⟩|refine ⟨intE .u8,⟨rfl,fun _=>rfl⟩,?_⟩|(refine Exists.intro _ (And.intro (And.intro rfl (And.intro rfl ?_)) ?_);focus exact leafNK));conv=>whnf)|with_reducible assumption|((fail_if_success refine Exists.intro ?_ ?_);exact leafNK)|fail)
  refine .loop hS (γ := Nat) (fun i => ⟨[(1, .ptr (.loc 2) 4 none 0), (2, .ptr (.loc 3) 4 none 0), (3, .sl (.loc 4) 1 none i), (8, .sl (.loc 0) 1 (some k) (X.length - k)), (9, .int .i64 (X.length - k)), (10, .int .i64 i)],
      ⟨[⟨.loc 4, true, bytesN ((X.drop k).take i)⟩, ⟨.loc 2, true, .raw [.sl (.loc 0) 1 (some k) (X.length - k), .sl (.loc 1) 1 none ed.length, .prop (lit = true), .int .i64 br]⟩, ⟨.loc 3, true, .raw [.nils, .nils, .ff, .int .i64 0]⟩, ⟨.loc 0, false, bytesN X⟩, ⟨.loc 1, false, .arr (intE .u8) ed⟩], 5⟩, 27, 2⟩) (fun i => i ≤ X.length - k) (fun i => X.length - k - i) 0 (by omega) ?_ ?_
  · have h0 : (X.drop k).take 0 = [] := rfl
    ((try dsimp only);((try refine wF ?_);repeat' (first|exact ⟨⟩|(apply And.intro;focus exact leafNK)|((conv=>whnf);first|exact ⟨⟩|(apply And.intro;focus exact leafNK))|fail)))
  · intro i hi
    have hb := sumC_get (cnt := List.length) (xs := X) ((k : Int) + (i : Int)).toNat [] rfl
    have ht : (X.drop k).take (X.length - k) = X.drop k := by rw [← hld, List.take_length]
    have hlt : ((X.drop k).take i).length = i := by simp; omega
    conv => whnf
    repeat' (first|refine Seal.mk ?_|(refine wS ?_;(conv=>whnf);fail_if_success show False)|((first|refine opsA_step ?_|refine drawS_go ?_|apply wL (cloneU _ _));conv=>whnf)|(intro _;first|omega|conv=>whnf)|(apply And.intro<;>intro _<;>first|omega|conv=>whnf)|refine ⟨Seal.mk ?_,Seal.mk ?_⟩|((first|(apply And.intro;focus exact leafNK)|(apply Or.inl;apply And.intro;focus exact leafNK)|apply Or.inr|refine ⟨_,rfl,?_⟩|refine ⟨_,⟨rfl,rfl⟩,?_⟩|refine ⟨intE .u8,⟨rfl,fun _=>rfl⟩,?_⟩|(refine Exists.intro _ (And.intro (And.intro rfl (And.intro rfl ?_)) ?_);focus exact leafNK));conv=>whnf)|with_reducible assumption|((fail_if_success refine Exists.intro ?_ ?_);exact leafNK)|fail)
    · have htk := take_nextD (X := X) (k := k) (i := i) (by omega)
      refine ⟨i + 1, ⟨by omega, by omega⟩, ?_⟩
      apply FitsT.turn; (focus (apply Turn.close hS (nb := 7) (x := X.getD ((k : Int) + (i : Int)).toNat []) (xs' := (X.drop k).take (i + 1)); (conv => whnf); refine And.intro ⟨rfl, ?_⟩ ?_; (focus (first | exact Or.inr ⟨by omega, by omega, by first | (with_reducible assumption) | (exact Eq.symm (by with_reducible assumption)) | rfl⟩ | exact Or.inl ⟨by first | rfl | omega, by first | (with_reducible assumption) | rfl⟩)); (focus ((conv=>whnf);repeat' (first|exact rfl|(apply And.intro;focus exact leafNK)|((conv=>whnf);first|exact rfl|(apply And.intro;focus exact leafNK))|fail)))))
      ((try dsimp only);((try refine wF ?_);repeat' (first|exact ⟨⟩|(apply And.intro;focus exact leafNK)|((conv=>whnf);first|exact ⟨⟩|(apply And.intro;focus exact leafNK))|fail)))
    · have hi : i = X.length - k := by omega
      subst hi
      rw [ht]
      have hc : ((X.length - k : Nat) : Int) = (X.drop k).length := by omega
      repeat' (first|refine Seal.mk ?_|(refine wS ?_;(conv=>whnf);fail_if_success show False)|((first|refine opsA_step ?_|refine drawS_go ?_|apply wL (cloneU _ _));conv=>whnf)|(intro _;first|omega|conv=>whnf)|(apply And.intro<;>intro _<;>first|omega|conv=>whnf)|refine ⟨Seal.mk ?_,Seal.mk ?_⟩|((first|(apply And.intro;focus exact leafNK)|(apply Or.inl;apply And.intro;focus exact leafNK)|apply Or.inr|refine ⟨_,rfl,?_⟩|refine ⟨_,⟨rfl,rfl⟩,?_⟩|refine ⟨intE .u8,⟨rfl,fun _=>rfl⟩,?_⟩|(refine Exists.intro _ (And.intro (And.intro rfl (And.intro rfl ?_)) ?_);focus exact leafNK));conv=>whnf)|with_reducible assumption|((fail_if_success refine Exists.intro ?_ ?_);exact leafNK)|fail)
      (refine ⟨(),⟨⟩,?_⟩;((try refine wF ?_);repeat' (first|exact ⟨⟩|(apply And.intro;focus exact leafNK)|((conv=>whnf);first|exact ⟨⟩|(apply And.intro;focus exact leafNK))|fail)))
end Go.Mu

namespace Go.Mu
open Go Go.Vm Go.RowKit Go.Proofs
attribute [local irreducible] wpA opsA stillA drawA drawS
set_option maxRecDepth 20000
set_option maxHeartbeats 4000000
@[reducible] def linRaw (k len : Int) (ed : List Int) (lit : Prop) (br : Int) : List AV := [.sl (.loc 1) 1 (some k) (len - k), .sl (.loc 2) 1 none ed.length, .prop lit, .int .i64 br]
theorem nextSome (xs : List (List Int)) (k : Nat) (hk : k < xs.length) (hx : xs.length ≤ 1048576) (hp : (xs.getD (k : Int).toNat []).length ≤ 1048576) (n : Int) (h0 : 0 ≤ n) (h1 : n ≤ 99) (hn : n < (xs.getD (k : Int).toNat []).length) (ed : List Int) (lit : Prop) (br : Int) :
    CallA S 205 [.ptr (.loc 0) 4 none 0, .int .i64 n] ⟨[⟨.loc 0, true, .raw (linRaw k xs.length ed lit br)⟩, ⟨.loc 1, true, bytesN xs⟩, ⟨.loc 2, true, .arr (intE .u8) ed⟩], 3⟩
    (Ret1 (.sl (.loc 3) 1 none n) ⟨[⟨.loc 0, true, .raw (linRaw k xs.length ed lit br)⟩,
      ⟨.loc 1, true, .nest 1 [] bytesG [0] bytesF xs (some (k, [.sl (.loc 3) 1 (some n) ((xs.getD (k : Int).toNat []).length - n)]))⟩, ⟨.loc 2, true, .arr (intE .u8) ed⟩, ⟨.loc 3, true, .arr (intE .u8) (xs.getD (k : Int).toNat [])⟩], 4⟩) := by
  refine .ofC hS _ _ _ Tryz.func205 ?_
  conv => whnf
  refine Seal.mk ?_
  apply Wp.turn; (focus (apply Turn.open hS (nb := 1) (i0 := (k : Int)); (conv => whnf); refine And.intro ⟨by omega, by omega⟩ ?_; (focus ((conv=>whnf);repeat' (first|exact rfl|(apply And.intro;focus exact leaf)|((conv=>whnf);first|exact rfl|(apply And.intro;focus exact leaf))|fail))))); (conv => whnf)
  repeat' (first|refine Seal.mk ?_|(refine wS ?_;(conv=>whnf);fail_if_success show False)|((first|refine opsA_step ?_|refine drawS_go ?_|refine wD (id:=3) (.quick 0 (.quick 1 (.quick 2 (.quick 4 (.quick 5 (.quick 6 (.read 3 (.quick 7 (.all (.step 8 .done)))))))))) [8] (by kernel_rfl) rfl ?_);conv=>whnf)|(intro _;first|omega|conv=>whnf)|(apply And.intro<;>intro _<;>first|omega|conv=>whnf)|refine ⟨Seal.mk ?_,Seal.mk ?_⟩|((first|(apply And.intro;focus exact leaf)|(apply Or.inl;apply And.intro;focus exact leaf)|apply Or.inr|refine ⟨_,rfl,?_⟩|refine ⟨_,⟨rfl,rfl⟩,?_⟩|refine ⟨intE .u8,⟨rfl,fun _=>rfl⟩,?_⟩|(refine Exists.intro _ (And.intro (And.intro rfl (And.intro rfl ?_)) ?_);focus exact leaf));conv=>whnf)|with_reducible assumption|((fail_if_success refine Exists.intro ?_ ?_);exact leaf)|fail)
  all_goals (refine ⟨(),⟨⟩,?_⟩;((try refine wF ?_);repeat' (first|exact ⟨⟩|(apply And.intro;focus exact leaf)|((conv=>whnf);first|exact ⟨⟩|(apply And.intro;focus exact leaf))|fail)))
theorem nextAll (xs : List (List Int)) (k : Nat) (hk : k < xs.length) (hx : xs.length ≤ 1048576) (hp : (xs.getD (k : Int).toNat []).length ≤ 1048576) (n : Int) (h0 : 0 ≤ n) (h1 : n ≤ 99) (hn : ¬ n < (xs.getD (k : Int).toNat []).length) (ed : List Int) (lit : Prop) (br : Int) :
    CallA S 205 [.ptr (.loc 0) 4 none 0, .int .i64 n] ⟨[⟨.loc 0, true, .raw (linRaw k xs.length ed lit br)⟩, ⟨.loc 1, true, bytesN xs⟩, ⟨.loc 2, true, .arr (intE .u8) ed⟩], 3⟩
    (Ret1 (.sl (.loc 3) 1 none (xs.getD (k : Int).toNat []).length) ⟨[⟨.loc 0, true, .raw (linRaw (k + 1) xs.length ed lit br)⟩,
      ⟨.loc 1, true, .nest 1 [] bytesG [0] bytesF xs (some (k, [.sl (.loc 3) 1 (some ((xs.getD (k : Int).toNat []).length)) ((xs.getD (k : Int).toNat []).length - (xs.getD (k : Int).toNat []).length)]))⟩, ⟨.loc 2, true, .arr (intE .u8) ed⟩, ⟨.loc 3, true, .arr (intE .u8) (xs.getD (k : Int).toNat [])⟩], 4⟩) := by
  refine .ofC hS _ _ _ Tryz.func205 ?_
  conv => whnf
  refine Seal.mk ?_
  apply Wp.turn; (focus (apply Turn.open hS (nb := 1) (i0 := (k : Int)); (conv => whnf); refine And.intro ⟨by omega, by omega⟩ ?_; (focus ((conv=>whnf);repeat' (first|exact rfl|(apply And.intro;focus exact leaf)|((conv=>whnf);first|exact rfl|(apply And.intro;focus exact leaf))|fail))))); (conv => whnf)
  repeat' (first|refine Seal.mk ?_|(refine wS ?_;(conv=>whnf);fail_if_success show False)|((first|refine opsA_step ?_|refine drawS_go ?_|refine wD (id:=3) (.quick 0 (.quick 1 (.quick 2 (.quick 4 (.quick 5 (.quick 6 (.read 3 (.quick 7 (.all (.step 8 .done)))))))))) [8] (by kernel_rfl) rfl ?_);conv=>whnf)|(intro _;first|omega|conv=>whnf)|(apply And.intro<;>intro _<;>first|omega|conv=>whnf)|refine ⟨Seal.mk ?_,Seal.mk ?_⟩|((first|(apply And.intro;focus exact leaf)|(apply Or.inl;apply And.intro;focus exact leaf)|apply Or.inr|refine ⟨_,rfl,?_⟩|refine ⟨_,⟨rfl,rfl⟩,?_⟩|refine ⟨intE .u8,⟨rfl,fun _=>rfl⟩,?_⟩|(refine Exists.intro _ (And.intro (And.intro rfl (And.intro rfl ?_)) ?_);focus exact leaf));conv=>whnf)|with_reducible assumption|((fail_if_success refine Exists.intro ?_ ?_);exact leaf)|fail)
  all_goals (refine ⟨(),⟨⟩,?_⟩;((try refine wF ?_);repeat' (first|exact ⟨⟩|(apply And.intro;focus exact leaf)|((conv=>whnf);first|exact ⟨⟩|(apply And.intro;focus exact leaf))|fail)))
theorem next (xs : List (List Int)) (k : Nat) (hk : k < xs.length) (hx : xs.length ≤ 1048576) (hp : (xs.getD (k : Int).toNat []).length ≤ 1048576) (n : Int) (h0 : 0 ≤ n) (h1 : n ≤ 99) (m k' : Nat) (hm : (m : Int) = min n (xs.getD (k : Int).toNat []).length)
    (hk' : (n < (xs.getD (k : Int).toNat []).length → k' = k) ∧ (¬ n < (xs.getD (k : Int).toNat []).length → k' = k + 1)) (ed : List Int) (lit : Prop) (br : Int) :
    CallA S 205 [.ptr (.loc 0) 4 none 0, .int .i64 n] ⟨[⟨.loc 0, true, .raw (linRaw k xs.length ed lit br)⟩, ⟨.loc 1, true, bytesN xs⟩, ⟨.loc 2, true, .arr (intE .u8) ed⟩], 3⟩
    (Ret1 (.sl (.loc 3) 1 none m) ⟨[⟨.loc 0, true, .raw (linRaw k' xs.length ed lit br)⟩,
      ⟨.loc 1, true, .nest 1 [] bytesG [0] bytesF xs (some (k, [.sl (.loc 3) 1 (some m) ((xs.getD (k : Int).toNat []).length - m)]))⟩, ⟨.loc 2, true, .arr (intE .u8) ed⟩, ⟨.loc 3, true, .arr (intE .u8) (xs.getD (k : Int).toNat [])⟩], 4⟩) := by
  by_cases hn : n < (xs.getD (k : Int).toNat []).length
  · have e1 := hk'.1 hn
    have e2 : n = m := by omega
    subst e1
    subst e2
    exact nextSome xs _ hk hx hp _ h0 h1 hn ed lit br
  · have e1 := hk'.2 hn
    have e2 : (xs.getD (k : Int).toNat []).length = m := by omega
    subst e1
    subst e2
    exact nextAll xs k hk hx hp n h0 h1 hn ed lit br
end Go.Mu

namespace Go.Mu
open Go Go.Vm Go.RowKit Go.Proofs
/-- pieces taken as long as there is room -/
def gr : List (List Int) → Nat → List Int × List (List Int)
  | [], _ => ([], [])
  | p :: ps, n => if n = 0 then ([], p :: ps) else if n < p.length then (p.take n, p.drop n :: ps) else (p ++ (gr ps (n - p.length)).1, (gr ps (n - p.length)).2)
/-- what follows the first piece -/
noncomputable def tl (c : Prop) (ps : List (List Int)) (n : Nat) : List Int × List (List Int) :=
  open Classical in if c then ([], ps) else gr ps n
/-- what is read of pieces, and what is left -/
noncomputable def rd (c : Prop) (ps : List (List Int)) (n : Nat) : List Int × List (List Int) := match ps with
  | [] => ([], [])
  | p :: r => if n < p.length then (p.take n, p.drop n :: r) else (p ++ (tl c r (n - p.length)).1, (tl c r (n - p.length)).2)
theorem gr_zero : ∀ ps, gr ps 0 = ([], ps)
  | [] => rfl
  | _ :: _ => by simp [gr]
theorem tl_end {c : Prop} {ps : List (List Int)} {n : Nat} (h : c ∨ ps = [] ∨ n = 0) : tl c ps n = ([], ps) := by
  unfold tl
  split
  · rfl
  · rename_i hc
    rcases h with h | rfl | rfl
    · exact absurd h hc
    · rfl
    · exact gr_zero ps
theorem tl_rd {c : Prop} {ps : List (List Int)} {n : Nat} (hc : ¬ c) (hn : 0 < n) : tl c ps n = rd c ps n := by
  unfold tl
  rw [if_neg hc]
  cases ps with
  | nil => rfl
  | cons p r =>
    simp only [gr, rd]
    rw [if_neg (by omega)]
    unfold tl
    rw [if_neg hc]
/-- so far -/
def Sofar (c : Prop) (ps : List (List Int)) (n : Nat) (X : List (List Int)) (k : Nat) (out : List Int) : Prop :=
  out.length ≤ n ∧ rd c ps n = (out ++ (tl c (X.drop k) (n - out.length)).1, (tl c (X.drop k) (n - out.length)).2)
/-- .. at the beginning, or ahead of one more piece -/
def Ahead (c : Prop) (ps : List (List Int)) (n : Nat) (X : List (List Int)) (k : Nat) (out : List Int) : Prop :=
  out.length < n ∧ rd c ps n = (out ++ (rd c (X.drop k) (n - out.length)).1, (rd c (X.drop k) (n - out.length)).2)
theorem Ahead.first (c : Prop) (ps : List (List Int)) {n : Nat} (h : 0 < n) : Ahead c ps n ps 0 [] := ⟨h, by simp⟩
theorem Sofar.more {c : Prop} {ps : List (List Int)} {n : Nat} {X : List (List Int)} {k : Nat} {out : List Int} (h : Sofar c ps n X k out) (hc : ¬ c) (hl : out.length < n) : Ahead c ps n X k out :=
  ⟨hl, by rw [h.2, tl_rd hc (by omega)]⟩
theorem Sofar.done {c : Prop} {ps : List (List Int)} {n : Nat} {X : List (List Int)} {k : Nat} {out : List Int} (h : Sofar c ps n X k out) (he : c ∨ X.length ≤ k ∨ n ≤ out.length) : rd c ps n = (out, X.drop k) := by
  rw [h.2, tl_end (by
    rcases he with h | h | h
    · exact .inl h
    · exact .inr (.inl (List.drop_eq_nil_of_le h))
    · exact .inr (.inr (by omega)))]
  simp
theorem drop_get {X : List (List Int)} {k : Nat} (h : k < X.length) : X.drop k = X.getD k [] :: X.drop (k + 1) := by
  rw [List.drop_eq_getElem_cons h]; simp [h]
theorem Ahead.some {c : Prop} {ps : List (List Int)} {n : Nat} {X : List (List Int)} {k : Nat} {out : List Int} (h : Ahead c ps n X k out) (hk : k < X.length) (hp : n - out.length < (X.getD k []).length) :
    Sofar c ps n (X.set k ((X.getD k []).drop (n - out.length))) k (out ++ (X.getD k []).take (n - out.length)) := by
  have h1 := h.1
  have hl : (out ++ (X.getD k []).take (n - out.length)).length = n := by
    rw [List.length_append, List.length_take, Nat.min_eq_left (by omega)]; omega
  refine ⟨by omega, ?_⟩
  rw [h.2, drop_get hk]
  simp only [rd]
  rw [if_pos hp, hl, Nat.sub_self, tl_end (.inr (.inr rfl)), List.append_nil, List.drop_set, if_neg (by omega), Nat.sub_self, drop_get hk, List.set_cons_zero]
theorem Ahead.all {c : Prop} {ps : List (List Int)} {n : Nat} {X : List (List Int)} {k : Nat} {out : List Int} (h : Ahead c ps n X k out) (hk : k < X.length) (hp : ¬ n - out.length < (X.getD k []).length) :
    Sofar c ps n (X.set k []) (k + 1) (out ++ X.getD k []) := by
  have h1 := h.1
  have hl : (out ++ X.getD k []).length = out.length + (X.getD k []).length := List.length_append
  refine ⟨by omega, ?_⟩
  rw [h.2, drop_get hk]
  simp only [rd]
  rw [if_neg hp, hl, List.drop_set, if_pos (by omega), show n - (out.length + (X.getD k []).length) = n - out.length - (X.getD k []).length by omega, List.append_assoc]
/-- the reference leaves the pieces that are gone as they were -/
theorem Ahead.all' {c : Prop} {ps : List (List Int)} {n : Nat} {X : List (List Int)} {k : Nat} {out : List Int} (h : Ahead c ps n X k out) (hk : k < X.length) (hp : ¬ n - out.length < (X.getD k []).length) :
    Sofar c ps n X (k + 1) (out ++ X.getD k []) := by
  have := h.all hk hp
  unfold Sofar at *
  rw [List.drop_set, if_pos (by omega)] at this
  exact this
theorem Ahead.step {c : Prop} {ps : List (List Int)} {n : Nat} {X : List (List Int)} {k : Nat} {out : List Int} (h : Ahead c ps n X k out) (hk : k < X.length) {m k' : Nat} (hm : m = min (n - out.length) (X.getD k []).length)
    (hk' : (n - out.length < (X.getD k []).length → k' = k) ∧ (¬ n - out.length < (X.getD k []).length → k' = k + 1)) : Sofar c ps n (X.set k ((X.getD k []).drop m)) k' (out ++ (X.getD k []).take m) := by
  by_cases hp : n - out.length < (X.getD k []).length
  · rw [hk'.1 hp, show m = n - out.length by omega]
    exact h.some hk hp
  · rw [hk'.2 hp, show m = (X.getD k []).length by omega, List.drop_length, List.take_length]
    exact h.all hk hp
theorem sumC_drop (k : Nat) (X : List (List Int)) : sumC List.length (X.drop k) ≤ sumC List.length X := by
  have h : sumC List.length (X.take k ++ X.drop k) = sumC List.length (X.take k) + sumC List.length (X.drop k) := sumC_append _ _
  rw [List.take_append_drop] at h
  omega
theorem sumC_set : ∀ (X : List (List Int)) (k m : Nat), sumC List.length (X.set k ((X.getD k []).drop m)) ≤ sumC List.length X
  | [], k, m => by simp
  | x :: r, 0, m => by simp [sumC]
  | x :: r, k + 1, m => by
    have := sumC_set r k m
    simp only [List.set_cons_succ, sumC]
    have e : (x :: r).getD (k + 1) [] = r.getD k [] := by simp
    rw [e]
    omega
end Go.Mu

namespace Go.Mu
open Go Go.Vm Go.RowKit Go.Proofs
attribute [local irreducible] wpA opsA stillA drawA drawS
set_option maxRecDepth 20000
set_option maxHeartbeats 4000000
theorem leafN3 {P : Prop} (h : P := by
  first
  | exact leaf
  | exact ⟨_, [], rfl, by omega, by omega, (List.append_nil _).symm⟩
  | fail) : P := h
theorem and1 {n : Int} (h : 0 ≤ n) : ((n.toNat &&& (1 : Int).toNat : Nat) : Int) = n % 2 := by
  rw [show (1 : Int).toNat = 1 from rfl, Nat.and_one_is_mod]; omega
abbrev canon (w : Wy) : Prop := w.flags % 2 = 1
theorem hasC (w : Wy) (h0 : 0 ≤ w.flags) (h1 : w.flags ≤ 511) : CallA S 206 [.agg (wyC w), .int .i64 1] ⟨[], 0⟩ (Ret1 (.prop (canon w)) ⟨[], 0⟩) := by
  refine .ofC hS _ _ _ Tryz.func206 ?_
  conv => whnf
  have e := and1 h0
  repeat' (first|refine Seal.mk ?_|(refine wS ?_;(conv=>whnf);fail_if_success show False)|((first|refine opsA_step ?_|refine drawS_go ?_);conv=>whnf)|(intro _;first|omega|conv=>whnf)|(apply And.intro<;>intro _<;>first|omega|conv=>whnf)|refine ⟨Seal.mk ?_,Seal.mk ?_⟩|((first|(apply And.intro;focus exact leafN3)|(apply Or.inl;apply And.intro;focus exact leafN3)|apply Or.inr|refine ⟨_,rfl,?_⟩|refine ⟨_,⟨rfl,rfl⟩,?_⟩|refine ⟨intE .u8,⟨rfl,fun _=>rfl⟩,?_⟩|(refine Exists.intro _ (And.intro (And.intro rfl (And.intro rfl ?_)) ?_);focus exact leafN3));conv=>whnf)|with_reducible assumption|((fail_if_success refine Exists.intro ?_ ?_);exact leafN3)|fail)
  (refine ⟨(), trivial, ?_⟩; (try refine FitsT.now hS ?_); (conv => whnf); apply And.intro; (case right => (repeat' (first|exact ⟨⟩|(apply And.intro;focus exact leafN3)|((conv=>whnf);first|exact ⟨⟩|(apply And.intro;focus exact leafN3))|fail))))
  show _ ↔ _
  unfold canon
  rw [e]
theorem hasS (w : Wy) (h0 : 0 ≤ w.flags) (h1 : w.flags ≤ 511) : CallA S 254 [.ptr (.loc 0) 7 none 0, .int .i64 1] ⟨[⟨.loc 0, false, .raw (wyC w)⟩], 1⟩ (Ret1 (.prop (canon w)) ⟨[], 1⟩) := by
  refine .ofC hS _ _ _ Tryz.func254 ?_
  conv => whnf
  have e := and1 h0
  repeat' (first|refine Seal.mk ?_|(refine wS ?_;(conv=>whnf);fail_if_success show False)|((first|refine opsA_step ?_|refine drawS_go ?_);conv=>whnf)|(intro _;first|omega|conv=>whnf)|(apply And.intro<;>intro _<;>first|omega|conv=>whnf)|refine ⟨Seal.mk ?_,Seal.mk ?_⟩|((first|(apply And.intro;focus exact leafN3)|(apply Or.inl;apply And.intro;focus exact leafN3)|apply Or.inr|refine ⟨_,rfl,?_⟩|refine ⟨_,⟨rfl,rfl⟩,?_⟩|refine ⟨intE .u8,⟨rfl,fun _=>rfl⟩,?_⟩|(refine Exists.intro _ (And.intro (And.intro rfl (And.intro rfl ?_)) ?_);focus exact leafN3));conv=>whnf)|with_reducible assumption|((fail_if_success refine Exists.intro ?_ ?_);exact leafN3)|fail)
  (refine ⟨(), trivial, ?_⟩; (try refine FitsT.now hS ?_); (conv => whnf); apply And.intro; (case right => (repeat' (first|exact ⟨⟩|(apply And.intro;focus exact leafN3)|((conv=>whnf);first|exact ⟨⟩|(apply And.intro;focus exact leafN3))|fail))))
  show _ ↔ _
  unfold canon
  rw [e]
  omega
theorem way_ok {w : Wy} (h : wayF w = 0) : wayP w := by
  unfold wayF at h
  split at h
  · assumption
  · omega
theorem unlessT {p : Prop} (hp : p) (c : Int) : CallA S 76 [.prop p, .int .i64 c] ⟨[], 0⟩ (Ret1 (.int .i64 0) ⟨[], 0⟩) :=
  (unlessF p c).mono fun v H' ⟨g, h, h1, h2⟩ => ⟨(), trivial, by rw [h1, h.1 hp], h2⟩
theorem unlessN {p : Prop} (hp : ¬ p) (c : Int) : CallA S 76 [.prop p, .int .i64 c] ⟨[], 0⟩ (Ret1 (.int .i64 c) ⟨[], 0⟩) :=
  (unlessF p c).mono fun v H' ⟨g, h, h1, h2⟩ => ⟨(), trivial, by rw [h1, h.2 hp], h2⟩
noncomputable def readLR (w : Wy) (s : Lin) (n : Int) : LinR := open Classical in
  if s.ready = [] then ⟨0, false, [], [], s⟩ else ⟨0, true, (rd (canon w) s.ready n.toNat).1, [], { s with ready := (rd (canon w) s.ready n.toNat).2 }⟩
theorem readLine (w : Wy) (s : Lin) (h : LinB s) (n : Int) (hw : wayF w = 0) (hl : linF s = 0) (hn : 1 ≤ n ∧ n ≤ 99) : CallA S 156 [.agg (wyC w), .agg (linC (.loc 0) (.loc 1) s), .int .i64 n] ⟨linH false (.loc 0) (.loc 1) s [], 2⟩ (Ret1 (.agg (linRC (.loc 2) (.loc 3) (.loc 4) (.loc 5) (readLR w s n))) ⟨linRH true (.loc 2) (.loc 3) (.loc 4) (.loc 5) (readLR w s n) [], 6⟩) := by
  by_cases hr : s.ready = []
  · rw [show readLR w s n = ⟨0, false, [], [], s⟩ from by unfold readLR; rw [if_pos hr]]
    have hlen : s.ready.length = 0 := by rw [hr]; rfl
    obtain ⟨⟨hf0, hf1⟩, _⟩ := way_ok hw
    have h' := h
    obtain ⟨h0, h1, h2⟩ := h'
    have e : firstNZ [wayF w, linF s, 0] = 0 := by simp [firstNZ, *]
    refine .ofC hS _ _ _ Tryz.func156 ?_
    conv => whnf
    repeat' (first|refine Seal.mk ?_|(refine wS ?_;(conv=>whnf);fail_if_success show False)|((first|refine opsA_step ?_|refine drawS_go ?_);conv=>whnf)|(intro _;first|omega|conv=>whnf)|(apply And.intro<;>intro _<;>first|omega|conv=>whnf)|refine ⟨Seal.mk ?_,Seal.mk ?_⟩|((first|(apply And.intro;focus exact leafN3)|(apply Or.inl;apply And.intro;focus exact leafN3)|apply Or.inr|refine ⟨_,rfl,?_⟩|refine ⟨_,⟨rfl,rfl⟩,?_⟩|refine ⟨intE .u8,⟨rfl,fun _=>rfl⟩,?_⟩|(refine Exists.intro _ (And.intro (And.intro rfl (And.intro rfl ?_)) ?_);focus exact leafN3));conv=>whnf)|with_reducible assumption|((fail_if_success refine Exists.intro ?_ ?_);exact leafN3)|fail)
    refine Wp.see ⟨[(2, .int .i64 n), (3, .ptr (.loc 2) 7 none 0), (4, .ptr (.loc 3) 4 none 0), (6, .ptr (.loc 4) 8 none 0)], ⟨⟨.loc 2, false, .raw (wyC w)⟩ :: ⟨.loc 3, false, .raw (linC (.loc 0) (.loc 1) s)⟩ :: ⟨.loc 4, true, .raw [.int .i64 0, .ff, .nils, .nils, .nils, .nils, .ff, .int .i64 0]⟩ :: linH false (.loc 0) (.loc 1) s [], 5⟩, 62, 2⟩ ?_ ?_
    · ((try dsimp only);((try refine wF ?_);repeat' (first|exact ⟨⟩|(apply And.intro;focus exact leafN3)|((conv=>whnf);first|exact ⟨⟩|(apply And.intro;focus exact leafN3))|fail)))
    repeat' (first|refine Seal.mk ?_|(refine wS ?_;(conv=>whnf);fail_if_success show False)|((first|refine opsA_step ?_|refine drawS_go ?_|refine wD (id:=1) (.quick 4 (.stable 0 (.stable 2 (.all (.step 1 (.all (.step 3 (.all (.step 5 (.all (.step 6 (.all (.step 7 (.all (.step 8 (.quick 9 .done)))))))))))))))) [1, 3, 5, 6, 7, 8] (by kernel_rfl) rfl ?_|apply wL (wayFault _)|apply wL (lineFault _ h)|apply wL (inF _ _ _)|apply wL (unlessT hn 3)|apply wL (first [_, _, _] (Nat.le_of_ble_eq_true rfl))|apply wL (cloneLin _ h));conv=>whnf)|(intro _;first|omega|conv=>whnf)|(apply And.intro<;>intro _<;>first|omega|conv=>whnf)|refine ⟨Seal.mk ?_,Seal.mk ?_⟩|((first|(apply And.intro;focus exact leafN3)|(apply Or.inl;apply And.intro;focus exact leafN3)|apply Or.inr|refine ⟨_,rfl,?_⟩|refine ⟨_,⟨rfl,rfl⟩,?_⟩|refine ⟨intE .u8,⟨rfl,fun _=>rfl⟩,?_⟩|(refine Exists.intro _ (And.intro (And.intro rfl (And.intro rfl ?_)) ?_);focus exact leafN3));conv=>whnf)|with_reducible assumption|((fail_if_success refine Exists.intro ?_ ?_);exact leafN3)|fail)
    all_goals (refine ⟨(),⟨⟩,?_⟩;((try refine wF ?_);repeat' (first|exact ⟨⟩|(apply And.intro;focus exact leafN3)|((conv=>whnf);first|exact ⟨⟩|(apply And.intro;focus exact leafN3))|fail)))
  rw [show readLR w s n = ⟨0, true, (rd (canon w) s.ready n.toNat).1, [], { s with ready := (rd (canon w) s.ready n.toNat).2 }⟩ from by unfold readLR; rw [if_neg hr]]
  have hlen : 0 < s.ready.length := List.length_pos_iff.2 hr
  obtain ⟨⟨hf0, hf1⟩, _⟩ := way_ok hw
  have h' := h
  obtain ⟨h0, h1, h2⟩ := h'
  have e : firstNZ [wayF w, linF s, 0] = 0 := by simp [firstNZ, *]
  have hp : (s.ready.getD ((0 : Nat) : Int).toNat []).length ≤ 1048576 := by have := sumC_get (cnt := List.length) (xs := s.ready) ((0 : Nat) : Int).toNat [] rfl; omega
  obtain ⟨m, hm⟩ : ∃ m : Nat, (m : Int) = min n (s.ready.getD ((0 : Nat) : Int).toNat []).length := ⟨(min n (s.ready.getD ((0 : Nat) : Int).toNat []).length).toNat, by omega⟩
  obtain ⟨k', hk'⟩ : ∃ k' : Nat, (n < (s.ready.getD ((0 : Nat) : Int).toNat []).length → k' = 0) ∧ (¬ n < (s.ready.getD ((0 : Nat) : Int).toNat []).length → k' = 0 + 1) := ⟨if n < (s.ready.getD ((0 : Nat) : Int).toNat []).length then 0 else 1, by split <;> simp_all⟩
  refine .ofC hS _ _ _ Tryz.func156 ?_
  conv => whnf
  repeat' (first|refine Seal.mk ?_|(refine wS ?_;(conv=>whnf);fail_if_success show False)|((first|refine opsA_step ?_|refine drawS_go ?_);conv=>whnf)|(intro _;first|omega|conv=>whnf)|(apply And.intro<;>intro _<;>first|omega|conv=>whnf)|refine ⟨Seal.mk ?_,Seal.mk ?_⟩|((first|(apply And.intro;focus exact leafN3)|(apply Or.inl;apply And.intro;focus exact leafN3)|apply Or.inr|refine ⟨_,rfl,?_⟩|refine ⟨_,⟨rfl,rfl⟩,?_⟩|refine ⟨intE .u8,⟨rfl,fun _=>rfl⟩,?_⟩|(refine Exists.intro _ (And.intro (And.intro rfl (And.intro rfl ?_)) ?_);focus exact leafN3));conv=>whnf)|with_reducible assumption|((fail_if_success refine Exists.intro ?_ ?_);exact leafN3)|fail)
  refine Wp.see ⟨[(2, .int .i64 n), (3, .ptr (.loc 2) 7 none 0), (4, .ptr (.loc 3) 4 none 0), (6, .ptr (.loc 4) 8 none 0)], ⟨⟨.loc 2, false, .raw (wyC w)⟩ :: ⟨.loc 3, false, .raw (linC (.loc 0) (.loc 1) s)⟩ :: ⟨.loc 4, true, .raw [.int .i64 0, .ff, .nils, .nils, .nils, .nils, .ff, .int .i64 0]⟩ :: linH false (.loc 0) (.loc 1) s [], 5⟩, 62, 2⟩ ?_ ?_
  · ((try dsimp only);((try refine wF ?_);repeat' (first|exact ⟨⟩|(apply And.intro;focus exact leafN3)|((conv=>whnf);first|exact ⟨⟩|(apply And.intro;focus exact leafN3))|fail)))
  repeat' (first|refine Seal.mk ?_|(refine wS ?_;(conv=>whnf);fail_if_success show False)|((first|refine opsA_step ?_|refine drawS_go ?_|refine wD (id:=1) (.quick 4 (.stable 0 (.stable 2 (.all (.step 1 (.all (.step 3 (.all (.step 5 (.all (.step 6 (.all (.step 7 (.all (.step 8 (.quick 9 .done)))))))))))))))) [1, 3, 5, 6, 7, 8] (by kernel_rfl) rfl ?_|apply wL (wayFault _)|apply wL (lineFault _ h)|apply wL (inF _ _ _)|apply wL (unlessT hn 3)|apply wL (first [_, _, _] (Nat.le_of_ble_eq_true rfl))|apply wL (cloneLin _ h)|apply wL (next s.ready 0 hlen h0 hp n (by omega) hn.2 m k' hm hk' s.edit (s.lit = true) s.breaks));conv=>whnf)|(intro _;first|omega|conv=>whnf)|(apply And.intro<;>intro _<;>first|omega|conv=>whnf)|refine ⟨Seal.mk ?_,Seal.mk ?_⟩|((first|(apply And.intro;focus exact leafN3)|(apply Or.inl;apply And.intro;focus exact leafN3)|apply Or.inr|refine ⟨_,rfl,?_⟩|refine ⟨_,⟨rfl,rfl⟩,?_⟩|refine ⟨intE .u8,⟨rfl,fun _=>rfl⟩,?_⟩|(refine Exists.intro _ (And.intro (And.intro rfl (And.intro rfl ?_)) ?_);focus exact leafN3));conv=>whnf)|with_reducible assumption|((fail_if_success refine Exists.intro ?_ ?_);exact leafN3)|fail)
  have hX0 : Sofar (canon w) s.ready n.toNat (s.ready.set 0 ((s.ready.getD ((0 : Nat) : Int).toNat []).drop (m : Int).toNat)) k' ([] ++ (s.ready.getD ((0 : Nat) : Int).toNat []).take (m : Int).toNat) :=
    (Ahead.first (canon w) s.ready (by omega)).step hlen (by have hm : (m : Int) = min n ((s.ready.getD 0 []).length : Int) := hm; show (m : Int).toNat = min (n.toNat - 0) (s.ready.getD 0 []).length; omega)
      ⟨fun q => hk'.1 (by have q : n.toNat - 0 < (s.ready.getD 0 []).length := q; show n < ((s.ready.getD 0 []).length : Int); omega), fun q => hk'.2 (by have q : ¬ n.toNat - 0 < (s.ready.getD 0 []).length := q; show ¬ n < ((s.ready.getD 0 []).length : Int); omega)⟩
  refine .loop hS (γ := List (List Int) × Nat × List Int) (fun g => ⟨[(2, .int .i64 n), (3, .ptr (.loc 2) 7 none 0), (6, .ptr (.loc 4) 8 none 0), (8, .ptr (.loc 9) 4 none 0), (9, .sl (.loc 11) 1 none g.2.2.length)],
      ⟨[⟨.loc 11, true, .arr (intE .u8) g.2.2⟩, ⟨.loc 9, true, .raw [.sl (.loc 6) 1 (some g.2.1) (g.1.length - g.2.1), .sl (.loc 7) 1 none s.edit.length, .prop (s.lit = true), .int .i64 s.breaks]⟩, ⟨.loc 6, true, bytesN g.1⟩, ⟨.loc 7, true, .arr (intE .u8) s.edit⟩, ⟨.loc 2, false, .raw (wyC w)⟩,
        ⟨.loc 4, true, .raw [.int .i64 0, .ff, .nils, .nils, .nils, .nils, .ff, .int .i64 0]⟩, ⟨.loc 0, false, bytesN s.ready⟩, ⟨.loc 1, false, .arr (intE .u8) s.edit⟩], 12⟩, 62, 2⟩)
    (fun g => Sofar (canon w) s.ready n.toNat g.1 g.2.1 g.2.2 ∧ g.2.1 ≤ g.1.length ∧ g.1.length = s.ready.length ∧ sumC List.length g.1 ≤ 1048576) (fun g => (g.1.length - g.2.1) + (n.toNat - g.2.2.length))
    (s.ready.set 0 ((s.ready.getD ((0 : Nat) : Int).toNat []).drop (m : Int).toNat), k', [] ++ (s.ready.getD ((0 : Nat) : Int).toNat []).take (m : Int).toNat) ⟨hX0, by simp only [List.length_set]; omega, by simp, Nat.le_trans (sumC_set s.ready 0 (m : Int).toNat) h1⟩ ?_ ?_
  · have hle : (([] : List Int) ++ List.take (m : Int).toNat (s.ready.getD ((0 : Nat) : Int).toNat [])).length = ([] : List Int).length + (List.take (m : Int).toNat (s.ready.getD ((0 : Nat) : Int).toNat [])).length := List.length_append
    have hls : (s.ready.set 0 ((s.ready.getD ((0 : Nat) : Int).toNat []).drop (m : Int).toNat)).length = s.ready.length := List.length_set
    have hld : ((s.ready.getD ((0 : Nat) : Int).toNat []).drop (m : Int).toNat).length = (s.ready.getD ((0 : Nat) : Int).toNat []).length - m := by simp
    refine FitsT.turn (Turn.fits hS (m0 := [(10, some (.trim (.loc 10) m 1))]) (τ := ⟨[(2, .int .i64 n), (3, .ptr (.loc 2) 7 none 0), (6, .ptr (.loc 4) 8 none 0), (8, .ptr (.loc 9) 4 none 0), (9, .sl (.loc 11) 1 none ([] ++ (s.ready.getD ((0 : Nat) : Int).toNat []).take (m : Int).toNat).length)],
        ⟨[⟨.loc 11, true, .arr (intE .u8) ([] ++ (s.ready.getD ((0 : Nat) : Int).toNat []).take (m : Int).toNat)⟩, ⟨.loc 9, true, .raw [.sl (.loc 6) 1 (some k') (s.ready.length - k'), .sl (.loc 7) 1 none s.edit.length, .prop (s.lit = true), .int .i64 s.breaks]⟩, ⟨.loc 6, true, .nest 1 [] bytesG [0] bytesF s.ready (some (((0 : Nat) : Int), [.sl (.loc 10) 1 none ((s.ready.getD ((0 : Nat) : Int).toNat []).length - m)]))⟩, ⟨.loc 10, true, .arr (intE .u8) ((s.ready.getD ((0 : Nat) : Int).toNat []).drop (m : Int).toNat)⟩, ⟨.loc 7, true, .arr (intE .u8) s.edit⟩, ⟨.loc 2, false, .raw (wyC w)⟩,
          ⟨.loc 4, true, .raw [.int .i64 0, .ff, .nils, .nils, .nils, .nils, .ff, .int .i64 0]⟩, ⟨.loc 0, false, bytesN s.ready⟩, ⟨.loc 1, false, .arr (intE .u8) s.edit⟩], 12⟩, 62, 2⟩) ?_) ?_
    · (conv => whnf)
      repeat' (first|exact ⟨⟩|(apply And.intro;focus exact leafN3)|((conv=>whnf);first|exact ⟨⟩|(apply And.intro;focus exact leafN3))|fail)
    apply FitsT.turn; (focus (apply Turn.close hS (nb := 6) (x := (s.ready.getD ((0 : Nat) : Int).toNat []).drop (m : Int).toNat) (xs' := s.ready.set 0 ((s.ready.getD ((0 : Nat) : Int).toNat []).drop (m : Int).toNat)); (conv => whnf); refine And.intro ⟨rfl, ?_⟩ ?_; (focus (first | exact Or.inr ⟨by omega, by omega, by first | (with_reducible assumption) | (exact Eq.symm (by with_reducible assumption)) | rfl⟩ | exact Or.inl ⟨by first | rfl | omega, by first | (with_reducible assumption) | rfl⟩)); (focus ((conv=>whnf);repeat' (first|exact rfl|(apply And.intro;focus exact leafN3)|((conv=>whnf);first|exact rfl|(apply And.intro;focus exact leafN3))|fail)))))
    ((try dsimp only);((try refine wF ?_);repeat' (first|exact ⟨⟩|(apply And.intro;focus exact leafN3)|((conv=>whnf);first|exact ⟨⟩|(apply And.intro;focus exact leafN3))|fail)))
  · rintro ⟨X, k, out⟩ ⟨hs, hk, hX, hsum⟩
    simp only at hs hk hX hsum ⊢
    have ho := hs.1
    have ek : (k : Int).toNat = k := Int.toNat_natCast k
    have hp : (X.getD (k : Int).toNat []).length ≤ 1048576 := by have := sumC_get (cnt := List.length) (xs := X) (k : Int).toNat [] rfl; omega
    obtain ⟨m, hm⟩ : ∃ m : Nat, (m : Int) = min (n - out.length) (X.getD (k : Int).toNat []).length := ⟨(min (n - out.length) (X.getD (k : Int).toNat []).length).toNat, by omega⟩
    obtain ⟨k', hk'⟩ : ∃ k' : Nat, (n - out.length < (X.getD (k : Int).toNat []).length → k' = k) ∧ (¬ n - out.length < (X.getD (k : Int).toNat []).length → k' = k + 1) := ⟨if n - out.length < (X.getD (k : Int).toNat []).length then k else k + 1, by split <;> simp_all⟩
    have hB : LinB ⟨X.drop k, s.edit, s.lit, s.breaks⟩ := ⟨by simp only [List.length_drop]; omega, Nat.le_trans (sumC_drop k X) hsum, h2⟩
    have hld : (X.drop k).length = X.length - k := List.length_drop
    have hld' : ((X.drop k).length : Int) = X.length - k := by omega
    conv => whnf
    repeat' (first|refine Seal.mk ?_|(refine wS ?_;(conv=>whnf);fail_if_success show False)|((first|refine opsA_step ?_|refine drawS_go ?_|refine wD (id:=1) (.quick 4 (.all (.fork (.step 0 (.all (.fork (.step 1 (.all (.step 2 (.all (.step 3 (.all (.step 5 (.all (.step 6 (.all (.step 7 (.all (.step 8 (.quick 9 .done)))))))))))))) (.step 2 (.all (.step 1 (.all (.step 3 (.all (.step 5 (.all (.step 6 (.all (.step 7 (.all (.step 8 (.quick 9 .done))))))))))))))))) (.step 2 (.all (.step 0 (.all (.step 1 (.all (.step 3 (.all (.step 5 (.all (.step 6 (.all (.step 7 (.all (.step 8 (.quick 9 .done))))))))))))))))))) [0, 1, 2, 3, 5, 6, 7, 8] (by kernel_rfl) rfl ?_|apply wL (hasC w hf0 hf1)|apply wL (next X k (by omega) (by omega) hp (n - out.length) (by omega) (by omega) m k' hm hk' s.edit (s.lit = true) s.breaks)|apply wL (cloneLinK X k s.edit s.lit s.breaks (by omega) (by omega) hsum h2));conv=>whnf)|(intro _;first|omega|conv=>whnf)|(apply And.intro<;>intro _<;>first|omega|conv=>whnf)|refine ⟨Seal.mk ?_,Seal.mk ?_⟩|((first|(apply And.intro;focus exact leafN3)|(apply Or.inl;apply And.intro;focus exact leafN3)|apply Or.inr|refine ⟨_,rfl,?_⟩|refine ⟨_,⟨rfl,rfl⟩,?_⟩|refine ⟨intE .u8,⟨rfl,fun _=>rfl⟩,?_⟩|(refine Exists.intro _ (And.intro (And.intro rfl (And.intro rfl ?_)) ?_);focus exact leafN3));conv=>whnf)|with_reducible assumption|((fail_if_success refine Exists.intro ?_ ?_);exact leafN3)|fail)
    · have hlo : (out ++ (X.getD (k : Int).toNat []).take (m : Int).toNat).length = out.length + m := by simp only [List.length_append, List.length_take]; omega
      have hle : (out ++ (X.getD (k : Int).toNat []).take (m : Int).toNat).length = out.length + ((X.getD (k : Int).toNat []).take (m : Int).toNat).length := List.length_append
      have hls : (X.set (k : Int).toNat ((X.getD (k : Int).toNat []).drop (m : Int).toNat)).length = X.length := List.length_set
      have hlp : ((X.getD (k : Int).toNat []).drop (m : Int).toNat).length = (X.getD (k : Int).toNat []).length - m := by simp
      have hstep : Sofar (canon w) s.ready n.toNat (X.set (k : Int).toNat ((X.getD (k : Int).toNat []).drop (m : Int).toNat)) k' (out ++ (X.getD (k : Int).toNat []).take (m : Int).toNat) := by
        rw [ek] at hm hk' ⊢
        rw [Int.toNat_natCast]
        exact (hs.more ‹_› (by omega)).step (by omega) (by omega) ⟨fun q => hk'.1 (by omega), fun q => hk'.2 (by omega)⟩
      have hkk : k' ≤ X.length ∧ (X.length - k') + (n.toNat - (out.length + m)) < (X.length - k) + (n.toNat - out.length) := by
        by_cases q : n - out.length < (X.getD (k : Int).toNat []).length
        · have := hk'.1 q; omega
        · have := hk'.2 q; omega
      refine ⟨(X.set (k : Int).toNat ((X.getD (k : Int).toNat []).drop (m : Int).toNat), k', out ++ (X.getD (k : Int).toNat []).take (m : Int).toNat), ⟨⟨hstep, by simp only [hls]; omega, by simp only [hls]; exact hX, Nat.le_trans (sumC_set X (k : Int).toNat (m : Int).toNat) hsum⟩, by simp only [hls, hlo]; omega⟩, ?_⟩
      refine FitsT.turn (Turn.fits hS (m0 := [(12, some (.trim (.loc 12) m 1))]) (τ := ⟨[(2, .int .i64 n), (3, .ptr (.loc 2) 7 none 0), (6, .ptr (.loc 4) 8 none 0), (8, .ptr (.loc 9) 4 none 0), (9, .sl (.loc 13) 1 none (out ++ (X.getD (k : Int).toNat []).take (m : Int).toNat).length)],
          ⟨[⟨.loc 13, true, .arr (intE .u8) (out ++ (X.getD (k : Int).toNat []).take (m : Int).toNat)⟩, ⟨.loc 9, true, .raw [.sl (.loc 6) 1 (some k') (X.length - k'), .sl (.loc 7) 1 none s.edit.length, .prop (s.lit = true), .int .i64 s.breaks]⟩, ⟨.loc 6, true, .nest 1 [] bytesG [0] bytesF X (some ((k : Int), [.sl (.loc 12) 1 none ((X.getD (k : Int).toNat []).length - m)]))⟩, ⟨.loc 12, true, .arr (intE .u8) ((X.getD (k : Int).toNat []).drop (m : Int).toNat)⟩, ⟨.loc 7, true, .arr (intE .u8) s.edit⟩, ⟨.loc 2, false, .raw (wyC w)⟩,
            ⟨.loc 4, true, .raw [.int .i64 0, .ff, .nils, .nils, .nils, .nils, .ff, .int .i64 0]⟩, ⟨.loc 0, false, bytesN s.ready⟩, ⟨.loc 1, false, .arr (intE .u8) s.edit⟩], 14⟩, 62, 2⟩) ?_) ?_
      · (conv => whnf)
        repeat' (first|exact ⟨⟩|(apply And.intro;focus exact leafN3)|((conv=>whnf);first|exact ⟨⟩|(apply And.intro;focus exact leafN3))|fail)
      apply FitsT.turn; (focus (apply Turn.close hS (nb := 6) (x := (X.getD (k : Int).toNat []).drop (m : Int).toNat) (xs' := X.set (k : Int).toNat ((X.getD (k : Int).toNat []).drop (m : Int).toNat)); (conv => whnf); refine And.intro ⟨rfl, ?_⟩ ?_; (focus (first | exact Or.inr ⟨by omega, by omega, by first | (with_reducible assumption) | (exact Eq.symm (by with_reducible assumption)) | rfl⟩ | exact Or.inl ⟨by first | rfl | omega, by first | (with_reducible assumption) | rfl⟩)); (focus ((conv=>whnf);repeat' (first|exact rfl|(apply And.intro;focus exact leafN3)|((conv=>whnf);first|exact rfl|(apply And.intro;focus exact leafN3))|fail)))))
      ((try dsimp only);((try refine wF ?_);repeat' (first|exact ⟨⟩|(apply And.intro;focus exact leafN3)|((conv=>whnf);first|exact ⟨⟩|(apply And.intro;focus exact leafN3))|fail)))
    · rw [hs.done (.inr (.inr (by omega)))]
      (refine ⟨(),⟨⟩,?_⟩;((try refine wF ?_);repeat' (first|exact ⟨⟩|(apply And.intro;focus exact leafN3)|((conv=>whnf);first|exact ⟨⟩|(apply And.intro;focus exact leafN3))|fail)))
    · rw [hs.done (.inr (.inl (by omega)))]
      (refine ⟨(),⟨⟩,?_⟩;((try refine wF ?_);repeat' (first|exact ⟨⟩|(apply And.intro;focus exact leafN3)|((conv=>whnf);first|exact ⟨⟩|(apply And.intro;focus exact leafN3))|fail)))
    · rw [hs.done (.inl (by first | assumption | exact Classical.not_not.1 (by assumption)))]
      (refine ⟨(),⟨⟩,?_⟩;((try refine wF ?_);repeat' (first|exact ⟨⟩|(apply And.intro;focus exact leafN3)|((conv=>whnf);first|exact ⟨⟩|(apply And.intro;focus exact leafN3))|fail)))
end Go.Mu
