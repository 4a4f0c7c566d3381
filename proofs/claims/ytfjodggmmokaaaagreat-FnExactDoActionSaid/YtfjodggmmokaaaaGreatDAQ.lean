/- Blank cells, repeated. -/
import Derived.Test.YtfjodggmmokaaaaGreatDAP
import Derived.Test.YtfjodggmmokaaaaGreatDAN
set_option linter.unusedSimpArgs false
set_option linter.unusedVariables false
set_option linter.constructorNameAsVariable false
namespace Go.Mu
open Go Go.Vm Go.RowKit Go.Proofs
attribute [local irreducible] wpA opsA stillA drawA drawS
set_option maxRecDepth 20000
set_option maxHeartbeats 4000000
theorem leafR1 {P : Prop} (h : P := by
  first
  | exact leaf
  | (simp (disch := omega) only [andm', p32, inR, Int.one_mul, Int.zero_mul, Int.mul_zero, Int.zero_add, Int.add_zero, Int.reduceDiv, Int.reduceMul, IntKind.bits]; omega)
  | fail) : P := h
theorem aLR1 {a b : Prop} (k : b) (h : a := by exact leafR1) : a ∧ b := ⟨h, k⟩
theorem oLR1 {a b c : Prop} (k : b) (h : a := by exact leafR1) : (a ∧ b) ∨ c := .inl ⟨h, k⟩
theorem lfR1 {P : Prop} (h : P := by (fail_if_success refine Exists.intro ?_ ?_); exact leafR1) : P := h
theorem fzR1 {P : Prop} (h : P := by
  (try refine wF ?_)
  repeat' (first|exact ⟨⟩|(apply And.intro;focus exact leafR1)|((conv=>whnf);first|exact ⟨⟩|(apply And.intro;focus exact leafR1))|fail)) : P := h
theorem and32 {a : Nat} (h : a < 4294967296) : a &&& 4294967295 = a := by
  have := Nat.and_two_pow_sub_one_eq_mod a 32
  simp only [Nat.reducePow, Nat.reduceSub] at this
  rw [this, Nat.mod_eq_of_lt h]
theorem andm {a : Int} (h0 : 0 ≤ a) (h1 : a < 4294967296) : ((a.toNat &&& 4294967295 : Nat) : Int) = a := by
  rw [and32 (by omega)]; omega
theorem andm' {a : Int} (h0 : 0 ≤ a) (h1 : a < 4294967296) : ((a.toNat &&& (4294967295 : Int).toNat : Nat) : Int) = a := andm h0 h1
theorem p32 : (2 : Int) ^ (32 : Int).toNat = 4294967296 := rfl
theorem mul64 (n : Int) (h0 : 0 ≤ n) (h1 : n < 4294967296) : CallA S 383 [.int .u64 1, .int .u64 n] ⟨[], 0⟩ (Ret1 (.tup [.int .u64 0, .int .u64 n]) ⟨[], 0⟩) := by
  refine .ofC hS _ _ _ Tryz.func383 ?_
  conv => whnf
  repeat' (first|refine Seal.mk ?_|(refine wS ?_;(conv=>whnf);fail_if_success show False)|((first|refine opsA_step ?_);conv=>whnf)|(intro _;first|omega|conv=>whnf)|(apply And.intro<;>intro _<;>first|omega|conv=>whnf)|((first|refine aLR1 ?_|refine oLR1 ?_|refine ⟨_,rfl,?_⟩|refine ⟨_,⟨rfl,rfl⟩,?_⟩|refine ⟨_,⟨rfl,rfl,leafR1⟩,?_⟩);conv=>whnf)|with_reducible assumption|exact lfR1|fail)
  (refine ⟨(),⟨⟩,?_⟩;exact fzR1)
theorem mulU (n : Int) (h0 : 0 ≤ n) (h1 : n < 4294967296) : CallA S 380 [.int .u64 1, .int .u64 n] ⟨[], 0⟩ (Ret1 (.tup [.int .u64 0, .int .u64 n]) ⟨[], 0⟩) := by
  refine .ofC hS _ _ _ Tryz.func380 ?_
  conv => whnf
  repeat' (first|refine Seal.mk ?_|(refine wS ?_;(conv=>whnf);fail_if_success show False)|((first|refine opsA_step ?_|apply wL (mul64 _ _ _));conv=>whnf)|(intro _;first|omega|conv=>whnf)|(apply And.intro<;>intro _<;>first|omega|conv=>whnf)|((first|refine aLR1 ?_|refine ⟨_,rfl,?_⟩|refine ⟨_,⟨rfl,rfl⟩,?_⟩|refine ⟨_,⟨rfl,rfl,leafR1⟩,?_⟩);conv=>whnf)|with_reducible assumption|exact lfR1|fail)
  (refine ⟨(),⟨⟩,?_⟩;exact fzR1)
theorem over_one (c z : Int × Int) (m : Nat) : over (List.replicate m z) 0 (List.take m (List.take (1 : Int).toNat [c])) = List.replicate (min 1 m) c ++ List.replicate (m - min 1 m) z := by
  cases m with
  | zero => rfl
  | succ m => simp [over]
theorem over_dbl (c z : Int × Int) (k m : Nat) (h : k ≤ m) : over (List.replicate k c ++ List.replicate (m - k) z) k (List.take (m - k) (List.take k (List.replicate k c ++ List.replicate (m - k) z))) = List.replicate (k + min k (m - k)) c ++ List.replicate (m - (k + min k (m - k))) z := by
  have e : List.take k (List.replicate k c ++ List.replicate (m - k) z) = List.replicate k c := by rw [List.take_append_of_le_length (by simp)]; simp
  rw [e]
  unfold over
  simp only [List.take_replicate, List.length_replicate, List.drop_append, List.drop_replicate, e]
  rw [show k - (k + min (m - k) k) = 0 by omega, List.replicate_zero, List.nil_append, ← List.append_assoc, List.replicate_append_replicate, Nat.min_comm (m - k) k]
  congr 2
  omega
theorem repeatC (c : Int × Int) (n : Int) (h0 : 0 ≤ n) (h1 : n ≤ 1048576) : CallA S 374 [.sl (.loc 0) 2 none 1, .int .i64 n] ⟨[⟨.loc 0, false, .arr pairE [c]⟩], 1⟩ (Ret1 (.sl (.loc 1) 2 none n.toNat) ⟨[⟨.loc 1, true, .arr pairE (List.replicate n.toNat c)⟩], 2⟩) := by
  refine .ofC hS _ _ _ Tryz.func374 ?_
  conv => whnf
  repeat' (first|refine Seal.mk ?_|(refine wS ?_;(conv=>whnf);fail_if_success show False)|((first|refine opsA_step ?_|refine drawS_go ?_|refine wD (id:=9) (.quick 0 (.quick 1 (.quick 2 (.quick 3 (.quick 4 (.quick 5 (.quick 6 (.all (.step 7 (.quick 8 (.quick 9 .done))))))))))) [7] (by kernel_rfl) rfl ?_|apply wL (mulU _ _ _));conv=>whnf)|(intro _;first|omega|conv=>whnf)|(apply And.intro<;>intro _<;>first|omega|conv=>whnf)|((first|refine aLR1 ?_|refine oLR1 ?_|refine ⟨_,rfl,?_⟩|refine ⟨_,⟨rfl,rfl⟩,?_⟩|refine ⟨_,⟨rfl,rfl,leafR1⟩,?_⟩);conv=>whnf)|with_reducible assumption|exact lfR1|fail)
  refine .loop hS (γ := Nat) (fun k => ⟨[(7, .sl (.loc 1) 2 none n), (8, .int .i64 k)], ⟨[⟨.loc 1, true, .arr pairE (List.replicate k c ++ List.replicate (n.toNat - k) pairE.d)⟩], 2⟩, 48, 1⟩) (fun k => k ≤ n.toNat ∧ (0 < n → 0 < k)) (fun k => n.toNat - k) (min 1 n.toNat) ⟨by omega, by omega⟩ ?_ ?_
  · have e0 := over_one c pairE.d n.toNat
    have e1 : ((List.take (Int.toNat 1) [c]).length : Int) = 1 := rfl
    ((try dsimp only);exact fzR1)
  · intro k hk
    obtain ⟨hk, hp⟩ := hk
    have hl : (List.replicate k c ++ List.replicate (n.toNat - k) pairE.d).length = n.toNat := by simp [hk]
    have e0 := over_dbl c pairE.d k n.toNat hk
    have e1 : (List.take k (List.replicate k c ++ List.replicate (n.toNat - k) pairE.d)).length = k := by simp
    have e5 : List.drop (Int.toNat 0) (List.replicate k c ++ List.replicate (n.toNat - k) pairE.d) = List.replicate k c ++ List.replicate (n.toNat - k) pairE.d := rfl
    have e2 : ((k : Int) - 0).toNat = k := by omega
    have e3 : (k : Int).toNat = k := by omega
    have e4 : (n - (k : Int)).toNat = n.toNat - k := by omega
    conv => whnf
    repeat' (first|refine Seal.mk ?_|(refine wS ?_;(conv=>whnf);fail_if_success show False)|((first|refine opsA_step ?_|refine drawS_go ?_|refine wD (id:=9) (.quick 0 (.quick 1 (.quick 2 (.quick 3 (.quick 4 (.quick 5 (.quick 6 (.all (.step 7 (.quick 8 (.quick 9 .done))))))))))) [7] (by kernel_rfl) rfl ?_);conv=>whnf)|(intro _;first|omega|conv=>whnf)|(apply And.intro<;>intro _<;>first|omega|conv=>whnf)|((first|refine aLR1 ?_|refine oLR1 ?_|refine ⟨_,rfl,?_⟩|refine ⟨_,⟨rfl,rfl⟩,?_⟩|refine ⟨_,⟨rfl,rfl,leafR1⟩,?_⟩);conv=>whnf)|with_reducible assumption|exact lfR1|fail)
    · refine ⟨k + min k (n.toNat - k), ⟨⟨by omega, by omega⟩, by omega⟩, ?_⟩
      rw [e2, e3, e4, e5]
      ((try dsimp only);exact fzR1)
    · have hk : k = n.toNat := by omega
      subst hk
      have e5 : List.replicate n.toNat c ++ List.replicate (n.toNat - n.toNat) pairE.d = List.replicate n.toNat c := by simp
      (refine ⟨(),⟨⟩,?_⟩;exact fzR1)
end Go.Mu

namespace Go.Mu
open Go Go.Vm Go.RowKit Go.Proofs
attribute [local irreducible] wpA opsA stillA drawA drawS
set_option maxRecDepth 20000
set_option maxHeartbeats 40000000
abbrev bl (a : Int) : Int × Int := (32, a)
theorem leafRN {P : Prop} (h : P := by
  first
  | exact leaf
  | exact Bool.false_ne_true
  | exact ⟨rfl, rfl⟩
  | rfl
  | fail) : P := h
theorem aLRN {a b : Prop} (k : b) (h : a := by exact leafRN) : a ∧ b := ⟨h, k⟩
theorem oLRN {a b c : Prop} (k : b) (h : a := by exact leafRN) : (a ∧ b) ∨ c := .inl ⟨h, k⟩
theorem fzRN {P : Prop} (h : P := by
  (try refine wF ?_)
  repeat' (first|exact ⟨⟩|(apply And.intro;focus exact leafRN)|((conv=>whnf);first|exact ⟨⟩|(apply And.intro;focus exact leafRN))|fail)) : P := h
theorem blanks (n a : Int) (h0 : 0 ≤ n) (h1 : n ≤ 1048576) : CallA S 354 [.int .i64 n, .int .i64 a] ⟨[], 0⟩ (Ret1 (.sl (.loc 0) 2 none n.toNat) ⟨[⟨.loc 0, true, .arr pairE (List.replicate n.toNat (bl a))⟩], 1⟩) := by
  refine .ofC hS _ _ _ Tryz.func354 ?_
  conv => whnf
  repeat' (first|refine Seal.mk ?_|(refine wS ?_;(conv=>whnf);fail_if_success show False)|((first|refine opsA_step ?_|apply wL (repeatC (bl a) n h0 h1));conv=>whnf)|(intro _;first|omega|conv=>whnf)|(apply And.intro<;>intro _<;>first|omega|conv=>whnf)|((first|refine aLRN ?_|refine ⟨_,rfl,?_⟩|refine ⟨_,⟨rfl,rfl⟩,?_⟩|refine ⟨_,⟨rfl,rfl,leafRN⟩,?_⟩);conv=>whnf)|with_reducible assumption|exact lfRN|fail)
  (refine ⟨(),⟨⟩,?_⟩;exact fzRN)
theorem isTab (n : Int) : CallA S 324 [.int .i64 n] ⟨[], 0⟩ (Ret1 (.prop (0 < n ∧ n % 8 = 0)) ⟨[], 0⟩) := by
  refine .ofC hS _ _ _ Tryz.func324 ?_
  conv => whnf
  repeat' (first|refine Seal.mk ?_|(refine wS ?_;(conv=>whnf);fail_if_success show False)|((first|refine opsA_step ?_);conv=>whnf)|(intro _;first|omega|conv=>whnf)|(apply And.intro<;>intro _<;>first|omega|conv=>whnf)|((first|refine aLRN ?_|refine ⟨_,rfl,?_⟩|refine ⟨_,⟨rfl,rfl⟩,?_⟩|refine ⟨_,⟨rfl,rfl,leafRN⟩,?_⟩);conv=>whnf)|with_reducible assumption|exact lfRN|fail)
  all_goals (refine ⟨(), trivial, ?_⟩; (try refine FitsT.now hS ?_); (conv => whnf); apply And.intro; (case right => (repeat' (first|exact ⟨⟩|(apply And.intro;focus exact leafRN)|((conv=>whnf);first|exact ⟨⟩|(apply And.intro;focus exact leafRN))|fail))))
  all_goals omega
@[reducible] noncomputable def tabAt (x : Int) : Bool := pb (0 < x ∧ x % 8 = 0)
noncomputable def tabRun (a n : Nat) : List Bool := (List.range' a n).map fun (x : Nat) => tabAt (x : Int)
theorem tabRun_succ (a n : Nat) : tabRun a (n + 1) = tabRun a n ++ [tabAt ((a + n : Nat) : Int)] := by
  unfold tabRun
  rw [List.range'_concat]
  simp
theorem tabRun_len (a n : Nat) : (tabRun a n).length = n := by unfold tabRun; simp
theorem l3Blanks (n a : Int) (h1 : n ≤ 4096) : CallA S 351 [.int .i64 n, .int .i64 a] ⟨[], 0⟩ (Ret1 (.sl (.loc 0) 2 none n.toNat) ⟨[⟨.loc 0, true, .arr pairE (List.replicate n.toNat (bl a))⟩], 1⟩) := by
  refine .ofC hS _ _ _ Tryz.func351 ?_
  conv => whnf
  repeat' (first|refine Seal.mk ?_|(refine wS ?_;(conv=>whnf);fail_if_success show False)|((first|refine opsA_step ?_);conv=>whnf)|(intro _;first|omega|conv=>whnf)|(apply And.intro<;>intro _<;>first|omega|conv=>whnf)|((first|refine aLRN ?_|refine oLRN ?_|apply Roads.one|refine ⟨_,rfl,?_⟩|refine ⟨_,⟨rfl,rfl⟩,?_⟩|refine ⟨_,⟨rfl,rfl,leafRN⟩,?_⟩);conv=>whnf)|with_reducible assumption|exact lfRN|fail)
  refine .loop hS (γ := Nat) (fun k => ⟨[(0, .int .i64 (n - k)), (1, .int .i64 a), (5, .sl (.loc 0) 2 none k)], ⟨[⟨.loc 0, true, .arr pairE (List.replicate k (bl a))⟩], 1⟩, 17, 0⟩) (fun k => k ≤ n.toNat) (fun k => n.toNat - k) 0 (by omega) ?_ ?_
  · ((try dsimp only);exact fzRN)
  · intro k hk
    have hl : (List.replicate k (bl a)).length = k := List.length_replicate
    have e1 : (List.take ((1 : Nat) : Int).toNat [bl a]).length = 1 := rfl
    have hn : List.replicate k (bl a) ++ List.take ((1 : Nat) : Int).toNat [bl a] = List.replicate (k + 1) (bl a) := List.replicate_succ'.symm
    conv => whnf
    repeat' (first|refine Seal.mk ?_|(refine wS ?_;(conv=>whnf);fail_if_success show False)|((first|refine opsA_step ?_);conv=>whnf)|(intro _;first|omega|conv=>whnf)|(apply And.intro<;>intro _<;>first|omega|conv=>whnf)|((first|refine aLRN ?_|refine oLRN ?_|apply Roads.one|refine ⟨_,rfl,?_⟩|refine ⟨_,⟨rfl,rfl⟩,?_⟩|refine ⟨_,⟨rfl,rfl,leafRN⟩,?_⟩);conv=>whnf)|with_reducible assumption|exact lfRN|fail)
    · refine ⟨k + 1, ⟨by omega, by omega⟩, ?_⟩
      ((try dsimp only);exact fzRN)
    · have hkn : k = n.toNat := by omega
      subst hkn
      (refine ⟨(),⟨⟩,?_⟩;exact fzRN)
theorem l3New (r w : Nat) (hrw : r * w ≤ 72) : CallA S 307 [.int .i64 r, .int .i64 w] ⟨[], 0⟩ (Ret1 (.agg [.int .i64 r, .int .i64 w, .sl (.loc 0) 2 none ((r : Int) * w).toNat, .nils]) ⟨[⟨.loc 0, true, .arr pairE (List.replicate ((r : Int) * w).toNat (bl 0))⟩], 1⟩) := by
  have hi : (r : Int) * w = ((r * w : Nat) : Int) := (Int.natCast_mul _ _).symm
  refine .ofC hS _ _ _ Tryz.func307 ?_
  conv => whnf
  repeat' (first|refine Seal.mk ?_|(refine wS ?_;(conv=>whnf);fail_if_success show False)|((first|refine opsA_step ?_|apply wL (l3Blanks ((r : Int) * w) 0 (by omega)));conv=>whnf)|(intro _;first|omega|conv=>whnf)|(apply And.intro<;>intro _<;>first|omega|conv=>whnf)|((first|refine aLRN ?_|refine oLRN ?_|refine ⟨_,rfl,?_⟩|refine ⟨_,⟨rfl,rfl⟩,?_⟩|refine ⟨_,⟨rfl,rfl,leafRN⟩,?_⟩);conv=>whnf)|with_reducible assumption|exact lfRN|fail)
  (refine ⟨(),⟨⟩,?_⟩;exact fzRN)
theorem l5Tabs (a w : Nat) (h : w ≤ 12) (ha : a ≤ w) : CallA S 308 [.int .i64 a, .int .i64 w] ⟨[], 0⟩ (Ret1 (.sl (.loc 0) 1 none (tabRun a (w - a)).length) ⟨[⟨.loc 0, true, .arr boolE (tabRun a (w - a))⟩], 1⟩) := by
  refine .ofC hS _ _ _ Tryz.func308 ?_
  conv => whnf
  repeat' (first|refine Seal.mk ?_|(refine wS ?_;(conv=>whnf);fail_if_success show False)|((first|refine opsA_step ?_);conv=>whnf)|(intro _;first|omega|conv=>whnf)|(apply And.intro<;>intro _<;>first|omega|conv=>whnf)|((first|refine aLRN ?_|refine oLRN ?_|apply Roads.one|refine ⟨_,rfl,?_⟩|refine ⟨_,⟨rfl,rfl⟩,?_⟩|refine ⟨_,⟨rfl,rfl,leafRN⟩,?_⟩);conv=>whnf)|with_reducible assumption|exact lfRN|fail)
  refine .loop hS (γ := Nat) (fun k => ⟨[(1, .int .i64 w), (5, .sl (.loc 0) 1 none (tabRun a k).length), (6, .int .i64 (a + k))], ⟨[⟨.loc 0, true, .arr boolE (tabRun a k)⟩], 1⟩, 25, 0⟩) (fun k => k ≤ w - a) (fun k => w - a - k) 0 (by omega) ?_ ?_
  · have h0 : (tabRun a 0).length = 0 := rfl
    ((try dsimp only);exact fzRN)
  · intro k hk
    have hl := tabRun_len a k
    conv => whnf
    by_cases hgo : k < w - a
    · have hn := tabRun_succ a k
      have hnl := tabRun_len a (k + 1)
      have hc : ((a + k : Nat) : Int) = (a : Int) + k := by omega
      rw [hc] at hn
      repeat' (first|refine Seal.mk ?_|(refine wS ?_;(conv=>whnf);fail_if_success show False)|((first|refine opsA_step ?_);conv=>whnf)|(intro _;first|omega|conv=>whnf)|(apply And.intro<;>intro _<;>first|omega|conv=>whnf)|((first|refine aLRN ?_|refine oLRN ?_|apply Roads.one|refine ⟨_,rfl,?_⟩|refine ⟨_,⟨rfl,rfl⟩,?_⟩|refine ⟨_,⟨rfl,rfl,leafRN⟩,?_⟩);conv=>whnf)|with_reducible assumption|exact lfRN|fail)
      · have ht : tabAt ((a : Int) + k) = pb (((a : Int) + k) % 8 = 0) := congrArg pb (propext ⟨fun q => q.2, fun q => ⟨by omega, q⟩⟩)
        rw [ht] at hn
        have e1 : (List.take ((1 : Nat) : Int).toNat [pb (((a : Int) + k) % 8 = 0)]).length = 1 := rfl
        have hn2 : tabRun a k ++ List.take ((1 : Nat) : Int).toNat [pb (((a : Int) + k) % 8 = 0)] = tabRun a (k + 1) := hn.symm
        refine ⟨k + 1, ⟨by omega, by omega⟩, ?_⟩
        ((try dsimp only);exact fzRN)
      · have ht : tabAt ((a : Int) + k) = false := by
          cases hb : tabAt ((a : Int) + k) with
          | false => rfl
          | true => exact absurd ((pb_iff _).1 hb).1 (by omega)
        rw [ht] at hn
        have e1 : (List.take ((1 : Nat) : Int).toNat [false]).length = 1 := rfl
        have hn2 : tabRun a k ++ List.take ((1 : Nat) : Int).toNat [false] = tabRun a (k + 1) := hn.symm
        refine ⟨k + 1, ⟨by omega, by omega⟩, ?_⟩
        ((try dsimp only);exact fzRN)
    · have hke : k = w - a := by omega
      subst hke
      repeat' (first|refine Seal.mk ?_|(refine wS ?_;(conv=>whnf);fail_if_success show False)|((first|refine opsA_step ?_);conv=>whnf)|(intro _;first|omega|conv=>whnf)|(apply And.intro<;>intro _<;>first|omega|conv=>whnf)|((first|refine aLRN ?_|refine oLRN ?_|apply Roads.one|refine ⟨_,rfl,?_⟩|refine ⟨_,⟨rfl,rfl⟩,?_⟩|refine ⟨_,⟨rfl,rfl,leafRN⟩,?_⟩);conv=>whnf)|with_reducible assumption|exact lfRN|fail)
      all_goals (refine ⟨(),⟨⟩,?_⟩;exact fzRN)
end Go.Mu
