/- Blank cells, repeated. -/
import Derived.Test.YtcimmkokkmbhpaaGreatCC
import Derived.Test.YtcimmkokkmbhpaaGreatVm37
set_option linter.unusedSimpArgs false
set_option linter.unusedVariables false
set_option linter.constructorNameAsVariable false
namespace Go.Mu
open Go Go.Vm Go.RowKit Go.Proofs
attribute [local irreducible] wpA opsA stillA drawA drawS
set_option maxRecDepth 20000
set_option maxHeartbeats 4000000
theorem leafR1 {P : Prop} (h : P := by
  first
  | exact leaf
  | (simp (disch := omega) only [andm', p32, inR, Int.one_mul, Int.zero_mul, Int.mul_zero, Int.zero_add, Int.add_zero, Int.reduceDiv, Int.reduceMul, IntKind.bits]; omega)
  | fail) : P := h
theorem and32 {a : Nat} (h : a < 4294967296) : a &&& 4294967295 = a := by
  have := Nat.and_two_pow_sub_one_eq_mod a 32
  simp only [Nat.reducePow, Nat.reduceSub] at this
  rw [this, Nat.mod_eq_of_lt h]
theorem andm {a : Int} (h0 : 0 ≤ a) (h1 : a < 4294967296) : ((a.toNat &&& 4294967295 : Nat) : Int) = a := by
  rw [and32 (by omega)]; omega
theorem andm' {a : Int} (h0 : 0 ≤ a) (h1 : a < 4294967296) : ((a.toNat &&& (4294967295 : Int).toNat : Nat) : Int) = a := andm h0 h1
theorem p32 : (2 : Int) ^ (32 : Int).toNat = 4294967296 := rfl
theorem mul64 (n : Int) (h0 : 0 ≤ n) (h1 : n < 4294967296) : CallA S 312 [.int .u64 1, .int .u64 n] ⟨[], 0⟩ (Ret1 (.tup [.int .u64 0, .int .u64 n]) ⟨[], 0⟩) := by
  refine .ofC hS _ _ _ Tryz.func312 ?_
  conv => whnf
  repeat' (first|refine Seal.mk ?_|(refine wS ?_;(conv=>whnf);fail_if_success show False)|((first|refine opsA_step ?_|refine drawS_go ?_);conv=>whnf)|(intro _;first|omega|conv=>whnf)|(apply And.intro<;>intro _<;>first|omega|conv=>whnf)|refine ⟨Seal.mk ?_,Seal.mk ?_⟩|((first|refine ⟨leafR1,?_⟩|refine Or.inl ⟨leafR1,?_⟩|apply Or.inr|refine ⟨_,rfl,?_⟩|refine ⟨_,⟨rfl,rfl⟩,?_⟩|refine ⟨intE .u8,⟨rfl,fun _=>rfl⟩,?_⟩|refine ⟨_,⟨rfl,rfl,leafR1⟩,?_⟩);conv=>whnf)|with_reducible assumption|exact leafR1|fail)
  (refine ⟨(),⟨⟩,?_⟩;((try refine wF ?_);repeat' (first|exact ⟨⟩|refine ⟨leafR1,?_⟩|((conv=>whnf);first|exact ⟨⟩|refine ⟨leafR1,?_⟩))))
theorem mulU (n : Int) (h0 : 0 ≤ n) (h1 : n < 4294967296) : CallA S 310 [.int .u64 1, .int .u64 n] ⟨[], 0⟩ (Ret1 (.tup [.int .u64 0, .int .u64 n]) ⟨[], 0⟩) := by
  refine .ofC hS _ _ _ Tryz.func310 ?_
  conv => whnf
  repeat' (first|refine Seal.mk ?_|(refine wS ?_;(conv=>whnf);fail_if_success show False)|((first|refine opsA_step ?_|refine drawS_go ?_|apply wL (mul64 _ _ _));conv=>whnf)|(intro _;first|omega|conv=>whnf)|(apply And.intro<;>intro _<;>first|omega|conv=>whnf)|refine ⟨Seal.mk ?_,Seal.mk ?_⟩|((first|refine ⟨leafR1,?_⟩|refine Or.inl ⟨leafR1,?_⟩|apply Or.inr|refine ⟨_,rfl,?_⟩|refine ⟨_,⟨rfl,rfl⟩,?_⟩|refine ⟨intE .u8,⟨rfl,fun _=>rfl⟩,?_⟩|refine ⟨_,⟨rfl,rfl,leafR1⟩,?_⟩);conv=>whnf)|with_reducible assumption|exact leafR1|fail)
  (refine ⟨(),⟨⟩,?_⟩;((try refine wF ?_);repeat' (first|exact ⟨⟩|refine ⟨leafR1,?_⟩|((conv=>whnf);first|exact ⟨⟩|refine ⟨leafR1,?_⟩))))
theorem over_one (c z : Int × Int) (m : Nat) : over (List.replicate m z) 0 (List.take m (List.take (1 : Int).toNat [c])) = List.replicate (min 1 m) c ++ List.replicate (m - min 1 m) z := by
  cases m with
  | zero => rfl
  | succ m => simp [over]
theorem over_dbl (c z : Int × Int) (k m : Nat) (h : k ≤ m) : over (List.replicate k c ++ List.replicate (m - k) z) k (List.take (m - k) (List.take k (List.replicate k c ++ List.replicate (m - k) z))) = List.replicate (k + min k (m - k)) c ++ List.replicate (m - (k + min k (m - k))) z := by
  have e : List.take k (List.replicate k c ++ List.replicate (m - k) z) = List.replicate k c := by rw [List.take_append_of_le_length (by simp)]; simp
  rw [e]
  unfold over
  simp only [List.take_replicate, List.length_replicate, List.drop_append, List.drop_replicate, e]
  rw [show k - (k + min (m - k) k) = 0 by omega, List.replicate_zero, List.nil_append, ← List.append_assoc, List.replicate_append_replicate, Nat.min_comm (m - k) k]
  congr 2
  omega
theorem repeatC (c : Int × Int) (n : Int) (h0 : 0 ≤ n) (h1 : n ≤ 1048576) : CallA S 303 [.sl (.loc 0) 2 none 1, .int .i64 n] ⟨[⟨.loc 0, false, .arr pairE [c]⟩], 1⟩ (Ret1 (.sl (.loc 1) 2 none n.toNat) ⟨[⟨.loc 1, true, .arr pairE (List.replicate n.toNat c)⟩], 2⟩) := by
  refine .ofC hS _ _ _ Tryz.func303 ?_
  conv => whnf
  repeat' (first|refine Seal.mk ?_|(refine wS ?_;(conv=>whnf);fail_if_success show False)|((first|refine opsA_step ?_|refine drawS_go ?_|refine wD (id:=9) (.quick 0 (.quick 1 (.quick 2 (.quick 3 (.quick 4 (.quick 5 (.quick 6 (.all (.step 7 (.quick 8 (.quick 9 .done))))))))))) [7] (by kernel_rfl) rfl ?_|apply wL (mulU _ _ _));conv=>whnf)|(intro _;first|omega|conv=>whnf)|(apply And.intro<;>intro _<;>first|omega|conv=>whnf)|refine ⟨Seal.mk ?_,Seal.mk ?_⟩|((first|refine ⟨leafR1,?_⟩|refine Or.inl ⟨leafR1,?_⟩|apply Or.inr|refine ⟨_,rfl,?_⟩|refine ⟨_,⟨rfl,rfl⟩,?_⟩|refine ⟨intE .u8,⟨rfl,fun _=>rfl⟩,?_⟩|refine ⟨_,⟨rfl,rfl,leafR1⟩,?_⟩);conv=>whnf)|with_reducible assumption|exact leafR1|fail)
  refine .loop hS (γ := Nat) (fun k => ⟨[(7, .sl (.loc 1) 2 none n), (8, .int .i64 k)], ⟨[⟨.loc 1, true, .arr pairE (List.replicate k c ++ List.replicate (n.toNat - k) pairE.d)⟩], 2⟩, 48, 1⟩) (fun k => k ≤ n.toNat ∧ (0 < n → 0 < k)) (fun k => n.toNat - k) (min 1 n.toNat) ⟨by omega, by omega⟩ ?_ ?_
  · have e0 := over_one c pairE.d n.toNat
    have e1 : ((List.take (Int.toNat 1) [c]).length : Int) = 1 := rfl
    ((try dsimp only);((try refine wF ?_);repeat' (first|exact ⟨⟩|refine ⟨leafR1,?_⟩|((conv=>whnf);first|exact ⟨⟩|refine ⟨leafR1,?_⟩))))
  · intro k hk
    obtain ⟨hk, hp⟩ := hk
    have hl : (List.replicate k c ++ List.replicate (n.toNat - k) pairE.d).length = n.toNat := by simp [hk]
    have e0 := over_dbl c pairE.d k n.toNat hk
    have e1 : (List.take k (List.replicate k c ++ List.replicate (n.toNat - k) pairE.d)).length = k := by simp
    have e5 : List.drop (Int.toNat 0) (List.replicate k c ++ List.replicate (n.toNat - k) pairE.d) = List.replicate k c ++ List.replicate (n.toNat - k) pairE.d := rfl
    have e2 : ((k : Int) - 0).toNat = k := by omega
    have e3 : (k : Int).toNat = k := by omega
    have e4 : (n - (k : Int)).toNat = n.toNat - k := by omega
    conv => whnf
    repeat' (first|refine Seal.mk ?_|(refine wS ?_;(conv=>whnf);fail_if_success show False)|((first|refine opsA_step ?_|refine drawS_go ?_|refine wD (id:=9) (.quick 0 (.quick 1 (.quick 2 (.quick 3 (.quick 4 (.quick 5 (.quick 6 (.all (.step 7 (.quick 8 (.quick 9 .done))))))))))) [7] (by kernel_rfl) rfl ?_);conv=>whnf)|(intro _;first|omega|conv=>whnf)|(apply And.intro<;>intro _<;>first|omega|conv=>whnf)|refine ⟨Seal.mk ?_,Seal.mk ?_⟩|((first|refine ⟨leafR1,?_⟩|refine Or.inl ⟨leafR1,?_⟩|apply Or.inr|refine ⟨_,rfl,?_⟩|refine ⟨_,⟨rfl,rfl⟩,?_⟩|refine ⟨intE .u8,⟨rfl,fun _=>rfl⟩,?_⟩|refine ⟨_,⟨rfl,rfl,leafR1⟩,?_⟩);conv=>whnf)|with_reducible assumption|exact leafR1|fail)
    · refine ⟨k + min k (n.toNat - k), ⟨⟨by omega, by omega⟩, by omega⟩, ?_⟩
      rw [e2, e3, e4, e5]
      ((try dsimp only);((try refine wF ?_);repeat' (first|exact ⟨⟩|refine ⟨leafR1,?_⟩|((conv=>whnf);first|exact ⟨⟩|refine ⟨leafR1,?_⟩))))
    · have hk : k = n.toNat := by omega
      subst hk
      have e5 : List.replicate n.toNat c ++ List.replicate (n.toNat - n.toNat) pairE.d = List.replicate n.toNat c := by simp
      (refine ⟨(),⟨⟩,?_⟩;((try refine wF ?_);repeat' (first|exact ⟨⟩|refine ⟨leafR1,?_⟩|((conv=>whnf);first|exact ⟨⟩|refine ⟨leafR1,?_⟩))))
end Go.Mu
