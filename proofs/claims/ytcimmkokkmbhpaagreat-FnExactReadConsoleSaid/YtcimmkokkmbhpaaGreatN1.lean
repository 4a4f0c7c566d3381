/- Reading a line: the first piece. -/
import Derived.Test.YtcimmkokkmbhpaaGreatCD
import Derived.Test.YtcimmkokkmbhpaaGreatPF
set_option linter.unusedSimpArgs false
set_option linter.unusedVariables false
set_option linter.constructorNameAsVariable false
namespace Go.Mu
open Go Go.Vm Go.RowKit Go.Proofs
attribute [local irreducible] wpA opsA stillA drawA drawS
set_option maxRecDepth 20000
set_option maxHeartbeats 4000000
@[reducible] def linRaw (k len : Int) (ed : List Int) (lit : Prop) (br : Int) : List AV := [.sl (.loc 1) 1 (some k) (len - k), .sl (.loc 2) 1 none ed.length, .prop lit, .int .i64 br]
theorem nextSome (xs : List (List Int)) (k : Nat) (hk : k < xs.length) (hx : xs.length ≤ 1048576) (hp : (xs.getD (k : Int).toNat []).length ≤ 1048576) (n : Int) (h0 : 0 ≤ n) (h1 : n ≤ 99) (hn : n < (xs.getD (k : Int).toNat []).length) (ed : List Int) (lit : Prop) (br : Int) :
    CallA S 203 [.ptr (.loc 0) 4 none 0, .int .i64 n] ⟨[⟨.loc 0, true, .raw (linRaw k xs.length ed lit br)⟩, ⟨.loc 1, true, bytesN xs⟩, ⟨.loc 2, true, .arr (intE .u8) ed⟩], 3⟩
    (Ret1 (.sl (.loc 3) 1 none n) ⟨[⟨.loc 0, true, .raw (linRaw k xs.length ed lit br)⟩,
      ⟨.loc 1, true, .nest 1 [] bytesG [0] bytesF xs (some (k, [.sl (.loc 3) 1 (some n) ((xs.getD (k : Int).toNat []).length - n)]))⟩, ⟨.loc 2, true, .arr (intE .u8) ed⟩, ⟨.loc 3, true, .arr (intE .u8) (xs.getD (k : Int).toNat [])⟩], 4⟩) := by
  refine .ofC hS _ _ _ Tryz.func203 ?_
  conv => whnf
  refine Seal.mk ?_
  apply Wp.turn; (focus (apply Turn.open hS (nb := 1) (i0 := (k : Int)); (conv => whnf); refine And.intro ⟨by omega, by omega⟩ ?_; (focus ((conv => whnf); repeat' (first | exact rfl | (apply And.intro; (case left => exact leaf)) | ((conv => whnf); apply And.intro; (case left => exact leaf)) | ((conv => whnf); exact rfl)))))); (conv => whnf)
  repeat' (first | (refine Seal.mk ?_) | (refine Wp.step hS ?_; (conv => whnf); (fail_if_success show False)) | (refine opsA_step ?_; (conv => whnf)) | (refine drawS_go ?_; (conv => whnf)) | (refine Wp.drawS (id := 3) hS (.quick 0 (.quick 1 (.quick 2 (.quick 4 (.quick 5 (.quick 6 (.read 3 (.quick 7 (.all (.step 8 .done)))))))))) [8] (by kernel_rfl) rfl ?_) | (intro _; omega) | (intro _; (conv => whnf)) | (apply And.intro <;> intro _ <;> first | omega | (conv => whnf)) | (refine And.intro (Seal.mk ?_) (Seal.mk ?_)) | (apply And.intro; (case left => exact leaf); (conv => whnf)) | (apply Or.inl; apply And.intro; (case left => exact leaf); (conv => whnf)) | (apply Or.inr; (conv => whnf)) | (refine Exists.intro _ (And.intro rfl ?_); (conv => whnf)) | (refine Exists.intro _ (And.intro (And.intro rfl rfl) ?_); (conv => whnf)) | (refine Exists.intro (intE .u8) (And.intro ⟨rfl, fun _ => rfl⟩ ?_); (conv => whnf)) | (refine Exists.intro _ (And.intro (And.intro rfl (And.intro rfl ?leaf)) ?_); (case leaf => exact leaf); (conv => whnf)) | with_reducible assumption | exact leaf | fail)
  all_goals (refine ⟨(), trivial, ?_⟩; ((try refine FitsT.now hS ?_); repeat' (first | exact True.intro | (apply And.intro; (case left => exact leaf)) | ((conv => whnf); apply And.intro; (case left => exact leaf)) | ((conv => whnf); exact True.intro))))
theorem nextAll (xs : List (List Int)) (k : Nat) (hk : k < xs.length) (hx : xs.length ≤ 1048576) (hp : (xs.getD (k : Int).toNat []).length ≤ 1048576) (n : Int) (h0 : 0 ≤ n) (h1 : n ≤ 99) (hn : ¬ n < (xs.getD (k : Int).toNat []).length) (ed : List Int) (lit : Prop) (br : Int) :
    CallA S 203 [.ptr (.loc 0) 4 none 0, .int .i64 n] ⟨[⟨.loc 0, true, .raw (linRaw k xs.length ed lit br)⟩, ⟨.loc 1, true, bytesN xs⟩, ⟨.loc 2, true, .arr (intE .u8) ed⟩], 3⟩
    (Ret1 (.sl (.loc 3) 1 none (xs.getD (k : Int).toNat []).length) ⟨[⟨.loc 0, true, .raw (linRaw (k + 1) xs.length ed lit br)⟩,
      ⟨.loc 1, true, .nest 1 [] bytesG [0] bytesF xs (some (k, [.sl (.loc 3) 1 (some ((xs.getD (k : Int).toNat []).length)) ((xs.getD (k : Int).toNat []).length - (xs.getD (k : Int).toNat []).length)]))⟩, ⟨.loc 2, true, .arr (intE .u8) ed⟩, ⟨.loc 3, true, .arr (intE .u8) (xs.getD (k : Int).toNat [])⟩], 4⟩) := by
  refine .ofC hS _ _ _ Tryz.func203 ?_
  conv => whnf
  refine Seal.mk ?_
  apply Wp.turn; (focus (apply Turn.open hS (nb := 1) (i0 := (k : Int)); (conv => whnf); refine And.intro ⟨by omega, by omega⟩ ?_; (focus ((conv => whnf); repeat' (first | exact rfl | (apply And.intro; (case left => exact leaf)) | ((conv => whnf); apply And.intro; (case left => exact leaf)) | ((conv => whnf); exact rfl)))))); (conv => whnf)
  repeat' (first | (refine Seal.mk ?_) | (refine Wp.step hS ?_; (conv => whnf); (fail_if_success show False)) | (refine opsA_step ?_; (conv => whnf)) | (refine drawS_go ?_; (conv => whnf)) | (refine Wp.drawS (id := 3) hS (.quick 0 (.quick 1 (.quick 2 (.quick 4 (.quick 5 (.quick 6 (.read 3 (.quick 7 (.all (.step 8 .done)))))))))) [8] (by kernel_rfl) rfl ?_) | (intro _; omega) | (intro _; (conv => whnf)) | (apply And.intro <;> intro _ <;> first | omega | (conv => whnf)) | (refine And.intro (Seal.mk ?_) (Seal.mk ?_)) | (apply And.intro; (case left => exact leaf); (conv => whnf)) | (apply Or.inl; apply And.intro; (case left => exact leaf); (conv => whnf)) | (apply Or.inr; (conv => whnf)) | (refine Exists.intro _ (And.intro rfl ?_); (conv => whnf)) | (refine Exists.intro _ (And.intro (And.intro rfl rfl) ?_); (conv => whnf)) | (refine Exists.intro (intE .u8) (And.intro ⟨rfl, fun _ => rfl⟩ ?_); (conv => whnf)) | (refine Exists.intro _ (And.intro (And.intro rfl (And.intro rfl ?leaf)) ?_); (case leaf => exact leaf); (conv => whnf)) | with_reducible assumption | exact leaf | fail)
  all_goals (refine ⟨(), trivial, ?_⟩; ((try refine FitsT.now hS ?_); repeat' (first | exact True.intro | (apply And.intro; (case left => exact leaf)) | ((conv => whnf); apply And.intro; (case left => exact leaf)) | ((conv => whnf); exact True.intro))))
theorem next (xs : List (List Int)) (k : Nat) (hk : k < xs.length) (hx : xs.length ≤ 1048576) (hp : (xs.getD (k : Int).toNat []).length ≤ 1048576) (n : Int) (h0 : 0 ≤ n) (h1 : n ≤ 99) (m k' : Nat) (hm : (m : Int) = min n (xs.getD (k : Int).toNat []).length)
    (hk' : (n < (xs.getD (k : Int).toNat []).length → k' = k) ∧ (¬ n < (xs.getD (k : Int).toNat []).length → k' = k + 1)) (ed : List Int) (lit : Prop) (br : Int) :
    CallA S 203 [.ptr (.loc 0) 4 none 0, .int .i64 n] ⟨[⟨.loc 0, true, .raw (linRaw k xs.length ed lit br)⟩, ⟨.loc 1, true, bytesN xs⟩, ⟨.loc 2, true, .arr (intE .u8) ed⟩], 3⟩
    (Ret1 (.sl (.loc 3) 1 none m) ⟨[⟨.loc 0, true, .raw (linRaw k' xs.length ed lit br)⟩,
      ⟨.loc 1, true, .nest 1 [] bytesG [0] bytesF xs (some (k, [.sl (.loc 3) 1 (some m) ((xs.getD (k : Int).toNat []).length - m)]))⟩, ⟨.loc 2, true, .arr (intE .u8) ed⟩, ⟨.loc 3, true, .arr (intE .u8) (xs.getD (k : Int).toNat [])⟩], 4⟩) := by
  by_cases hn : n < (xs.getD (k : Int).toNat []).length
  · have e1 := hk'.1 hn
    have e2 : n = m := by omega
    subst e1
    subst e2
    exact nextSome xs _ hk hx hp _ h0 h1 hn ed lit br
  · have e1 := hk'.2 hn
    have e2 : (xs.getD (k : Int).toNat []).length = m := by omega
    subst e1
    subst e2
    exact nextAll xs k hk hx hp n h0 h1 hn ed lit br
end Go.Mu
