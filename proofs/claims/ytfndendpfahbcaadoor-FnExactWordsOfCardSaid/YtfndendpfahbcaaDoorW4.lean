/- The walks of the law on words: the reference's function. -/
import Derived.Test.YtfndendpfahbcaaDoorW3
set_option linter.unusedSimpArgs false
set_option linter.unusedVariables false
namespace Go.Words
open Go Go.Vm Go.RowKit Go.Proofs
attribute [local irreducible] wpA opsA stillA drawA
set_option maxRecDepth 20000

/-- a piece that goes on -/
def att (p : List Int) : List (List Int) → List (List Int)
  | q :: qs => (p ++ q) :: qs
  | [] => [p]
theorem cut_ne (s : List Int) : cut s ≠ [] := by
  cases s with
  | nil => simp [cut]
  | cons c r => rw [cut_cons]; split
                · simp
                · split <;> simp
theorem att_nil {l : List (List Int)} (h : l ≠ []) : att [] l = l := by
  cases l with
  | nil => exact absurd rfl h
  | cons q qs => rfl
theorem att_cons (p : List Int) (c : Int) (r : List Int) (hc : ¬ c = 32) : att p (cut (c :: r)) = att (p ++ [c]) (cut r) := by
  rw [cut_cons, if_neg hc]
  cases cut r with
  | nil => rfl
  | cons q qs => simp [att]
theorem drop_get {xs : List Int} {i : Nat} (h : i < xs.length) : xs.drop i = xs.getD i 0 :: xs.drop (i + 1) := by
  rw [List.drop_eq_getElem_cons h, List.getD_eq_getElem?_getD, List.getElem?_eq_getElem h]; rfl
/-- as far as it was cut -/
structure Cutting (xs : List Int) (done : List (List Int)) (a i : Nat) : Prop where
  le : a ≤ i
  most : i ≤ xs.length + 1
  len : done.length ≤ i
  on : i ≤ xs.length → cut xs = done ++ att ((xs.take i).drop a) (cut (xs.drop i))
  out : i = xs.length + 1 → cut xs = done
theorem Cutting.zero (xs : List Int) : Cutting xs [] 0 0 :=
  ⟨by omega, by omega, by simp, fun _ => by simp [att_nil (cut_ne xs)], fun h => by omega⟩
theorem Cutting.last {xs : List Int} {done : List (List Int)} {a : Nat} (h : Cutting xs done a xs.length) : Cutting xs (done ++ [(xs.take xs.length).drop a]) (xs.length + 1) (xs.length + 1) := by
  refine ⟨by omega, by omega, by have := h.len; simp; omega, fun q => by omega, fun _ => ?_⟩
  rw [h.on (Nat.le_refl _), List.drop_length]; simp [cut, att]
theorem Cutting.blank {xs : List Int} {done : List (List Int)} {a i : Nat} (h : Cutting xs done a i) (hi : i < xs.length) (hc : xs.getD i 0 = 32) : Cutting xs (done ++ [(xs.take i).drop a]) (i + 1) (i + 1) := by
  refine ⟨by omega, by omega, by have := h.len; simp; omega, fun q => ?_, fun q => by omega⟩
  rw [h.on (by omega), drop_get hi, hc, cut_cons, if_pos rfl, List.drop_of_length_le (l := xs.take (i + 1)) (by simp; omega), att_nil (cut_ne _)]
  simp [att]
theorem Cutting.char {xs : List Int} {done : List (List Int)} {a i : Nat} (h : Cutting xs done a i) (hi : i < xs.length) (hc : ¬ xs.getD i 0 = 32) : Cutting xs done a (i + 1) := by
  have hle := h.le
  refine ⟨by omega, by omega, by have := h.len; omega, fun q => ?_, fun q => by omega⟩
  rw [h.on (by omega), drop_get hi, att_cons _ _ _ hc]
  congr 2
  rw [List.take_succ_eq_append_getElem hi, List.drop_append_of_le_length (by simp; omega), List.getD_eq_getElem?_getD, List.getElem?_eq_getElem hi]; rfl

theorem l10Cut (xs : List Int) (hx : xs.length ≤ 1048576) : CallA S 56 [.str xs, .int .u8 32] ⟨[], 0⟩ fun v H' =>
    ∃ _ : Unit, True ∧ v = .sl (.loc 0) 1 none (cut xs).length ∧ H' = ⟨[⟨.loc 0, true, .arr strE (cut xs)⟩], 1⟩ := by
  refine .ofC hS (fun _ => True) (fun _ => .sl (.loc 0) 1 none (cut xs).length) (fun _ => ⟨[⟨.loc 0, true, .arr strE (cut xs)⟩], 1⟩) Tryd.func56 ?_
  conv => whnf
  repeat' (first | (refine Seal.mk ?_) | (refine wpA_seq ?_) | (refine wpA_region rfl ?_) | (refine wpA_block ?_) | (refine wpA_loop ?_) | (refine wpA_draw ?_) | (refine drawA_all ?_) | (refine drawA_fork2 ?_ ?_) | (refine opsA_cons ?_; (conv => whnf)) | (refine opsA_nil ?_; (conv => whnf)) | (refine wpA_cond ?_; (conv => whnf)) | (refine wpA_skip ?_; (conv => whnf)) | (refine wpA_exit ?_; (conv => whnf)) | (refine wpA_ret ?_; (conv => whnf)) | (refine stillA_cons ?_; (conv => whnf)) | (refine stillA_nil ?_; (conv => whnf)) | (refine drawA_done ?_; (conv => whnf)) | (refine drawA_quick rfl ?_; (conv => whnf)) | (refine drawA_read rfl ?_; (conv => whnf)) | (refine drawA_step rfl ?_; (conv => whnf)) | (intro _; omega) | (intro _; (conv => whnf)) | (apply And.intro <;> intro _ <;> first | omega | (conv => whnf)) | (apply And.intro; (case left => (first | omega | exact rfl | exact PreC.self _ _ | with_reducible assumption | (simp only [inR, IntKind.bits, Int.reduceToNat, Int.reducePow]; omega) | (simp; done) | (simp; omega))); (conv => whnf)) | (apply Or.inl; apply And.intro; (case left => (first | omega | exact rfl | exact PreC.self _ _ | with_reducible assumption | (simp only [inR, IntKind.bits, Int.reduceToNat, Int.reducePow]; omega) | (simp; done) | (simp; omega))); (conv => whnf)) | (apply Or.inr; (conv => whnf)) | (refine Exists.intro _ (And.intro rfl ?_); (conv => whnf)) | (refine Exists.intro _ (And.intro (And.intro rfl rfl) ?_); (conv => whnf)) | (refine Exists.intro (intE .u8) (And.intro ⟨rfl, fun _ => rfl⟩ ?_); (conv => whnf)) | (refine Exists.intro _ (And.intro (And.intro rfl (And.intro rfl ?leaf)) ?_); (case leaf => (first | exact rfl | omega | (simp; done) | (simp; omega))); (conv => whnf)))
  refine .loop hS (γ := List (List Int) × Nat × Nat) (fun p => ⟨[(0, .str xs), (1, .int .u8 32), (5, .sl (.loc 0) 1 none p.1.length), (6, .int .i64 p.2.1), (7, .int .i64 p.2.2)],
      ⟨[⟨.loc 0, true, .arr strE p.1⟩], 1⟩, 36, 0⟩) (fun p => Cutting xs p.1 p.2.1 p.2.2) (fun p => xs.length + 1 - p.2.2) ([], 0, 0) (Cutting.zero xs) ?_ ?_
  · ((try dsimp only); repeat' (first | trivial | (apply And.intro; (case left => (first | omega | exact rfl | with_reducible assumption | exact PreC.self _ _ | exact PreC.of_eq (by with_reducible assumption) | exact PreC.of_eq' (by with_reducible assumption) | exact PreC.self' _ _ _ | exact PreC.pre (by with_reducible assumption) | exact ⟨5, rfl⟩ | exact ⟨9, rfl⟩ |  (simp; done) | (simp; omega)))) | ((conv => whnf); apply And.intro; (case left => (first | omega | exact rfl | with_reducible assumption | exact PreC.self _ _ | exact PreC.of_eq (by with_reducible assumption) | exact PreC.of_eq' (by with_reducible assumption) | exact PreC.self' _ _ _ | exact PreC.pre (by with_reducible assumption) | exact ⟨5, rfl⟩ | exact ⟨9, rfl⟩ |  (simp; done) | (simp; omega)))) | ((conv => whnf); trivial)))
  · intro g hg
    have g1 := hg.le
    have g2 := hg.most
    have g3 := hg.len
    conv => whnf
    repeat' (first | (refine Seal.mk ?_) | (refine wpA_seq ?_) | (refine wpA_region rfl ?_) | (refine wpA_block ?_) | (refine wpA_loop ?_) | (refine wpA_draw ?_) | (refine drawA_all ?_) | (refine drawA_fork2 ?_ ?_) | (refine opsA_cons ?_; (conv => whnf)) | (refine opsA_nil ?_; (conv => whnf)) | (refine wpA_cond ?_; (conv => whnf)) | (refine wpA_skip ?_; (conv => whnf)) | (refine wpA_exit ?_; (conv => whnf)) | (refine wpA_ret ?_; (conv => whnf)) | (refine stillA_cons ?_; (conv => whnf)) | (refine stillA_nil ?_; (conv => whnf)) | (refine drawA_done ?_; (conv => whnf)) | (refine drawA_quick rfl ?_; (conv => whnf)) | (refine drawA_read rfl ?_; (conv => whnf)) | (refine drawA_step rfl ?_; (conv => whnf)) | (intro _; omega) | (intro _; (conv => whnf)) | (apply And.intro <;> intro _ <;> first | omega | (conv => whnf)) | (apply And.intro; (case left => (first | omega | exact rfl | exact PreC.self _ _ | with_reducible assumption | (simp only [inR, IntKind.bits, Int.reduceToNat, Int.reducePow]; omega) | (simp; done) | (simp; omega))); (conv => whnf)) | (apply Or.inl; apply And.intro; (case left => (first | omega | exact rfl | exact PreC.self _ _ | with_reducible assumption | (simp only [inR, IntKind.bits, Int.reduceToNat, Int.reducePow]; omega) | (simp; done) | (simp; omega))); (conv => whnf)) | (apply Or.inr; (conv => whnf)) | (refine Exists.intro _ (And.intro rfl ?_); (conv => whnf)) | (refine Exists.intro _ (And.intro (And.intro rfl rfl) ?_); (conv => whnf)) | (refine Exists.intro (intE .u8) (And.intro ⟨rfl, fun _ => rfl⟩ ?_); (conv => whnf)) | (refine Exists.intro _ (And.intro (And.intro rfl (And.intro rfl ?leaf)) ?_); (case leaf => (first | exact rfl | omega | (simp; done) | (simp; omega))); (conv => whnf)))
    · have hi : g.2.2 = xs.length := by omega
      rw [hi] at hg
      have hl : (g.1 ++ [(xs.take xs.length).drop g.2.1]).length = g.1.length + 1 := by simp
      refine ⟨(g.1 ++ [(xs.take xs.length).drop g.2.1], xs.length + 1, xs.length + 1), ⟨hg.last, by dsimp only; omega⟩, ?_⟩
      simp only [hi]
      ((try dsimp only); repeat' (first | trivial | (apply And.intro; (case left => (first | omega | exact rfl | with_reducible assumption | exact PreC.self _ _ | exact PreC.of_eq (by with_reducible assumption) | exact PreC.of_eq' (by with_reducible assumption) | exact PreC.self' _ _ _ | exact PreC.pre (by with_reducible assumption) | exact ⟨5, rfl⟩ | exact ⟨9, rfl⟩ |  (simp; done) | (simp; omega)))) | ((conv => whnf); apply And.intro; (case left => (first | omega | exact rfl | with_reducible assumption | exact PreC.self _ _ | exact PreC.of_eq (by with_reducible assumption) | exact PreC.of_eq' (by with_reducible assumption) | exact PreC.self' _ _ _ | exact PreC.pre (by with_reducible assumption) | exact ⟨5, rfl⟩ | exact ⟨9, rfl⟩ |  (simp; done) | (simp; omega)))) | ((conv => whnf); trivial)))
    · have hl : (g.1 ++ [(xs.take g.2.2).drop g.2.1]).length = g.1.length + 1 := by simp
      refine ⟨(g.1 ++ [(xs.take g.2.2).drop g.2.1], g.2.2 + 1, g.2.2 + 1), ⟨hg.blank (by omega) ‹_›, by dsimp only; omega⟩, ?_⟩
      ((try dsimp only); repeat' (first | trivial | (apply And.intro; (case left => (first | omega | exact rfl | with_reducible assumption | exact PreC.self _ _ | exact PreC.of_eq (by with_reducible assumption) | exact PreC.of_eq' (by with_reducible assumption) | exact PreC.self' _ _ _ | exact PreC.pre (by with_reducible assumption) | exact ⟨5, rfl⟩ | exact ⟨9, rfl⟩ |  (simp; done) | (simp; omega)))) | ((conv => whnf); apply And.intro; (case left => (first | omega | exact rfl | with_reducible assumption | exact PreC.self _ _ | exact PreC.of_eq (by with_reducible assumption) | exact PreC.of_eq' (by with_reducible assumption) | exact PreC.self' _ _ _ | exact PreC.pre (by with_reducible assumption) | exact ⟨5, rfl⟩ | exact ⟨9, rfl⟩ |  (simp; done) | (simp; omega)))) | ((conv => whnf); trivial)))
    · refine ⟨(g.1, g.2.1, g.2.2 + 1), ⟨hg.char (by omega) ‹_›, by dsimp only; omega⟩, ?_⟩
      ((try dsimp only); repeat' (first | trivial | (apply And.intro; (case left => (first | omega | exact rfl | with_reducible assumption | exact PreC.self _ _ | exact PreC.of_eq (by with_reducible assumption) | exact PreC.of_eq' (by with_reducible assumption) | exact PreC.self' _ _ _ | exact PreC.pre (by with_reducible assumption) | exact ⟨5, rfl⟩ | exact ⟨9, rfl⟩ |  (simp; done) | (simp; omega)))) | ((conv => whnf); apply And.intro; (case left => (first | omega | exact rfl | with_reducible assumption | exact PreC.self _ _ | exact PreC.of_eq (by with_reducible assumption) | exact PreC.of_eq' (by with_reducible assumption) | exact PreC.self' _ _ _ | exact PreC.pre (by with_reducible assumption) | exact ⟨5, rfl⟩ | exact ⟨9, rfl⟩ |  (simp; done) | (simp; omega)))) | ((conv => whnf); trivial)))
    · have he := hg.out (by omega)
      simp only [← he]
      (refine ⟨(), trivial, ?_⟩; repeat' (first | trivial | (apply And.intro; (case left => (first | omega | exact rfl | with_reducible assumption | exact PreC.self _ _ | exact PreC.of_eq (by with_reducible assumption) | exact PreC.of_eq' (by with_reducible assumption) | exact PreC.self' _ _ _ | exact PreC.pre (by with_reducible assumption) | exact ⟨5, rfl⟩ | exact ⟨9, rfl⟩ |  (simp; done) | (simp; omega)))) | ((conv => whnf); apply And.intro; (case left => (first | omega | exact rfl | with_reducible assumption | exact PreC.self _ _ | exact PreC.of_eq (by with_reducible assumption) | exact PreC.of_eq' (by with_reducible assumption) | exact PreC.self' _ _ _ | exact PreC.pre (by with_reducible assumption) | exact ⟨5, rfl⟩ | exact ⟨9, rfl⟩ |  (simp; done) | (simp; omega)))) | ((conv => whnf); trivial)))

theorem fl_take {ws : List (List Int)} {j : Nat} (hj : j < ws.length) :
    (¬ ws.getD (j : Int).toNat strE.d = [] → fl (ws.take (j + 1)) = fl (ws.take j) ++ List.take ((1 : Nat) : Int).toNat [ws.getD (j : Int).toNat strE.d]) ∧ (ws.getD (j : Int).toNat strE.d = [] → fl (ws.take (j + 1)) = fl (ws.take j)) := by
  simp only [Int.toNat_natCast]
  refine ⟨fun h => ?_, fun h => ?_⟩
  · rw [getD_take_succ hj strE.d, fl_append]
    congr 1
    rw [fl_cons, if_neg h]; rfl
  · rw [getD_take_succ hj strE.d, fl_append, h]
    simp [fl]

theorem l16Words (xs : List Int) (hx : xs.length ≤ 1048576) : CallA S 27 [.str xs] ⟨[], 0⟩ fun v H' =>
    ∃ _ : Unit, True ∧ v = .sl (.loc 0) 1 none (fl (cut xs)).length ∧ H' = ⟨[⟨.loc 0, true, .arr strE (fl (cut xs))⟩], 1⟩ := by
  refine .ofC hS (fun _ => True) (fun _ => .sl (.loc 0) 1 none (fl (cut xs)).length) (fun _ => ⟨[⟨.loc 0, true, .arr strE (fl (cut xs))⟩], 1⟩) Tryd.func27 ?_
  have hc := cut_len xs
  have h1 := cntOf_le xs 32
  have hb : bytesL { data := #[] } = [] := rfl
  conv => whnf
  repeat' (first | (refine Seal.mk ?_) | (refine wpA_seq ?_) | (refine wpA_region rfl ?_) | (refine wpA_block ?_) | (refine wpA_loop ?_) | (refine wpA_draw ?_) | (refine drawA_all ?_) | (refine drawA_fork2 ?_ ?_) | (refine opsA_cons ?_; (conv => whnf)) | (refine opsA_nil ?_; (conv => whnf)) | (refine wpA_cond ?_; (conv => whnf)) | (refine wpA_skip ?_; (conv => whnf)) | (refine wpA_exit ?_; (conv => whnf)) | (refine wpA_ret ?_; (conv => whnf)) | (refine stillA_cons ?_; (conv => whnf)) | (refine stillA_nil ?_; (conv => whnf)) | (refine drawA_done ?_; (conv => whnf)) | (refine drawA_quick rfl ?_; (conv => whnf)) | (refine drawA_read rfl ?_; (conv => whnf)) | (refine drawA_step rfl ?_; (conv => whnf)) | (apply CallA.liftC hS (l10Cut xs hx); (conv => whnf)) | (intro _; omega) | (intro _; (conv => whnf)) | (apply And.intro <;> intro _ <;> first | omega | (conv => whnf)) | (apply And.intro; (case left => (first | omega | exact rfl | exact PreC.self _ _ | with_reducible assumption | (simp only [inR, IntKind.bits, Int.reduceToNat, Int.reducePow]; omega) | (simp; done) | (simp; omega))); (conv => whnf)) | (apply Or.inl; apply And.intro; (case left => (first | omega | exact rfl | exact PreC.self _ _ | with_reducible assumption | (simp only [inR, IntKind.bits, Int.reduceToNat, Int.reducePow]; omega) | (simp; done) | (simp; omega))); (conv => whnf)) | (apply Or.inr; (conv => whnf)) | (refine Exists.intro _ (And.intro rfl ?_); (conv => whnf)) | (refine Exists.intro _ (And.intro (And.intro rfl rfl) ?_); (conv => whnf)) | (refine Exists.intro (intE .u8) (And.intro ⟨rfl, fun _ => rfl⟩ ?_); (conv => whnf)) | (refine Exists.intro _ (And.intro (And.intro rfl (And.intro rfl ?leaf)) ?_); (case leaf => (first | exact rfl | omega | (simp; done) | (simp; omega))); (conv => whnf)))
  generalize hws : cut xs = ws at *
  refine .loop hS (γ := Nat) (fun i => ⟨[(3, .sl (.loc 0) 1 none (fl (ws.take i)).length), (4, .sl (.loc 1) 1 none ws.length), (5, .int .i64 i)],
      ⟨[⟨.loc 0, true, .arr strE (fl (ws.take i))⟩, ⟨.loc 1, false, .arr strE ws⟩], 2⟩, 28, 0⟩) (fun i => i ≤ ws.length) (fun i => ws.length - i) 0 (by omega) ?_ ?_
  · ((try dsimp only); repeat' (first | trivial | (apply And.intro; (case left => (first | omega | exact rfl | with_reducible assumption | exact PreC.self _ _ | exact PreC.of_eq (by with_reducible assumption) | exact PreC.of_eq' (by with_reducible assumption) | exact PreC.self' _ _ _ | exact PreC.pre (by with_reducible assumption) | exact ⟨5, rfl⟩ | exact ⟨9, rfl⟩ |  (simp; done) | (simp; omega)))) | ((conv => whnf); apply And.intro; (case left => (first | omega | exact rfl | with_reducible assumption | exact PreC.self _ _ | exact PreC.of_eq (by with_reducible assumption) | exact PreC.of_eq' (by with_reducible assumption) | exact PreC.self' _ _ _ | exact PreC.pre (by with_reducible assumption) | exact ⟨5, rfl⟩ | exact ⟨9, rfl⟩ |  (simp; done) | (simp; omega)))) | ((conv => whnf); trivial)))
  · intro i hi
    have h2 := fl_len (ws.take i)
    have h3 : (ws.take i).length ≤ i := by simp; omega
    conv => whnf
    repeat' (first | (refine Seal.mk ?_) | (refine wpA_seq ?_) | (refine wpA_region rfl ?_) | (refine wpA_block ?_) | (refine wpA_loop ?_) | (refine wpA_draw ?_) | (refine drawA_all ?_) | (refine drawA_fork2 ?_ ?_) | (refine opsA_cons ?_; (conv => whnf)) | (refine opsA_nil ?_; (conv => whnf)) | (refine wpA_cond ?_; (conv => whnf)) | (refine wpA_skip ?_; (conv => whnf)) | (refine wpA_exit ?_; (conv => whnf)) | (refine wpA_ret ?_; (conv => whnf)) | (refine stillA_cons ?_; (conv => whnf)) | (refine stillA_nil ?_; (conv => whnf)) | (refine drawA_done ?_; (conv => whnf)) | (refine drawA_quick rfl ?_; (conv => whnf)) | (refine drawA_read rfl ?_; (conv => whnf)) | (refine drawA_step rfl ?_; (conv => whnf)) | (intro _; omega) | (intro _; (conv => whnf)) | (apply And.intro <;> intro _ <;> first | omega | (conv => whnf)) | (apply And.intro; (case left => (first | omega | exact rfl | exact PreC.self _ _ | with_reducible assumption | (simp only [inR, IntKind.bits, Int.reduceToNat, Int.reducePow]; omega) | (simp; done) | (simp; omega))); (conv => whnf)) | (apply Or.inl; apply And.intro; (case left => (first | omega | exact rfl | exact PreC.self _ _ | with_reducible assumption | (simp only [inR, IntKind.bits, Int.reduceToNat, Int.reducePow]; omega) | (simp; done) | (simp; omega))); (conv => whnf)) | (apply Or.inr; (conv => whnf)) | (refine Exists.intro _ (And.intro rfl ?_); (conv => whnf)) | (refine Exists.intro _ (And.intro (And.intro rfl rfl) ?_); (conv => whnf)) | (refine Exists.intro (intE .u8) (And.intro ⟨rfl, fun _ => rfl⟩ ?_); (conv => whnf)) | (refine Exists.intro _ (And.intro (And.intro rfl (And.intro rfl ?leaf)) ?_); (case leaf => (first | exact rfl | omega | (simp; done) | (simp; omega))); (conv => whnf)))
    · obtain ⟨k1, _⟩ := fl_take (ws := ws) (j := i) (by omega)
      have k1 := k1 ‹_›
      have k2 := congrArg List.length k1
      rw [List.length_append] at k2
      refine ⟨i + 1, ⟨by omega, by omega⟩, ?_⟩
      ((try dsimp only); repeat' (first | trivial | (apply And.intro; (case left => (first | omega | exact rfl | with_reducible assumption | exact PreC.self _ _ | exact PreC.of_eq (by with_reducible assumption) | exact PreC.of_eq' (by with_reducible assumption) | exact PreC.self' _ _ _ | exact PreC.pre (by with_reducible assumption) | exact ⟨5, rfl⟩ | exact ⟨9, rfl⟩ |  (simp; done) | (simp; omega)))) | ((conv => whnf); apply And.intro; (case left => (first | omega | exact rfl | with_reducible assumption | exact PreC.self _ _ | exact PreC.of_eq (by with_reducible assumption) | exact PreC.of_eq' (by with_reducible assumption) | exact PreC.self' _ _ _ | exact PreC.pre (by with_reducible assumption) | exact ⟨5, rfl⟩ | exact ⟨9, rfl⟩ |  (simp; done) | (simp; omega)))) | ((conv => whnf); trivial)))
    · obtain ⟨_, k1⟩ := fl_take (ws := ws) (j := i) (by omega)
      have k1 := k1 (Classical.not_not.1 ‹_›)
      have k2 := congrArg List.length k1
      refine ⟨i + 1, ⟨by omega, by omega⟩, ?_⟩
      ((try dsimp only); repeat' (first | trivial | (apply And.intro; (case left => (first | omega | exact rfl | with_reducible assumption | exact PreC.self _ _ | exact PreC.of_eq (by with_reducible assumption) | exact PreC.of_eq' (by with_reducible assumption) | exact PreC.self' _ _ _ | exact PreC.pre (by with_reducible assumption) | exact ⟨5, rfl⟩ | exact ⟨9, rfl⟩ |  (simp; done) | (simp; omega)))) | ((conv => whnf); apply And.intro; (case left => (first | omega | exact rfl | with_reducible assumption | exact PreC.self _ _ | exact PreC.of_eq (by with_reducible assumption) | exact PreC.of_eq' (by with_reducible assumption) | exact PreC.self' _ _ _ | exact PreC.pre (by with_reducible assumption) | exact ⟨5, rfl⟩ | exact ⟨9, rfl⟩ |  (simp; done) | (simp; omega)))) | ((conv => whnf); trivial)))
    · have hi : ws.take i = ws := List.take_of_length_le (by omega)
      simp only [hi]
      (refine ⟨(), trivial, ?_⟩; repeat' (first | trivial | (apply And.intro; (case left => (first | omega | exact rfl | with_reducible assumption | exact PreC.self _ _ | exact PreC.of_eq (by with_reducible assumption) | exact PreC.of_eq' (by with_reducible assumption) | exact PreC.self' _ _ _ | exact PreC.pre (by with_reducible assumption) | exact ⟨5, rfl⟩ | exact ⟨9, rfl⟩ |  (simp; done) | (simp; omega)))) | ((conv => whnf); apply And.intro; (case left => (first | omega | exact rfl | with_reducible assumption | exact PreC.self _ _ | exact PreC.of_eq (by with_reducible assumption) | exact PreC.of_eq' (by with_reducible assumption) | exact PreC.self' _ _ _ | exact PreC.pre (by with_reducible assumption) | exact ⟨5, rfl⟩ | exact ⟨9, rfl⟩ |  (simp; done) | (simp; omega)))) | ((conv => whnf); trivial)))
theorem specWords (xs : List Int) (hx : xs.length ≤ 1048576) : CallA S 5 [.str xs] ⟨[], 0⟩ fun v H' =>
    ∃ _ : Unit, True ∧ v = .agg [.int .i64 0, .sl (.loc 0) 1 none (fl (cut xs)).length] ∧ H' = ⟨[⟨.loc 0, true, .arr strE (fl (cut xs))⟩], 1⟩ := by
  refine .ofC hS (fun _ => True) (fun _ => .agg [.int .i64 0, .sl (.loc 0) 1 none (fl (cut xs)).length]) (fun _ => ⟨[⟨.loc 0, true, .arr strE (fl (cut xs))⟩], 1⟩) Tryd.func5 ?_
  conv => whnf
  repeat' (first | (refine Seal.mk ?_) | (refine wpA_seq ?_) | (refine wpA_region rfl ?_) | (refine wpA_block ?_) | (refine wpA_loop ?_) | (refine wpA_draw ?_) | (refine drawA_all ?_) | (refine drawA_fork2 ?_ ?_) | (refine opsA_cons ?_; (conv => whnf)) | (refine opsA_nil ?_; (conv => whnf)) | (refine wpA_cond ?_; (conv => whnf)) | (refine wpA_skip ?_; (conv => whnf)) | (refine wpA_exit ?_; (conv => whnf)) | (refine wpA_ret ?_; (conv => whnf)) | (refine stillA_cons ?_; (conv => whnf)) | (refine stillA_nil ?_; (conv => whnf)) | (refine drawA_done ?_; (conv => whnf)) | (refine drawA_quick rfl ?_; (conv => whnf)) | (refine drawA_read rfl ?_; (conv => whnf)) | (refine drawA_step rfl ?_; (conv => whnf)) | (apply CallA.liftC hS (l16Words xs hx); (conv => whnf)) | (intro _; omega) | (intro _; (conv => whnf)) | (apply And.intro <;> intro _ <;> first | omega | (conv => whnf)) | (apply And.intro; (case left => (first | omega | exact rfl | exact PreC.self _ _ | with_reducible assumption | (simp only [inR, IntKind.bits, Int.reduceToNat, Int.reducePow]; omega) | (simp; done) | (simp; omega))); (conv => whnf)) | (apply Or.inl; apply And.intro; (case left => (first | omega | exact rfl | exact PreC.self _ _ | with_reducible assumption | (simp only [inR, IntKind.bits, Int.reduceToNat, Int.reducePow]; omega) | (simp; done) | (simp; omega))); (conv => whnf)) | (apply Or.inr; (conv => whnf)) | (refine Exists.intro _ (And.intro rfl ?_); (conv => whnf)) | (refine Exists.intro _ (And.intro (And.intro rfl rfl) ?_); (conv => whnf)) | (refine Exists.intro (intE .u8) (And.intro ⟨rfl, fun _ => rfl⟩ ?_); (conv => whnf)) | (refine Exists.intro _ (And.intro (And.intro rfl (And.intro rfl ?leaf)) ?_); (case leaf => (first | exact rfl | omega | (simp; done) | (simp; omega))); (conv => whnf)))
  (refine ⟨(), trivial, ?_⟩; repeat' (first | trivial | (apply And.intro; (case left => (first | omega | exact rfl | with_reducible assumption | exact PreC.self _ _ | exact PreC.of_eq (by with_reducible assumption) | exact PreC.of_eq' (by with_reducible assumption) | exact PreC.self' _ _ _ | exact PreC.pre (by with_reducible assumption) | exact ⟨5, rfl⟩ | exact ⟨9, rfl⟩ |  (simp; done) | (simp; omega)))) | ((conv => whnf); apply And.intro; (case left => (first | omega | exact rfl | with_reducible assumption | exact PreC.self _ _ | exact PreC.of_eq (by with_reducible assumption) | exact PreC.of_eq' (by with_reducible assumption) | exact PreC.self' _ _ _ | exact PreC.pre (by with_reducible assumption) | exact ⟨5, rfl⟩ | exact ⟨9, rfl⟩ |  (simp; done) | (simp; omega)))) | ((conv => whnf); trivial)))
end Go.Words
