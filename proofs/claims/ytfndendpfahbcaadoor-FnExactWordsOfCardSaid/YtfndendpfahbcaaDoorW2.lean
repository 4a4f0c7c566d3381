/- The walks of the law on words: cutting at blanks, as the library does. -/
import Derived.Test.YtfndendpfahbcaaDoorW1
set_option linter.unusedSimpArgs false
set_option linter.unusedVariables false
namespace Go.Words
open Go Go.Vm Go.RowKit Go.Proofs
attribute [local irreducible] wpA opsA stillA drawA

/-- the pieces between blanks -/
def cut : List Int → List (List Int)
  | [] => [[]]
  | c :: r => if c = 32 then [] :: cut r else match cut r with
    | p :: ps => (c :: p) :: ps
    | [] => [[c]]
theorem cut_cons (c : Int) (r : List Int) : cut (c :: r) = if c = 32 then [] :: cut r else match cut r with
    | p :: ps => (c :: p) :: ps
    | [] => [[c]] := rfl
theorem cnt_cons (x : Int) (r : List Int) (c : Int) : cntOf (x :: r) c = if x = c then cntOf r c + 1 else cntOf r c := rfl
theorem idx_cons (x : Int) (r : List Int) (c : Int) : idxOf (x :: r) c = if x = c then 0 else if idxOf r c < 0 then -1 else idxOf r c + 1 := rfl
theorem cut_len (s : List Int) : ((cut s).length : Int) = cntOf s 32 + 1 := by
  induction s with
  | nil => simp [cut, cntOf]
  | cons c r ih =>
    unfold cut cntOf
    split
    · simp only [List.length_cons]; omega
    · split
      · rename_i h; rw [h] at ih; simp only [List.length_cons] at ih ⊢; omega
      · rename_i h; rw [h] at ih; simp at ih; have := cntOf_nonneg r 32; omega
theorem idx_cnt (s : List Int) (c : Int) : (idxOf s c < 0 → cntOf s c = 0) ∧ (0 ≤ idxOf s c → cntOf s c > 0 ∧ idxOf s c < s.length) ∧ -1 ≤ idxOf s c := by
  induction s with
  | nil => simp [idxOf, cntOf]
  | cons x r ih =>
    obtain ⟨h1, h2, h3⟩ := ih
    have := cntOf_nonneg r c
    unfold idxOf cntOf
    simp only [List.length_cons]
    split
    · refine ⟨fun _ => ?_, fun _ => ⟨?_, ?_⟩, ?_⟩ <;> omega
    · split
      · refine ⟨fun _ => ?_, fun _ => ⟨?_, ?_⟩, ?_⟩ <;> omega
      · refine ⟨fun _ => ?_, fun _ => ⟨?_, ?_⟩, ?_⟩ <;> omega
theorem cut_none {s : List Int} (h : cntOf s 32 = 0) : cut s = [s] := by
  induction s with
  | nil => rfl
  | cons c r ih =>
    unfold cntOf at h
    have := cntOf_nonneg r 32
    split at h
    · omega
    · rename_i hc
      unfold cut
      rw [if_neg hc, ih h]
theorem cut_at {s : List Int} (h : 0 ≤ idxOf s 32) : cut s = s.take (idxOf s 32).toNat :: cut (s.drop ((idxOf s 32).toNat + 1)) ∧ cntOf s 32 = cntOf (s.drop ((idxOf s 32).toNat + 1)) 32 + 1 := by
  induction s with
  | nil => simp [idxOf] at h
  | cons c r ih =>
    rw [idx_cons] at h
    rw [idx_cons, cut_cons, cnt_cons]
    by_cases hc : c = 32
    · simp [hc]
    · rw [if_neg hc] at h
      rw [if_neg hc, if_neg hc, if_neg hc]
      by_cases hr : idxOf r 32 < 0
      · rw [if_pos hr] at h; omega
      · rw [if_neg hr] at h ⊢
        obtain ⟨h1, h2⟩ := ih (by omega)
        obtain ⟨n, hn⟩ := Int.eq_ofNat_of_zero_le (show 0 ≤ idxOf r 32 by omega)
        rw [hn] at h1 h2 ⊢
        have e : ((n : Int) + 1).toNat = n + 1 := by omega
        rw [e]
        simp only [Int.toNat_natCast] at h1 h2
        refine ⟨?_, by simpa using h2⟩
        rw [h1]
        simp

theorem cut_step {xs s : List Int} {done : List (List Int)} (h : cut xs = done ++ cut s) (hi : 0 ≤ idxOf s 32) : cut xs = (done ++ [s.take (idxOf s 32).toNat]) ++ cut (s.drop ((idxOf s 32).toNat + 1)) := by
  rw [h, (cut_at hi).1]; simp

theorem set_at {α : Type} (l : List α) (d x : α) {n : Nat} (h : l.length ≤ n) : (l ++ List.replicate (n + 1 - l.length) d).set (l.length : Int).toNat x = (l ++ [x]) ++ List.replicate (n + 1 - (l ++ [x]).length) d := by
  rw [Int.toNat_natCast, List.set_append, if_neg (by omega), Nat.sub_self, show n + 1 - l.length = (n - l.length) + 1 by omega, List.replicate_succ, List.set_cons_zero]
  simp only [List.length_append, List.length_cons, List.length_nil, List.append_assoc, List.singleton_append]
  rw [show n + 1 - (l.length + (0 + 1)) = n - l.length by omega]

set_option maxRecDepth 20000 in
theorem genSplit (xs : List Int) (hx : xs.length ≤ 1048576) : CallA S 83 [.str xs, .str [32], .int .i64 0, .int .i64 (-1)] ⟨[], 0⟩ fun v H' =>
    ∃ _ : Unit, True ∧ v = .sl (.loc 0) 1 none (cut xs).length ∧ H' = ⟨[⟨.loc 0, true, .arr strE (cut xs)⟩], 1⟩ := by
  refine .ofC hS (fun _ => True) (fun _ => .sl (.loc 0) 1 none (cut xs).length) (fun _ => ⟨[⟨.loc 0, true, .arr strE (cut xs)⟩], 1⟩) Tryd.func83 ?_
  have hc := cut_len xs
  have h0 := cntOf_nonneg xs 32
  have h1 := cntOf_le xs 32
  conv => whnf
  repeat' (first | (refine Seal.mk ?_) | (refine wpA_seq ?_) | (refine wpA_region rfl ?_) | (refine wpA_block ?_) | (refine wpA_loop ?_) | (refine wpA_draw ?_) | (refine drawA_all ?_) | (refine drawA_fork2 ?_ ?_) | (refine opsA_cons ?_; (conv => whnf)) | (refine opsA_nil ?_; (conv => whnf)) | (refine wpA_cond ?_; (conv => whnf)) | (refine wpA_skip ?_; (conv => whnf)) | (refine wpA_exit ?_; (conv => whnf)) | (refine wpA_ret ?_; (conv => whnf)) | (refine stillA_cons ?_; (conv => whnf)) | (refine stillA_nil ?_; (conv => whnf)) | (refine drawA_done ?_; (conv => whnf)) | (refine drawA_quick rfl ?_; (conv => whnf)) | (refine drawA_read rfl ?_; (conv => whnf)) | (refine drawA_step rfl ?_; (conv => whnf)) | (apply CallA.liftC hS (count xs 32 (by omega)); (conv => whnf)) | (intro _; omega) | (intro _; (conv => whnf)) | (apply And.intro <;> intro _ <;> first | omega | (conv => whnf)) | (apply And.intro; (case left => (first | omega | exact rfl | exact PreC.self _ _ | with_reducible assumption | (simp only [inR, IntKind.bits, Int.reduceToNat, Int.reducePow]; omega) | (simp; done) | (simp; omega))); (conv => whnf)) | (apply Or.inl; apply And.intro; (case left => (first | omega | exact rfl | exact PreC.self _ _ | with_reducible assumption | (simp only [inR, IntKind.bits, Int.reduceToNat, Int.reducePow]; omega) | (simp; done) | (simp; omega))); (conv => whnf)) | (apply Or.inr; (conv => whnf)) | (refine Exists.intro _ (And.intro rfl ?_); (conv => whnf)) | (refine Exists.intro _ (And.intro (And.intro rfl rfl) ?_); (conv => whnf)) | (refine Exists.intro (intE .u8) (And.intro ⟨rfl, fun _ => rfl⟩ ?_); (conv => whnf)) | (refine Exists.intro _ (And.intro (And.intro rfl (And.intro rfl ?leaf)) ?_); (case leaf => (first | exact rfl | omega | (simp; done) | (simp; omega))); (conv => whnf)))
  · exact absurd ‹([32] : List Int) = _› (by decide)
  obtain ⟨N, hN⟩ := Int.eq_ofNat_of_zero_le h0
  have hm : (min (cntOf xs 32 + 1) ((xs.length : Int) + 1)).toNat = N + 1 := by omega
  refine .loop hS (γ := List (List Int) × List Int) (fun p => ⟨[(0, .str p.2), (1, .str [32]), (2, .int .i64 0), (3, .int .i64 N), (9, .sl (.loc 0) 1 none (N + 1)), (10, .int .i64 p.1.length)],
      ⟨[⟨.loc 0, true, .arr strE (p.1 ++ List.replicate (N + 1 - p.1.length) [])⟩], 1⟩, 66, 0⟩)
      (fun p => cut xs = p.1 ++ cut p.2 ∧ (p.1.length : Int) + cntOf p.2 32 = N ∧ p.2.length ≤ xs.length) (fun p => N - p.1.length) ([], xs) ⟨rfl, by dsimp only; simp; omega, by dsimp only; omega⟩ ?_ ?_
  · have he : List.replicate (min (cntOf xs 32 + 1) ((xs.length : Int) + 1)).toNat strE.d = [] ++ List.replicate (N + 1 - ([] : List (List Int)).length) [] := by rw [hm]; rfl
    have hl0 : (([] : List (List Int)).length : Int) = 0 := rfl
    ((try dsimp only); repeat' (first | trivial | (apply And.intro; (case left => (first | omega | exact rfl | with_reducible assumption | exact PreC.self _ _ | exact PreC.of_eq (by with_reducible assumption) | exact PreC.of_eq' (by with_reducible assumption) | exact PreC.self' _ _ _ | exact PreC.pre (by with_reducible assumption) | exact ⟨5, rfl⟩ | exact ⟨9, rfl⟩ |  (simp; done) | (simp; omega)))) | ((conv => whnf); apply And.intro; (case left => (first | omega | exact rfl | with_reducible assumption | exact PreC.self _ _ | exact PreC.of_eq (by with_reducible assumption) | exact PreC.of_eq' (by with_reducible assumption) | exact PreC.self' _ _ _ | exact PreC.pre (by with_reducible assumption) | exact ⟨5, rfl⟩ | exact ⟨9, rfl⟩ |  (simp; done) | (simp; omega)))) | ((conv => whnf); trivial)))
  · intro g hg
    obtain ⟨g1, g2, g3⟩ := hg
    have q := idx_cnt g.2 32
    have q0 := cntOf_nonneg g.2 32
    have hl1 : ([32] : List Int).length = 1 := rfl
    conv => whnf
    repeat' (first | (refine Seal.mk ?_) | (refine wpA_seq ?_) | (refine wpA_region rfl ?_) | (refine wpA_block ?_) | (refine wpA_loop ?_) | (refine wpA_draw ?_) | (refine drawA_all ?_) | (refine drawA_fork2 ?_ ?_) | (refine opsA_cons ?_; (conv => whnf)) | (refine opsA_nil ?_; (conv => whnf)) | (refine wpA_cond ?_; (conv => whnf)) | (refine wpA_skip ?_; (conv => whnf)) | (refine wpA_exit ?_; (conv => whnf)) | (refine wpA_ret ?_; (conv => whnf)) | (refine stillA_cons ?_; (conv => whnf)) | (refine stillA_nil ?_; (conv => whnf)) | (refine drawA_done ?_; (conv => whnf)) | (refine drawA_quick rfl ?_; (conv => whnf)) | (refine drawA_read rfl ?_; (conv => whnf)) | (refine drawA_step rfl ?_; (conv => whnf)) | (apply CallA.liftC hS (index g.2 32 (by omega)); (conv => whnf)) | (intro _; omega) | (intro _; (conv => whnf)) | (apply And.intro <;> intro _ <;> first | omega | (conv => whnf)) | (apply And.intro; (case left => (first | omega | exact rfl | exact PreC.self _ _ | with_reducible assumption | (simp only [inR, IntKind.bits, Int.reduceToNat, Int.reducePow]; omega) | (simp; done) | (simp; omega))); (conv => whnf)) | (apply Or.inl; apply And.intro; (case left => (first | omega | exact rfl | exact PreC.self _ _ | with_reducible assumption | (simp only [inR, IntKind.bits, Int.reduceToNat, Int.reducePow]; omega) | (simp; done) | (simp; omega))); (conv => whnf)) | (apply Or.inr; (conv => whnf)) | (refine Exists.intro _ (And.intro rfl ?_); (conv => whnf)) | (refine Exists.intro _ (And.intro (And.intro rfl rfl) ?_); (conv => whnf)) | (refine Exists.intro (intE .u8) (And.intro ⟨rfl, fun _ => rfl⟩ ?_); (conv => whnf)) | (refine Exists.intro _ (And.intro (And.intro rfl (And.intro rfl ?leaf)) ?_); (case leaf => (first | exact rfl | omega | (simp; done) | (simp; omega))); (conv => whnf)))
    · obtain ⟨q1, q2, q3⟩ := q
      obtain ⟨m, hm⟩ := Int.eq_ofNat_of_zero_le (show 0 ≤ idxOf g.2 32 by omega)
      have c2 := (cut_at (s := g.2) (by omega)).2
      have c1 := cut_step g1 (by omega)
      have e1 : List.drop (idxOf g.2 32 + (([32] : List Int).length : Int)).toNat (List.take (g.2.length : Int).toNat g.2) = g.2.drop ((idxOf g.2 32).toNat + 1) := by
        rw [hl1, hm, Int.toNat_natCast, List.take_length]; rfl
      have e2 : List.drop (Int.toNat 0) (List.take (idxOf g.2 32 + 0).toNat g.2) = g.2.take (idxOf g.2 32).toNat := by rw [Int.add_zero]; rfl
      have e3 := set_at g.1 ([] : List Int) (g.2.take (idxOf g.2 32).toNat) (n := N) (by omega)
      simp only [e1, e2, e3]
      refine ⟨(g.1 ++ [g.2.take (idxOf g.2 32).toNat], g.2.drop ((idxOf g.2 32).toNat + 1)), ⟨⟨c1, by dsimp only; simp only [List.length_append, List.length_cons, List.length_nil]; omega, by dsimp only; simp only [List.length_drop]; omega⟩, by dsimp only; simp only [List.length_append, List.length_cons, List.length_nil]; omega⟩, ?_⟩
      have hla : (g.1 ++ [g.2.take (idxOf g.2 32).toNat]).length = g.1.length + 1 := by simp
      ((try dsimp only); repeat' (first | trivial | (apply And.intro; (case left => (first | omega | exact rfl | with_reducible assumption | exact PreC.self _ _ | exact PreC.of_eq (by with_reducible assumption) | exact PreC.of_eq' (by with_reducible assumption) | exact PreC.self' _ _ _ | exact PreC.pre (by with_reducible assumption) | exact ⟨5, rfl⟩ | exact ⟨9, rfl⟩ |  (simp; done) | (simp; omega)))) | ((conv => whnf); apply And.intro; (case left => (first | omega | exact rfl | with_reducible assumption | exact PreC.self _ _ | exact PreC.of_eq (by with_reducible assumption) | exact PreC.of_eq' (by with_reducible assumption) | exact PreC.self' _ _ _ | exact PreC.pre (by with_reducible assumption) | exact ⟨5, rfl⟩ | exact ⟨9, rfl⟩ |  (simp; done) | (simp; omega)))) | ((conv => whnf); trivial)))
    · have hg1 : g.1.length = N := by omega
      have c1 := g1
      rw [cut_none (s := g.2) (by omega)] at c1
      have e3 := set_at g.1 ([] : List Int) g.2 (n := N) (by omega)
      have e4 : (g.1 ++ [g.2]).length = N + 1 := by simp [hg1]
      rw [e4, Nat.sub_self, List.replicate_zero, List.append_nil, ← c1] at e3
      have e5 : (cut xs).length = N + 1 := by rw [c1]; exact e4
      simp only [e3]
      (refine ⟨(), trivial, ?_⟩; repeat' (first | trivial | (apply And.intro; (case left => (first | omega | exact rfl | with_reducible assumption | exact PreC.self _ _ | exact PreC.of_eq (by with_reducible assumption) | exact PreC.of_eq' (by with_reducible assumption) | exact PreC.self' _ _ _ | exact PreC.pre (by with_reducible assumption) | exact ⟨5, rfl⟩ | exact ⟨9, rfl⟩ |  (simp; done) | (simp; omega)))) | ((conv => whnf); apply And.intro; (case left => (first | omega | exact rfl | with_reducible assumption | exact PreC.self _ _ | exact PreC.of_eq (by with_reducible assumption) | exact PreC.of_eq' (by with_reducible assumption) | exact PreC.self' _ _ _ | exact PreC.pre (by with_reducible assumption) | exact ⟨5, rfl⟩ | exact ⟨9, rfl⟩ |  (simp; done) | (simp; omega)))) | ((conv => whnf); trivial)))

set_option maxRecDepth 20000 in
theorem splitBlank (xs : List Int) (hx : xs.length ≤ 1048576) : CallA S 58 [.str xs, .str [32]] ⟨[], 0⟩ fun v H' =>
    ∃ _ : Unit, True ∧ v = .sl (.loc 0) 1 none (cut xs).length ∧ H' = ⟨[⟨.loc 0, true, .arr strE (cut xs)⟩], 1⟩ := by
  refine .ofC hS (fun _ => True) (fun _ => .sl (.loc 0) 1 none (cut xs).length) (fun _ => ⟨[⟨.loc 0, true, .arr strE (cut xs)⟩], 1⟩) Tryd.func58 ?_
  conv => whnf
  repeat' (first | (refine Seal.mk ?_) | (refine wpA_seq ?_) | (refine wpA_region rfl ?_) | (refine wpA_block ?_) | (refine wpA_loop ?_) | (refine wpA_draw ?_) | (refine drawA_all ?_) | (refine drawA_fork2 ?_ ?_) | (refine opsA_cons ?_; (conv => whnf)) | (refine opsA_nil ?_; (conv => whnf)) | (refine wpA_cond ?_; (conv => whnf)) | (refine wpA_skip ?_; (conv => whnf)) | (refine wpA_exit ?_; (conv => whnf)) | (refine wpA_ret ?_; (conv => whnf)) | (refine stillA_cons ?_; (conv => whnf)) | (refine stillA_nil ?_; (conv => whnf)) | (refine drawA_done ?_; (conv => whnf)) | (refine drawA_quick rfl ?_; (conv => whnf)) | (refine drawA_read rfl ?_; (conv => whnf)) | (refine drawA_step rfl ?_; (conv => whnf)) | (apply CallA.liftC hS (genSplit xs hx); (conv => whnf)) | (intro _; omega) | (intro _; (conv => whnf)) | (apply And.intro <;> intro _ <;> first | omega | (conv => whnf)) | (apply And.intro; (case left => (first | omega | exact rfl | exact PreC.self _ _ | with_reducible assumption | (simp only [inR, IntKind.bits, Int.reduceToNat, Int.reducePow]; omega) | (simp; done) | (simp; omega))); (conv => whnf)) | (apply Or.inl; apply And.intro; (case left => (first | omega | exact rfl | exact PreC.self _ _ | with_reducible assumption | (simp only [inR, IntKind.bits, Int.reduceToNat, Int.reducePow]; omega) | (simp; done) | (simp; omega))); (conv => whnf)) | (apply Or.inr; (conv => whnf)) | (refine Exists.intro _ (And.intro rfl ?_); (conv => whnf)) | (refine Exists.intro _ (And.intro (And.intro rfl rfl) ?_); (conv => whnf)) | (refine Exists.intro (intE .u8) (And.intro ⟨rfl, fun _ => rfl⟩ ?_); (conv => whnf)) | (refine Exists.intro _ (And.intro (And.intro rfl (And.intro rfl ?leaf)) ?_); (case leaf => (first | exact rfl | omega | (simp; done) | (simp; omega))); (conv => whnf)))
  (refine ⟨(), trivial, ?_⟩; repeat' (first | trivial | (apply And.intro; (case left => (first | omega | exact rfl | with_reducible assumption | exact PreC.self _ _ | exact PreC.of_eq (by with_reducible assumption) | exact PreC.of_eq' (by with_reducible assumption) | exact PreC.self' _ _ _ | exact PreC.pre (by with_reducible assumption) | exact ⟨5, rfl⟩ | exact ⟨9, rfl⟩ |  (simp; done) | (simp; omega)))) | ((conv => whnf); apply And.intro; (case left => (first | omega | exact rfl | with_reducible assumption | exact PreC.self _ _ | exact PreC.of_eq (by with_reducible assumption) | exact PreC.of_eq' (by with_reducible assumption) | exact PreC.self' _ _ _ | exact PreC.pre (by with_reducible assumption) | exact ⟨5, rfl⟩ | exact ⟨9, rfl⟩ |  (simp; done) | (simp; omega)))) | ((conv => whnf); trivial)))
end Go.Words
