/- The walks of the law on unquoting: the implementation's function. -/
import Derived.Test.YtfndendpfahbcaaU1
set_option linter.unusedSimpArgs false
set_option linter.unusedVariables false
namespace Go.Unquote
open Go Go.Vm Go.RowKit Go.Proofs
attribute [local irreducible] wpA opsA stillA drawA

/-- what a quoted text says, if it is one -/
def unq : List Int → Option (List Int)
  | [] => some []
  | c :: r => if c = 37 then match r with
      | a :: b :: r' => if hexV a < 0 ∨ hexV b < 0 then none else (unq r').map ((16 * hexV a + hexV b) :: ·)
      | _ => none
    else if 33 ≤ c ∧ c ≤ 126 then (unq r).map (c :: ·) else none
def resCode (xs : List Int) : Int := if xs.length ≤ 600 then (match unq xs with | some _ => 0 | none => 5) else 2
def resBytes (xs : List Int) : List Int := if xs.length ≤ 600 then (unq xs).getD [] else []

theorem unq_plain {c : Int} {r : List Int} (hc : ¬ c = 37) (h1 : 33 ≤ c ∧ c ≤ 126) : unq (c :: r) = (unq r).map (c :: ·) := by
  rw [unq.eq_def]; simp only; rw [if_neg hc, if_pos h1]
theorem unq_bad {c : Int} {r : List Int} (hc : ¬ c = 37) (h1 : ¬ (33 ≤ c ∧ c ≤ 126)) : unq (c :: r) = none := by
  rw [unq.eq_def]; simp only; rw [if_neg hc, if_neg h1]
theorem unq_hex {a b : Int} {r : List Int} : unq (37 :: a :: b :: r) = if hexV a < 0 ∨ hexV b < 0 then none else (unq r).map ((16 * hexV a + hexV b) :: ·) := by
  rw [unq.eq_def]; simp only; rw [if_pos trivial]
theorem unq_short {r : List Int} (h : r.length ≤ 1) : unq (37 :: r) = none := by
  match r, h with
  | [], _ => rfl
  | [a], _ => rfl
  | a :: b :: r, hl => simp at hl
theorem drop_get {xs : List Int} {i : Nat} (h : i < xs.length) : xs.drop i = xs.getD i 0 :: xs.drop (i + 1) := by
  rw [List.drop_eq_getElem_cons h, List.getD_eq_getElem?_getD, List.getElem?_eq_getElem h]; rfl
/-- as far as it was read -/
def Read (xs : List Int) (i : Nat) (l : List Int) : Prop := i ≤ xs.length ∧ l.length ≤ i ∧ unq xs = (unq (xs.drop i)).map (l ++ ·)
theorem Read.zero (xs : List Int) : Read xs 0 [] := ⟨Nat.zero_le _, Nat.le_refl _, by simp⟩
theorem Read.plain {xs : List Int} {i : Nat} {l : List Int} (h : Read xs i l) (hi : i < xs.length) (hc : ¬ xs.getD i 0 = 37) (h1 : 33 ≤ xs.getD i 0) (h2 : xs.getD i 0 ≤ 126) :
    Read xs (i + 1) (l ++ [xs.getD i 0]) := by
  refine ⟨hi, by simp; exact h.2.1, ?_⟩
  rw [h.2.2, drop_get hi, unq_plain hc ⟨h1, h2⟩, Option.map_map]
  congr 1
  funext r; simp
theorem Read.hex {xs : List Int} {i : Nat} {l : List Int} (h : Read xs i l) (hi : i + 2 < xs.length) (hc : xs.getD i 0 = 37) (h1 : ¬ hexV (xs.getD (i + 1) 0) < 0) (h2 : ¬ hexV (xs.getD (i + 2) 0) < 0) :
    Read xs (i + 3) (l ++ [16 * hexV (xs.getD (i + 1) 0) + hexV (xs.getD (i + 2) 0)]) := by
  refine ⟨hi, by simp; have := h.2.1; omega, ?_⟩
  rw [h.2.2, drop_get (i := i) (by omega), drop_get (i := i + 1) (by omega), drop_get (i := i + 2) (by omega), hc, unq_hex, if_neg (by omega), Option.map_map]
  congr 1
  funext r; simp
theorem Read.bad {xs : List Int} {i : Nat} {l : List Int} (h : Read xs i l) (hi : i < xs.length)
    (hc : (xs.getD i 0 = 37 ∧ (xs.length ≤ i + 2 ∨ hexV (xs.getD (i + 1) 0) < 0 ∨ hexV (xs.getD (i + 2) 0) < 0)) ∨ (¬ xs.getD i 0 = 37 ∧ ¬ (33 ≤ xs.getD i 0 ∧ xs.getD i 0 ≤ 126))) : unq xs = none := by
  rw [h.2.2, drop_get hi]
  rcases hc with ⟨h1, h2⟩ | ⟨h1, h2⟩
  · rw [h1]
    by_cases hl : i + 2 < xs.length
    · rw [drop_get (i := i + 1) (by omega), drop_get (i := i + 2) (by omega), unq_hex, if_pos (by omega)]; rfl
    · rw [unq_short (by simp; omega)]; rfl
  · rw [unq_bad h1 h2]; rfl
theorem Read.done {xs l : List Int} {i : Nat} (h : Read xs i l) (hi : ¬ i < xs.length) : unq xs = some l := by
  rw [h.2.2, List.drop_eq_nil_of_le (by omega)]; simp [unq]
theorem Read.plainZ {xs : List Int} {i : Nat} {l : List Int} (h : Read xs i l) (hi : i < xs.length) (hc : ¬ xs.getD (i : Int).toNat 0 = 37) (h1 : 33 ≤ xs.getD (i : Int).toNat 0) (h2 : xs.getD (i : Int).toNat 0 ≤ 126) :
    Read xs (i + 1) (l ++ [xs.getD (i : Int).toNat 0]) := h.plain hi hc h1 h2
theorem Read.hexZ {xs : List Int} {i : Nat} {l : List Int} (h : Read xs i l) (hi : i + 2 < xs.length) (hc : xs.getD (i : Int).toNat 0 = 37) (h1 : ¬ hexV (xs.getD ((i : Int) + 1).toNat 0) < 0) (h2 : ¬ hexV (xs.getD ((i : Int) + 2).toNat 0) < 0) :
    Read xs (i + 3) (l ++ [16 * hexV (xs.getD ((i : Int) + 1).toNat 0) + hexV (xs.getD ((i : Int) + 2).toNat 0)]) := h.hex hi hc h1 h2
theorem Read.badZ {xs : List Int} {i : Nat} {l : List Int} (h : Read xs i l) (hi : i < xs.length)
    (hc : (xs.getD (i : Int).toNat 0 = 37 ∧ (xs.length ≤ i + 2 ∨ hexV (xs.getD ((i : Int) + 1).toNat 0) < 0 ∨ hexV (xs.getD ((i : Int) + 2).toNat 0) < 0)) ∨ (¬ xs.getD (i : Int).toNat 0 = 37 ∧ ¬ (33 ≤ xs.getD (i : Int).toNat 0 ∧ xs.getD (i : Int).toNat 0 ≤ 126))) : unq xs = none :=
  h.bad hi hc
theorem res_bad {xs : List Int} (hx : xs.length ≤ 600) (h : unq xs = none) : 5 = resCode xs ∧ resBytes xs = [] := by
  unfold resCode resBytes
  simp [hx, h]
theorem res_done {xs l : List Int} (hx : xs.length ≤ 600) (h : unq xs = some l) : 0 = resCode xs ∧ resBytes xs = l := by
  unfold resCode resBytes
  simp [hx, h]
theorem res_many {xs : List Int} (hx : 600 < xs.length) : 2 = resCode xs ∧ resBytes xs = [] := by
  unfold resCode resBytes
  simp [show ¬ xs.length ≤ 600 by omega]
theorem or_hex (a b : Int) (ha : 0 ≤ a ∧ a < 16) (hb : 0 ≤ b ∧ b < 16) : (((a * 2 ^ Int.toNat 4).toNat ||| b.toNat : Nat) : Int) = 16 * a + b := by
  obtain ⟨m, rfl⟩ := Int.eq_ofNat_of_zero_le ha.1
  obtain ⟨n, rfl⟩ := Int.eq_ofNat_of_zero_le hb.1
  have hm : m < 16 := by omega
  have hn : n < 16 := by omega
  have : ∀ m, m < 16 → ∀ n, n < 16 → (m * 16 ||| n) = 16 * m + n := by decide
  have e : ((m : Int) * 2 ^ Int.toNat 4).toNat = m * 16 := by
    rw [show (2 : Int) ^ Int.toNat 4 = 16 from rfl]; omega
  rw [e, Int.toNat_natCast, this m hm n hn]
  omega

set_option maxRecDepth 20000 in
theorem unquote (xs : List Int) (hx : xs.length ≤ 1048576) (hb : ∀ b ∈ xs, 0 ≤ b ∧ b < 256) : CallA S 11 [.str xs] ⟨[], 0⟩ fun v H' =>
    ∃ _ : Unit, True ∧ v = .agg [.int .i64 (resCode xs), .sl (.loc 0) 1 none (resBytes xs).length] ∧ H' = ⟨[⟨.loc 0, true, .arr (intE .u8) (resBytes xs)⟩], 1⟩ := by
  refine .ofC hS (fun _ => True) (fun _ => .agg [.int .i64 (resCode xs), .sl (.loc 0) 1 none (resBytes xs).length]) (fun _ => ⟨[⟨.loc 0, true, .arr (intE .u8) (resBytes xs)⟩], 1⟩) Try.func11 ?_
  have hg : ∀ k : Nat, 0 ≤ xs.getD k 0 ∧ xs.getD k 0 < 256 := fun k => by
    by_cases h : k < xs.length
    · exact hb _ (by simp [h])
    · simp [show xs.length ≤ k by omega]
  conv => whnf
  repeat' (first | (refine Seal.mk ?_) | (refine wpA_seq ?_) | (refine wpA_region rfl ?_) | (refine wpA_block ?_) | (refine wpA_loop ?_) | (refine wpA_draw ?_) | (refine drawA_all ?_) | (refine drawA_fork ?_) | (refine opsA_cons ?_; (conv => whnf)) | (refine opsA_nil ?_; (conv => whnf)) | (refine wpA_cond ?_; (conv => whnf)) | (refine wpA_skip ?_; (conv => whnf)) | (refine wpA_exit ?_; (conv => whnf)) | (refine wpA_ret ?_; (conv => whnf)) | (refine stillA_cons ?_; (conv => whnf)) | (refine stillA_nil ?_; (conv => whnf)) | (refine drawA_done ?_; (conv => whnf)) | (refine drawA_quick rfl ?_; (conv => whnf)) | (refine drawA_read rfl ?_; (conv => whnf)) | (refine drawA_step rfl ?_; (conv => whnf)) | (intro _; (conv => whnf)) | (apply And.intro <;> intro _ <;> (conv => whnf)) | (apply And.intro; (case left => (first | omega | exact rfl | with_reducible assumption | (simp only [inR, IntKind.bits, Int.reduceToNat, Int.reducePow]; omega) | (simp; done) | (simp; omega))); (conv => whnf)) | (apply Or.inl; apply And.intro; (case left => (first | omega | exact rfl | with_reducible assumption | (simp only [inR, IntKind.bits, Int.reduceToNat, Int.reducePow]; omega) | (simp; done) | (simp; omega))); (conv => whnf)) | (apply Or.inr; (conv => whnf)) | (refine Exists.intro _ (And.intro rfl ?_); (conv => whnf)) | (refine Exists.intro _ (And.intro (And.intro rfl (And.intro rfl ?leaf)) ?_); (case leaf => (first | exact rfl | omega | (simp; done) | (simp; omega))); (conv => whnf)))
  · obtain ⟨h1, h2⟩ := res_many (xs := xs) (by omega)
    simp only [h2]
    (refine ⟨(), trivial, ?_⟩; repeat' (first | trivial | (apply And.intro; (case left => (first | omega | exact rfl | with_reducible assumption | exact congrArg (Cont.arr _) (by with_reducible assumption) | exact ⟨5, rfl⟩ |  (simp; done) | (simp; omega)))) | ((conv => whnf); apply And.intro; (case left => (first | omega | exact rfl | with_reducible assumption | exact congrArg (Cont.arr _) (by with_reducible assumption) | exact ⟨5, rfl⟩ |  (simp; done) | (simp; omega)))) | ((conv => whnf); trivial)))
  · refine .loop hS (γ := Nat × List Int) (fun p => ⟨[(0, .str xs), (2, .ptr (.loc 0) 2 none 0), (3, .sl (.loc 1) 1 none p.2.length), (4, .int .i64 p.1)],
      ⟨[⟨.loc 1, true, .arr (intE .u8) p.2⟩, ⟨.loc 0, true, .raw [.int .i64 0, .nils]⟩], 2⟩, 77, 0⟩) (fun p => Read xs p.1 p.2) (fun p => xs.length - p.1) (0, []) (Read.zero xs) ?_ ?_
    · repeat' (first | trivial | (apply And.intro; (case left => (first | omega | exact rfl | with_reducible assumption | exact congrArg (Cont.arr _) (by with_reducible assumption) | exact ⟨5, rfl⟩ |  (simp; done) | (simp; omega)))) | ((conv => whnf); apply And.intro; (case left => (first | omega | exact rfl | with_reducible assumption | exact congrArg (Cont.arr _) (by with_reducible assumption) | exact ⟨5, rfl⟩ |  (simp; done) | (simp; omega)))) | ((conv => whnf); trivial))
    · intro g hr
      have hil := hr.1
      have hll := hr.2.1
      have hg0 := hg (g.1 : Int).toNat
      conv => whnf
      repeat' (first | (refine Seal.mk ?_) | (refine wpA_seq ?_) | (refine wpA_region rfl ?_) | (refine wpA_block ?_) | (refine wpA_loop ?_) | (refine wpA_draw ?_) | (refine drawA_all ?_) | (refine drawA_fork ?_) | (refine opsA_cons ?_; (conv => whnf)) | (refine opsA_nil ?_; (conv => whnf)) | (refine wpA_cond ?_; (conv => whnf)) | (refine wpA_skip ?_; (conv => whnf)) | (refine wpA_exit ?_; (conv => whnf)) | (refine wpA_ret ?_; (conv => whnf)) | (refine stillA_cons ?_; (conv => whnf)) | (refine stillA_nil ?_; (conv => whnf)) | (refine drawA_done ?_; (conv => whnf)) | (refine drawA_quick rfl ?_; (conv => whnf)) | (refine drawA_read rfl ?_; (conv => whnf)) | (refine drawA_step rfl ?_; (conv => whnf)) | (apply CallA.liftC hS (hexAt _ (hg _)); (conv => whnf)) | (intro _; (conv => whnf)) | (apply And.intro <;> intro _ <;> (conv => whnf)) | (apply And.intro; (case left => (first | omega | exact rfl | with_reducible assumption | (simp only [inR, IntKind.bits, Int.reduceToNat, Int.reducePow]; omega) | (simp; done) | (simp; omega))); (conv => whnf)) | (apply Or.inl; apply And.intro; (case left => (first | omega | exact rfl | with_reducible assumption | (simp only [inR, IntKind.bits, Int.reduceToNat, Int.reducePow]; omega) | (simp; done) | (simp; omega))); (conv => whnf)) | (apply Or.inr; (conv => whnf)) | (refine Exists.intro _ (And.intro rfl ?_); (conv => whnf)) | (refine Exists.intro _ (And.intro (And.intro rfl (And.intro rfl ?leaf)) ?_); (case leaf => (first | exact rfl | omega | (simp; done) | (simp; omega))); (conv => whnf)))
      · obtain ⟨h1, h2⟩ := res_bad (by omega) (hr.badZ (by omega) (by omega))
        simp only [h2]
        (refine ⟨(), trivial, ?_⟩; repeat' (first | trivial | (apply And.intro; (case left => (first | omega | exact rfl | with_reducible assumption | exact congrArg (Cont.arr _) (by with_reducible assumption) | exact ⟨5, rfl⟩ |  (simp; done) | (simp; omega)))) | ((conv => whnf); apply And.intro; (case left => (first | omega | exact rfl | with_reducible assumption | exact congrArg (Cont.arr _) (by with_reducible assumption) | exact ⟨5, rfl⟩ |  (simp; done) | (simp; omega)))) | ((conv => whnf); trivial)))
      · obtain ⟨h1, h2⟩ := res_bad (by omega) (hr.badZ (by omega) (by omega))
        simp only [h2]
        (refine ⟨(), trivial, ?_⟩; repeat' (first | trivial | (apply And.intro; (case left => (first | omega | exact rfl | with_reducible assumption | exact congrArg (Cont.arr _) (by with_reducible assumption) | exact ⟨5, rfl⟩ |  (simp; done) | (simp; omega)))) | ((conv => whnf); apply And.intro; (case left => (first | omega | exact rfl | with_reducible assumption | exact congrArg (Cont.arr _) (by with_reducible assumption) | exact ⟨5, rfl⟩ |  (simp; done) | (simp; omega)))) | ((conv => whnf); trivial)))
      · obtain ⟨h1, h2⟩ := res_bad (by omega) (hr.badZ (by omega) (by omega))
        simp only [h2]
        (refine ⟨(), trivial, ?_⟩; repeat' (first | trivial | (apply And.intro; (case left => (first | omega | exact rfl | with_reducible assumption | exact congrArg (Cont.arr _) (by with_reducible assumption) | exact ⟨5, rfl⟩ |  (simp; done) | (simp; omega)))) | ((conv => whnf); apply And.intro; (case left => (first | omega | exact rfl | with_reducible assumption | exact congrArg (Cont.arr _) (by with_reducible assumption) | exact ⟨5, rfl⟩ |  (simp; done) | (simp; omega)))) | ((conv => whnf); trivial)))
      · have q1 := hexV_lt (xs.getD ((g.1 : Int) + 1).toNat 0)
        have q2 := hexV_lt (xs.getD ((g.1 : Int) + 2).toNat 0)
        have q := or_hex (hexV (xs.getD ((g.1 : Int) + 1).toNat 0)) (hexV (xs.getD ((g.1 : Int) + 2).toNat 0)) (by omega) (by omega)
        have q' := q
        simp only [Int.reduceToNat, Int.reducePow] at q'
        have hd := hr.hexZ (by omega) (by omega) (by omega) (by omega)
        refine .draw hS (.quick 0 (.quick 1 (.quick 2 (.quick 3 (.quick 4 (.quick 7 (.quick 8 (.quick 9 (.quick 10 (.all (.step 5 (.quick 6 (.all (.step 11 (.quick 12 (.all (.step 13 (.all (.step 14 (.all (.step 15 (.quick 16 .done)))))))))))))))))))))) [5, 11, 13, 14, 15] (by kernel_rfl) rfl ?_
        repeat' (first | (refine Seal.mk ?_) | (refine wpA_seq ?_) | (refine wpA_region rfl ?_) | (refine wpA_block ?_) | (refine wpA_loop ?_) | (refine wpA_draw ?_) | (refine drawA_all ?_) | (refine drawA_fork ?_) | (refine opsA_cons ?_; (conv => whnf)) | (refine opsA_nil ?_; (conv => whnf)) | (refine wpA_cond ?_; (conv => whnf)) | (refine wpA_skip ?_; (conv => whnf)) | (refine wpA_exit ?_; (conv => whnf)) | (refine wpA_ret ?_; (conv => whnf)) | (refine stillA_cons ?_; (conv => whnf)) | (refine stillA_nil ?_; (conv => whnf)) | (refine drawA_done ?_; (conv => whnf)) | (refine drawA_quick rfl ?_; (conv => whnf)) | (refine drawA_read rfl ?_; (conv => whnf)) | (refine drawA_step rfl ?_; (conv => whnf)) | (apply CallA.liftC hS (hexAt _ (hg _)); (conv => whnf)) | (intro _; (conv => whnf)) | (apply And.intro <;> intro _ <;> (conv => whnf)) | (apply And.intro; (case left => (first | omega | exact rfl | with_reducible assumption | (simp only [inR, IntKind.bits, Int.reduceToNat, Int.reducePow]; omega) | (simp; done) | (simp; omega))); (conv => whnf)) | (apply Or.inl; apply And.intro; (case left => (first | omega | exact rfl | with_reducible assumption | (simp only [inR, IntKind.bits, Int.reduceToNat, Int.reducePow]; omega) | (simp; done) | (simp; omega))); (conv => whnf)) | (apply Or.inr; (conv => whnf)) | (refine Exists.intro _ (And.intro rfl ?_); (conv => whnf)) | (refine Exists.intro _ (And.intro (And.intro rfl (And.intro rfl ?leaf)) ?_); (case leaf => (first | exact rfl | omega | (simp; done) | (simp; omega))); (conv => whnf)))
        refine ⟨(g.1 + 3, g.2 ++ [16 * hexV (xs.getD ((g.1 : Int) + 1).toNat 0) + hexV (xs.getD ((g.1 : Int) + 2).toNat 0)]), ⟨hd, by omega⟩, ?_⟩
        rw [q]
        repeat' (first | trivial | (apply And.intro; (case left => (first | omega | exact rfl | with_reducible assumption | exact congrArg (Cont.arr _) (by with_reducible assumption) | exact ⟨5, rfl⟩ |  (simp; done) | (simp; omega)))) | ((conv => whnf); apply And.intro; (case left => (first | omega | exact rfl | with_reducible assumption | exact congrArg (Cont.arr _) (by with_reducible assumption) | exact ⟨5, rfl⟩ |  (simp; done) | (simp; omega)))) | ((conv => whnf); trivial))
      · refine ⟨(g.1 + 1, g.2 ++ [xs.getD (g.1 : Int).toNat 0]), ⟨hr.plainZ (by omega) (by omega) (by omega) (by omega), by omega⟩, ?_⟩
        repeat' (first | trivial | (apply And.intro; (case left => (first | omega | exact rfl | with_reducible assumption | exact congrArg (Cont.arr _) (by with_reducible assumption) | exact ⟨5, rfl⟩ |  (simp; done) | (simp; omega)))) | ((conv => whnf); apply And.intro; (case left => (first | omega | exact rfl | with_reducible assumption | exact congrArg (Cont.arr _) (by with_reducible assumption) | exact ⟨5, rfl⟩ |  (simp; done) | (simp; omega)))) | ((conv => whnf); trivial))
      · obtain ⟨h1, h2⟩ := res_bad (by omega) (hr.badZ (by omega) (by omega))
        simp only [h2]
        (refine ⟨(), trivial, ?_⟩; repeat' (first | trivial | (apply And.intro; (case left => (first | omega | exact rfl | with_reducible assumption | exact congrArg (Cont.arr _) (by with_reducible assumption) | exact ⟨5, rfl⟩ |  (simp; done) | (simp; omega)))) | ((conv => whnf); apply And.intro; (case left => (first | omega | exact rfl | with_reducible assumption | exact congrArg (Cont.arr _) (by with_reducible assumption) | exact ⟨5, rfl⟩ |  (simp; done) | (simp; omega)))) | ((conv => whnf); trivial)))
      · obtain ⟨h1, h2⟩ := res_bad (by omega) (hr.badZ (by omega) (by omega))
        simp only [h2]
        (refine ⟨(), trivial, ?_⟩; repeat' (first | trivial | (apply And.intro; (case left => (first | omega | exact rfl | with_reducible assumption | exact congrArg (Cont.arr _) (by with_reducible assumption) | exact ⟨5, rfl⟩ |  (simp; done) | (simp; omega)))) | ((conv => whnf); apply And.intro; (case left => (first | omega | exact rfl | with_reducible assumption | exact congrArg (Cont.arr _) (by with_reducible assumption) | exact ⟨5, rfl⟩ |  (simp; done) | (simp; omega)))) | ((conv => whnf); trivial)))
      · obtain ⟨h1, h2⟩ := res_done (by omega) (hr.done (by omega))
        simp only [h2]
        (refine ⟨(), trivial, ?_⟩; repeat' (first | trivial | (apply And.intro; (case left => (first | omega | exact rfl | with_reducible assumption | exact congrArg (Cont.arr _) (by with_reducible assumption) | exact ⟨5, rfl⟩ |  (simp; done) | (simp; omega)))) | ((conv => whnf); apply And.intro; (case left => (first | omega | exact rfl | with_reducible assumption | exact congrArg (Cont.arr _) (by with_reducible assumption) | exact ⟨5, rfl⟩ |  (simp; done) | (simp; omega)))) | ((conv => whnf); trivial)))
end Go.Unquote
