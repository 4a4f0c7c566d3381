/- The walks of the law on dumps: a row put out, by the program. -/
import Derived.Test.YtfndendpfahbcaaGreatDoorD7
set_option linter.unusedSimpArgs false
set_option linter.unusedVariables false
namespace Go.Dump
open Go Go.Vm Go.RowKit Go.Proofs
attribute [local irreducible] wpA opsA stillA drawA
set_option maxRecDepth 20000
set_option maxHeartbeats 4000000

/-- so many cells of a row, put out -/
def rowTo (f : Nat → Int × Int) : Nat → List Int
  | 0 => []
  | i + 1 => rowTo f i ++ ((if i = 0 ∨ ¬ (f i).2 = (f (i - 1)).2 then attrB (f i).2 else []) ++ encB (f i).1)
theorem rowTo_len (f : Nat → Int × Int) (i : Nat) : (rowTo f i).length ≤ 14 * i := by
  induction i with
  | zero => simp [rowTo]
  | succ i ih =>
    unfold rowTo
    have h1 := attrB_len (f i).2
    have h2 := encB_len (f i).1
    simp only [List.length_append]
    split
    · omega
    · simp only [List.length_nil]; omega
theorem rowTo_congr {f g : Nat → Int × Int} {i : Nat} (h : ∀ k, k < i → f k = g k) : rowTo f i = rowTo g i := by
  induction i with
  | zero => rfl
  | succ i ih =>
    unfold rowTo
    rw [ih fun k hk => h k (by omega), h i (by omega)]
    cases i with
    | zero => simp
    | succ i => rw [show i + 1 - 1 = i from rfl, h i (by omega)]
/-- the cell of a place -/
def cellAt (s : Scr) (y : Int) (i : Nat) : Int × Int := s.cells.getD (y * s.width + (i : Int)).toNat (0, 0)
def rowB (s : Scr) (y : Int) : List Int := placeB y 0 ++ rowTo (cellAt s y) s.width.toNat
theorem rowB_len (s : Scr) (y : Int) (h : s.width ≤ 12) : (rowB s y).length ≤ 176 := by
  have h1 := placeB_len y 0
  have h2 := rowTo_len (cellAt s y) s.width.toNat
  simp only [rowB, List.length_append]; omega
theorem right_cell {s : Scr} (hr : Right s) {k : Nat} (hk : k < s.cells.length) : (0 ≤ (s.cells.getD k (0, 0)).1 ∧ (s.cells.getD k (0, 0)).1 ≤ 65535) ∧ 0 ≤ (s.cells.getD k (0, 0)).2 ∧ (s.cells.getD k (0, 0)).2 ≤ 31 := by
  have h := hr.cells k hk
  unfold cellP at h
  omega

theorem row_attr {s : Scr} {y : Int} {i : Nat} (X : List Int) (h : (i : Int) = 0 ∨ ¬ (s.cells.getD (y * s.width + (i : Int)).toNat pairE.d).2 = (s.cells.getD (y * s.width + ((i : Int) - 1)).toNat pairE.d).2) :
    X ++ rowTo (cellAt s y) i ++ attrB (s.cells.getD (y * s.width + (i : Int)).toNat pairE.d).2 ++ encB (s.cells.getD (y * s.width + (i : Int)).toNat pairE.d).1 = X ++ rowTo (cellAt s y) (i + 1) := by
  have hc : i = 0 ∨ ¬ (cellAt s y i).2 = (cellAt s y (i - 1)).2 := by
    rcases h with h | h
    · left; omega
    · cases i with
      | zero => left; rfl
      | succ i =>
        right
        have : ((i + 1 : Nat) : Int) - 1 = (i : Int) := by omega
        rw [this] at h
        exact h
  rw [rowTo, if_pos hc]
  simp only [List.append_assoc]
  rfl
theorem row_same {s : Scr} {y : Int} {i : Nat} (X : List Int) (h0 : ¬ (i : Int) = 0) (h : ¬¬ (s.cells.getD (y * s.width + (i : Int)).toNat pairE.d).2 = (s.cells.getD (y * s.width + ((i : Int) - 1)).toNat pairE.d).2) :
    X ++ rowTo (cellAt s y) i ++ encB (s.cells.getD (y * s.width + (i : Int)).toNat pairE.d).1 = X ++ rowTo (cellAt s y) (i + 1) := by
  have hc : ¬ (i = 0 ∨ ¬ (cellAt s y i).2 = (cellAt s y (i - 1)).2) := by
    rintro (q | q)
    · exact h0 (by omega)
    · cases i with
      | zero => exact h0 rfl
      | succ i =>
        have : ((i + 1 : Nat) : Int) - 1 = (i : Int) := by omega
        rw [this] at h
        exact h q
  rw [rowTo, if_neg hc]
  simp only [List.append_assoc, List.nil_append]
  rfl
theorem row (s : Scr) (l : List Int) (y : Int) (hr : Right s) (hl : l.length ≤ 800000) (hy : 0 ≤ y) (hy' : y < s.rows) : CallA S 22 [.ptr (.loc 0) 1 none 0, .ptr (.loc 2) 20 none 0, .int .i64 y]
    ⟨[⟨.loc 0, true, .raw [.sl (.loc 1) 1 none l.length]⟩, ⟨.loc 1, true, .arr (intE .u8) l⟩, ⟨.loc 2, false, .raw [.int .i64 s.rows, .int .i64 s.width, .sl (.loc 3) 2 none s.cells.length, .sl (.loc 4) 2 none s.back.length, .int .i64 s.y, .int .i64 s.x, .prop (s.wrap = true), .int .i64 s.attr, .int .i64 s.top, .int .i64 s.bottom, .prop (s.origin = true), .prop (s.autow = true), .prop (s.insert = true), .sl (.loc 5) 1 none s.tabs.length, .int .i64 s.keptY, .int .i64 s.keptX, .int .i64 s.keptA, .sl (.loc 6) 1 none s.sets.length, .int .i64 s.shift, .int .i64 s.bells]⟩, ⟨.loc 3, false, .arr pairE s.cells⟩, ⟨.loc 4, false, .arr pairE s.back⟩, ⟨.loc 5, false, .arr boolE s.tabs⟩, ⟨.loc 6, false, .arr (intE .i64) s.sets⟩], 7⟩ fun v H' =>
    ∃ _ : Unit, True ∧ v = .tup [] ∧ H' = ⟨[⟨.loc 0, true, .raw [.sl (.loc 7) 1 none (l ++ rowB s y).length]⟩, ⟨.loc 7, true, .arr (intE .u8) (l ++ rowB s y)⟩], 8⟩ := by
  refine .ofC hS (fun _ => True) (fun _ => .tup []) (fun _ => ⟨[⟨.loc 0, true, .raw [.sl (.loc 7) 1 none (l ++ rowB s y).length]⟩, ⟨.loc 7, true, .arr (intE .u8) (l ++ rowB s y)⟩], 8⟩) Tryz.func22 ?_
  have hs := hr.size
  have hp := place_in hy hy' (x := 0) (w := s.width) (by omega) (by omega)
  have hn := hr.len
  have ha := area hs
  have hb := placeB_len y 0
  conv => whnf
  repeat' (first | (refine Seal.mk ?_) | (refine wpA_seq ?_) | (refine wpA_region rfl ?_) | (refine wpA_block ?_) | (refine wpA_loop ?_) | (refine wpA_draw ?_) | (refine drawA_all ?_) | (refine drawA_fork2 ?_ ?_) | (refine opsA_cons ?_; (conv => whnf)) | (refine opsA_nil ?_; (conv => whnf)) | (refine wpA_cond ?_; (conv => whnf)) | (refine wpA_skip ?_; (conv => whnf)) | (refine wpA_exit ?_; (conv => whnf)) | (refine wpA_ret ?_; (conv => whnf)) | (refine stillA_cons ?_; (conv => whnf)) | (refine stillA_nil ?_; (conv => whnf)) | (refine drawA_done ?_; (conv => whnf)) | (refine drawA_quick rfl ?_; (conv => whnf)) | (refine drawA_read rfl ?_; (conv => whnf)) | (refine drawA_step rfl ?_; (conv => whnf)) | (apply CallA.liftC hS (place _ _ _ _ _ _ _ _); (conv => whnf)) | (intro _; omega) | (intro _; (conv => whnf)) | (apply And.intro <;> intro _ <;> first | omega | (conv => whnf)) | (apply And.intro; (case left => (first | exact trivial | exact not_false | omega | exact rfl | exact Iff.rfl | exact PreC.self _ _ | with_reducible assumption | (simp only [inR, IntKind.bits, Int.reduceToNat, Int.reducePow]; omega) | (simp only [List.length_append, List.length_take, List.length_drop]; omega) | (simp; done) | (simp; omega) | (simp [bytesL]; done) | (simp [bytesL]; omega))); (conv => whnf)) | (apply Or.inl; apply And.intro; (case left => (first | exact trivial | exact not_false | omega | exact rfl | exact Iff.rfl | exact PreC.self _ _ | with_reducible assumption | (simp only [inR, IntKind.bits, Int.reduceToNat, Int.reducePow]; omega) | (simp only [List.length_append, List.length_take, List.length_drop]; omega) | (simp; done) | (simp; omega) | (simp [bytesL]; done) | (simp [bytesL]; omega))); (conv => whnf)) | (apply Or.inr; (conv => whnf)) | (refine Exists.intro _ (And.intro rfl ?_); (conv => whnf)) | (refine Exists.intro _ (And.intro (And.intro rfl rfl) ?_); (conv => whnf)) | (refine Exists.intro (intE .u8) (And.intro ⟨rfl, fun _ => rfl⟩ ?_); (conv => whnf)) | (refine Exists.intro _ (And.intro (And.intro rfl (And.intro rfl ?leaf)) ?_); (case leaf => (first | exact rfl | omega | (simp; done) | (simp; omega))); (conv => whnf)) | with_reducible assumption | omega | (simp only [List.length_append]; omega) | (simp [bytesL]; omega) | (simp [bytesL]; done))
  refine .loop hS (γ := Nat) (fun i => ⟨[(0, .ptr (.loc 0) 1 none 0), (1, .ptr (.loc 2) 20 none 0), (2, .int .i64 y), (15, .int .i64 s.width), (16, .int .i64 i)],
      ⟨[⟨.loc 0, true, .raw [.sl (.loc 7) 1 none (l ++ placeB y 0 ++ rowTo (cellAt s y) i).length]⟩, ⟨.loc 7, true, .arr (intE .u8) (l ++ placeB y 0 ++ rowTo (cellAt s y) i)⟩, ⟨.loc 2, false, .raw [.int .i64 s.rows, .int .i64 s.width, .sl (.loc 3) 2 none s.cells.length, .sl (.loc 4) 2 none s.back.length, .int .i64 s.y, .int .i64 s.x, .prop (s.wrap = true), .int .i64 s.attr, .int .i64 s.top, .int .i64 s.bottom, .prop (s.origin = true), .prop (s.autow = true), .prop (s.insert = true), .sl (.loc 5) 1 none s.tabs.length, .int .i64 s.keptY, .int .i64 s.keptX, .int .i64 s.keptA, .sl (.loc 6) 1 none s.sets.length, .int .i64 s.shift, .int .i64 s.bells]⟩, ⟨.loc 3, false, .arr pairE s.cells⟩, ⟨.loc 4, false, .arr pairE s.back⟩, ⟨.loc 5, false, .arr boolE s.tabs⟩, ⟨.loc 6, false, .arr (intE .i64) s.sets⟩], 8⟩, 53, 7⟩)
      (fun i => (i : Int) ≤ s.width) (fun i => s.width.toNat - i) 0 (by omega) ?_ ?_
  · have e : l ++ placeB y 0 = l ++ placeB y 0 ++ rowTo (cellAt s y) 0 := by simp [rowTo]
    have e2 := congrArg List.length e
    ((try dsimp only); repeat' (first | exact True.intro | (apply And.intro; (case left => (first | exact trivial | exact not_false | omega | exact rfl | exact Iff.rfl | with_reducible assumption | exact PreC.self _ _ | exact PreC.of_eq (by with_reducible assumption) | exact PreC.of_eq' (by with_reducible assumption) | exact PreC.self' _ _ _ | exact PreC.pre (by with_reducible assumption) | exact ⟨5, rfl⟩ | exact ⟨9, rfl⟩ | exact ⟨2, rfl⟩ | exact ⟨4, rfl⟩ | exact ⟨78, rfl⟩ |  (simp only [List.length_append, List.length_take, List.length_drop]; omega) | (simp; done) | (simp; omega) ))) | ((conv => whnf); apply And.intro; (case left => (first | exact trivial | exact not_false | omega | exact rfl | exact Iff.rfl | with_reducible assumption | exact PreC.self _ _ | exact PreC.of_eq (by with_reducible assumption) | exact PreC.of_eq' (by with_reducible assumption) | exact PreC.self' _ _ _ | exact PreC.pre (by with_reducible assumption) | exact ⟨5, rfl⟩ | exact ⟨9, rfl⟩ | exact ⟨2, rfl⟩ | exact ⟨4, rfl⟩ | exact ⟨78, rfl⟩ |  (simp only [List.length_append, List.length_take, List.length_drop]; omega) | (simp; done) | (simp; omega) ))) | ((conv => whnf); exact True.intro)))
  · intro i hi
    have hq := rowTo_len (cellAt s y) i
    have hc : (i : Int) < s.width → (0 ≤ (s.cells.getD (y * s.width + (i : Int)).toNat pairE.d).1 ∧ (s.cells.getD (y * s.width + (i : Int)).toNat pairE.d).1 ≤ 65535) ∧ 0 ≤ (s.cells.getD (y * s.width + (i : Int)).toNat pairE.d).2 ∧ (s.cells.getD (y * s.width + (i : Int)).toNat pairE.d).2 ≤ 31 := fun h => right_cell hr (by omega)
    have hat := attrB_len (s.cells.getD (y * s.width + (i : Int)).toNat pairE.d).2
    have hen := encB_len (s.cells.getD (y * s.width + (i : Int)).toNat pairE.d).1
    have hll : (l ++ placeB y 0 ++ rowTo (cellAt s y) i).length = l.length + (placeB y 0).length + (rowTo (cellAt s y) i).length := by simp; omega
    conv => whnf
    repeat' (first | (refine Seal.mk ?_) | (refine wpA_seq ?_) | (refine wpA_region rfl ?_) | (refine wpA_block ?_) | (refine wpA_loop ?_) | (refine wpA_draw ?_) | (refine drawA_all ?_) | (refine drawA_fork2 ?_ ?_) | (refine opsA_cons ?_; (conv => whnf)) | (refine opsA_nil ?_; (conv => whnf)) | (refine wpA_cond ?_; (conv => whnf)) | (refine wpA_skip ?_; (conv => whnf)) | (refine wpA_exit ?_; (conv => whnf)) | (refine wpA_ret ?_; (conv => whnf)) | (refine stillA_cons ?_; (conv => whnf)) | (refine stillA_nil ?_; (conv => whnf)) | (refine drawA_done ?_; (conv => whnf)) | (refine drawA_quick rfl ?_; (conv => whnf)) | (refine drawA_read rfl ?_; (conv => whnf)) | (refine drawA_step rfl ?_; (conv => whnf)) | (refine Wp.draw (id := 5) hS (.quick 0 (.quick 1 (.quick 2 (.quick 3 (.quick 5 (.quick 6 (.quick 7 (.quick 8 (.quick 9 (.quick 10 (.all (.fork (.step 4 (.all (.step 11 (.quick 12 (.quick 13 (.all (.step 14 (.quick 15 (.quick 16 .done))))))))) (.step 11 (.quick 12 (.quick 13 (.all (.fork (.step 4 (.all (.step 14 (.quick 15 (.quick 16 .done))))) (.step 14 (.all (.step 4 (.quick 15 (.quick 16 .done)))))))))))))))))))))) [4, 11, 14] (by kernel_rfl) rfl ?_) | (apply CallA.liftC hS (at_ s y _ hr hy hy' _ _); (conv => whnf)) | (apply CallA.liftC hS (attr _ _ _ _ _); (conv => whnf)) | (apply CallA.liftC hS (char _ _ _ _ _); (conv => whnf)) | (intro _; omega) | (intro _; (conv => whnf)) | (apply And.intro <;> intro _ <;> first | omega | (conv => whnf)) | (apply And.intro; (case left => (first | exact trivial | exact not_false | omega | exact rfl | exact Iff.rfl | exact PreC.self _ _ | with_reducible assumption | (simp only [inR, IntKind.bits, Int.reduceToNat, Int.reducePow]; omega) | (simp only [List.length_append, List.length_take, List.length_drop]; omega) | (simp; done) | (simp; omega) | (simp [bytesL]; done) | (simp [bytesL]; omega))); (conv => whnf)) | (apply Or.inl; apply And.intro; (case left => (first | exact trivial | exact not_false | omega | exact rfl | exact Iff.rfl | exact PreC.self _ _ | with_reducible assumption | (simp only [inR, IntKind.bits, Int.reduceToNat, Int.reducePow]; omega) | (simp only [List.length_append, List.length_take, List.length_drop]; omega) | (simp; done) | (simp; omega) | (simp [bytesL]; done) | (simp [bytesL]; omega))); (conv => whnf)) | (apply Or.inr; (conv => whnf)) | (refine Exists.intro _ (And.intro rfl ?_); (conv => whnf)) | (refine Exists.intro _ (And.intro (And.intro rfl rfl) ?_); (conv => whnf)) | (refine Exists.intro (intE .u8) (And.intro ⟨rfl, fun _ => rfl⟩ ?_); (conv => whnf)) | (refine Exists.intro _ (And.intro (And.intro rfl (And.intro rfl ?leaf)) ?_); (case leaf => (first | exact rfl | omega | (simp; done) | (simp; omega))); (conv => whnf)) | with_reducible assumption | omega | (simp only [List.length_append]; omega) | (simp [bytesL]; omega) | (simp [bytesL]; done))
    all_goals first
      | (have e := row_attr (l ++ placeB y 0) (s := s) (y := y) (i := i) (by first | exact .inl (by assumption) | exact .inr (by assumption)); have e2 := congrArg List.length e; refine ⟨i + 1, ⟨by omega, by omega⟩, ?_⟩; ((try dsimp only); repeat' (first | exact True.intro | (apply And.intro; (case left => (first | exact trivial | exact not_false | omega | exact rfl | exact Iff.rfl | with_reducible assumption | exact PreC.self _ _ | exact PreC.of_eq (by with_reducible assumption) | exact PreC.of_eq' (by with_reducible assumption) | exact PreC.self' _ _ _ | exact PreC.pre (by with_reducible assumption) | exact ⟨5, rfl⟩ | exact ⟨9, rfl⟩ | exact ⟨2, rfl⟩ | exact ⟨4, rfl⟩ | exact ⟨78, rfl⟩ |  (simp only [List.length_append, List.length_take, List.length_drop]; omega) | (simp; done) | (simp; omega) ))) | ((conv => whnf); apply And.intro; (case left => (first | exact trivial | exact not_false | omega | exact rfl | exact Iff.rfl | with_reducible assumption | exact PreC.self _ _ | exact PreC.of_eq (by with_reducible assumption) | exact PreC.of_eq' (by with_reducible assumption) | exact PreC.self' _ _ _ | exact PreC.pre (by with_reducible assumption) | exact ⟨5, rfl⟩ | exact ⟨9, rfl⟩ | exact ⟨2, rfl⟩ | exact ⟨4, rfl⟩ | exact ⟨78, rfl⟩ |  (simp only [List.length_append, List.length_take, List.length_drop]; omega) | (simp; done) | (simp; omega) ))) | ((conv => whnf); exact True.intro))))
      | (have e := row_same (l ++ placeB y 0) (s := s) (y := y) (i := i) (by assumption) (by assumption); have e2 := congrArg List.length e; refine ⟨i + 1, ⟨by omega, by omega⟩, ?_⟩; ((try dsimp only); repeat' (first | exact True.intro | (apply And.intro; (case left => (first | exact trivial | exact not_false | omega | exact rfl | exact Iff.rfl | with_reducible assumption | exact PreC.self _ _ | exact PreC.of_eq (by with_reducible assumption) | exact PreC.of_eq' (by with_reducible assumption) | exact PreC.self' _ _ _ | exact PreC.pre (by with_reducible assumption) | exact ⟨5, rfl⟩ | exact ⟨9, rfl⟩ | exact ⟨2, rfl⟩ | exact ⟨4, rfl⟩ | exact ⟨78, rfl⟩ |  (simp only [List.length_append, List.length_take, List.length_drop]; omega) | (simp; done) | (simp; omega) ))) | ((conv => whnf); apply And.intro; (case left => (first | exact trivial | exact not_false | omega | exact rfl | exact Iff.rfl | with_reducible assumption | exact PreC.self _ _ | exact PreC.of_eq (by with_reducible assumption) | exact PreC.of_eq' (by with_reducible assumption) | exact PreC.self' _ _ _ | exact PreC.pre (by with_reducible assumption) | exact ⟨5, rfl⟩ | exact ⟨9, rfl⟩ | exact ⟨2, rfl⟩ | exact ⟨4, rfl⟩ | exact ⟨78, rfl⟩ |  (simp only [List.length_append, List.length_take, List.length_drop]; omega) | (simp; done) | (simp; omega) ))) | ((conv => whnf); exact True.intro))))
      | (have hw : i = s.width.toNat := by omega
         have e : l ++ placeB y 0 ++ rowTo (cellAt s y) i = l ++ rowB s y := by rw [hw, rowB, List.append_assoc]
         have e2 := congrArg List.length e
         (refine ⟨(), trivial, ?_⟩; repeat' (first | exact True.intro | (apply And.intro; (case left => (first | exact trivial | exact not_false | omega | exact rfl | exact Iff.rfl | with_reducible assumption | exact PreC.self _ _ | exact PreC.of_eq (by with_reducible assumption) | exact PreC.of_eq' (by with_reducible assumption) | exact PreC.self' _ _ _ | exact PreC.pre (by with_reducible assumption) | exact ⟨5, rfl⟩ | exact ⟨9, rfl⟩ | exact ⟨2, rfl⟩ | exact ⟨4, rfl⟩ | exact ⟨78, rfl⟩ |  (simp only [List.length_append, List.length_take, List.length_drop]; omega) | (simp; done) | (simp; omega) ))) | ((conv => whnf); apply And.intro; (case left => (first | exact trivial | exact not_false | omega | exact rfl | exact Iff.rfl | with_reducible assumption | exact PreC.self _ _ | exact PreC.of_eq (by with_reducible assumption) | exact PreC.of_eq' (by with_reducible assumption) | exact PreC.self' _ _ _ | exact PreC.pre (by with_reducible assumption) | exact ⟨5, rfl⟩ | exact ⟨9, rfl⟩ | exact ⟨2, rfl⟩ | exact ⟨4, rfl⟩ | exact ⟨78, rfl⟩ |  (simp only [List.length_append, List.length_take, List.length_drop]; omega) | (simp; done) | (simp; omega) ))) | ((conv => whnf); exact True.intro))))
end Go.Dump
