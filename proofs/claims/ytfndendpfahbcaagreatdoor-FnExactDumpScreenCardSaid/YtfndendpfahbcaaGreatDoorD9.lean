/- The walks of the law on dumps: a row put out, by the reference. -/
import Derived.Test.YtfndendpfahbcaaGreatDoorD8
set_option linter.unusedSimpArgs false
set_option linter.unusedVariables false
namespace Go.Dump
open Go Go.Vm Go.RowKit Go.Proofs
attribute [local irreducible] wpA opsA stillA drawA
set_option maxRecDepth 20000
set_option maxHeartbeats 4000000

def listAt (xs : List (Int × Int)) (i : Nat) : Int × Int := xs.getD i (0, 0)
theorem list_attr {xs : List (Int × Int)} {i : Nat} (X : List Int) (h : (i : Int) = 0 ∨ ¬ (xs.getD (i : Int).toNat pairE.d).2 = (xs.getD ((i : Int) - 1).toNat pairE.d).2) :
    X ++ rowTo (listAt xs) i ++ attrB (xs.getD (i : Int).toNat pairE.d).2 ++ encB (xs.getD (i : Int).toNat pairE.d).1 = X ++ rowTo (listAt xs) (i + 1) := by
  have hc : i = 0 ∨ ¬ (listAt xs i).2 = (listAt xs (i - 1)).2 := by
    rcases h with h | h
    · left; omega
    · cases i with
      | zero => left; rfl
      | succ i =>
        right
        have : ((i + 1 : Nat) : Int) - 1 = (i : Int) := by omega
        rw [this] at h
        exact h
  rw [rowTo, if_pos hc]
  simp only [List.append_assoc]
  rfl
theorem list_same {xs : List (Int × Int)} {i : Nat} (X : List Int) (h0 : ¬ (i : Int) = 0) (h : ¬¬ (xs.getD (i : Int).toNat pairE.d).2 = (xs.getD ((i : Int) - 1).toNat pairE.d).2) :
    X ++ rowTo (listAt xs) i ++ encB (xs.getD (i : Int).toNat pairE.d).1 = X ++ rowTo (listAt xs) (i + 1) := by
  have hc : ¬ (i = 0 ∨ ¬ (listAt xs i).2 = (listAt xs (i - 1)).2) := by
    rintro (q | q)
    · exact h0 (by omega)
    · cases i with
      | zero => exact h0 rfl
      | succ i =>
        have : ((i + 1 : Nat) : Int) - 1 = (i : Int) := by omega
        rw [this] at h
        exact h q
  rw [rowTo, if_neg hc]
  simp only [List.append_assoc, List.nil_append]
  rfl
theorem rowOf_len {s : Scr} {y : Int} (hr : Right s) (hy : 0 ≤ y) (hy' : y < s.rows) : (rowOf s y).length = s.width.toNat := by
  have hs := hr.size
  have hp := place_in hy hy' (x := 0) (w := s.width) (by omega) (by omega)
  have hn := hr.len
  unfold rowOf
  rw [List.length_take, List.length_drop]
  omega
theorem rowOf_get {s : Scr} {y : Int} (hy : 0 ≤ y * s.width) {k : Nat} (hk : k < s.width.toNat) : listAt (rowOf s y) k = cellAt s y k := by
  unfold listAt cellAt rowOf
  simp only [List.getD_eq_getElem?_getD, List.getElem?_take, if_pos hk, List.getElem?_drop]
  congr 2
  omega
theorem take_all {α : Type} (xs : List α) : List.take ((xs.length : Nat) : Int).toNat xs = xs := by simp

theorem l7Row (s : Scr) (y : Int) (hr : Right s) (hy : 0 ≤ y) (hy' : y < s.rows) : CallA S 38 [.ptr (.loc 0) 20 none 0, .int .i64 y]
    ⟨[⟨.loc 0, false, .raw [.int .i64 s.rows, .int .i64 s.width, .sl (.loc 1) 2 none s.cells.length, .sl (.loc 2) 2 none s.back.length, .int .i64 s.y, .int .i64 s.x, .prop (s.wrap = true), .int .i64 s.attr, .int .i64 s.top, .int .i64 s.bottom, .prop (s.origin = true), .prop (s.autow = true), .prop (s.insert = true), .sl (.loc 3) 1 none s.tabs.length, .int .i64 s.keptY, .int .i64 s.keptX, .int .i64 s.keptA, .sl (.loc 4) 1 none s.sets.length, .int .i64 s.shift, .int .i64 s.bells]⟩, ⟨.loc 1, false, .arr pairE s.cells⟩, ⟨.loc 2, false, .arr pairE s.back⟩, ⟨.loc 3, false, .arr boolE s.tabs⟩, ⟨.loc 4, false, .arr (intE .i64) s.sets⟩], 5⟩ fun v H' =>
    ∃ _ : Unit, True ∧ v = .sl (.loc 5) 1 none (rowB s y).length ∧ H' = ⟨[⟨.loc 5, true, .arr (intE .u8) (rowB s y)⟩], 6⟩ := by
  refine .ofC hS (fun _ => True) (fun _ => .sl (.loc 5) 1 none (rowB s y).length) (fun _ => ⟨[⟨.loc 5, true, .arr (intE .u8) (rowB s y)⟩], 6⟩) Tryz.func38 ?_
  have hs := hr.size
  have hp := place_in hy hy' (x := 0) (w := s.width) (by omega) (by omega)
  have hn := hr.len
  have ha := area hs
  have hb := placeB_len y 0
  have hw := rowOf_len hr hy hy'
  have hcells : ∀ k, k < (rowOf s y).length → (0 ≤ ((rowOf s y).getD k (0, 0)).1 ∧ ((rowOf s y).getD k (0, 0)).1 ≤ 65535) ∧ 0 ≤ ((rowOf s y).getD k (0, 0)).2 ∧ ((rowOf s y).getD k (0, 0)).2 ≤ 31 := fun k hk => by
    have e : (rowOf s y).getD k (0, 0) = cellAt s y k := rowOf_get hp.1 (by omega)
    rw [e]
    exact right_cell hr (by omega)
  have hfin : placeB y 0 ++ rowTo (listAt (rowOf s y)) (rowOf s y).length = rowB s y := by
    rw [hw, rowB, rowTo_congr fun k hk => rowOf_get hp.1 hk]
  conv => whnf
  repeat' (first | (refine Seal.mk ?_) | (refine wpA_seq ?_) | (refine wpA_region rfl ?_) | (refine wpA_block ?_) | (refine wpA_loop ?_) | (refine wpA_draw ?_) | (refine drawA_all ?_) | (refine drawA_fork2 ?_ ?_) | (refine opsA_cons ?_; (conv => whnf)) | (refine opsA_nil ?_; (conv => whnf)) | (refine wpA_cond ?_; (conv => whnf)) | (refine wpA_skip ?_; (conv => whnf)) | (refine wpA_exit ?_; (conv => whnf)) | (refine wpA_ret ?_; (conv => whnf)) | (refine stillA_cons ?_; (conv => whnf)) | (refine stillA_nil ?_; (conv => whnf)) | (refine drawA_done ?_; (conv => whnf)) | (refine drawA_quick rfl ?_; (conv => whnf)) | (refine drawA_read rfl ?_; (conv => whnf)) | (refine drawA_step rfl ?_; (conv => whnf)) | (apply CallA.liftC hS (l7Place _ _ _ _ _ _); (conv => whnf)) | (apply CallA.liftC hS (l3RowOf s y hr hy hy'); (conv => whnf)) | (intro _; omega) | (intro _; (conv => whnf)) | (apply And.intro <;> intro _ <;> first | omega | (conv => whnf)) | (apply And.intro; (case left => (first | exact trivial | exact not_false | omega | exact rfl | exact Iff.rfl | exact PreC.self _ _ | with_reducible assumption | (simp only [inR, IntKind.bits, Int.reduceToNat, Int.reducePow]; omega) | (simp only [List.length_append, List.length_take, List.length_drop]; omega) | (simp; done) | (simp; omega) | (simp [bytesL]; done) | (simp [bytesL]; omega))); (conv => whnf)) | (apply Or.inl; apply And.intro; (case left => (first | exact trivial | exact not_false | omega | exact rfl | exact Iff.rfl | exact PreC.self _ _ | with_reducible assumption | (simp only [inR, IntKind.bits, Int.reduceToNat, Int.reducePow]; omega) | (simp only [List.length_append, List.length_take, List.length_drop]; omega) | (simp; done) | (simp; omega) | (simp [bytesL]; done) | (simp [bytesL]; omega))); (conv => whnf)) | (apply Or.inr; (conv => whnf)) | (refine Exists.intro _ (And.intro rfl ?_); (conv => whnf)) | (refine Exists.intro _ (And.intro (And.intro rfl rfl) ?_); (conv => whnf)) | (refine Exists.intro (intE .u8) (And.intro ⟨rfl, fun _ => rfl⟩ ?_); (conv => whnf)) | (refine Exists.intro _ (And.intro (And.intro rfl (And.intro rfl ?leaf)) ?_); (case leaf => (first | exact rfl | omega | (simp; done) | (simp; omega))); (conv => whnf)) | with_reducible assumption | omega | (simp only [List.length_append]; omega) | (simp [bytesL]; omega) | (simp [bytesL]; done))
  generalize rowOf s y = xs at *
  refine .loop hS (γ := Nat) (fun i => ⟨[(5, .sl (.loc 5) 1 none (placeB y 0 ++ rowTo (listAt xs) i).length), (6, .sl (.loc 6) 2 none xs.length), (7, .int .i64 i)],
      ⟨[⟨.loc 5, true, .arr (intE .u8) (placeB y 0 ++ rowTo (listAt xs) i)⟩, ⟨.loc 6, false, .arr pairE xs⟩], 7⟩, 54, 5⟩)
      (fun i => i ≤ xs.length) (fun i => xs.length - i) 0 (by omega) ?_ ?_
  · have e : placeB y 0 = placeB y 0 ++ rowTo (listAt xs) 0 := by simp [rowTo]
    have e2 := congrArg List.length e
    ((try dsimp only); repeat' (first | exact True.intro | (apply And.intro; (case left => (first | exact trivial | exact not_false | omega | exact rfl | exact Iff.rfl | with_reducible assumption | exact PreC.self _ _ | exact PreC.of_eq (by with_reducible assumption) | exact PreC.of_eq' (by with_reducible assumption) | exact PreC.self' _ _ _ | exact PreC.pre (by with_reducible assumption) | exact ⟨5, rfl⟩ | exact ⟨9, rfl⟩ | exact ⟨2, rfl⟩ | exact ⟨4, rfl⟩ | exact ⟨78, rfl⟩ |  (simp only [List.length_append, List.length_take, List.length_drop]; omega) | (simp; done) | (simp; omega) ))) | ((conv => whnf); apply And.intro; (case left => (first | exact trivial | exact not_false | omega | exact rfl | exact Iff.rfl | with_reducible assumption | exact PreC.self _ _ | exact PreC.of_eq (by with_reducible assumption) | exact PreC.of_eq' (by with_reducible assumption) | exact PreC.self' _ _ _ | exact PreC.pre (by with_reducible assumption) | exact ⟨5, rfl⟩ | exact ⟨9, rfl⟩ | exact ⟨2, rfl⟩ | exact ⟨4, rfl⟩ | exact ⟨78, rfl⟩ |  (simp only [List.length_append, List.length_take, List.length_drop]; omega) | (simp; done) | (simp; omega) ))) | ((conv => whnf); exact True.intro)))
  · intro i hi
    have hq := rowTo_len (listAt xs) i
    have hc := hcells (i : Int).toNat
    have hat := attrB_len (xs.getD (i : Int).toNat pairE.d).2
    have hen := encB_len (xs.getD (i : Int).toNat pairE.d).1
    have hll : (placeB y 0 ++ rowTo (listAt xs) i).length = (placeB y 0).length + (rowTo (listAt xs) i).length := by simp
    have t1 := take_all (attrB (xs.getD (i : Int).toNat pairE.d).2)
    have t2 := take_all (encB (xs.getD (i : Int).toNat pairE.d).1)
    have hc : (i : Int) < xs.length → (0 ≤ (xs.getD (i : Int).toNat pairE.d).1 ∧ (xs.getD (i : Int).toNat pairE.d).1 ≤ 65535) ∧ 0 ≤ (xs.getD (i : Int).toNat pairE.d).2 ∧ (xs.getD (i : Int).toNat pairE.d).2 ≤ 31 := fun h => hc (by omega)
    conv => whnf
    repeat' (first | (refine Seal.mk ?_) | (refine wpA_seq ?_) | (refine wpA_region rfl ?_) | (refine wpA_block ?_) | (refine wpA_loop ?_) | (refine wpA_draw ?_) | (refine drawA_all ?_) | (refine drawA_fork2 ?_ ?_) | (refine opsA_cons ?_; (conv => whnf)) | (refine opsA_nil ?_; (conv => whnf)) | (refine wpA_cond ?_; (conv => whnf)) | (refine wpA_skip ?_; (conv => whnf)) | (refine wpA_exit ?_; (conv => whnf)) | (refine wpA_ret ?_; (conv => whnf)) | (refine stillA_cons ?_; (conv => whnf)) | (refine stillA_nil ?_; (conv => whnf)) | (refine drawA_done ?_; (conv => whnf)) | (refine drawA_quick rfl ?_; (conv => whnf)) | (refine drawA_read rfl ?_; (conv => whnf)) | (refine drawA_step rfl ?_; (conv => whnf)) | (refine Wp.draw (id := 6) hS (.quick 0 (.quick 1 (.quick 2 (.quick 3 (.quick 4 (.quick 5 (.quick 6 (.quick 8 (.quick 9 (.quick 10 (.quick 11 (.quick 12 (.read 7 (.read 13 (.quick 14 (.quick 15 .done)))))))))))))))) [] (by kernel_rfl) rfl ?_) | (apply CallA.liftC hS (l7Attr _ _ _); (conv => whnf)) | (apply CallA.liftC hS (l1Encode _ _ _); (conv => whnf)) | (intro _; omega) | (intro _; (conv => whnf)) | (apply And.intro <;> intro _ <;> first | omega | (conv => whnf)) | (apply And.intro; (case left => (first | exact trivial | exact not_false | omega | exact rfl | exact Iff.rfl | exact PreC.self _ _ | with_reducible assumption | (simp only [inR, IntKind.bits, Int.reduceToNat, Int.reducePow]; omega) | (simp only [List.length_append, List.length_take, List.length_drop]; omega) | (simp; done) | (simp; omega) | (simp [bytesL]; done) | (simp [bytesL]; omega))); (conv => whnf)) | (apply Or.inl; apply And.intro; (case left => (first | exact trivial | exact not_false | omega | exact rfl | exact Iff.rfl | exact PreC.self _ _ | with_reducible assumption | (simp only [inR, IntKind.bits, Int.reduceToNat, Int.reducePow]; omega) | (simp only [List.length_append, List.length_take, List.length_drop]; omega) | (simp; done) | (simp; omega) | (simp [bytesL]; done) | (simp [bytesL]; omega))); (conv => whnf)) | (apply Or.inr; (conv => whnf)) | (refine Exists.intro _ (And.intro rfl ?_); (conv => whnf)) | (refine Exists.intro _ (And.intro (And.intro rfl rfl) ?_); (conv => whnf)) | (refine Exists.intro (intE .u8) (And.intro ⟨rfl, fun _ => rfl⟩ ?_); (conv => whnf)) | (refine Exists.intro _ (And.intro (And.intro rfl (And.intro rfl ?leaf)) ?_); (case leaf => (first | exact rfl | omega | (simp; done) | (simp; omega))); (conv => whnf)) | with_reducible assumption | omega | (simp only [List.length_append]; omega) | (simp [bytesL]; omega) | (simp [bytesL]; done))
    all_goals (try simp only [t1, t2])
    all_goals first
      | (have e := list_attr (placeB y 0) (xs := xs) (i := i) (by first | exact .inl (by assumption) | exact .inr (by assumption)); have e2 := congrArg List.length e; simp only [List.length_append] at e2; refine ⟨i + 1, ⟨by omega, by omega⟩, ?_⟩; ((try dsimp only); repeat' (first | exact True.intro | (apply And.intro; (case left => (first | exact trivial | exact not_false | omega | exact rfl | exact Iff.rfl | with_reducible assumption | exact PreC.self _ _ | exact PreC.of_eq (by with_reducible assumption) | exact PreC.of_eq' (by with_reducible assumption) | exact PreC.self' _ _ _ | exact PreC.pre (by with_reducible assumption) | exact ⟨5, rfl⟩ | exact ⟨9, rfl⟩ | exact ⟨2, rfl⟩ | exact ⟨4, rfl⟩ | exact ⟨78, rfl⟩ |  (simp only [List.length_append, List.length_take, List.length_drop]; omega) | (simp; done) | (simp; omega) ))) | ((conv => whnf); apply And.intro; (case left => (first | exact trivial | exact not_false | omega | exact rfl | exact Iff.rfl | with_reducible assumption | exact PreC.self _ _ | exact PreC.of_eq (by with_reducible assumption) | exact PreC.of_eq' (by with_reducible assumption) | exact PreC.self' _ _ _ | exact PreC.pre (by with_reducible assumption) | exact ⟨5, rfl⟩ | exact ⟨9, rfl⟩ | exact ⟨2, rfl⟩ | exact ⟨4, rfl⟩ | exact ⟨78, rfl⟩ |  (simp only [List.length_append, List.length_take, List.length_drop]; omega) | (simp; done) | (simp; omega) ))) | ((conv => whnf); exact True.intro))))
      | (have e := list_same (placeB y 0) (xs := xs) (i := i) (by assumption) (by assumption); have e2 := congrArg List.length e; simp only [List.length_append] at e2; refine ⟨i + 1, ⟨by omega, by omega⟩, ?_⟩; ((try dsimp only); repeat' (first | exact True.intro | (apply And.intro; (case left => (first | exact trivial | exact not_false | omega | exact rfl | exact Iff.rfl | with_reducible assumption | exact PreC.self _ _ | exact PreC.of_eq (by with_reducible assumption) | exact PreC.of_eq' (by with_reducible assumption) | exact PreC.self' _ _ _ | exact PreC.pre (by with_reducible assumption) | exact ⟨5, rfl⟩ | exact ⟨9, rfl⟩ | exact ⟨2, rfl⟩ | exact ⟨4, rfl⟩ | exact ⟨78, rfl⟩ |  (simp only [List.length_append, List.length_take, List.length_drop]; omega) | (simp; done) | (simp; omega) ))) | ((conv => whnf); apply And.intro; (case left => (first | exact trivial | exact not_false | omega | exact rfl | exact Iff.rfl | with_reducible assumption | exact PreC.self _ _ | exact PreC.of_eq (by with_reducible assumption) | exact PreC.of_eq' (by with_reducible assumption) | exact PreC.self' _ _ _ | exact PreC.pre (by with_reducible assumption) | exact ⟨5, rfl⟩ | exact ⟨9, rfl⟩ | exact ⟨2, rfl⟩ | exact ⟨4, rfl⟩ | exact ⟨78, rfl⟩ |  (simp only [List.length_append, List.length_take, List.length_drop]; omega) | (simp; done) | (simp; omega) ))) | ((conv => whnf); exact True.intro))))
      | (have hw : i = xs.length := by omega
         rw [← hw] at hfin
         have e2 := congrArg List.length hfin
         simp only [List.length_append] at e2
         (refine ⟨(), trivial, ?_⟩; repeat' (first | exact True.intro | (apply And.intro; (case left => (first | exact trivial | exact not_false | omega | exact rfl | exact Iff.rfl | with_reducible assumption | exact PreC.self _ _ | exact PreC.of_eq (by with_reducible assumption) | exact PreC.of_eq' (by with_reducible assumption) | exact PreC.self' _ _ _ | exact PreC.pre (by with_reducible assumption) | exact ⟨5, rfl⟩ | exact ⟨9, rfl⟩ | exact ⟨2, rfl⟩ | exact ⟨4, rfl⟩ | exact ⟨78, rfl⟩ |  (simp only [List.length_append, List.length_take, List.length_drop]; omega) | (simp; done) | (simp; omega) ))) | ((conv => whnf); apply And.intro; (case left => (first | exact trivial | exact not_false | omega | exact rfl | exact Iff.rfl | with_reducible assumption | exact PreC.self _ _ | exact PreC.of_eq (by with_reducible assumption) | exact PreC.of_eq' (by with_reducible assumption) | exact PreC.self' _ _ _ | exact PreC.pre (by with_reducible assumption) | exact ⟨5, rfl⟩ | exact ⟨9, rfl⟩ | exact ⟨2, rfl⟩ | exact ⟨4, rfl⟩ | exact ⟨78, rfl⟩ |  (simp only [List.length_append, List.length_take, List.length_drop]; omega) | (simp; done) | (simp; omega) ))) | ((conv => whnf); exact True.intro))))
end Go.Dump
