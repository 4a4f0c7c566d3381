/- The walks of the law on dumps: tab stops put out. -/
import Derived.Test.YtfndendpfahbcaaGreatDoorD9
set_option linter.unusedSimpArgs false
set_option linter.unusedVariables false
namespace Go.Dump
open Go Go.Vm Go.RowKit Go.Proofs
attribute [local irreducible] wpA opsA stillA drawA
set_option maxRecDepth 20000
set_option maxHeartbeats 4000000

/-- a screen without faults -/
structure Good (s : Scr) : Prop where
  right : Right s
  top : 0 ≤ s.top ∧ s.top ≤ 5
  bottom : 0 ≤ s.bottom ∧ s.bottom ≤ 5
  tabs : (s.tabs.length : Int) = s.width
  y : 0 ≤ s.y ∧ s.y ≤ s.rows - 1
  x : 0 ≤ s.x ∧ s.x ≤ s.width - 1
  attr : 0 ≤ s.attr ∧ s.attr ≤ 31
  sets : s.sets.length = 2
  set : ∀ k, k < 2 → 1 ≤ s.sets.getD k 0 ∧ s.sets.getD k 0 ≤ 3
  base : s.origin = true → s.top ≤ s.y
theorem good_of {s : Scr} (h : scrF s = 0) : Good s := by
  unfold scrF at h
  split at h
  · rename_i hg
    have hs := gridF_size hg
    split at h
    · rename_i hr
      split at h
      · rename_i hf
        obtain ⟨e1, e2, e3, e4⟩ := gridF_spec s.rows s.width s.cells s.back
        have hn : ¬ (¬ (s.cells.length : Int) = s.rows * s.width ∨ 5 * s.width < (s.back.length : Int) ∨ ¬ (s.back.length : Int) % s.width = 0) := fun q => by have := e2 hs q; omega
        have hc : allCells s.cells ∧ allCells s.back := Classical.not_not.1 fun q => by have := e4 hs hn q; omega
        obtain ⟨r1, r2, r3, r4, r5, r6, r7, r8⟩ := hr
        obtain ⟨f1, f2, f3, f4⟩ := hf
        refine ⟨⟨hs, by omega, hc.1⟩, by omega, by omega, f2, r1.1, r1.2, r2, r6.1, fun k hk => r6.2 k (by omega), fun q => (f4 q).1⟩
      · simp at h
    · simp at h
  · rename_i hg; exact absurd h hg

def tabTo (t : List Bool) : Nat → List Int
  | 0 => []
  | i + 1 => tabTo t i ++ (if t.getD i false = true then placeB 0 i ++ [27, 72] else [])
theorem tabTo_len (t : List Bool) (i : Nat) : (tabTo t i).length ≤ 10 * i := by
  induction i with
  | zero => simp [tabTo]
  | succ i ih =>
    unfold tabTo
    have h1 := placeB_len 0 i
    simp only [List.length_append]
    split
    · simp only [List.length_append, List.length_cons, List.length_nil]; omega
    · simp only [List.length_nil]; omega
def tabsB (s : Scr) : List Int := [27, 91, 51, 103] ++ tabTo s.tabs s.width.toNat
def regB (s : Scr) : List Int := [27] ++ (((([91] ++ dg (s.top + 1)) ++ [59]) ++ dg (s.bottom + 1)) ++ [114])
theorem tabTo_yes {t : List Bool} {i : Nat} (X : List Int) (h : t.getD (i : Int).toNat boolE.d = true) : X ++ tabTo t i ++ placeB 0 i ++ ([27] ++ bytesL { data := #[72] }) = X ++ tabTo t (i + 1) := by
  have h' : t.getD i false = true := h
  rw [tabTo, if_pos h']; simp [bytesL]
theorem tabTo_no {t : List Bool} {i : Nat} (X : List Int) (h : ¬ t.getD (i : Int).toNat boolE.d = true) : X ++ tabTo t i = X ++ tabTo t (i + 1) := by
  have h' : ¬ t.getD i false = true := h
  rw [tabTo, if_neg h']; simp
theorem tabs_end (s : Scr) (l : List Int) {i : Nat} (hw : i = s.width.toNat) : l ++ [27, 91, 51, 103] ++ tabTo s.tabs i ++ ([27] ++ (bytesL { data := #[91] } ++ dg (s.top + 1) ++ bytesL { data := #[59] } ++ dg (s.bottom + 1) ++ bytesL { data := #[114] })) = l ++ tabsB s ++ regB s := by
  subst hw; simp [bytesL, tabsB, regB]

theorem tabs (s : Scr) (l : List Int) (hg : Good s) (hl : l.length ≤ 800000) : CallA S 23 [.ptr (.loc 0) 1 none 0, .ptr (.loc 2) 20 none 0]
    ⟨[⟨.loc 0, true, .raw [.sl (.loc 1) 1 none l.length]⟩, ⟨.loc 1, true, .arr (intE .u8) l⟩, ⟨.loc 2, false, .raw [.int .i64 s.rows, .int .i64 s.width, .sl (.loc 3) 2 none s.cells.length, .sl (.loc 4) 2 none s.back.length, .int .i64 s.y, .int .i64 s.x, .prop (s.wrap = true), .int .i64 s.attr, .int .i64 s.top, .int .i64 s.bottom, .prop (s.origin = true), .prop (s.autow = true), .prop (s.insert = true), .sl (.loc 5) 1 none s.tabs.length, .int .i64 s.keptY, .int .i64 s.keptX, .int .i64 s.keptA, .sl (.loc 6) 1 none s.sets.length, .int .i64 s.shift, .int .i64 s.bells]⟩, ⟨.loc 3, false, .arr pairE s.cells⟩, ⟨.loc 4, false, .arr pairE s.back⟩, ⟨.loc 5, false, .arr boolE s.tabs⟩, ⟨.loc 6, false, .arr (intE .i64) s.sets⟩], 7⟩ fun v H' =>
    ∃ _ : Unit, True ∧ v = .tup [] ∧ H' = ⟨[⟨.loc 0, true, .raw [.sl (.loc 7) 1 none (l ++ tabsB s ++ regB s).length]⟩, ⟨.loc 7, true, .arr (intE .u8) (l ++ tabsB s ++ regB s)⟩], 8⟩ := by
  refine .ofC hS (fun _ => True) (fun _ => .tup []) (fun _ => ⟨[⟨.loc 0, true, .raw [.sl (.loc 7) 1 none (l ++ tabsB s ++ regB s).length]⟩, ⟨.loc 7, true, .arr (intE .u8) (l ++ tabsB s ++ regB s)⟩], 8⟩) Tryz.func23 ?_
  have hs := hg.right.size
  have ht := hg.tabs
  have h1 := hg.top
  have h2 := hg.bottom
  have d1 := dg_len (s.top + 1)
  have d2 := dg_len (s.bottom + 1)
  conv => whnf
  repeat' (first | (refine Seal.mk ?_) | (refine wpA_seq ?_) | (refine wpA_region rfl ?_) | (refine wpA_block ?_) | (refine wpA_loop ?_) | (refine wpA_draw ?_) | (refine drawA_all ?_) | (refine drawA_fork2 ?_ ?_) | (refine opsA_cons ?_; (conv => whnf)) | (refine opsA_nil ?_; (conv => whnf)) | (refine wpA_cond ?_; (conv => whnf)) | (refine wpA_skip ?_; (conv => whnf)) | (refine wpA_exit ?_; (conv => whnf)) | (refine wpA_ret ?_; (conv => whnf)) | (refine stillA_cons ?_; (conv => whnf)) | (refine stillA_nil ?_; (conv => whnf)) | (refine drawA_done ?_; (conv => whnf)) | (refine drawA_quick rfl ?_; (conv => whnf)) | (refine drawA_read rfl ?_; (conv => whnf)) | (refine drawA_step rfl ?_; (conv => whnf)) | (apply CallA.liftC hS (esc _ _ _ _); (conv => whnf)) | (intro _; omega) | (intro _; (conv => whnf)) | (apply And.intro <;> intro _ <;> first | omega | (conv => whnf)) | (apply And.intro; (case left => (first | exact trivial | exact not_false | omega | exact rfl | exact Iff.rfl | exact PreC.self _ _ | with_reducible assumption | (simp only [inR, IntKind.bits, Int.reduceToNat, Int.reducePow]; omega) | (simp only [List.length_append, List.length_take, List.length_drop]; omega) | (simp; done) | (simp; omega) | (simp [bytesL]; done) | (simp [bytesL]; omega))); (conv => whnf)) | (apply Or.inl; apply And.intro; (case left => (first | exact trivial | exact not_false | omega | exact rfl | exact Iff.rfl | exact PreC.self _ _ | with_reducible assumption | (simp only [inR, IntKind.bits, Int.reduceToNat, Int.reducePow]; omega) | (simp only [List.length_append, List.length_take, List.length_drop]; omega) | (simp; done) | (simp; omega) | (simp [bytesL]; done) | (simp [bytesL]; omega))); (conv => whnf)) | (apply Or.inr; (conv => whnf)) | (refine Exists.intro _ (And.intro rfl ?_); (conv => whnf)) | (refine Exists.intro _ (And.intro (And.intro rfl rfl) ?_); (conv => whnf)) | (refine Exists.intro (intE .u8) (And.intro ⟨rfl, fun _ => rfl⟩ ?_); (conv => whnf)) | (refine Exists.intro _ (And.intro (And.intro rfl (And.intro rfl ?leaf)) ?_); (case leaf => (first | exact rfl | omega | (simp; done) | (simp; omega))); (conv => whnf)) | with_reducible assumption | omega | (simp only [List.length_append]; omega) | (simp [bytesL]; omega) | (simp [bytesL]; done))
  refine .loop hS (γ := Nat) (fun i => ⟨[(0, .ptr (.loc 0) 1 none 0), (1, .ptr (.loc 2) 20 none 0), (11, .sl (.loc 5) 1 none s.tabs.length), (12, .int .i64 s.tabs.length), (13, .int .i64 i)],
      ⟨[⟨.loc 0, true, .raw [.sl (.loc 7) 1 none (l ++ [27, 91, 51, 103] ++ tabTo s.tabs i).length]⟩, ⟨.loc 7, true, .arr (intE .u8) (l ++ [27, 91, 51, 103] ++ tabTo s.tabs i)⟩, ⟨.loc 2, false, .raw [.int .i64 s.rows, .int .i64 s.width, .sl (.loc 3) 2 none s.cells.length, .sl (.loc 4) 2 none s.back.length, .int .i64 s.y, .int .i64 s.x, .prop (s.wrap = true), .int .i64 s.attr, .int .i64 s.top, .int .i64 s.bottom, .prop (s.origin = true), .prop (s.autow = true), .prop (s.insert = true), .sl (.loc 5) 1 none s.tabs.length, .int .i64 s.keptY, .int .i64 s.keptX, .int .i64 s.keptA, .sl (.loc 6) 1 none s.sets.length, .int .i64 s.shift, .int .i64 s.bells]⟩, ⟨.loc 3, false, .arr pairE s.cells⟩, ⟨.loc 4, false, .arr pairE s.back⟩, ⟨.loc 5, false, .arr boolE s.tabs⟩, ⟨.loc 6, false, .arr (intE .i64) s.sets⟩], 8⟩, 43, 7⟩)
      (fun i => i ≤ s.tabs.length) (fun i => s.tabs.length - i) 0 (by omega) ?_ ?_
  · have e : l ++ ([27] ++ bytesL { data := #[91, 51, 103] }) = l ++ [27, 91, 51, 103] ++ tabTo s.tabs 0 := by simp [tabTo, bytesL]
    have e2 := congrArg List.length e
    ((try dsimp only); repeat' (first | exact True.intro | (apply And.intro; (case left => (first | exact trivial | exact not_false | omega | exact rfl | exact Iff.rfl | with_reducible assumption | exact PreC.self _ _ | exact PreC.of_eq (by with_reducible assumption) | exact PreC.of_eq' (by with_reducible assumption) | exact PreC.self' _ _ _ | exact PreC.pre (by with_reducible assumption) | exact ⟨5, rfl⟩ | exact ⟨9, rfl⟩ | exact ⟨2, rfl⟩ | exact ⟨4, rfl⟩ | exact ⟨78, rfl⟩ |  (simp only [List.length_append, List.length_take, List.length_drop]; omega) | (simp; done) | (simp; omega) ))) | ((conv => whnf); apply And.intro; (case left => (first | exact trivial | exact not_false | omega | exact rfl | exact Iff.rfl | with_reducible assumption | exact PreC.self _ _ | exact PreC.of_eq (by with_reducible assumption) | exact PreC.of_eq' (by with_reducible assumption) | exact PreC.self' _ _ _ | exact PreC.pre (by with_reducible assumption) | exact ⟨5, rfl⟩ | exact ⟨9, rfl⟩ | exact ⟨2, rfl⟩ | exact ⟨4, rfl⟩ | exact ⟨78, rfl⟩ |  (simp only [List.length_append, List.length_take, List.length_drop]; omega) | (simp; done) | (simp; omega) ))) | ((conv => whnf); exact True.intro)))
  · intro i hi
    have hq := tabTo_len s.tabs i
    have hb := placeB_len 0 i
    have hll : (l ++ [27, 91, 51, 103] ++ tabTo s.tabs i).length = l.length + 4 + (tabTo s.tabs i).length := by simp; omega
    conv => whnf
    repeat' (first | (refine Seal.mk ?_) | (refine wpA_seq ?_) | (refine wpA_region rfl ?_) | (refine wpA_block ?_) | (refine wpA_loop ?_) | (refine wpA_draw ?_) | (refine drawA_all ?_) | (refine drawA_fork2 ?_ ?_) | (refine opsA_cons ?_; (conv => whnf)) | (refine opsA_nil ?_; (conv => whnf)) | (refine wpA_cond ?_; (conv => whnf)) | (refine wpA_skip ?_; (conv => whnf)) | (refine wpA_exit ?_; (conv => whnf)) | (refine wpA_ret ?_; (conv => whnf)) | (refine stillA_cons ?_; (conv => whnf)) | (refine stillA_nil ?_; (conv => whnf)) | (refine drawA_done ?_; (conv => whnf)) | (refine drawA_quick rfl ?_; (conv => whnf)) | (refine drawA_read rfl ?_; (conv => whnf)) | (refine drawA_step rfl ?_; (conv => whnf)) | (refine Wp.draw (id := 8) hS (.quick 0 (.quick 1 (.quick 2 (.quick 3 (.quick 9 (.quick 10 (.quick 11 (.all (.fork (.step 4 (.quick 5 (.all (.fork (.step 6 (.quick 7 (.quick 8 (.all (.step 12 (.quick 13 (.all (.step 14 (.quick 15 (.quick 16 (.all (.step 17 .done)))))))))))) (.step 12 (.quick 13 (.all (.step 6 (.quick 7 (.quick 8 (.all (.step 14 (.quick 15 (.quick 16 (.all (.step 17 .done)))))))))))))))) (.step 12 (.quick 13 (.all (.step 4 (.quick 5 (.all (.step 6 (.quick 7 (.quick 8 (.all (.step 14 (.quick 15 (.quick 16 (.all (.step 17 .done)))))))))))))))))))))))) [4, 6, 12, 14, 17] (by kernel_rfl) rfl ?_) | (apply CallA.liftC hS (place _ _ _ _ _ _ _ _); (conv => whnf)) | (apply CallA.liftC hS (esc _ _ _ _); (conv => whnf)) | (apply CallA.liftC hS (digits _ _ _); (conv => whnf)) | (intro _; omega) | (intro _; (conv => whnf)) | (apply And.intro <;> intro _ <;> first | omega | (conv => whnf)) | (apply And.intro; (case left => (first | exact trivial | exact not_false | omega | exact rfl | exact Iff.rfl | exact PreC.self _ _ | with_reducible assumption | (simp only [inR, IntKind.bits, Int.reduceToNat, Int.reducePow]; omega) | (simp only [List.length_append, List.length_take, List.length_drop]; omega) | (simp; done) | (simp; omega) | (simp [bytesL]; done) | (simp [bytesL]; omega))); (conv => whnf)) | (apply Or.inl; apply And.intro; (case left => (first | exact trivial | exact not_false | omega | exact rfl | exact Iff.rfl | exact PreC.self _ _ | with_reducible assumption | (simp only [inR, IntKind.bits, Int.reduceToNat, Int.reducePow]; omega) | (simp only [List.length_append, List.length_take, List.length_drop]; omega) | (simp; done) | (simp; omega) | (simp [bytesL]; done) | (simp [bytesL]; omega))); (conv => whnf)) | (apply Or.inr; (conv => whnf)) | (refine Exists.intro _ (And.intro rfl ?_); (conv => whnf)) | (refine Exists.intro _ (And.intro (And.intro rfl rfl) ?_); (conv => whnf)) | (refine Exists.intro (intE .u8) (And.intro ⟨rfl, fun _ => rfl⟩ ?_); (conv => whnf)) | (refine Exists.intro _ (And.intro (And.intro rfl (And.intro rfl ?leaf)) ?_); (case leaf => (first | exact rfl | omega | (simp; done) | (simp; omega))); (conv => whnf)) | with_reducible assumption | omega | (simp only [List.length_append]; omega) | (simp [bytesL]; omega) | (simp [bytesL]; done))
    all_goals first
      | (have e := tabTo_yes (l ++ [27, 91, 51, 103]) (t := s.tabs) (i := i) (by assumption); have e2 := congrArg List.length e; simp only [List.length_append] at e2; refine ⟨i + 1, ⟨by omega, by omega⟩, ?_⟩; ((try dsimp only); repeat' (first | exact True.intro | (apply And.intro; (case left => (first | exact trivial | exact not_false | omega | exact rfl | exact Iff.rfl | with_reducible assumption | exact PreC.self _ _ | exact PreC.of_eq (by with_reducible assumption) | exact PreC.of_eq' (by with_reducible assumption) | exact PreC.self' _ _ _ | exact PreC.pre (by with_reducible assumption) | exact ⟨5, rfl⟩ | exact ⟨9, rfl⟩ | exact ⟨2, rfl⟩ | exact ⟨4, rfl⟩ | exact ⟨78, rfl⟩ |  (simp only [List.length_append, List.length_take, List.length_drop]; omega) | (simp; done) | (simp; omega) ))) | ((conv => whnf); apply And.intro; (case left => (first | exact trivial | exact not_false | omega | exact rfl | exact Iff.rfl | with_reducible assumption | exact PreC.self _ _ | exact PreC.of_eq (by with_reducible assumption) | exact PreC.of_eq' (by with_reducible assumption) | exact PreC.self' _ _ _ | exact PreC.pre (by with_reducible assumption) | exact ⟨5, rfl⟩ | exact ⟨9, rfl⟩ | exact ⟨2, rfl⟩ | exact ⟨4, rfl⟩ | exact ⟨78, rfl⟩ |  (simp only [List.length_append, List.length_take, List.length_drop]; omega) | (simp; done) | (simp; omega) ))) | ((conv => whnf); exact True.intro))); done)
      | (have e := tabTo_no (l ++ [27, 91, 51, 103]) (t := s.tabs) (i := i) (by assumption); have e2 := congrArg List.length e; simp only [List.length_append] at e2; refine ⟨i + 1, ⟨by omega, by omega⟩, ?_⟩; ((try dsimp only); repeat' (first | exact True.intro | (apply And.intro; (case left => (first | exact trivial | exact not_false | omega | exact rfl | exact Iff.rfl | with_reducible assumption | exact PreC.self _ _ | exact PreC.of_eq (by with_reducible assumption) | exact PreC.of_eq' (by with_reducible assumption) | exact PreC.self' _ _ _ | exact PreC.pre (by with_reducible assumption) | exact ⟨5, rfl⟩ | exact ⟨9, rfl⟩ | exact ⟨2, rfl⟩ | exact ⟨4, rfl⟩ | exact ⟨78, rfl⟩ |  (simp only [List.length_append, List.length_take, List.length_drop]; omega) | (simp; done) | (simp; omega) ))) | ((conv => whnf); apply And.intro; (case left => (first | exact trivial | exact not_false | omega | exact rfl | exact Iff.rfl | with_reducible assumption | exact PreC.self _ _ | exact PreC.of_eq (by with_reducible assumption) | exact PreC.of_eq' (by with_reducible assumption) | exact PreC.self' _ _ _ | exact PreC.pre (by with_reducible assumption) | exact ⟨5, rfl⟩ | exact ⟨9, rfl⟩ | exact ⟨2, rfl⟩ | exact ⟨4, rfl⟩ | exact ⟨78, rfl⟩ |  (simp only [List.length_append, List.length_take, List.length_drop]; omega) | (simp; done) | (simp; omega) ))) | ((conv => whnf); exact True.intro))); done)
      | (have hw : i = s.width.toNat := by omega
         have hfin := tabs_end s l hw
         have e2 := congrArg List.length hfin
         simp only [List.length_append] at e2
         (refine ⟨(), trivial, ?_⟩; repeat' (first | exact True.intro | (apply And.intro; (case left => (first | exact trivial | exact not_false | omega | exact rfl | exact Iff.rfl | with_reducible assumption | exact PreC.self _ _ | exact PreC.of_eq (by with_reducible assumption) | exact PreC.of_eq' (by with_reducible assumption) | exact PreC.self' _ _ _ | exact PreC.pre (by with_reducible assumption) | exact ⟨5, rfl⟩ | exact ⟨9, rfl⟩ | exact ⟨2, rfl⟩ | exact ⟨4, rfl⟩ | exact ⟨78, rfl⟩ |  (simp only [List.length_append, List.length_take, List.length_drop]; omega) | (simp; done) | (simp; omega) ))) | ((conv => whnf); apply And.intro; (case left => (first | exact trivial | exact not_false | omega | exact rfl | exact Iff.rfl | with_reducible assumption | exact PreC.self _ _ | exact PreC.of_eq (by with_reducible assumption) | exact PreC.of_eq' (by with_reducible assumption) | exact PreC.self' _ _ _ | exact PreC.pre (by with_reducible assumption) | exact ⟨5, rfl⟩ | exact ⟨9, rfl⟩ | exact ⟨2, rfl⟩ | exact ⟨4, rfl⟩ | exact ⟨78, rfl⟩ |  (simp only [List.length_append, List.length_take, List.length_drop]; omega) | (simp; done) | (simp; omega) ))) | ((conv => whnf); exact True.intro))))
end Go.Dump
