/- The walks of the law on dumps: all that the reference puts out. -/
import Derived.Test.YtfndendpfahbcaaGreatDoorD12
import Derived.Test.YtfndendpfahbcaaGreatDoorD13
import Derived.Test.YtfndendpfahbcaaGreatDoorD9
set_option linter.unusedSimpArgs false
set_option linter.unusedVariables false
namespace Go.Dump
open Go Go.Vm Go.RowKit Go.Proofs
attribute [local irreducible] wpA opsA stillA drawA drawS
set_option maxRecDepth 20000
set_option maxHeartbeats 4000000

def rowsTo (s : Scr) : Nat → List Int
  | 0 => []
  | i + 1 => rowsTo s i ++ rowB s i
def dumpB (s : Scr) : List Int := rowsTo s s.rows.toNat ++ tabsB s ++ (regB s ++ cursB s) ++ modesB s
theorem rowsTo_len {s : Scr} (h : s.width ≤ 12) (i : Nat) : (rowsTo s i).length ≤ 176 * i := by
  induction i with
  | zero => simp [rowsTo]
  | succ i ih =>
    have := rowB_len s i h
    rw [rowsTo, List.length_append]; omega
theorem tabsB_len {s : Scr} (h : s.width ≤ 12) : (tabsB s).length ≤ 124 := by
  have := tabTo_len s.tabs s.width.toNat
  unfold tabsB
  simp only [List.length_append, List.length_cons, List.length_nil]; omega
theorem regB_len (s : Scr) : (regB s).length ≤ 8 := by
  have d1 := dg_len (s.top + 1)
  have d2 := dg_len (s.bottom + 1)
  rw [← reg_eq]; simp [bytesL]; omega
theorem cursB_len (s : Scr) : (cursB s).length ≤ 27 := by
  have h1 := placeB_len (s.y - baseOf s) s.x
  have h2 := attrB_len (cellAt s s.y s.x.toNat).2
  have h3 := encB_len (cellAt s s.y s.x.toNat).1
  unfold cursB origB wrapB
  simp only [List.length_append]
  split <;> split <;> simp only [List.length_append, List.length_cons, List.length_nil] <;> omega
theorem modesB_len (s : Scr) : (modesB s).length ≤ 27 := by
  have h1 := attrB_len s.attr
  have h2 := setsTo_len s.sets 2
  unfold modesB shiftB insB autoB
  simp only [List.length_append]
  split <;> split <;> split <;> simp only [List.length_append, List.length_cons, List.length_nil] <;> omega
attribute [local irreducible] regB cursB tabsB modesB rowB

theorem l7Dump (s : Scr) (hg : Good s) : CallA S 17 [.ptr (.loc 0) 20 none 0]
    ⟨[⟨.loc 0, false, .raw [.int .i64 s.rows, .int .i64 s.width, .sl (.loc 1) 2 none s.cells.length, .sl (.loc 2) 2 none s.back.length, .int .i64 s.y, .int .i64 s.x, .prop (s.wrap = true), .int .i64 s.attr, .int .i64 s.top, .int .i64 s.bottom, .prop (s.origin = true), .prop (s.autow = true), .prop (s.insert = true), .sl (.loc 3) 1 none s.tabs.length, .int .i64 s.keptY, .int .i64 s.keptX, .int .i64 s.keptA, .sl (.loc 4) 1 none s.sets.length, .int .i64 s.shift, .int .i64 s.bells]⟩, ⟨.loc 1, false, .arr pairE s.cells⟩, ⟨.loc 2, false, .arr pairE s.back⟩, ⟨.loc 3, false, .arr boolE s.tabs⟩, ⟨.loc 4, false, .arr (intE .i64) s.sets⟩], 5⟩ fun v H' =>
    ∃ _ : Unit, True ∧ v = .sl (.loc 5) 1 none (dumpB s).length ∧ H' = ⟨[⟨.loc 5, true, .arr (intE .u8) (dumpB s)⟩], 6⟩ := by
  refine .ofC hS (fun _ => True) (fun _ => .sl (.loc 5) 1 none (dumpB s).length) (fun _ => ⟨[⟨.loc 5, true, .arr (intE .u8) (dumpB s)⟩], 6⟩) Tryz.func17 ?_
  have hr := hg.right
  have hs := hr.size
  have k1 := tabsB_len (s := s) (by omega)
  have k2 := regB_len s
  have k3 := cursB_len s
  have k4 := modesB_len s
  conv => whnf
  repeat' (first | (refine Seal.mk ?_) | (refine wpA_seq ?_) | (refine wpA_region rfl ?_) | (refine wpA_block ?_) | (refine wpA_loop ?_) | (refine wpA_draw ?_) | (refine drawA_all ?_) | (refine drawA_fork2 ?_ ?_) | (refine drawS_all ?_) | (refine drawS_fork2 ?_ ?_) | (refine opsA_cons ?_; (conv => whnf)) | (refine opsA_nil ?_; (conv => whnf)) | (refine wpA_cond ?_; (conv => whnf)) | (refine wpA_skip ?_; (conv => whnf)) | (refine wpA_exit ?_; (conv => whnf)) | (refine wpA_ret ?_; (conv => whnf)) | (refine stillA_cons ?_; (conv => whnf)) | (refine stillA_nil ?_; (conv => whnf)) | (refine drawA_done ?_; (conv => whnf)) | (refine drawA_quick rfl ?_; (conv => whnf)) | (refine drawA_read rfl ?_; (conv => whnf)) | (refine drawA_step rfl ?_; (conv => whnf)) | (refine drawS_done ?_; (conv => whnf)) | (refine drawS_quick rfl ?_; (conv => whnf)) | (refine drawS_stable rfl ?_; (conv => whnf)) | (refine drawS_read rfl ?_; (conv => whnf)) | (refine drawS_step rfl ?_; (conv => whnf)) | (intro _; omega) | (intro _; (conv => whnf)) | (apply And.intro <;> intro _ <;> first | omega | (conv => whnf)) | (apply And.intro; (case left => (first | exact trivial | exact not_false | omega | exact rfl | exact Iff.rfl | exact PreC.self _ _ | with_reducible assumption | (simp only [inR, IntKind.bits, Int.reduceToNat, Int.reducePow]; omega) | (simp only [List.length_append, List.length_take, List.length_drop]; omega) | (simp; done) | (simp; omega) | (simp [bytesL]; done) | (simp [bytesL]; omega))); (conv => whnf)) | (apply Or.inl; apply And.intro; (case left => (first | exact trivial | exact not_false | omega | exact rfl | exact Iff.rfl | exact PreC.self _ _ | with_reducible assumption | (simp only [inR, IntKind.bits, Int.reduceToNat, Int.reducePow]; omega) | (simp only [List.length_append, List.length_take, List.length_drop]; omega) | (simp; done) | (simp; omega) | (simp [bytesL]; done) | (simp [bytesL]; omega))); (conv => whnf)) | (apply Or.inr; (conv => whnf)) | (refine Exists.intro _ (And.intro rfl ?_); (conv => whnf)) | (refine Exists.intro _ (And.intro (And.intro rfl rfl) ?_); (conv => whnf)) | (refine Exists.intro (intE .u8) (And.intro ⟨rfl, fun _ => rfl⟩ ?_); (conv => whnf)) | (refine Exists.intro _ (And.intro (And.intro rfl (And.intro rfl ?leaf)) ?_); (case leaf => (first | exact rfl | omega | (simp; done) | (simp; omega))); (conv => whnf)) | with_reducible assumption | omega | (simp only [List.length_append]; omega) | (simp [bytesL]; omega) | (simp [bytesL]; done))
  refine .loop hS (γ := Nat) (fun i => ⟨[(0, .ptr (.loc 0) 20 none 0), (3, .sl (.loc 5) 1 none (rowsTo s i).length), (4, .int .i64 i)],
      ⟨[⟨.loc 5, true, .arr (intE .u8) (rowsTo s i)⟩, ⟨.loc 0, false, .raw [.int .i64 s.rows, .int .i64 s.width, .sl (.loc 1) 2 none s.cells.length, .sl (.loc 2) 2 none s.back.length, .int .i64 s.y, .int .i64 s.x, .prop (s.wrap = true), .int .i64 s.attr, .int .i64 s.top, .int .i64 s.bottom, .prop (s.origin = true), .prop (s.autow = true), .prop (s.insert = true), .sl (.loc 3) 1 none s.tabs.length, .int .i64 s.keptY, .int .i64 s.keptX, .int .i64 s.keptA, .sl (.loc 4) 1 none s.sets.length, .int .i64 s.shift, .int .i64 s.bells]⟩, ⟨.loc 1, false, .arr pairE s.cells⟩, ⟨.loc 2, false, .arr pairE s.back⟩, ⟨.loc 3, false, .arr boolE s.tabs⟩, ⟨.loc 4, false, .arr (intE .i64) s.sets⟩], 6⟩, 30, 5⟩)
      (fun i => (i : Int) ≤ s.rows) (fun i => s.rows.toNat - i) 0 (by omega) ?_ ?_
  · have e : ([] : List Int) = rowsTo s 0 := rfl
    have e2 := congrArg List.length e
    ((try dsimp only); repeat' (first | exact True.intro | (apply And.intro; (case left => (first | exact trivial | exact not_false | omega | exact rfl | exact Iff.rfl | with_reducible assumption | exact PreC.self _ _ | exact PreC.of_eq (by with_reducible assumption) | exact PreC.of_eq' (by with_reducible assumption) | exact PreC.self' _ _ _ | exact PreC.pre (by with_reducible assumption) | exact ⟨5, rfl⟩ | exact ⟨9, rfl⟩ | exact ⟨2, rfl⟩ | exact ⟨4, rfl⟩ | exact ⟨78, rfl⟩ |  (simp only [List.length_append, List.length_take, List.length_drop]; omega) | (simp; done) | (simp; omega) ))) | ((conv => whnf); apply And.intro; (case left => (first | exact trivial | exact not_false | omega | exact rfl | exact Iff.rfl | with_reducible assumption | exact PreC.self _ _ | exact PreC.of_eq (by with_reducible assumption) | exact PreC.of_eq' (by with_reducible assumption) | exact PreC.self' _ _ _ | exact PreC.pre (by with_reducible assumption) | exact ⟨5, rfl⟩ | exact ⟨9, rfl⟩ | exact ⟨2, rfl⟩ | exact ⟨4, rfl⟩ | exact ⟨78, rfl⟩ |  (simp only [List.length_append, List.length_take, List.length_drop]; omega) | (simp; done) | (simp; omega) ))) | ((conv => whnf); exact True.intro)))
  · intro i hi
    have hq := rowsTo_len (s := s) (by omega) i
    have hrb := rowB_len s i (by omega)
    have t1 := take_all (rowB s i)
    have t2 := take_all (tabsB s)
    have t3 := take_all (regB s ++ cursB s)
    have t4 := take_all (modesB s)
    conv => whnf
    repeat' (first | (refine Seal.mk ?_) | (refine wpA_seq ?_) | (refine wpA_region rfl ?_) | (refine wpA_block ?_) | (refine wpA_loop ?_) | (refine wpA_draw ?_) | (refine drawA_all ?_) | (refine drawA_fork2 ?_ ?_) | (refine drawS_all ?_) | (refine drawS_fork2 ?_ ?_) | (refine opsA_cons ?_; (conv => whnf)) | (refine opsA_nil ?_; (conv => whnf)) | (refine wpA_cond ?_; (conv => whnf)) | (refine wpA_skip ?_; (conv => whnf)) | (refine wpA_exit ?_; (conv => whnf)) | (refine wpA_ret ?_; (conv => whnf)) | (refine stillA_cons ?_; (conv => whnf)) | (refine stillA_nil ?_; (conv => whnf)) | (refine drawA_done ?_; (conv => whnf)) | (refine drawA_quick rfl ?_; (conv => whnf)) | (refine drawA_read rfl ?_; (conv => whnf)) | (refine drawA_step rfl ?_; (conv => whnf)) | (refine drawS_done ?_; (conv => whnf)) | (refine drawS_quick rfl ?_; (conv => whnf)) | (refine drawS_stable rfl ?_; (conv => whnf)) | (refine drawS_read rfl ?_; (conv => whnf)) | (refine drawS_step rfl ?_; (conv => whnf)) | (apply CallA.liftC hS (l7Row s _ hr _ _); (conv => whnf)) | (apply CallA.liftC hS (l7Tabs s hg); (conv => whnf)) | (apply CallA.liftC hS (l7Cursor s hg); (conv => whnf)) | (apply CallA.liftC hS (l7Modes s hg); (conv => whnf)) | (intro _; omega) | (intro _; (conv => whnf)) | (apply And.intro <;> intro _ <;> first | omega | (conv => whnf)) | (apply And.intro; (case left => (first | exact trivial | exact not_false | omega | exact rfl | exact Iff.rfl | exact PreC.self _ _ | with_reducible assumption | (simp only [inR, IntKind.bits, Int.reduceToNat, Int.reducePow]; omega) | (simp only [List.length_append, List.length_take, List.length_drop]; omega) | (simp; done) | (simp; omega) | (simp [bytesL]; done) | (simp [bytesL]; omega))); (conv => whnf)) | (apply Or.inl; apply And.intro; (case left => (first | exact trivial | exact not_false | omega | exact rfl | exact Iff.rfl | exact PreC.self _ _ | with_reducible assumption | (simp only [inR, IntKind.bits, Int.reduceToNat, Int.reducePow]; omega) | (simp only [List.length_append, List.length_take, List.length_drop]; omega) | (simp; done) | (simp; omega) | (simp [bytesL]; done) | (simp [bytesL]; omega))); (conv => whnf)) | (apply Or.inr; (conv => whnf)) | (refine Exists.intro _ (And.intro rfl ?_); (conv => whnf)) | (refine Exists.intro _ (And.intro (And.intro rfl rfl) ?_); (conv => whnf)) | (refine Exists.intro (intE .u8) (And.intro ⟨rfl, fun _ => rfl⟩ ?_); (conv => whnf)) | (refine Exists.intro _ (And.intro (And.intro rfl (And.intro rfl ?leaf)) ?_); (case leaf => (first | exact rfl | omega | (simp; done) | (simp; omega))); (conv => whnf)) | with_reducible assumption | omega | (simp only [List.length_append]; omega) | (simp [bytesL]; omega) | (simp [bytesL]; done))
    all_goals (try simp only [t1, t2, t3, t4])
    all_goals trace_state
    all_goals first
      | (have e : rowsTo s i ++ rowB s i = rowsTo s (i + 1) := rfl; have e2 := congrArg List.length e; simp only [List.length_append] at e2; refine ⟨i + 1, ⟨by omega, by omega⟩, ?_⟩; ((try dsimp only); repeat' (first | exact True.intro | (apply And.intro; (case left => (first | exact trivial | exact not_false | omega | exact rfl | exact Iff.rfl | with_reducible assumption | exact PreC.self _ _ | exact PreC.of_eq (by with_reducible assumption) | exact PreC.of_eq' (by with_reducible assumption) | exact PreC.self' _ _ _ | exact PreC.pre (by with_reducible assumption) | exact ⟨5, rfl⟩ | exact ⟨9, rfl⟩ | exact ⟨2, rfl⟩ | exact ⟨4, rfl⟩ | exact ⟨78, rfl⟩ |  (simp only [List.length_append, List.length_take, List.length_drop]; omega) | (simp; done) | (simp; omega) ))) | ((conv => whnf); apply And.intro; (case left => (first | exact trivial | exact not_false | omega | exact rfl | exact Iff.rfl | with_reducible assumption | exact PreC.self _ _ | exact PreC.of_eq (by with_reducible assumption) | exact PreC.of_eq' (by with_reducible assumption) | exact PreC.self' _ _ _ | exact PreC.pre (by with_reducible assumption) | exact ⟨5, rfl⟩ | exact ⟨9, rfl⟩ | exact ⟨2, rfl⟩ | exact ⟨4, rfl⟩ | exact ⟨78, rfl⟩ |  (simp only [List.length_append, List.length_take, List.length_drop]; omega) | (simp; done) | (simp; omega) ))) | ((conv => whnf); exact True.intro))); done)
      | (have hw : i = s.rows.toNat := by omega
         have e : rowsTo s i ++ tabsB s ++ (regB s ++ cursB s) ++ modesB s = dumpB s := by rw [hw, dumpB]
         have e2 := congrArg List.length e
         simp only [List.length_append] at e2
         (refine ⟨(), trivial, ?_⟩; repeat' (first | exact True.intro | (apply And.intro; (case left => (first | exact trivial | exact not_false | omega | exact rfl | exact Iff.rfl | with_reducible assumption | exact PreC.self _ _ | exact PreC.of_eq (by with_reducible assumption) | exact PreC.of_eq' (by with_reducible assumption) | exact PreC.self' _ _ _ | exact PreC.pre (by with_reducible assumption) | exact ⟨5, rfl⟩ | exact ⟨9, rfl⟩ | exact ⟨2, rfl⟩ | exact ⟨4, rfl⟩ | exact ⟨78, rfl⟩ |  (simp only [List.length_append, List.length_take, List.length_drop]; omega) | (simp; done) | (simp; omega) ))) | ((conv => whnf); apply And.intro; (case left => (first | exact trivial | exact not_false | omega | exact rfl | exact Iff.rfl | with_reducible assumption | exact PreC.self _ _ | exact PreC.of_eq (by with_reducible assumption) | exact PreC.of_eq' (by with_reducible assumption) | exact PreC.self' _ _ _ | exact PreC.pre (by with_reducible assumption) | exact ⟨5, rfl⟩ | exact ⟨9, rfl⟩ | exact ⟨2, rfl⟩ | exact ⟨4, rfl⟩ | exact ⟨78, rfl⟩ |  (simp only [List.length_append, List.length_take, List.length_drop]; omega) | (simp; done) | (simp; omega) ))) | ((conv => whnf); exact True.intro))); done)
end Go.Dump
