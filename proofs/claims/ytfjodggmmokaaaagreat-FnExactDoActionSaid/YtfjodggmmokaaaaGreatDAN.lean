/- The walks of the law: what is wrong with a screen, as the program tells. -/
import Derived.Test.YtfjodggmmokaaaaGreatDAK
set_option linter.unusedSimpArgs false
set_option linter.unusedVariables false
set_option linter.constructorNameAsVariable false
namespace Go.Mu
open Go Go.Vm Go.RowKit Go.Proofs
attribute [local irreducible] wpA opsA stillA drawA drawS
set_option maxRecDepth 20000
set_option maxHeartbeats 4000000
def cellP (c : Int × Int) : Prop := (0 ≤ c.1 ∧ c.1 ≤ 65535) ∧ ¬ (55296 ≤ c.1 ∧ c.1 ≤ 57343) ∧ 32 ≤ c.1 ∧ ¬ c.1 = 127 ∧ 0 ≤ c.2 ∧ c.2 ≤ 31
def allCells (l : List (Int × Int)) : Prop := ∀ k, k < l.length → cellP (l.getD k (0, 0))
def allSets (l : List Int) : Prop := ∀ k, k < l.length → 1 ≤ l.getD k 0 ∧ l.getD k 0 ≤ 3
theorem inF (x a b : Int) : CallA S 146 [.int .i64 x, .int .i64 a, .int .i64 b] ⟨[], 0⟩ fun v H' =>
    ∃ _ : Unit, True ∧ v = .prop (a ≤ x ∧ x ≤ b) ∧ H' = ⟨[], 0⟩ := by
  refine .ofC hS (fun _ => True) (fun _ => .prop (a ≤ x ∧ x ≤ b)) (fun _ => ⟨[], 0⟩) Tryz.func146 ?_
  conv => whnf
  repeat' (first|refine Seal.mk ?_|(refine wS ?_;(conv=>whnf);fail_if_success show False)|((first|refine opsA_step ?_);conv=>whnf)|(intro _;first|omega|conv=>whnf)|(apply And.intro<;>intro _<;>first|omega|conv=>whnf)|((first|refine aL ?_|refine ⟨_,rfl,?_⟩|refine ⟨_,⟨rfl,rfl⟩,?_⟩|refine ⟨_,⟨rfl,rfl,leaf⟩,?_⟩);conv=>whnf)|with_reducible assumption|exact lf|fail)
  all_goals (refine ⟨(),⟨⟩,?_⟩;exact fz)
theorem isAttr (n : Int) : CallA S 235 [.int .i64 n] ⟨[], 0⟩ fun v H' =>
    ∃ _ : Unit, True ∧ v = .prop (0 ≤ n ∧ n ≤ 31) ∧ H' = ⟨[], 0⟩ := by
  refine .ofC hS (fun _ => True) (fun _ => .prop (0 ≤ n ∧ n ≤ 31)) (fun _ => ⟨[], 0⟩) Tryz.func235 ?_
  conv => whnf
  repeat' (first|refine Seal.mk ?_|(refine wS ?_;(conv=>whnf);fail_if_success show False)|((first|refine opsA_step ?_|apply wL (inF _ _ _));conv=>whnf)|(intro _;first|omega|conv=>whnf)|(apply And.intro<;>intro _<;>first|omega|conv=>whnf)|((first|refine aL ?_|refine ⟨_,rfl,?_⟩|refine ⟨_,⟨rfl,rfl⟩,?_⟩|refine ⟨_,⟨rfl,rfl,leaf⟩,?_⟩);conv=>whnf)|with_reducible assumption|exact lf|fail)
  all_goals (refine ⟨(),⟨⟩,?_⟩;exact fz)
theorem isChar (c : Int) : CallA S 270 [.int .i64 c] ⟨[], 0⟩ fun v H' =>
    ∃ _ : Unit, True ∧ v = .prop ((0 ≤ c ∧ c ≤ 65535) ∧ ¬ (55296 ≤ c ∧ c ≤ 57343)) ∧ H' = ⟨[], 0⟩ := by
  refine .ofC hS (fun _ => True) (fun _ => .prop ((0 ≤ c ∧ c ≤ 65535) ∧ ¬ (55296 ≤ c ∧ c ≤ 57343))) (fun _ => ⟨[], 0⟩) Tryz.func270 ?_
  conv => whnf
  repeat' (first|refine Seal.mk ?_|(refine wS ?_;(conv=>whnf);fail_if_success show False)|((first|refine opsA_step ?_|apply wL (inF _ _ _));conv=>whnf)|(intro _;first|omega|conv=>whnf)|(apply And.intro<;>intro _<;>first|omega|conv=>whnf)|((first|refine aL ?_|refine ⟨_,rfl,?_⟩|refine ⟨_,⟨rfl,rfl⟩,?_⟩|refine ⟨_,⟨rfl,rfl,leaf⟩,?_⟩);conv=>whnf)|with_reducible assumption|exact lf|fail)
  all_goals (refine ⟨(),⟨⟩,?_⟩;exact fz)
theorem shows (c : Int) : CallA S 242 [.int .i64 c] ⟨[], 0⟩ fun v H' =>
    ∃ _ : Unit, True ∧ v = .prop (((0 ≤ c ∧ c ≤ 65535) ∧ ¬ (55296 ≤ c ∧ c ≤ 57343)) ∧ 32 ≤ c ∧ ¬ c = 127) ∧ H' = ⟨[], 0⟩ := by
  refine .ofC hS (fun _ => True) (fun _ => .prop (((0 ≤ c ∧ c ≤ 65535) ∧ ¬ (55296 ≤ c ∧ c ≤ 57343)) ∧ 32 ≤ c ∧ ¬ c = 127)) (fun _ => ⟨[], 0⟩) Tryz.func242 ?_
  conv => whnf
  repeat' (first|refine Seal.mk ?_|(refine wS ?_;(conv=>whnf);fail_if_success show False)|((first|refine opsA_step ?_|apply wL (isChar _));conv=>whnf)|(intro _;first|omega|conv=>whnf)|(apply And.intro<;>intro _<;>first|omega|conv=>whnf)|((first|refine aL ?_|refine ⟨_,rfl,?_⟩|refine ⟨_,⟨rfl,rfl⟩,?_⟩|refine ⟨_,⟨rfl,rfl,leaf⟩,?_⟩);conv=>whnf)|with_reducible assumption|exact lf|fail)
  all_goals (refine ⟨(),⟨⟩,?_⟩;exact fz)
theorem cellOk (c : Int × Int) : CallA S 233 [.agg [.int .i64 c.1, .int .i64 c.2]] ⟨[], 0⟩ fun v H' =>
    ∃ _ : Unit, True ∧ v = .prop (cellP c) ∧ H' = ⟨[], 0⟩ := by
  refine .ofC hS (fun _ => True) (fun _ => .prop (cellP c)) (fun _ => ⟨[], 0⟩) Tryz.func233 ?_
  conv => whnf
  repeat' (first|refine Seal.mk ?_|(refine wS ?_;(conv=>whnf);fail_if_success show False)|((first|refine opsA_step ?_|apply wL (shows _)|apply wL (isAttr _));conv=>whnf)|(intro _;first|omega|conv=>whnf)|(apply And.intro<;>intro _<;>first|omega|conv=>whnf)|((first|refine aL ?_|refine ⟨_,rfl,?_⟩|refine ⟨_,⟨rfl,rfl⟩,?_⟩|refine ⟨_,⟨rfl,rfl,leaf⟩,?_⟩);conv=>whnf)|with_reducible assumption|exact lf|fail)
  all_goals (unfold cellP; (refine ⟨(),⟨⟩,?_⟩;exact fz))
theorem wrongCell (c : Int × Int) : CallA S 232 [.agg [.int .i64 c.1, .int .i64 c.2]] ⟨[], 0⟩ fun v H' =>
    ∃ _ : Unit, True ∧ v = .prop (¬ cellP c) ∧ H' = ⟨[], 0⟩ := by
  refine .ofC hS (fun _ => True) (fun _ => .prop (¬ cellP c)) (fun _ => ⟨[], 0⟩) Tryz.func232 ?_
  conv => whnf
  repeat' (first|refine Seal.mk ?_|(refine wS ?_;(conv=>whnf);fail_if_success show False)|((first|refine opsA_step ?_|apply wL (cellOk _));conv=>whnf)|(intro _;first|omega|conv=>whnf)|(apply And.intro<;>intro _<;>first|omega|conv=>whnf)|((first|refine aL ?_|refine ⟨_,rfl,?_⟩|refine ⟨_,⟨rfl,rfl⟩,?_⟩|refine ⟨_,⟨rfl,rfl,leaf⟩,?_⟩);conv=>whnf)|with_reducible assumption|exact lf|fail)
  all_goals (refine ⟨(),⟨⟩,?_⟩;exact fz)
theorem wrongSet (n : Int) : CallA S 237 [.int .i64 n] ⟨[], 0⟩ fun v H' =>
    ∃ _ : Unit, True ∧ v = .prop (¬ (1 ≤ n ∧ n ≤ 3)) ∧ H' = ⟨[], 0⟩ := by
  refine .ofC hS (fun _ => True) (fun _ => .prop (¬ (1 ≤ n ∧ n ≤ 3))) (fun _ => ⟨[], 0⟩) Tryz.func237 ?_
  conv => whnf
  repeat' (first|refine Seal.mk ?_|(refine wS ?_;(conv=>whnf);fail_if_success show False)|((first|refine opsA_step ?_|apply wL (inF _ _ _));conv=>whnf)|(intro _;first|omega|conv=>whnf)|(apply And.intro<;>intro _<;>first|omega|conv=>whnf)|((first|refine aL ?_|refine ⟨_,rfl,?_⟩|refine ⟨_,⟨rfl,rfl⟩,?_⟩|refine ⟨_,⟨rfl,rfl,leaf⟩,?_⟩);conv=>whnf)|with_reducible assumption|exact lf|fail)
  all_goals (refine ⟨(),⟨⟩,?_⟩;exact fz)
theorem indexCell (xs : List (Int × Int)) (hx : xs.length ≤ 1048576) : CallA S 317 [.sl (.loc 0) 2 none xs.length, .fn 232 []] ⟨[⟨.loc 0, false, .arr pairE xs⟩], 1⟩ fun v H' =>
    ∃ g : Int, (g < 0 ↔ allCells xs) ∧ v = .int .i64 g ∧ H' = ⟨[], 1⟩ := by
  refine .ofC hS (fun g : Int => (g < 0 ↔ allCells xs)) (fun g => .int .i64 g) (fun _ => ⟨[], 1⟩) Tryz.func317 ?_
  conv => whnf
  repeat' (first|refine Seal.mk ?_|(refine wS ?_;(conv=>whnf);fail_if_success show False)|((first|refine opsA_step ?_);conv=>whnf)|(intro _;first|omega|conv=>whnf)|(apply And.intro<;>intro _<;>first|omega|conv=>whnf)|((first|refine aL ?_|refine oL ?_|refine ⟨_,rfl,?_⟩|refine ⟨_,⟨rfl,rfl⟩,?_⟩|refine ⟨_,⟨rfl,rfl,leaf⟩,?_⟩);conv=>whnf)|with_reducible assumption|exact lf|fail)
  refine .loop hS (γ := Nat) (fun i => ⟨[(0, .sl (.loc 0) 2 none xs.length), (1, .fn 232 []), (7, .int .i64 xs.length), (8, .int .i64 i)],
      ⟨[⟨.loc 0, false, .arr pairE xs⟩], 1⟩, 19, 1⟩) (fun i => i ≤ xs.length ∧ ∀ k, k < i → cellP (xs.getD k (0, 0))) (fun i => xs.length - i) 0 ⟨by omega, by omega⟩ ?_ ?_
  · ((try dsimp only);exact fz)
  · intro i hi
    obtain ⟨hi, hk⟩ := hi
    conv => whnf
    repeat' (first|refine Seal.mk ?_|(refine wS ?_;(conv=>whnf);fail_if_success show False)|((first|refine opsA_step ?_|apply wL (wrongCell _));conv=>whnf)|(intro _;first|omega|conv=>whnf)|(apply And.intro<;>intro _<;>first|omega|conv=>whnf)|((first|refine aL ?_|refine oL ?_|refine ⟨_,rfl,?_⟩|refine ⟨_,⟨rfl,rfl⟩,?_⟩|refine ⟨_,⟨rfl,rfl,leaf⟩,?_⟩);conv=>whnf)|with_reducible assumption|exact lf|fail)
    · refine ⟨(i : Int), ⟨fun h => by omega, fun h => absurd (h i (by omega)) ‹_›⟩, ?_⟩
      ((try dsimp only);exact fz)
    · refine ⟨i + 1, ⟨⟨by omega, fun k hk' => ?_⟩, by omega⟩, ?_⟩
      · rcases Nat.lt_or_eq_of_le (Nat.le_of_lt_succ hk') with q | q
        · exact hk k q
        · subst q; exact Classical.not_not.1 ‹_›
      · ((try dsimp only);exact fz)
    · refine ⟨-1, ⟨fun _ k hk' => hk k (by omega), fun _ => by omega⟩, ?_⟩
      ((try dsimp only);exact fz)
theorem indexSet (xs : List Int) (hx : xs.length ≤ 1048576) : CallA S 318 [.sl (.loc 0) 1 none xs.length, .fn 237 []] ⟨[⟨.loc 0, false, .arr (intE .i64) xs⟩], 1⟩ fun v H' =>
    ∃ g : Int, (g < 0 ↔ allSets xs) ∧ v = .int .i64 g ∧ H' = ⟨[], 1⟩ := by
  refine .ofC hS (fun g : Int => (g < 0 ↔ allSets xs)) (fun g => .int .i64 g) (fun _ => ⟨[], 1⟩) Tryz.func318 ?_
  conv => whnf
  repeat' (first|refine Seal.mk ?_|(refine wS ?_;(conv=>whnf);fail_if_success show False)|((first|refine opsA_step ?_);conv=>whnf)|(intro _;first|omega|conv=>whnf)|(apply And.intro<;>intro _<;>first|omega|conv=>whnf)|((first|refine aL ?_|refine oL ?_|refine ⟨_,rfl,?_⟩|refine ⟨_,⟨rfl,rfl⟩,?_⟩|refine ⟨_,⟨rfl,rfl,leaf⟩,?_⟩);conv=>whnf)|with_reducible assumption|exact lf|fail)
  refine .loop hS (γ := Nat) (fun i => ⟨[(0, .sl (.loc 0) 1 none xs.length), (1, .fn 237 []), (7, .int .i64 xs.length), (8, .int .i64 i)],
      ⟨[⟨.loc 0, false, .arr (intE .i64) xs⟩], 1⟩, 19, 1⟩) (fun i => i ≤ xs.length ∧ ∀ k, k < i → 1 ≤ xs.getD k 0 ∧ xs.getD k 0 ≤ 3) (fun i => xs.length - i) 0 ⟨by omega, by omega⟩ ?_ ?_
  · ((try dsimp only);exact fz)
  · intro i hi
    obtain ⟨hi, hk⟩ := hi
    conv => whnf
    repeat' (first|refine Seal.mk ?_|(refine wS ?_;(conv=>whnf);fail_if_success show False)|((first|refine opsA_step ?_|apply wL (wrongSet _));conv=>whnf)|(intro _;first|omega|conv=>whnf)|(apply And.intro<;>intro _<;>first|omega|conv=>whnf)|((first|refine aL ?_|refine oL ?_|refine ⟨_,rfl,?_⟩|refine ⟨_,⟨rfl,rfl⟩,?_⟩|refine ⟨_,⟨rfl,rfl,leaf⟩,?_⟩);conv=>whnf)|with_reducible assumption|exact lf|fail)
    · refine ⟨(i : Int), ⟨fun h => by omega, fun h => absurd (h i (by omega)) ‹_›⟩, ?_⟩
      ((try dsimp only);exact fz)
    · refine ⟨i + 1, ⟨⟨by omega, fun k hk' => ?_⟩, by omega⟩, ?_⟩
      · rcases Nat.lt_or_eq_of_le (Nat.le_of_lt_succ hk') with q | q
        · exact hk k q
        · subst q; exact Classical.not_not.1 ‹_›
      · ((try dsimp only);exact fz)
    · refine ⟨-1, ⟨fun _ k hk' => hk k (by omega), fun _ => by omega⟩, ?_⟩
      ((try dsimp only);exact fz)
theorem containsCell (xs : List (Int × Int)) (hx : xs.length ≤ 1048576) : CallA S 234 [.sl (.loc 0) 2 none xs.length, .fn 232 []] ⟨[⟨.loc 0, false, .arr pairE xs⟩], 1⟩ fun v H' =>
    ∃ _ : Unit, True ∧ v = .prop (¬ allCells xs) ∧ H' = ⟨[], 1⟩ := by
  refine .ofC hS (fun _ => True) (fun _ => .prop (¬ allCells xs)) (fun _ => ⟨[], 1⟩) Tryz.func234 ?_
  conv => whnf
  repeat' (first|refine Seal.mk ?_|(refine wS ?_;(conv=>whnf);fail_if_success show False)|((first|refine opsA_step ?_|apply wL (indexCell _ _));conv=>whnf)|(intro _;first|omega|conv=>whnf)|(apply And.intro<;>intro _<;>first|omega|conv=>whnf)|((first|refine aL ?_|refine ⟨_,rfl,?_⟩|refine ⟨_,⟨rfl,rfl⟩,?_⟩|refine ⟨_,⟨rfl,rfl,leaf⟩,?_⟩);conv=>whnf)|with_reducible assumption|exact lf|fail)
  rename_i g h
  (refine ⟨(), trivial, ?_⟩; (try refine FitsT.now hS ?_); (conv => whnf); apply And.intro; (case right => (repeat' (first|exact ⟨⟩|(apply And.intro;focus exact leaf)|((conv=>whnf);first|exact ⟨⟩|(apply And.intro;focus exact leaf))|fail))))
  rw [← h]; omega
theorem containsSet (xs : List Int) (hx : xs.length ≤ 1048576) : CallA S 236 [.sl (.loc 0) 1 none xs.length, .fn 237 []] ⟨[⟨.loc 0, false, .arr (intE .i64) xs⟩], 1⟩ fun v H' =>
    ∃ _ : Unit, True ∧ v = .prop (¬ allSets xs) ∧ H' = ⟨[], 1⟩ := by
  refine .ofC hS (fun _ => True) (fun _ => .prop (¬ allSets xs)) (fun _ => ⟨[], 1⟩) Tryz.func236 ?_
  conv => whnf
  repeat' (first|refine Seal.mk ?_|(refine wS ?_;(conv=>whnf);fail_if_success show False)|((first|refine opsA_step ?_|apply wL (indexSet _ _));conv=>whnf)|(intro _;first|omega|conv=>whnf)|(apply And.intro<;>intro _<;>first|omega|conv=>whnf)|((first|refine aL ?_|refine ⟨_,rfl,?_⟩|refine ⟨_,⟨rfl,rfl⟩,?_⟩|refine ⟨_,⟨rfl,rfl,leaf⟩,?_⟩);conv=>whnf)|with_reducible assumption|exact lf|fail)
  rename_i g h
  (refine ⟨(), trivial, ?_⟩; (try refine FitsT.now hS ?_); (conv => whnf); apply And.intro; (case right => (repeat' (first|exact ⟨⟩|(apply And.intro;focus exact leaf)|((conv=>whnf);first|exact ⟨⟩|(apply And.intro;focus exact leaf))|fail))))
  rw [← h]; omega
def wr (n : Int) : Int := IntKind.i64.wrap n
theorem wr_in {n : Int} (h : -9223372036854775808 ≤ n) (h' : n ≤ 9223372036854775807) : wr n = n := wrap_in (k := .i64) ⟨h, h'⟩
open Classical in
noncomputable def gridF (r w : Int) (cs bs : List (Int × Int)) : Int :=
  if ¬ ((1 ≤ r ∧ r ≤ 6) ∧ 2 ≤ w ∧ w ≤ 12) then 3
  else if ¬ (cs.length : Int) = r * w ∨ 5 * w < (bs.length : Int) ∨ ¬ (bs.length : Int) % w = 0 then 1
  else if allCells cs ∧ allCells bs then 0 else 3
theorem gridF_spec (r w : Int) (cs bs : List (Int × Int)) : (¬ ((1 ≤ r ∧ r ≤ 6) ∧ 2 ≤ w ∧ w ≤ 12) → gridF r w cs bs = 3) ∧
    (((1 ≤ r ∧ r ≤ 6) ∧ 2 ≤ w ∧ w ≤ 12) → (¬ (cs.length : Int) = r * w ∨ 5 * w < (bs.length : Int) ∨ ¬ (bs.length : Int) % w = 0) → gridF r w cs bs = 1) ∧
    (((1 ≤ r ∧ r ≤ 6) ∧ 2 ≤ w ∧ w ≤ 12) → ¬ (¬ (cs.length : Int) = r * w ∨ 5 * w < (bs.length : Int) ∨ ¬ (bs.length : Int) % w = 0) → (allCells cs ∧ allCells bs) → gridF r w cs bs = 0) ∧
    (((1 ≤ r ∧ r ≤ 6) ∧ 2 ≤ w ∧ w ≤ 12) → ¬ (¬ (cs.length : Int) = r * w ∨ 5 * w < (bs.length : Int) ∨ ¬ (bs.length : Int) % w = 0) → ¬ (allCells cs ∧ allCells bs) → gridF r w cs bs = 3) := by
  unfold gridF
  refine ⟨fun h => ?_, fun h h2 => ?_, fun h h2 h3 => ?_, fun h h2 h3 => ?_⟩
  · rw [if_pos h]
  · rw [if_neg (not_not_intro h), if_pos h2]
  · rw [if_neg (not_not_intro h), if_neg h2, if_pos h3]
  · rw [if_neg (not_not_intro h), if_neg h2, if_neg h3]
theorem area {r w : Int} (h : (1 ≤ r ∧ r ≤ 6) ∧ 2 ≤ w ∧ w ≤ 12) : 2 ≤ r * w ∧ r * w ≤ 72 := by
  obtain ⟨⟨h1, h2⟩, h3, h4⟩ := h
  have : r = 1 ∨ r = 2 ∨ r = 3 ∨ r = 4 ∨ r = 5 ∨ r = 6 := by omega
  rcases this with rfl | rfl | rfl | rfl | rfl | rfl <;> omega
theorem sizeOk (r w : Int) : CallA S 231 [.int .i64 r, .int .i64 w] ⟨[], 0⟩ fun v H' =>
    ∃ _ : Unit, True ∧ v = .prop ((1 ≤ r ∧ r ≤ 6) ∧ 2 ≤ w ∧ w ≤ 12) ∧ H' = ⟨[], 0⟩ := by
  refine .ofC hS (fun _ => True) (fun _ => .prop ((1 ≤ r ∧ r ≤ 6) ∧ 2 ≤ w ∧ w ≤ 12)) (fun _ => ⟨[], 0⟩) Tryz.func231 ?_
  conv => whnf
  repeat' (first|refine Seal.mk ?_|(refine wS ?_;(conv=>whnf);fail_if_success show False)|((first|refine opsA_step ?_|apply wL (inF _ _ _));conv=>whnf)|(intro _;first|omega|conv=>whnf)|(apply And.intro<;>intro _<;>first|omega|conv=>whnf)|((first|refine aL ?_|refine ⟨_,rfl,?_⟩|refine ⟨_,⟨rfl,rfl⟩,?_⟩|refine ⟨_,⟨rfl,rfl,leaf⟩,?_⟩);conv=>whnf)|with_reducible assumption|exact lf|fail)
  all_goals (refine ⟨(),⟨⟩,?_⟩;exact fz)
theorem unlessF (p : Prop) (c : Int) : CallA S 83 [.prop p, .int .i64 c] ⟨[], 0⟩ fun v H' =>
    ∃ g : Int, ((p → g = 0) ∧ (¬ p → g = c)) ∧ v = .int .i64 g ∧ H' = ⟨[], 0⟩ := by
  refine .ofC hS (fun g : Int => (p → g = 0) ∧ (¬ p → g = c)) (fun g => .int .i64 g) (fun _ => ⟨[], 0⟩) Tryz.func83 ?_
  conv => whnf
  repeat' (first|refine Seal.mk ?_|(refine wS ?_;(conv=>whnf);fail_if_success show False)|((first|refine opsA_step ?_);conv=>whnf)|(intro _;first|omega|conv=>whnf)|(apply And.intro<;>intro _<;>first|omega|conv=>whnf)|((first|refine aL ?_|refine ⟨_,rfl,?_⟩|refine ⟨_,⟨rfl,rfl⟩,?_⟩|refine ⟨_,⟨rfl,rfl,leaf⟩,?_⟩);conv=>whnf)|with_reducible assumption|exact lf|fail)
  · exact ⟨0, ⟨fun _ => rfl, fun h => absurd ‹p› h⟩, by exact fz⟩
  · exact ⟨c, ⟨fun h => absurd h ‹¬p›, fun _ => rfl⟩, by exact fz⟩
theorem gridFault (r w : Int) (cs bs : List (Int × Int)) (hc : cs.length ≤ 1048576) (hb : bs.length ≤ 1048576) : CallA S 143 [.agg [.int .i64 r, .int .i64 w, .sl (.loc 0) 2 none cs.length, .sl (.loc 1) 2 none bs.length]]
    ⟨[⟨.loc 0, false, .arr pairE cs⟩, ⟨.loc 1, false, .arr pairE bs⟩], 2⟩ fun v H' =>
    ∃ g : Int, (g = gridF r w cs bs ∧ True) ∧ v = .int .i64 g ∧ H' = ⟨[], 2⟩ := by
  refine .ofC hS (fun g : Int => g = gridF r w cs bs ∧ True) (fun g => .int .i64 g) (fun _ => ⟨[], 2⟩) Tryz.func143 ?_
  have ha := area (r := r) (w := w)
  conv => whnf
  repeat' (first|refine Seal.mk ?_|(refine wS ?_;(conv=>whnf);fail_if_success show False)|((first|refine opsA_step ?_|apply wL (sizeOk _ _)|apply wL (containsCell _ _)|apply wL (unlessF _ _));conv=>whnf)|(intro _;first|omega|conv=>whnf)|(apply And.intro<;>intro _<;>first|omega|conv=>whnf)|((first|refine aL ?_|refine oL ?_|refine ⟨_,rfl,?_⟩|refine ⟨_,⟨rfl,rfl⟩,?_⟩|refine ⟨_,⟨rfl,rfl,leaf⟩,?_⟩);conv=>whnf)|with_reducible assumption|exact lf|fail)
  all_goals (apply Exists.intro; apply And.intro; (case right => exact fz))
  all_goals (obtain ⟨e1, e2, e3, e4⟩ := gridF_spec r w cs bs; refine ⟨?_, trivial⟩)
  · exact (e1 ‹_›).symm
  · exact (e2 (by omega) (by omega)).symm
  · exact (e2 (by omega) (by omega)).symm
  · exact (e2 (by omega) (by omega)).symm
  all_goals (have e3 := e3 (by omega) (by omega); have e4 := e4 (by omega) (by omega); clear e1 e2)
  all_goals (by_cases p1 : allCells cs <;> by_cases p2 : allCells bs <;> simp_all)
end Go.Mu
