/- Screens, as the reference does what numbers ask for. -/
import Derived.Test.YtfjodggmmokaaaaGreatDAK
import Derived.Test.YtfjodggmmokaaaaGreatDBM
import Derived.Test.YtfjodggmmokaaaaGreatDBG
import Derived.Test.YtfjodggmmokaaaaGreatDBP
import Derived.Test.YtfjodggmmokaaaaGreatDBQ
import Derived.Test.YtfjodggmmokaaaaGreatDBS
set_option linter.unusedSimpArgs false
set_option linter.unusedVariables false
set_option linter.constructorNameAsVariable false
namespace Go.Mu
open Go Go.Vm Go.RowKit Go.Proofs
attribute [local irreducible] wpA opsA stillA drawA drawS
set_option maxRecDepth 20000
set_option maxHeartbeats 40000000
theorem l5Params0 (s : Scr) (r w : Nat) (h : OkS s r w) (a : Vm.Act) (hl : 1 ≤ a.params.length ∧ a.params.length ≤ 1000) (hps : ∀ p ∈ a.params, 0 ≤ p ∧ p ≤ 99999) (hc : a.char = 104 ∨ a.char = 108) (hp : a.priv = true) : CallA S 141 [.ptr (.loc 0) 20 none 0, .ptr (.loc 5) 5 none 0] ⟨[⟨.loc 0, true, .raw (scrC (.loc 1) (.loc 2) (.loc 3) (.loc 4) s)⟩, ⟨.loc 1, true, .arr pairE s.grid.cells⟩, ⟨.loc 2, true, .arr pairE s.grid.back⟩, ⟨.loc 3, true, .arr boolE s.tabs⟩, ⟨.loc 5, false, .raw [.int .i64 a.kind, .int .i64 a.char, .int .i64 a.set, .prop (a.priv = true), .sl (.loc 6) 1 none a.params.length]⟩, ⟨.loc 6, false, .arr (intE .i64) a.params⟩], 7⟩ (Ret1 (.tup []) ⟨[⟨.loc 0, true, .raw (scrC (.loc 1) (.loc 7) (.loc 8) (.loc 4) (modesL a.priv (decide (a.char = 104)) s a.params a.params.length : Scr))⟩, ⟨.loc 1, true, .arr pairE (modesL a.priv (decide (a.char = 104)) s a.params a.params.length : Scr).grid.cells⟩, ⟨.loc 7, true, .arr pairE (modesL a.priv (decide (a.char = 104)) s a.params a.params.length : Scr).grid.back⟩, ⟨.loc 8, true, .arr boolE (modesL a.priv (decide (a.char = 104)) s a.params a.params.length : Scr).tabs⟩], 9⟩) := by
  have hz := h.sz
  have hh := h
  obtain ⟨h1, h2, h3, h4, h5, h6, h7, h8, h9, h10, h11, h12, h13, h14, h15, _⟩ := hh
  have hmd := l5Modes1 s r w hz a hl.2 (decide (a.char = 104)) (by simp) hp
  obtain ⟨m1, m2, m3⟩ := modesL_rest a.priv (decide (a.char = 104)) s a.params a.params.length
  have m1' := m1.symm
  have m2' := m2.symm
  have n1 : (modesL a.priv (decide (a.char = 104)) s a.params a.params.length).tabs.length = s.tabs.length := by rw [m1]
  have n2 : (modesL a.priv (decide (a.char = 104)) s a.params a.params.length).grid.cells = s.grid.cells := by rw [m2]
  have n3 : (modesL a.priv (decide (a.char = 104)) s a.params a.params.length).grid.back = s.grid.back := by rw [m2]
  have n2' := n2.symm
  have n3' := n3.symm
  have n4 : (modesL a.priv (decide (a.char = 104)) s a.params a.params.length).grid.back.length = s.grid.back.length := by rw [n3]
  have n5 : (modesL a.priv (decide (a.char = 104)) s a.params a.params.length).grid.cells.length = s.grid.cells.length := by rw [n2]
  have n6 : (modesL a.priv (decide (a.char = 104)) s a.params a.params.length).sets.length = s.sets.length := by rw [m3]
  generalize modesL a.priv (decide (a.char = 104)) s a.params a.params.length = s1 at *
  refine .ofC hS _ _ _ Tryz.func141 ?_
  conv => whnf
  repeat' (first|refine Seal.mk ?_|(refine wS ?_;(conv=>whnf);fail_if_success show False)|((first|refine opsA_step ?_|apply wL (hmd));conv=>whnf)|(intro _;first|omega|conv=>whnf)|(apply And.intro<;>intro _<;>first|omega|conv=>whnf)|((first|refine aLQ ?_|refine ⟨_,rfl,?_⟩|refine ⟨_,⟨rfl,rfl⟩,?_⟩|refine ⟨_,⟨rfl,rfl,leafQ⟩,?_⟩);conv=>whnf)|with_reducible assumption|exact lfQ|fail)
  all_goals (first | contradiction | (exfalso; omega) | (refine ⟨(),⟨⟩,?_⟩;exact fzQ))
theorem l5Params1 (s : Scr) (r w : Nat) (h : OkS s r w) (a : Vm.Act) (hl : 1 ≤ a.params.length ∧ a.params.length ≤ 1000) (hps : ∀ p ∈ a.params, 0 ≤ p ∧ p ≤ 99999) (hc : a.char = 104 ∨ a.char = 108) (hp : ¬ a.priv = true) : CallA S 141 [.ptr (.loc 0) 20 none 0, .ptr (.loc 5) 5 none 0] ⟨[⟨.loc 0, true, .raw (scrC (.loc 1) (.loc 2) (.loc 3) (.loc 4) s)⟩, ⟨.loc 1, true, .arr pairE s.grid.cells⟩, ⟨.loc 2, true, .arr pairE s.grid.back⟩, ⟨.loc 3, true, .arr boolE s.tabs⟩, ⟨.loc 5, false, .raw [.int .i64 a.kind, .int .i64 a.char, .int .i64 a.set, .prop (a.priv = true), .sl (.loc 6) 1 none a.params.length]⟩, ⟨.loc 6, false, .arr (intE .i64) a.params⟩], 7⟩ (Ret1 (.tup []) ⟨[⟨.loc 0, true, .raw (scrC (.loc 1) (.loc 7) (.loc 8) (.loc 4) (modesL a.priv (decide (a.char = 104)) s a.params a.params.length : Scr))⟩, ⟨.loc 1, true, .arr pairE (modesL a.priv (decide (a.char = 104)) s a.params a.params.length : Scr).grid.cells⟩, ⟨.loc 7, true, .arr pairE (modesL a.priv (decide (a.char = 104)) s a.params a.params.length : Scr).grid.back⟩, ⟨.loc 8, true, .arr boolE (modesL a.priv (decide (a.char = 104)) s a.params a.params.length : Scr).tabs⟩], 9⟩) := by
  have hz := h.sz
  have hh := h
  obtain ⟨h1, h2, h3, h4, h5, h6, h7, h8, h9, h10, h11, h12, h13, h14, h15, _⟩ := hh
  have hmd := l5Modes0 s r w hz a hl.2 (decide (a.char = 104)) (by simp) hp
  obtain ⟨m1, m2, m3⟩ := modesL_rest a.priv (decide (a.char = 104)) s a.params a.params.length
  have m1' := m1.symm
  have m2' := m2.symm
  have n1 : (modesL a.priv (decide (a.char = 104)) s a.params a.params.length).tabs.length = s.tabs.length := by rw [m1]
  have n2 : (modesL a.priv (decide (a.char = 104)) s a.params a.params.length).grid.cells = s.grid.cells := by rw [m2]
  have n3 : (modesL a.priv (decide (a.char = 104)) s a.params a.params.length).grid.back = s.grid.back := by rw [m2]
  have n2' := n2.symm
  have n3' := n3.symm
  have n4 : (modesL a.priv (decide (a.char = 104)) s a.params a.params.length).grid.back.length = s.grid.back.length := by rw [n3]
  have n5 : (modesL a.priv (decide (a.char = 104)) s a.params a.params.length).grid.cells.length = s.grid.cells.length := by rw [n2]
  have n6 : (modesL a.priv (decide (a.char = 104)) s a.params a.params.length).sets.length = s.sets.length := by rw [m3]
  generalize modesL a.priv (decide (a.char = 104)) s a.params a.params.length = s1 at *
  refine .ofC hS _ _ _ Tryz.func141 ?_
  conv => whnf
  repeat' (first|refine Seal.mk ?_|(refine wS ?_;(conv=>whnf);fail_if_success show False)|((first|refine opsA_step ?_|apply wL (hmd));conv=>whnf)|(intro _;first|omega|conv=>whnf)|(apply And.intro<;>intro _<;>first|omega|conv=>whnf)|((first|refine aLQ ?_|refine ⟨_,rfl,?_⟩|refine ⟨_,⟨rfl,rfl⟩,?_⟩|refine ⟨_,⟨rfl,rfl,leafQ⟩,?_⟩);conv=>whnf)|with_reducible assumption|exact lfQ|fail)
  all_goals (first | contradiction | (exfalso; omega) | (refine ⟨(),⟨⟩,?_⟩;exact fzQ))
theorem l5Params2 (s : Scr) (r w : Nat) (h : OkS s r w) (a : Vm.Act) (hl : 1 ≤ a.params.length ∧ a.params.length ≤ 1000) (hps : ∀ p ∈ a.params, 0 ≤ p ∧ p ≤ 99999) (hc : ¬ (a.char = 104 ∨ a.char = 108)) (hp : a.priv = true) : CallA S 141 [.ptr (.loc 0) 20 none 0, .ptr (.loc 5) 5 none 0] ⟨[⟨.loc 0, true, .raw (scrC (.loc 1) (.loc 2) (.loc 3) (.loc 4) s)⟩, ⟨.loc 1, true, .arr pairE s.grid.cells⟩, ⟨.loc 2, true, .arr pairE s.grid.back⟩, ⟨.loc 3, true, .arr boolE s.tabs⟩, ⟨.loc 5, false, .raw [.int .i64 a.kind, .int .i64 a.char, .int .i64 a.set, .prop (a.priv = true), .sl (.loc 6) 1 none a.params.length]⟩, ⟨.loc 6, false, .arr (intE .i64) a.params⟩], 7⟩ (Ret1 (.tup []) ⟨[⟨.loc 0, true, .raw (scrC (.loc 1) (.loc 7) (.loc 8) (.loc 4) (s : Scr))⟩, ⟨.loc 1, true, .arr pairE (s : Scr).grid.cells⟩, ⟨.loc 7, true, .arr pairE (s : Scr).grid.back⟩, ⟨.loc 8, true, .arr boolE (s : Scr).tabs⟩], 9⟩) := by
  refine .ofC hS _ _ _ Tryz.func141 ?_
  conv => whnf
  repeat' (first|refine Seal.mk ?_|(refine wS ?_;(conv=>whnf);fail_if_success show False)|((first|refine opsA_step ?_);conv=>whnf)|(intro _;first|omega|conv=>whnf)|(apply And.intro<;>intro _<;>first|omega|conv=>whnf)|((first|refine aLQ ?_|refine ⟨_,rfl,?_⟩|refine ⟨_,⟨rfl,rfl⟩,?_⟩|refine ⟨_,⟨rfl,rfl,leafQ⟩,?_⟩);conv=>whnf)|with_reducible assumption|exact lfQ|fail)
  all_goals (first | contradiction | (exfalso; omega) | (refine ⟨(),⟨⟩,?_⟩;exact fzQ))
theorem l5Params3 (s : Scr) (r w : Nat) (h : OkS s r w) (a : Vm.Act) (hl : 1 ≤ a.params.length ∧ a.params.length ≤ 1000) (hps : ∀ p ∈ a.params, 0 ≤ p ∧ p ≤ 99999) (hc : ¬ (a.char = 104 ∨ a.char = 108)) (hp : ¬ a.priv = true) : CallA S 141 [.ptr (.loc 0) 20 none 0, .ptr (.loc 5) 5 none 0] ⟨[⟨.loc 0, true, .raw (scrC (.loc 1) (.loc 2) (.loc 3) (.loc 4) s)⟩, ⟨.loc 1, true, .arr pairE s.grid.cells⟩, ⟨.loc 2, true, .arr pairE s.grid.back⟩, ⟨.loc 3, true, .arr boolE s.tabs⟩, ⟨.loc 5, false, .raw [.int .i64 a.kind, .int .i64 a.char, .int .i64 a.set, .prop (a.priv = true), .sl (.loc 6) 1 none a.params.length]⟩, ⟨.loc 6, false, .arr (intE .i64) a.params⟩], 7⟩ (Ret1 (.tup []) ⟨[⟨.loc 0, true, .raw (scrC (.loc 1) (.loc 7) (.loc 8) (.loc 4) (seqM s w a : Scr))⟩, ⟨.loc 1, true, .arr pairE (seqM s w a : Scr).grid.cells⟩, ⟨.loc 7, true, .arr pairE (seqM s w a : Scr).grid.back⟩, ⟨.loc 8, true, .arr boolE (seqM s w a : Scr).tabs⟩], 9⟩) := by
  have hget : ∀ i : Nat, 0 ≤ a.params.getD (i : Int).toNat 0 ∧ a.params.getD (i : Int).toNat 0 ≤ 99999 := fun i => getD_all (d := 0) (P := fun p => 0 ≤ p ∧ p ≤ 99999) hps (by omega) (i : Int).toNat
  have hp0 := hget 0
  have hp0' : 0 ≤ a.params.getD 0 0 ∧ a.params.getD 0 0 ≤ 99999 := hp0
  have hpm : 0 ≤ paramM a 1 ∧ paramM a 1 ≤ 99999 := by
    unfold paramM
    split
    · exact hget 1
    · omega
  have hpa := l5Param a 1 (by omega) hl.2
  have hmv := l5Moves s r w h a.char (max 1 (a.params.getD 0 0)) (max 1 (paramM a 1)) (by omega) (by omega)
  have hk1 := movesM_ok h a.char (max 1 (a.params.getD 0 0)) (max 1 (paramM a 1))
  obtain ⟨r1, r2, r3⟩ := movesM_rest s a.char (max 1 (a.params.getD 0 0)) (max 1 (paramM a 1))
  unfold seqM
  generalize movesM s a.char (max 1 (a.params.getD 0 0)) (max 1 (paramM a 1)) = s1 at *
  have hed := l5Edits s1 r w hk1 a.char (a.params.getD 0 0) (max 1 (a.params.getD 0 0)) (by omega)
  have hk2 := editsM_ok hk1 a.char (a.params.getD 0 0) (max 1 (a.params.getD 0 0)) (by omega)
  obtain ⟨r4, r5⟩ := editsM_rest s1 a.char (a.params.getD 0 0) (max 1 (a.params.getD 0 0))
  generalize editsM s1 a.char (a.params.getD 0 0) (max 1 (a.params.getD 0 0)) = s2 at *
  have hot := l5Others s2 r w hk2 a hl hps
  obtain ⟨r6, r7⟩ := othersM_rest s2 w a
  generalize othersM s2 w a = s3 at *
  have q1 : s1.grid.cells = s.grid.cells := by rw [r3]
  have q2 : s1.grid.back = s.grid.back := by rw [r3]
  have q1' := q1.symm
  have q2' := q2.symm
  have q3 : s3.grid.cells = s2.grid.cells := by rw [r7]
  have q4 : s3.grid.back = s2.grid.back := by rw [r7]
  have q3' := q3.symm
  have q4' := q4.symm
  have q5 : s2.tabs = s.tabs := r4.trans r1
  have q5' := q5.symm
  have l1 : s1.grid.cells.length = s.grid.cells.length := by rw [q1]
  have l2 : s1.grid.back.length = s.grid.back.length := by rw [q2]
  have l3 : s3.grid.cells.length = s2.grid.cells.length := by rw [q3]
  have l4 : s3.grid.back.length = s2.grid.back.length := by rw [q4]
  have l5 : s2.tabs.length = s1.tabs.length := by rw [r4]
  have l6 : s1.tabs.length = s.tabs.length := by rw [r1]
  have l7 : s1.sets.length = s.sets.length := by rw [r2]
  have l8 : s2.sets.length = s1.sets.length := by rw [r5]
  have l9 : s3.sets.length = s2.sets.length := by rw [r6]
  refine .ofC hS _ _ _ Tryz.func141 ?_
  conv => whnf
  repeat' (first|refine Seal.mk ?_|(refine wS ?_;(conv=>whnf);fail_if_success show False)|((first|refine opsA_step ?_|refine drawS_go ?_|refine wD (id:=4) (.quick 0 (.quick 1 (.quick 2 (.quick 3 (.quick 5 (.quick 6 (.all (.fork (.step 4 (.all (.step 7 (.all (.step 8 (.all (.step 9 .done))))))) (.step 7 (.all (.fork (.step 4 (.all (.step 8 (.all (.step 9 .done))))) (.step 8 (.all (.step 4 (.all (.step 9 .done)))))))))))))))) [4, 7, 8, 9] (by kernel_rfl) rfl ?_|refine wD (id:=5) (.quick 0 (.quick 1 (.quick 2 (.quick 3 (.quick 5 (.quick 6 (.quick 7 (.quick 11 (.read 4 (.read 8 (.quick 9 (.read 10 (.all (.step 12 .done)))))))))))))) [12] (by kernel_rfl) rfl ?_|apply wL (maxS _ _)|apply wL (hpa)|apply wL (hmv)|apply wL (hed)|apply wL (hot));conv=>whnf)|(intro _;first|omega|conv=>whnf)|(apply And.intro<;>intro _<;>first|omega|conv=>whnf)|refine sM ?_ ?_|((first|refine aLQ ?_|refine ⟨_,rfl,?_⟩|refine ⟨_,⟨rfl,rfl⟩,?_⟩|refine ⟨_,⟨rfl,rfl,leafQ⟩,?_⟩);conv=>whnf)|with_reducible assumption|exact lfQ|fail)
  all_goals (first | contradiction | (exfalso; omega) | (refine ⟨(),⟨⟩,?_⟩;exact fzQ))
theorem l5Params (s : Scr) (r w : Nat) (h : OkS s r w) (a : Vm.Act) (hl : 1 ≤ a.params.length ∧ a.params.length ≤ 1000) (hps : ∀ p ∈ a.params, 0 ≤ p ∧ p ≤ 99999)  : CallA S 141 [.ptr (.loc 0) 20 none 0, .ptr (.loc 5) 5 none 0] ⟨[⟨.loc 0, true, .raw (scrC (.loc 1) (.loc 2) (.loc 3) (.loc 4) s)⟩, ⟨.loc 1, true, .arr pairE s.grid.cells⟩, ⟨.loc 2, true, .arr pairE s.grid.back⟩, ⟨.loc 3, true, .arr boolE s.tabs⟩, ⟨.loc 5, false, .raw [.int .i64 a.kind, .int .i64 a.char, .int .i64 a.set, .prop (a.priv = true), .sl (.loc 6) 1 none a.params.length]⟩, ⟨.loc 6, false, .arr (intE .i64) a.params⟩], 7⟩ (Ret1 (.tup []) ⟨[⟨.loc 0, true, .raw (scrC (.loc 1) (.loc 7) (.loc 8) (.loc 4) (paramsM s w a : Scr))⟩, ⟨.loc 1, true, .arr pairE (paramsM s w a : Scr).grid.cells⟩, ⟨.loc 7, true, .arr pairE (paramsM s w a : Scr).grid.back⟩, ⟨.loc 8, true, .arr boolE (paramsM s w a : Scr).tabs⟩], 9⟩) := by
  unfold paramsM
  by_cases hc : a.char = 104 ∨ a.char = 108
  · rw [if_pos hc]
    by_cases hp : a.priv = true
    · exact l5Params0 s r w h a hl hps hc hp
    · exact l5Params1 s r w h a hl hps hc hp
  · rw [if_neg hc]
    by_cases hp : a.priv = true
    · rw [if_pos hp]; exact l5Params2 s r w h a hl hps hc hp
    · rw [if_neg hp]; exact l5Params3 s r w h a hl hps hc hp
end Go.Mu

namespace Go.Mu
open Go Go.Vm Go.RowKit Go.Proofs
attribute [local irreducible] wpA opsA stillA drawA drawS
set_option maxRecDepth 20000
set_option maxHeartbeats 40000000
theorem leafI14 {P : Prop} (h : P := by
  first
  | exact leaf
  | exact PreC.of_eq rfl
  | rfl
  | exact Bool.false_ne_true
  | exact ⟨rfl, rfl⟩
  | (simp [hi4, hins]; done)
  | fail) : P := h
theorem aLI14 {a b : Prop} (k : b) (h : a := by exact leafI14) : a ∧ b := ⟨h, k⟩
theorem fzI14 {P : Prop} (h : P := by
  (try refine wF ?_)
  repeat' (first|exact ⟨⟩|(apply And.intro;focus exact leafI14)|((conv=>whnf);first|exact ⟨⟩|(apply And.intro;focus exact leafI14))|fail)
  (first | done | fail)) : P := h
theorem edits_no {s : Scr} {c f n : Int} (hc : ¬ c = 74 ∧ ¬ c = 75 ∧ ¬ c = 88 ∧ ¬ c = 76 ∧ ¬ c = 77 ∧ ¬ c = 83 ∧ ¬ c = 84 ∧ ¬ c = 64 ∧ ¬ c = 80) : editsM s c f n = s := by
  unfold editsM; (repeat' split) <;> first | rfl | (exfalso; omega)
theorem others_no {s : Scr} {w : Nat} {a : Vm.Act} (hc : ¬ a.char = 109 ∧ ¬ a.char = 103 ∧ ¬ a.char = 114 ∧ ¬ a.char = 115 ∧ ¬ a.char = 117) : othersM s w a = s := by
  obtain ⟨h1, h2, h3, h4, h5⟩ := hc
  unfold othersM
  rw [if_neg h1, if_neg h2, if_neg h3, if_neg h4, if_neg h5]
theorem modesL_ins (on : Bool) (s : Scr) (ps : List Int) : modesL false on s ps ps.length = { s with insert := if 4 ∈ ps then on else s.insert } := by
  unfold modesL
  rw [List.take_length]
  induction ps generalizing s with
  | nil => simp
  | cons p l ih =>
    rw [List.foldl_cons, ih]
    have e : modeStep false on s p = if p = 4 then { s with insert := on } else s := if_neg (by simp)
    rw [e]
    by_cases hp : p = 4
    · subst hp
      rw [if_pos rfl]; simp
    · rw [if_neg hp]
      have : (4 ∈ p :: l) ↔ 4 ∈ l := by rw [List.mem_cons]; exact ⟨fun h => h.elim (fun e => absurd e.symm hp) id, .inr⟩
      simp only [this]
theorem sParW (s : Scr) (r w : Nat) (h : OkS s r w) (ch : Int) (ps : List Int) (hl : 1 ≤ ps.length ∧ ps.length ≤ 1000) (hps : ∀ p ∈ ps, 0 ≤ p ∧ p ≤ 99999) (hc : ch = 65 ∨ ch = 66 ∨ ch = 67 ∨ ch = 68 ∨ ch = 69 ∨ ch = 70 ∨ ch = 71 ∨ ch = 96 ∨ ch = 100 ∨ ch = 72 ∨ ch = 102) : CallA S 158 [.ptr (.loc 0) 20 none 0, .int .i64 ch, .sl (.loc 5) 1 none ps.length] ⟨[⟨.loc 0, true, .raw (scrC (.loc 1) (.loc 2) (.loc 3) (.loc 4) s)⟩, ⟨.loc 1, true, .arr pairE s.grid.cells⟩, ⟨.loc 2, true, .arr pairE s.grid.back⟩, ⟨.loc 3, true, .arr boolE s.tabs⟩, ⟨.loc 5, false, .arr (intE .i64) ps⟩], 6⟩ (Ret1 (.tup []) ⟨[⟨.loc 0, true, .raw (scrC (.loc 1) (.loc 6) (.loc 7) (.loc 4) (movesM s ch (max 1 (ps.getD 0 0)) (max 1 (pmI ps 1)) : Scr))⟩, ⟨.loc 1, true, .arr pairE (movesM s ch (max 1 (ps.getD 0 0)) (max 1 (pmI ps 1)) : Scr).grid.cells⟩, ⟨.loc 6, true, .arr pairE (movesM s ch (max 1 (ps.getD 0 0)) (max 1 (pmI ps 1)) : Scr).grid.back⟩, ⟨.loc 7, true, .arr boolE (movesM s ch (max 1 (ps.getD 0 0)) (max 1 (pmI ps 1)) : Scr).tabs⟩], 8⟩) := by
  have hget : ∀ i : Nat, 0 ≤ ps.getD i 0 ∧ ps.getD i 0 ≤ 99999 := fun i => getD_all (d := 0) (P := fun p => 0 ≤ p ∧ p ≤ 99999) hps (by omega) i
  have g0 := hget 0
  have g1 := hget 1
  have e0 : pmI ps 0 = ps.getD 0 0 := if_pos (by omega)
  have n0 := numberAt ps 0 (by omega) (by omega)
  rw [e0] at n0
  have n1 := numberAt ps 1 (by omega) (by omega)
  have p1 : 0 ≤ pmI ps 1 ∧ pmI ps 1 ≤ 99999 := by unfold pmI; split <;> omega
  have ln := hl
  have hw := sWent s r w h ch (max 1 (ps.getD 0 0)) (max 1 (pmI ps 1)) (by omega) (by omega) hc
  obtain ⟨s1, hs1⟩ : ∃ s1, movesM s ch (max 1 (ps.getD 0 0)) (max 1 (pmI ps 1)) = s1 := ⟨_, rfl⟩
  obtain ⟨r1, r2, r3⟩ := movesM_rest s ch (max 1 (ps.getD 0 0)) (max 1 (pmI ps 1))
  rw [hs1] at hw r1 r2 r3 ⊢
  clear hs1
  obtain ⟨r1, r2, r3⟩ := (⟨r1, r2, r3⟩ : _ ∧ _ ∧ _)
  have r1' := r1.symm
  have l1 : s1.tabs.length = s.tabs.length := by rw [r1]
  have l2 : s1.sets.length = s.sets.length := by rw [r2]
  have c1 : s1.grid.cells = s.grid.cells := by rw [r3]
  have c2 : s1.grid.back = s.grid.back := by rw [r3]
  have c1' := c1.symm
  have c2' := c2.symm
  have l3 : s1.grid.cells.length = s.grid.cells.length := by rw [c1]
  have l4 : s1.grid.back.length = s.grid.back.length := by rw [c2]
  rcases hc with rfl | rfl | rfl | rfl | rfl | rfl | rfl | rfl | rfl | rfl | rfl
  all_goals
    refine .ofC hS _ _ _ Tryz.func158 ?_
    conv => whnf
    repeat' (first|refine Seal.mk ?_|((fail_if_success with_reducible refine wC ?_);refine wS ?_;(conv=>whnf);fail_if_success show False)|((first|refine opsA_step ?_|apply wL (n0));conv=>whnf)|(intro _;first|omega|conv=>whnf)|(apply And.intro<;>intro _<;>first|omega|conv=>whnf)|((first|refine aLI14 ?_|refine ⟨_,rfl,?_⟩|refine ⟨_,⟨rfl,rfl⟩,?_⟩|refine ⟨_,⟨rfl,rfl,leafI14⟩,?_⟩);conv=>whnf)|with_reducible assumption|exact lfI14|fail)
    repeat' (first|refine Seal.mk ?_|(refine wS ?_;(conv=>whnf);fail_if_success show False)|((first|refine opsA_step ?_|apply wL (n1)|apply wL (hw));conv=>whnf)|(intro _;first|omega|conv=>whnf)|(apply And.intro<;>intro _<;>first|omega|conv=>whnf)|((first|refine aLI14 ?_|refine ⟨_,rfl,?_⟩|refine ⟨_,⟨rfl,rfl⟩,?_⟩|refine ⟨_,⟨rfl,rfl,leafI14⟩,?_⟩);conv=>whnf)|with_reducible assumption|exact lfI14|fail)
    all_goals (first | contradiction | (exfalso; omega) | (refine ⟨(),⟨⟩,?_⟩;exact fzI14))
theorem sParE (s : Scr) (r w : Nat) (h : OkS s r w) (ch : Int) (ps : List Int) (hl : 1 ≤ ps.length ∧ ps.length ≤ 1000) (hps : ∀ p ∈ ps, 0 ≤ p ∧ p ≤ 99999) (hc : ch = 74 ∨ ch = 75 ∨ ch = 88 ∨ ch = 76 ∨ ch = 77 ∨ ch = 83 ∨ ch = 84 ∨ ch = 64 ∨ ch = 80) : CallA S 158 [.ptr (.loc 0) 20 none 0, .int .i64 ch, .sl (.loc 5) 1 none ps.length] ⟨[⟨.loc 0, true, .raw (scrC (.loc 1) (.loc 2) (.loc 3) (.loc 4) s)⟩, ⟨.loc 1, true, .arr pairE s.grid.cells⟩, ⟨.loc 2, true, .arr pairE s.grid.back⟩, ⟨.loc 3, true, .arr boolE s.tabs⟩, ⟨.loc 5, false, .arr (intE .i64) ps⟩], 6⟩ (Ret1 (.tup []) ⟨[⟨.loc 0, true, .raw (scrC (.loc 1) (.loc 6) (.loc 7) (.loc 4) (editsM s ch (ps.getD 0 0) (max 1 (ps.getD 0 0)) : Scr))⟩, ⟨.loc 1, true, .arr pairE (editsM s ch (ps.getD 0 0) (max 1 (ps.getD 0 0)) : Scr).grid.cells⟩, ⟨.loc 6, true, .arr pairE (editsM s ch (ps.getD 0 0) (max 1 (ps.getD 0 0)) : Scr).grid.back⟩, ⟨.loc 7, true, .arr boolE (editsM s ch (ps.getD 0 0) (max 1 (ps.getD 0 0)) : Scr).tabs⟩], 8⟩) := by
  have hget : ∀ i : Nat, 0 ≤ ps.getD i 0 ∧ ps.getD i 0 ≤ 99999 := fun i => getD_all (d := 0) (P := fun p => 0 ≤ p ∧ p ≤ 99999) hps (by omega) i
  have g0 := hget 0
  have g1 := hget 1
  have e0 : pmI ps 0 = ps.getD 0 0 := if_pos (by omega)
  have n0 := numberAt ps 0 (by omega) (by omega)
  rw [e0] at n0
  have n1 := numberAt ps 1 (by omega) (by omega)
  have p1 : 0 ≤ pmI ps 1 ∧ pmI ps 1 ≤ 99999 := by unfold pmI; split <;> omega
  have ln := hl
  have hw := sCleared s r w h ch (ps.getD 0 0) (max 1 (ps.getD 0 0)) (by omega) hc
  obtain ⟨s1, hs1⟩ : ∃ s1, editsM s ch (ps.getD 0 0) (max 1 (ps.getD 0 0)) = s1 := ⟨_, rfl⟩
  obtain ⟨r1, r2⟩ := editsM_rest s ch (ps.getD 0 0) (max 1 (ps.getD 0 0))
  rw [hs1] at hw r1 r2 ⊢
  clear hs1
  obtain ⟨r1, r2⟩ := (⟨r1, r2⟩ : _ ∧ _)
  have r1' := r1.symm
  have l1 : s1.tabs.length = s.tabs.length := by rw [r1]
  have l2 : s1.sets.length = s.sets.length := by rw [r2]
  rcases hc with rfl | rfl | rfl | rfl | rfl | rfl | rfl | rfl | rfl
  all_goals
    refine .ofC hS _ _ _ Tryz.func158 ?_
    conv => whnf
    repeat' (first|refine Seal.mk ?_|((fail_if_success with_reducible refine wC ?_);refine wS ?_;(conv=>whnf);fail_if_success show False)|((first|refine opsA_step ?_|apply wL (n0));conv=>whnf)|(intro _;first|omega|conv=>whnf)|(apply And.intro<;>intro _<;>first|omega|conv=>whnf)|((first|refine aLI14 ?_|refine ⟨_,rfl,?_⟩|refine ⟨_,⟨rfl,rfl⟩,?_⟩|refine ⟨_,⟨rfl,rfl,leafI14⟩,?_⟩);conv=>whnf)|with_reducible assumption|exact lfI14|fail)
    repeat' (first|refine Seal.mk ?_|(refine wS ?_;(conv=>whnf);fail_if_success show False)|((first|refine opsA_step ?_|apply wL (hw));conv=>whnf)|(intro _;first|omega|conv=>whnf)|(apply And.intro<;>intro _<;>first|omega|conv=>whnf)|((first|refine aLI14 ?_|refine ⟨_,rfl,?_⟩|refine ⟨_,⟨rfl,rfl⟩,?_⟩|refine ⟨_,⟨rfl,rfl,leafI14⟩,?_⟩);conv=>whnf)|with_reducible assumption|exact lfI14|fail)
    all_goals (first | contradiction | (exfalso; omega) | (refine ⟨(),⟨⟩,?_⟩;exact fzI14))
end Go.Mu
