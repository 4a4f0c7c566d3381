/- Screens, as the program does what stands behind an escape; sets chosen. -/
import Derived.Test.YtfjodggmmokaaaaGreatDAK
import Derived.Test.YtfjodggmmokaaaaGreatDBK
import Derived.Test.YtfjodggmmokaaaaGreatDBM
set_option linter.unusedSimpArgs false
set_option linter.unusedVariables false
set_option linter.constructorNameAsVariable false
namespace Go.Mu
open Go Go.Vm Go.RowKit Go.Proofs
attribute [local irreducible] wpA opsA stillA drawA drawS
set_option maxRecDepth 20000
set_option maxHeartbeats 40000000
theorem sEscE (s : Scr) (r w : Nat) (h : OkS s r w) (c : Int) (hc : c = 69) : CallA S 155 [.ptr (.loc 0) 20 none 0, .int .i64 c] ⟨[⟨.loc 0, true, .raw (scrC (.loc 1) (.loc 2) (.loc 3) (.loc 4) s)⟩, ⟨.loc 1, true, .arr pairE s.grid.cells⟩, ⟨.loc 2, true, .arr pairE s.grid.back⟩, ⟨.loc 3, true, .arr boolE s.tabs⟩, ⟨.loc 4, true, .arr (intE .i64) s.sets⟩], 5⟩ (Ret1 (.tup []) ⟨[⟨.loc 0, true, .raw (scrC (.loc 5) (.loc 6) (.loc 7) (.loc 8) (escM s c : Scr))⟩, ⟨.loc 5, true, .arr pairE (escM s c : Scr).grid.cells⟩, ⟨.loc 6, true, .arr pairE (escM s c : Scr).grid.back⟩, ⟨.loc 7, true, .arr boolE (escM s c : Scr).tabs⟩, ⟨.loc 8, true, .arr (intE .i64) (escM s c : Scr).sets⟩], 9⟩) := by
  have hdn := sDown (goC s 0) r w (goC_ok h)
  rw [dnC_eq h] at hdn
  obtain ⟨d1, d2⟩ := downM_rest ({ s with x := 0 })
  have d1' := d1.symm
  have d2' := d2.symm
  have d3 : (downM { s with x := 0 }).tabs.length = s.tabs.length := by rw [d1]
  have d4 : (downM { s with x := 0 }).sets.length = s.sets.length := by rw [d2]
  have hcl := sCol s r w h.rg 0
  refine .ofC hS _ _ _ Tryz.func155 ?_
  conv => whnf
  repeat' (first|refine Seal.mk ?_|(refine wS ?_;(conv=>whnf);fail_if_success show False)|((first|refine opsA_step ?_|apply wL (hcl)|apply wL (hdn));conv=>whnf)|(intro _;first|omega|conv=>whnf)|(apply And.intro<;>intro _<;>first|omega|conv=>whnf)|((first|refine aLQ ?_|refine ⟨_,rfl,?_⟩|refine ⟨_,⟨rfl,rfl⟩,?_⟩|refine ⟨_,⟨rfl,rfl,leafQ⟩,?_⟩);conv=>whnf)|with_reducible assumption|exact lfQ|fail)
  all_goals (first | contradiction | (exfalso; omega) | (rw [show escM s c = downM { s with x := 0 } from by unfold escM; (repeat' split) <;> first | rfl | (exfalso; omega)]; (refine ⟨(),⟨⟩,?_⟩;exact fzQ); done))
theorem upM_rest (s : Scr) : (upM s).tabs = s.tabs ∧ (upM s).sets = s.sets := by
  unfold upM; (repeat' split) <;> exact ⟨rfl, rfl⟩
theorem sEscX (s : Scr) (r w : Nat) (h : OkS s r w) (c : Int) (hc : ¬ c = 69) : CallA S 155 [.ptr (.loc 0) 20 none 0, .int .i64 c] ⟨[⟨.loc 0, true, .raw (scrC (.loc 1) (.loc 2) (.loc 3) (.loc 4) s)⟩, ⟨.loc 1, true, .arr pairE s.grid.cells⟩, ⟨.loc 2, true, .arr pairE s.grid.back⟩, ⟨.loc 3, true, .arr boolE s.tabs⟩, ⟨.loc 4, true, .arr (intE .i64) s.sets⟩], 5⟩ (Ret1 (.tup []) ⟨[⟨.loc 0, true, .raw (scrC (.loc 5) (.loc 6) (.loc 7) (.loc 8) (escM s c : Scr))⟩, ⟨.loc 5, true, .arr pairE (escM s c : Scr).grid.cells⟩, ⟨.loc 6, true, .arr pairE (escM s c : Scr).grid.back⟩, ⟨.loc 7, true, .arr boolE (escM s c : Scr).tabs⟩, ⟨.loc 8, true, .arr (intE .i64) (escM s c : Scr).sets⟩], 9⟩) := by
  have hdn := sDown s r w h
  have hup := sUp s r w h
  have hkp := sKeep s r w h
  have hbk := sBack s r w h
  obtain ⟨d1, d2⟩ := downM_rest (s)
  have d1' := d1.symm
  have d2' := d2.symm
  have d3 : (downM s).tabs.length = s.tabs.length := by rw [d1]
  have d4 : (downM s).sets.length = s.sets.length := by rw [d2]
  obtain ⟨u1, u2⟩ := upM_rest s
  have u1' := u1.symm
  have u2' := u2.symm
  have u3 : (upM s).tabs.length = s.tabs.length := by rw [u1]
  have u4 : (upM s).sets.length = s.sets.length := by rw [u2]
  have hz := h.sz
  have hh := h
  obtain ⟨h1, h2, h3, h4, h5, h6, h7, h8, h9, h10, h11, h12, h13, h14, h15, _⟩ := hh
  obtain ⟨R, hR⟩ := Int.eq_ofNat_of_zero_le (show 0 ≤ s.grid.rows by omega)
  obtain ⟨W, hW⟩ := Int.eq_ofNat_of_zero_le (show 0 ≤ s.grid.width by omega)
  have hnw := newScreen R W (by omega) (by omega)
  rw [← hR, ← hW] at hnw
  have q1 : R = s.grid.rows.toNat := by omega
  have q2 : W = s.grid.width.toNat := by omega
  rw [q1, q2] at hnw
  have htl : (s.tabs.set s.x.toNat true).length = s.tabs.length := List.length_set ..
  refine .ofC hS _ _ _ Tryz.func155 ?_
  conv => whnf
  repeat' (first|refine Seal.mk ?_|(refine wS ?_;(conv=>whnf);fail_if_success show False)|((first|refine opsA_step ?_|refine drawS_go ?_|refine wD (id:=2) (.quick 0 (.quick 1 (.quick 2 (.quick 3 (.quick 4 (.quick 6 (.quick 7 (.quick 8 (.quick 9 (.read 5 (.read 10 (.all (.step 11 (.quick 12 (.all (.step 13 .done)))))))))))))))) [11, 13] (by kernel_rfl) rfl ?_|refine wD (id:=9) (.quick 0 (.quick 1 (.quick 2 (.quick 4 (.quick 5 (.quick 6 (.read 3 (.read 7 (.quick 8 (.all (.step 9 .done))))))))))) [9] (by kernel_rfl) rfl ?_|apply wL (hdn)|apply wL (hup)|apply wL (hkp)|apply wL (hbk)|apply wL (hnw));conv=>whnf)|(intro _;first|omega|conv=>whnf)|(apply And.intro<;>intro _<;>first|omega|conv=>whnf)|((first|refine aLQ ?_|refine ⟨_,rfl,?_⟩|refine ⟨_,⟨rfl,rfl⟩,?_⟩|refine ⟨_,⟨rfl,rfl,leafQ⟩,?_⟩);conv=>whnf)|with_reducible assumption|exact lfQ|fail)
  all_goals (first | contradiction | (exfalso; omega) | (rw [show escM s c = newS s.grid.rows.toNat s.grid.width.toNat from by unfold escM; (repeat' split) <;> first | rfl | (exfalso; omega)]; (refine ⟨(),⟨⟩,?_⟩;exact fzQ); done) | (rw [show escM s c = downM s from by unfold escM; (repeat' split) <;> first | rfl | (exfalso; omega)]; (refine ⟨(),⟨⟩,?_⟩;exact fzQ); done) | (rw [show escM s c = { s with tabs := s.tabs.set s.x.toNat true } from by unfold escM; (repeat' split) <;> first | rfl | (exfalso; omega)]; (refine ⟨(),⟨⟩,?_⟩;exact fzQ); done) | (rw [show escM s c = upM s from by unfold escM; (repeat' split) <;> first | rfl | (exfalso; omega)]; (refine ⟨(),⟨⟩,?_⟩;exact fzQ); done) | (rw [show escM s c = { s with keptY := s.y, keptX := s.x, keptA := s.attr } from by unfold escM; (repeat' split) <;> first | rfl | (exfalso; omega)]; (refine ⟨(),⟨⟩,?_⟩;exact fzQ); done) | (rw [show escM s c = goM { s with attr := s.keptA } s.keptY s.keptX from by unfold escM; (repeat' split) <;> first | rfl | (exfalso; omega)]; (refine ⟨(),⟨⟩,?_⟩;exact fzQ); done) | (rw [show escM s c = s from by unfold escM; (repeat' split) <;> first | rfl | (exfalso; omega)]; (refine ⟨(),⟨⟩,?_⟩;exact fzQ); done))
theorem sEscaped (s : Scr) (r w : Nat) (h : OkS s r w) (c : Int) : CallA S 155 [.ptr (.loc 0) 20 none 0, .int .i64 c] ⟨[⟨.loc 0, true, .raw (scrC (.loc 1) (.loc 2) (.loc 3) (.loc 4) s)⟩, ⟨.loc 1, true, .arr pairE s.grid.cells⟩, ⟨.loc 2, true, .arr pairE s.grid.back⟩, ⟨.loc 3, true, .arr boolE s.tabs⟩, ⟨.loc 4, true, .arr (intE .i64) s.sets⟩], 5⟩ (Ret1 (.tup []) ⟨[⟨.loc 0, true, .raw (scrC (.loc 5) (.loc 6) (.loc 7) (.loc 8) (escM s c : Scr))⟩, ⟨.loc 5, true, .arr pairE (escM s c : Scr).grid.cells⟩, ⟨.loc 6, true, .arr pairE (escM s c : Scr).grid.back⟩, ⟨.loc 7, true, .arr boolE (escM s c : Scr).tabs⟩, ⟨.loc 8, true, .arr (intE .i64) (escM s c : Scr).sets⟩], 9⟩) := by
  by_cases hc : c = 69
  · exact sEscE s r w h c hc
  · exact sEscX s r w h c hc
theorem sChoose (s : Scr) (set c : Int) (hs : s.sets.length = 2) (hset : 1 ≤ set ∧ set ≤ 2)  : CallA S 156 [.ptr (.loc 0) 20 none 0, .int .i64 set, .int .i64 c] ⟨[⟨.loc 0, true, .raw (scrC (.loc 1) (.loc 2) (.loc 3) (.loc 4) s)⟩, ⟨.loc 4, true, .arr (intE .i64) s.sets⟩], 5⟩ (Ret1 (.tup []) ⟨[⟨.loc 0, true, .raw (scrC (.loc 1) (.loc 2) (.loc 3) (.loc 4) (setM s set c))⟩, ⟨.loc 4, true, .arr (intE .i64) (setM s set c).sets⟩], 5⟩) := by
  have hl : ∀ v : Int, (s.sets.set (set - 1).toNat v).length = s.sets.length := fun v => List.length_set ..
  have hl1 := hl 1; have hl2 := hl 2; have hl3 := hl 3
  refine .ofC hS _ _ _ Tryz.func156 ?_
  conv => whnf
  repeat' (first|refine Seal.mk ?_|(refine wS ?_;(conv=>whnf);fail_if_success show False)|((first|refine opsA_step ?_);conv=>whnf)|(intro _;first|omega|conv=>whnf)|(apply And.intro<;>intro _<;>first|omega|conv=>whnf)|((first|refine aLQ ?_|refine oLQ ?_|refine ⟨_,rfl,?_⟩|refine ⟨_,⟨rfl,rfl⟩,?_⟩|refine ⟨_,⟨rfl,rfl,leafQ⟩,?_⟩);conv=>whnf)|with_reducible assumption|exact lfQ|fail)
  all_goals (first | contradiction | (exfalso; omega) | (rw [show setM s set c = { s with sets := s.sets.set (set - 1).toNat 1 } from by unfold setM; (repeat' split) <;> first | rfl | (exfalso; omega)]; (refine ⟨(),⟨⟩,?_⟩;exact fzQ); done) | (rw [show setM s set c = { s with sets := s.sets.set (set - 1).toNat 2 } from by unfold setM; (repeat' split) <;> first | rfl | (exfalso; omega)]; (refine ⟨(),⟨⟩,?_⟩;exact fzQ); done) | (rw [show setM s set c = { s with sets := s.sets.set (set - 1).toNat 3 } from by unfold setM; (repeat' split) <;> first | rfl | (exfalso; omega)]; (refine ⟨(),⟨⟩,?_⟩;exact fzQ); done) | (rw [show setM s set c = s from by unfold setM; (repeat' split) <;> first | rfl | (exfalso; omega)]; (refine ⟨(),⟨⟩,?_⟩;exact fzQ); done))
end Go.Mu

namespace Go.Mu
open Go Go.Vm Go.RowKit Go.Proofs
attribute [local irreducible] wpA opsA stillA drawA drawS
set_option maxRecDepth 20000
set_option maxHeartbeats 40000000
def pmI (ps : List Int) (i : Nat) : Int := if i < ps.length then ps.getD i 0 else 0
theorem numberAt (ps : List Int) (i : Nat) (hl : ps.length ≤ 1000) (hi : i ≤ 100) : CallA S 256 [.sl (.loc 0) 1 none ps.length, .int .i64 i] ⟨[⟨.loc 0, false, .arr (intE .i64) ps⟩], 1⟩ (Ret1 (.int .i64 (max 1 (pmI ps i))) ⟨[], 1⟩) := by
  by_cases h : i < ps.length
  · have e : max (ps.getD (i : Int).toNat 0) 1 = max 1 (pmI ps i) := by unfold pmI; rw [if_pos h, Int.toNat_natCast]; omega
    have e' : max (ps.getD (i : Int).toNat (intE .i64).d) 1 = max 1 (pmI ps i) := e
    refine .ofC hS _ _ _ Tryz.func256 ?_
    conv => whnf
    repeat' (first|refine Seal.mk ?_|(refine wS ?_;(conv=>whnf);fail_if_success show False)|((first|refine opsA_step ?_);conv=>whnf)|(intro _;first|omega|conv=>whnf)|(apply And.intro<;>intro _<;>first|omega|conv=>whnf)|((first|refine aLQ ?_|refine ⟨_,rfl,?_⟩|refine ⟨_,⟨rfl,rfl⟩,?_⟩|refine ⟨_,⟨rfl,rfl,leafQ⟩,?_⟩);conv=>whnf)|with_reducible assumption|exact lfQ|fail)
    all_goals (first | (exfalso; omega) | (refine ⟨(),⟨⟩,?_⟩;exact fzQ))
  · have e : 1 = max 1 (pmI ps i) := by unfold pmI; rw [if_neg h]; omega
    refine .ofC hS _ _ _ Tryz.func256 ?_
    conv => whnf
    repeat' (first|refine Seal.mk ?_|(refine wS ?_;(conv=>whnf);fail_if_success show False)|((first|refine opsA_step ?_);conv=>whnf)|(intro _;first|omega|conv=>whnf)|(apply And.intro<;>intro _<;>first|omega|conv=>whnf)|((first|refine aLQ ?_|refine ⟨_,rfl,?_⟩|refine ⟨_,⟨rfl,rfl⟩,?_⟩|refine ⟨_,⟨rfl,rfl,leafQ⟩,?_⟩);conv=>whnf)|with_reducible assumption|exact lfQ|fail)
    all_goals (first | (exfalso; omega) | (refine ⟨(),⟨⟩,?_⟩;exact fzQ))
theorem not8 : ∀ k : Nat, k < 32 → ((k ^^^ (k &&& 7) : Nat) : Int) = (k : Int) - (k : Int) % 8 ∧ 0 ≤ (k : Int) % 8 ∧ (k : Int) % 8 ≤ 7 := by decide
theorem sDress (s : Scr) (ha : 0 ≤ s.attr ∧ s.attr ≤ 31) (p : Int) (hp : 0 ≤ p ∧ p ≤ 99999) : CallA S 260 [.ptr (.loc 0) 20 none 0, .int .i64 p] ⟨[⟨.loc 0, true, .raw (scrC (.loc 1) (.loc 2) (.loc 3) (.loc 4) s)⟩], 5⟩ (Ret1 (.tup []) ⟨[⟨.loc 0, true, .raw (scrC (.loc 1) (.loc 2) (.loc 3) (.loc 4) ({ s with attr := attrM s.attr p } : Scr))⟩], 5⟩) := by
  obtain ⟨h8, h9, h10⟩ := not8 s.attr.toNat (by omega)
  have e0 : ((s.attr.toNat : Nat) : Int) = s.attr := Int.toNat_of_nonneg ha.1
  rw [e0] at h8 h9 h10
  have h8' : (((s.attr.toNat ^^^ (s.attr.toNat &&& (7 : Int).toNat)) : Nat) : Int) = s.attr - s.attr % 8 := h8
  have h7 := not7 s.attr.toNat (by omega)
  have z5 : 30 ≤ p ∧ p ≤ 37 → attrM s.attr p = s.attr + (p - 30 - s.attr % 8) := fun q => by
    unfold attrM
    rw [if_neg (by omega), if_neg (by omega), if_neg (by omega), if_neg (by omega), if_neg (by omega), if_pos q, h8']; omega
  have z6 : p = 39 → attrM s.attr p = s.attr - s.attr % 8 := fun q => by
    subst q
    unfold attrM
    rw [if_neg (by omega), if_neg (by omega), if_neg (by omega), if_neg (by omega), if_neg (by omega), if_neg (by omega), if_pos rfl, h8']
  refine .ofC hS _ _ _ Tryz.func260 ?_
  conv => whnf
  repeat' (first|refine Seal.mk ?_|(refine wS ?_;(conv=>whnf);fail_if_success show False)|((first|refine opsA_step ?_|refine drawS_go ?_|refine wD (id:=11) (.quick 0 (.quick 1 (.quick 2 (.quick 4 (.quick 5 (.quick 6 (.quick 7 (.quick 8 (.read 3 (.read 9 (.quick 10 (.quick 11 (.quick 12 (.quick 13 (.quick 14 (.all (.step 15 .done))))))))))))))))) [15] (by kernel_rfl) rfl ?_|refine wD (id:=13) (.quick 0 (.quick 1 (.quick 2 (.quick 4 (.quick 5 (.quick 6 (.read 3 (.read 7 (.quick 8 (.quick 9 (.quick 10 (.quick 11 (.all (.step 12 .done)))))))))))))) [12] (by kernel_rfl) rfl ?_|apply wL (inF _ _ _));conv=>whnf)|(intro _;first|omega|conv=>whnf)|(apply And.intro<;>intro _<;>first|omega|conv=>whnf)|((first|refine aLQ ?_|refine oLQ ?_|refine ⟨_,rfl,?_⟩|refine ⟨_,⟨rfl,rfl⟩,?_⟩|refine ⟨_,⟨rfl,rfl,leafQ⟩,?_⟩);conv=>whnf)|with_reducible assumption|exact lfQ|fail)
  all_goals (first | contradiction | (rw [z5 (by assumption)]; (refine ⟨(),⟨⟩,?_⟩;exact fzQ); done) | (rw [z6 (by assumption)]; (refine ⟨(),⟨⟩,?_⟩;exact fzQ); done) | (exfalso; omega) | (rw [show attrM s.attr p = 0 from by unfold attrM; (repeat' split) <;> first | rfl | (exfalso; omega)]; (refine ⟨(),⟨⟩,?_⟩;exact fzQ); done) | (rw [show attrM s.attr p = ((s.attr.toNat ||| (8 : Int).toNat : Nat) : Int) from by unfold attrM; (repeat' split) <;> first | rfl | (exfalso; omega)]; (refine ⟨(),⟨⟩,?_⟩;exact fzQ); done) | (rw [show attrM s.attr p = ((s.attr.toNat ^^^ (s.attr.toNat &&& (8 : Int).toNat) : Nat) : Int) from by unfold attrM; (repeat' split) <;> first | rfl | (exfalso; omega)]; (refine ⟨(),⟨⟩,?_⟩;exact fzQ); done) | (rw [show attrM s.attr p = ((s.attr.toNat ||| (16 : Int).toNat : Nat) : Int) from by unfold attrM; (repeat' split) <;> first | rfl | (exfalso; omega)]; (refine ⟨(),⟨⟩,?_⟩;exact fzQ); done) | (rw [show attrM s.attr p = ((s.attr.toNat ^^^ (s.attr.toNat &&& (16 : Int).toNat) : Nat) : Int) from by unfold attrM; (repeat' split) <;> first | rfl | (exfalso; omega)]; (refine ⟨(),⟨⟩,?_⟩;exact fzQ); done) | (rw [show attrM s.attr p = s.attr from by unfold attrM; (repeat' split) <;> first | rfl | (exfalso; omega)]; (refine ⟨(),⟨⟩,?_⟩;exact fzQ); done))
def dropM (s : Scr) (w : Nat) (p : Int) : Scr := if p = 0 then { s with tabs := s.tabs.set s.x.toNat false } else if p = 3 then { s with tabs := List.replicate w false } else s
theorem sDropTabs (s : Scr) (r w : Nat) (h : OkS s r w) (p : Int) : CallA S 261 [.ptr (.loc 0) 20 none 0, .int .i64 p] ⟨[⟨.loc 0, true, .raw (scrC (.loc 1) (.loc 2) (.loc 3) (.loc 4) s)⟩, ⟨.loc 3, true, .arr boolE s.tabs⟩], 5⟩ (Ret1 (.tup []) ⟨[⟨.loc 0, true, .raw (scrC (.loc 1) (.loc 2) (.loc 5) (.loc 4) (dropM s w p : Scr))⟩, ⟨.loc 5, true, .arr boolE (dropM s w p : Scr).tabs⟩], 6⟩) := by
  have hz := h.sz
  have hh := h
  obtain ⟨h1, h2, h3, h4, h5, h6, h7, h8, h9, h10, h11, h12, h13, h14, h15, _⟩ := hh
  have hls : (s.tabs.set s.x.toNat false).length = s.tabs.length := List.length_set ..
  have hlr : (List.replicate w false).length = s.tabs.length := by rw [List.length_replicate, h12]
  have hov : over s.tabs 0 (List.replicate (s.tabs.length : Int).toNat boolE.d) = List.replicate w false := by
    rw [Int.toNat_natCast, h12]
    unfold over
    rw [List.take_zero, List.nil_append, List.length_replicate, Nat.zero_add, List.drop_eq_nil_of_le (by omega), List.append_nil]; rfl
  refine .ofC hS _ _ _ Tryz.func261 ?_
  conv => whnf
  repeat' (first|refine Seal.mk ?_|(refine wS ?_;(conv=>whnf);fail_if_success show False)|((first|refine opsA_step ?_|refine drawS_go ?_|refine wD (id:=2) (.quick 0 (.quick 1 (.quick 2 (.quick 4 (.quick 5 (.quick 6 (.read 3 (.read 7 (.quick 8 (.all (.step 9 .done))))))))))) [9] (by kernel_rfl) rfl ?_);conv=>whnf)|(intro _;first|omega|conv=>whnf)|(apply And.intro<;>intro _<;>first|omega|conv=>whnf)|((first|refine aLQ ?_|refine ⟨_,rfl,?_⟩|refine ⟨_,⟨rfl,rfl⟩,?_⟩|refine ⟨_,⟨rfl,rfl,leafQ⟩,?_⟩);conv=>whnf)|with_reducible assumption|exact lfQ|fail)
  all_goals (first | contradiction | (exfalso; omega) | (rw [show dropM s w p = { s with tabs := s.tabs.set s.x.toNat false } from by unfold dropM; (repeat' split) <;> first | rfl | (exfalso; omega)]; (refine ⟨(),⟨⟩,?_⟩;exact fzQ); done) | (rw [show dropM s w p = { s with tabs := List.replicate w false } from by unfold dropM; (repeat' split) <;> first | rfl | (exfalso; omega)]; (refine ⟨(),⟨⟩,?_⟩;exact fzQ); done) | (rw [show dropM s w p = s from by unfold dropM; (repeat' split) <;> first | rfl | (exfalso; omega)]; (refine ⟨(),⟨⟩,?_⟩;exact fzQ); done))
theorem sReg1 (s : Scr) (r w : Nat) (h : OkS s r w) (ps : List Int) (hl : 1 ≤ ps.length ∧ ps.length ≤ 1000) (hps : ∀ p ∈ ps, 0 ≤ p ∧ p ≤ 99999) (L : Int) (hL : L = if pmI ps 1 = 0 then s.grid.rows else pmI ps 1) (hq : max 1 (ps.getD 0 0) < (if pmI ps 1 = 0 then s.grid.rows else pmI ps 1) ∧ (if pmI ps 1 = 0 then s.grid.rows else pmI ps 1) ≤ s.grid.rows) : CallA S 262 [.ptr (.loc 0) 20 none 0, .sl (.loc 5) 1 none ps.length] ⟨[⟨.loc 0, true, .raw (scrC (.loc 1) (.loc 2) (.loc 3) (.loc 4) s)⟩, ⟨.loc 5, false, .arr (intE .i64) ps⟩], 6⟩ (Ret1 (.tup []) ⟨[⟨.loc 0, true, .raw (scrC (.loc 1) (.loc 2) (.loc 3) (.loc 4) (goM { s with top := max 1 (ps.getD 0 0) - 1, bottom := L - 1 } 0 0 : Scr))⟩], 6⟩) := by
  have hget : ∀ i : Nat, 0 ≤ ps.getD i 0 ∧ ps.getD i 0 ≤ 99999 := fun i => getD_all (d := 0) (P := fun p => 0 ≤ p ∧ p ≤ 99999) hps (by omega) i
  have hz := h.sz
  have hh := h
  obtain ⟨h1, h2, h3, h4, h5, h6, h7, h8, h9, h10, h11, h12, h13, h14, h15, _⟩ := hh
  rw [← hL] at hq
  have g0 := hget 0
  have g1 := hget 1
  have e0 : pmI ps 0 = ps.getD 0 0 := if_pos (by omega)
  have n0 := numberAt ps 0 (by omega) (by omega)
  rw [e0] at n0
  have p1 : (1 < ps.length → pmI ps 1 = ps.getD (1 : Int).toNat (intE .i64).d) := fun q => if_pos q
  have p2 : (¬ 1 < ps.length → pmI ps 1 = 0) := fun q => if_neg q
  have p3 : 0 ≤ pmI ps 1 := by
    unfold pmI; split
    · omega
    · omega
  have l1 : pmI ps 1 = 0 → L = s.grid.rows := fun q => by rw [hL, if_pos q]
  have l2 : ¬ pmI ps 1 = 0 → L = pmI ps 1 := fun q => by rw [hL, if_neg q]
  have g1' : 0 ≤ ps.getD (1 : Int).toNat (intE .i64).d ∧ ps.getD (1 : Int).toNat (intE .i64).d ≤ 99999 := g1
  generalize pmI ps 1 = q1 at *
  have q2 : ¬ q1 = 0 → 1 < ps.length := fun q => Classical.byContradiction fun q' => q (p2 q')
  have hh2 := sHome { s with top := max 1 (ps.getD 0 0) - 1, bottom := L - 1 } r w ⟨h1, h2, h3, h4, by simp only; omega⟩
  refine .ofC hS _ _ _ Tryz.func262 ?_
  conv => whnf
  repeat' (first|refine Seal.mk ?_|(refine wS ?_;(conv=>whnf);fail_if_success show False)|((first|refine opsA_step ?_|refine drawS_go ?_|refine wD (id:=0) (.quick 0 (.quick 3 (.quick 4 (.quick 5 (.quick 6 (.all (.fork (.step 1 (.quick 2 (.quick 9 (.all (.step 7 (.quick 8 (.quick 10 .done))))))) (.step 7 (.quick 8 (.all (.step 1 (.quick 2 (.quick 9 (.quick 10 .done)))))))))))))) [1, 7] (by kernel_rfl) rfl ?_|apply wL (n0)|apply wL (hh2));conv=>whnf)|(intro _;first|omega|conv=>whnf)|(apply And.intro<;>intro _<;>first|omega|conv=>whnf)|refine sM ?_ ?_|((first|refine aLQ ?_|refine oLQ ?_|refine ⟨_,rfl,?_⟩|refine ⟨_,⟨rfl,rfl⟩,?_⟩|refine ⟨_,⟨rfl,rfl,leafQ⟩,?_⟩);conv=>whnf)|with_reducible assumption|exact lfQ|fail)
  all_goals (first | contradiction | (exfalso; omega) | (refine ⟨(),⟨⟩,?_⟩;exact fzQ))
theorem sReg0 (s : Scr) (r w : Nat) (h : OkS s r w) (ps : List Int) (hl : 1 ≤ ps.length ∧ ps.length ≤ 1000) (hps : ∀ p ∈ ps, 0 ≤ p ∧ p ≤ 99999) (L : Int) (hL : L = if pmI ps 1 = 0 then s.grid.rows else pmI ps 1) (hq : ¬ (max 1 (ps.getD 0 0) < (if pmI ps 1 = 0 then s.grid.rows else pmI ps 1) ∧ (if pmI ps 1 = 0 then s.grid.rows else pmI ps 1) ≤ s.grid.rows)) : CallA S 262 [.ptr (.loc 0) 20 none 0, .sl (.loc 5) 1 none ps.length] ⟨[⟨.loc 0, true, .raw (scrC (.loc 1) (.loc 2) (.loc 3) (.loc 4) s)⟩, ⟨.loc 5, false, .arr (intE .i64) ps⟩], 6⟩ (Ret1 (.tup []) ⟨[⟨.loc 0, true, .raw (scrC (.loc 1) (.loc 2) (.loc 3) (.loc 4) (s : Scr))⟩], 6⟩) := by
  have hget : ∀ i : Nat, 0 ≤ ps.getD i 0 ∧ ps.getD i 0 ≤ 99999 := fun i => getD_all (d := 0) (P := fun p => 0 ≤ p ∧ p ≤ 99999) hps (by omega) i
  have hz := h.sz
  have hh := h
  obtain ⟨h1, h2, h3, h4, h5, h6, h7, h8, h9, h10, h11, h12, h13, h14, h15, _⟩ := hh
  rw [← hL] at hq
  have g0 := hget 0
  have g1 := hget 1
  have e0 : pmI ps 0 = ps.getD 0 0 := if_pos (by omega)
  have n0 := numberAt ps 0 (by omega) (by omega)
  rw [e0] at n0
  have p1 : (1 < ps.length → pmI ps 1 = ps.getD (1 : Int).toNat (intE .i64).d) := fun q => if_pos q
  have p2 : (¬ 1 < ps.length → pmI ps 1 = 0) := fun q => if_neg q
  have p3 : 0 ≤ pmI ps 1 := by
    unfold pmI; split
    · omega
    · omega
  have l1 : pmI ps 1 = 0 → L = s.grid.rows := fun q => by rw [hL, if_pos q]
  have l2 : ¬ pmI ps 1 = 0 → L = pmI ps 1 := fun q => by rw [hL, if_neg q]
  have g1' : 0 ≤ ps.getD (1 : Int).toNat (intE .i64).d ∧ ps.getD (1 : Int).toNat (intE .i64).d ≤ 99999 := g1
  generalize pmI ps 1 = q1 at *
  have q2 : ¬ q1 = 0 → 1 < ps.length := fun q => Classical.byContradiction fun q' => q (p2 q')
  refine .ofC hS _ _ _ Tryz.func262 ?_
  conv => whnf
  repeat' (first|refine Seal.mk ?_|(refine wS ?_;(conv=>whnf);fail_if_success show False)|((first|refine opsA_step ?_|refine drawS_go ?_|refine wD (id:=0) (.quick 0 (.quick 3 (.quick 4 (.quick 5 (.quick 6 (.all (.fork (.step 1 (.quick 2 (.quick 9 (.all (.step 7 (.quick 8 (.quick 10 .done))))))) (.step 7 (.quick 8 (.all (.step 1 (.quick 2 (.quick 9 (.quick 10 .done)))))))))))))) [1, 7] (by kernel_rfl) rfl ?_|apply wL (n0));conv=>whnf)|(intro _;first|omega|conv=>whnf)|(apply And.intro<;>intro _<;>first|omega|conv=>whnf)|refine sM ?_ ?_|((first|refine aLQ ?_|refine oLQ ?_|refine ⟨_,rfl,?_⟩|refine ⟨_,⟨rfl,rfl⟩,?_⟩|refine ⟨_,⟨rfl,rfl,leafQ⟩,?_⟩);conv=>whnf)|with_reducible assumption|exact lfQ|fail)
  all_goals (first | contradiction | (exfalso; omega) | (refine ⟨(),⟨⟩,?_⟩;exact fzQ))
theorem sSetRegion (s : Scr) (r w : Nat) (h : OkS s r w) (ps : List Int) (hl : 1 ≤ ps.length ∧ ps.length ≤ 1000) (hps : ∀ p ∈ ps, 0 ≤ p ∧ p ≤ 99999)  : CallA S 262 [.ptr (.loc 0) 20 none 0, .sl (.loc 5) 1 none ps.length] ⟨[⟨.loc 0, true, .raw (scrC (.loc 1) (.loc 2) (.loc 3) (.loc 4) s)⟩, ⟨.loc 5, false, .arr (intE .i64) ps⟩], 6⟩ (Ret1 (.tup []) ⟨[⟨.loc 0, true, .raw (scrC (.loc 1) (.loc 2) (.loc 3) (.loc 4) (regM s (ps.getD 0 0) (pmI ps 1)))⟩], 6⟩) := by
  unfold regM
  by_cases hq : max 1 (ps.getD 0 0) < (if pmI ps 1 = 0 then s.grid.rows else pmI ps 1) ∧ (if pmI ps 1 = 0 then s.grid.rows else pmI ps 1) ≤ s.grid.rows
  · rw [if_pos hq]
    exact sReg1 s r w h ps hl hps _ rfl hq
  · rw [if_neg hq]
    exact sReg0 s r w h ps hl hps _ rfl hq
end Go.Mu
