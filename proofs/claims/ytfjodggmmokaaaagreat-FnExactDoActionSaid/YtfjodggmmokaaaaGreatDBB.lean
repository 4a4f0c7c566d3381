/- Screens, as the reference wipes and edits them. -/
import Derived.Test.YtfjodggmmokaaaaGreatDAK
import Derived.Test.YtfjodggmmokaaaaGreatDAZ
set_option linter.unusedSimpArgs false
set_option linter.unusedVariables false
set_option linter.constructorNameAsVariable false
namespace Go.Mu
open Go Go.Vm Go.RowKit Go.Proofs
attribute [local irreducible] wpA opsA stillA drawA drawS
set_option maxRecDepth 20000
set_option maxHeartbeats 40000000
def wipeM (s : Scr) (way : Int) (f t : Nat) : Scr := if way = 0 then { s with grid := { s.grid with cells := erC s.grid.cells (s.y.toNat * s.grid.width.toNat + s.x.toNat) t s.attr } } else if way = 1 then { s with grid := { s.grid with cells := erC s.grid.cells f ((s.y.toNat * s.grid.width.toNat + s.x.toNat) + 1) s.attr } } else if way = 2 then { s with grid := { s.grid with cells := erC s.grid.cells f t s.attr } } else s
theorem l5Wipe0 (s : Scr) (r w : Nat) (h : OkS s r w) (way : Int) (f t : Nat) (hf : f ≤ s.y.toNat * w + s.x.toNat) (ht : s.y.toNat * w + s.x.toNat < t) (htl : t ≤ r * w) (hc : way = 0) : CallA S 312 [.ptr (.loc 0) 20 none 0, .int .i64 way, .int .i64 f, .int .i64 t] ⟨[⟨.loc 0, true, .raw (scrC (.loc 1) (.loc 2) (.loc 3) (.loc 4) s)⟩, ⟨.loc 1, true, .arr pairE s.grid.cells⟩], 5⟩ (Ret1 (.tup []) ⟨[⟨.loc 0, true, .raw (scrC (.loc 1) (.loc 2) (.loc 3) (.loc 4) ({ s with grid := { s.grid with cells := erC s.grid.cells (s.y.toNat * s.grid.width.toNat + s.x.toNat) t s.attr } } : Scr))⟩, ⟨.loc 1, true, .arr pairE (erC s.grid.cells (s.y.toNat * s.grid.width.toNat + s.x.toNat) t s.attr)⟩], 5⟩) := by
  obtain ⟨h1, h2, h3, h4, h5, h6, h7, h8, h9, h10, h11, _⟩ := h
  obtain ⟨y, hy⟩ := Int.eq_ofNat_of_zero_le (show 0 ≤ s.y by omega)
  obtain ⟨x, hx⟩ := Int.eq_ofNat_of_zero_le (show 0 ≤ s.x by omega)
  have e1 : s.y.toNat = y := by omega
  have e2 : s.x.toNat = x := by omega
  have e3 : s.grid.width.toNat = w := by omega
  have hrw : r * w ≤ 6 * 12 := Nat.mul_le_mul h1.2 h2.2
  have hi : s.y * s.grid.width = ((y * w : Nat) : Int) := by rw [hy, h4]; exact (Int.natCast_mul _ _).symm
  rw [e1, e2] at hf ht
  rw [e1, e2, e3]
  have hm := l3Erase s.grid.cells s.grid.back s.grid.rows w s.attr (by omega) (y * w + x) t (by omega) (by omega)
  have hl := erC_len (c := s.grid.cells) (a := s.attr) (show (y * w + x) ≤ t by omega) (by omega)
  refine .ofC hS _ _ _ Tryz.func312 ?_
  conv => whnf
  repeat' (first|refine Seal.mk ?_|(refine wS ?_;(conv=>whnf);fail_if_success show False)|((first|refine opsA_step ?_|refine drawS_go ?_|refine wD (id:=0) (.quick 0 (.quick 1 (.quick 2 (.quick 4 (.quick 5 (.quick 6 (.quick 7 (.quick 10 (.quick 11 (.quick 12 (.read 3 (.read 8 (.quick 9 (.read 13 (.quick 14 (.quick 15 .done)))))))))))))))) [] (by kernel_rfl) rfl ?_|refine wD (id:=3) (.quick 0 (.quick 1 (.quick 2 (.quick 3 (.quick 4 (.quick 5 (.quick 6 (.quick 7 (.read 8 (.all (.step 9 .done))))))))))) [9] (by kernel_rfl) rfl ?_|apply wL (hm));conv=>whnf)|(intro _;first|omega|conv=>whnf)|(apply And.intro<;>intro _<;>first|omega|conv=>whnf)|((first|refine aLQ ?_|refine oLQ ?_|refine ⟨_,rfl,?_⟩|refine ⟨_,⟨rfl,rfl⟩,?_⟩|refine ⟨_,⟨rfl,rfl,leafQ⟩,?_⟩);conv=>whnf)|with_reducible assumption|exact lfQ|fail)
  all_goals (first | contradiction | (exfalso; omega) | (refine ⟨(),⟨⟩,?_⟩;exact fzQ))
theorem l5Wipe1 (s : Scr) (r w : Nat) (h : OkS s r w) (way : Int) (f t : Nat) (hf : f ≤ s.y.toNat * w + s.x.toNat) (ht : s.y.toNat * w + s.x.toNat < t) (htl : t ≤ r * w) (hc : way = 1) : CallA S 312 [.ptr (.loc 0) 20 none 0, .int .i64 way, .int .i64 f, .int .i64 t] ⟨[⟨.loc 0, true, .raw (scrC (.loc 1) (.loc 2) (.loc 3) (.loc 4) s)⟩, ⟨.loc 1, true, .arr pairE s.grid.cells⟩], 5⟩ (Ret1 (.tup []) ⟨[⟨.loc 0, true, .raw (scrC (.loc 1) (.loc 2) (.loc 3) (.loc 4) ({ s with grid := { s.grid with cells := erC s.grid.cells f ((s.y.toNat * s.grid.width.toNat + s.x.toNat) + 1) s.attr } } : Scr))⟩, ⟨.loc 1, true, .arr pairE (erC s.grid.cells f ((s.y.toNat * s.grid.width.toNat + s.x.toNat) + 1) s.attr)⟩], 5⟩) := by
  obtain ⟨h1, h2, h3, h4, h5, h6, h7, h8, h9, h10, h11, _⟩ := h
  obtain ⟨y, hy⟩ := Int.eq_ofNat_of_zero_le (show 0 ≤ s.y by omega)
  obtain ⟨x, hx⟩ := Int.eq_ofNat_of_zero_le (show 0 ≤ s.x by omega)
  have e1 : s.y.toNat = y := by omega
  have e2 : s.x.toNat = x := by omega
  have e3 : s.grid.width.toNat = w := by omega
  have hrw : r * w ≤ 6 * 12 := Nat.mul_le_mul h1.2 h2.2
  have hi : s.y * s.grid.width = ((y * w : Nat) : Int) := by rw [hy, h4]; exact (Int.natCast_mul _ _).symm
  rw [e1, e2] at hf ht
  rw [e1, e2, e3]
  have hm := l3Erase s.grid.cells s.grid.back s.grid.rows w s.attr (by omega) f ((y * w + x) + 1) (by omega) (by omega)
  have hl := erC_len (c := s.grid.cells) (a := s.attr) (show f ≤ (y * w + x) + 1 by omega) (by omega)
  refine .ofC hS _ _ _ Tryz.func312 ?_
  conv => whnf
  repeat' (first|refine Seal.mk ?_|(refine wS ?_;(conv=>whnf);fail_if_success show False)|((first|refine opsA_step ?_|refine drawS_go ?_|refine wD (id:=0) (.quick 0 (.quick 1 (.quick 2 (.quick 4 (.quick 5 (.quick 6 (.quick 7 (.quick 10 (.quick 11 (.quick 12 (.read 3 (.read 8 (.quick 9 (.read 13 (.quick 14 (.quick 15 .done)))))))))))))))) [] (by kernel_rfl) rfl ?_|refine wD (id:=5) (.quick 0 (.quick 1 (.quick 2 (.quick 3 (.quick 4 (.quick 5 (.quick 6 (.quick 7 (.quick 8 (.read 9 (.all (.step 10 .done)))))))))))) [10] (by kernel_rfl) rfl ?_|apply wL (hm));conv=>whnf)|(intro _;first|omega|conv=>whnf)|(apply And.intro<;>intro _<;>first|omega|conv=>whnf)|((first|refine aLQ ?_|refine oLQ ?_|refine ⟨_,rfl,?_⟩|refine ⟨_,⟨rfl,rfl⟩,?_⟩|refine ⟨_,⟨rfl,rfl,leafQ⟩,?_⟩);conv=>whnf)|with_reducible assumption|exact lfQ|fail)
  all_goals (first | contradiction | (exfalso; omega) | (refine ⟨(),⟨⟩,?_⟩;exact fzQ))
theorem l5Wipe2 (s : Scr) (r w : Nat) (h : OkS s r w) (way : Int) (f t : Nat) (hf : f ≤ s.y.toNat * w + s.x.toNat) (ht : s.y.toNat * w + s.x.toNat < t) (htl : t ≤ r * w) (hc : way = 2) : CallA S 312 [.ptr (.loc 0) 20 none 0, .int .i64 way, .int .i64 f, .int .i64 t] ⟨[⟨.loc 0, true, .raw (scrC (.loc 1) (.loc 2) (.loc 3) (.loc 4) s)⟩, ⟨.loc 1, true, .arr pairE s.grid.cells⟩], 5⟩ (Ret1 (.tup []) ⟨[⟨.loc 0, true, .raw (scrC (.loc 1) (.loc 2) (.loc 3) (.loc 4) ({ s with grid := { s.grid with cells := erC s.grid.cells f t s.attr } } : Scr))⟩, ⟨.loc 1, true, .arr pairE (erC s.grid.cells f t s.attr)⟩], 5⟩) := by
  obtain ⟨h1, h2, h3, h4, h5, h6, h7, h8, h9, h10, h11, _⟩ := h
  obtain ⟨y, hy⟩ := Int.eq_ofNat_of_zero_le (show 0 ≤ s.y by omega)
  obtain ⟨x, hx⟩ := Int.eq_ofNat_of_zero_le (show 0 ≤ s.x by omega)
  have e1 : s.y.toNat = y := by omega
  have e2 : s.x.toNat = x := by omega
  have e3 : s.grid.width.toNat = w := by omega
  have hrw : r * w ≤ 6 * 12 := Nat.mul_le_mul h1.2 h2.2
  have hi : s.y * s.grid.width = ((y * w : Nat) : Int) := by rw [hy, h4]; exact (Int.natCast_mul _ _).symm
  rw [e1, e2] at hf ht
  have hm := l3Erase s.grid.cells s.grid.back s.grid.rows w s.attr (by omega) f t (by omega) (by omega)
  have hl := erC_len (c := s.grid.cells) (a := s.attr) (show f ≤ t by omega) (by omega)
  refine .ofC hS _ _ _ Tryz.func312 ?_
  conv => whnf
  repeat' (first|refine Seal.mk ?_|(refine wS ?_;(conv=>whnf);fail_if_success show False)|((first|refine opsA_step ?_|refine drawS_go ?_|refine wD (id:=0) (.quick 0 (.quick 1 (.quick 2 (.quick 4 (.quick 5 (.quick 6 (.quick 7 (.quick 10 (.quick 11 (.quick 12 (.read 3 (.read 8 (.quick 9 (.read 13 (.quick 14 (.quick 15 .done)))))))))))))))) [] (by kernel_rfl) rfl ?_|refine wD (id:=7) (.quick 0 (.quick 1 (.quick 2 (.quick 3 (.quick 4 (.quick 5 (.quick 6 (.quick 7 (.read 8 (.all (.step 9 .done))))))))))) [9] (by kernel_rfl) rfl ?_|apply wL (hm));conv=>whnf)|(intro _;first|omega|conv=>whnf)|(apply And.intro<;>intro _<;>first|omega|conv=>whnf)|((first|refine aLQ ?_|refine oLQ ?_|refine ⟨_,rfl,?_⟩|refine ⟨_,⟨rfl,rfl⟩,?_⟩|refine ⟨_,⟨rfl,rfl,leafQ⟩,?_⟩);conv=>whnf)|with_reducible assumption|exact lfQ|fail)
  all_goals (first | contradiction | (exfalso; omega) | (refine ⟨(),⟨⟩,?_⟩;exact fzQ))
theorem l5Wipe9 (s : Scr) (r w : Nat) (h : OkS s r w) (way : Int) (f t : Nat) (hf : f ≤ s.y.toNat * w + s.x.toNat) (ht : s.y.toNat * w + s.x.toNat < t) (htl : t ≤ r * w) (hc : ¬ (way = 0) ∧ ¬ (way = 1) ∧ ¬ (way = 2)) : CallA S 312 [.ptr (.loc 0) 20 none 0, .int .i64 way, .int .i64 f, .int .i64 t] ⟨[⟨.loc 0, true, .raw (scrC (.loc 1) (.loc 2) (.loc 3) (.loc 4) s)⟩, ⟨.loc 1, true, .arr pairE s.grid.cells⟩], 5⟩ (Ret1 (.tup []) ⟨[⟨.loc 0, true, .raw (scrC (.loc 1) (.loc 2) (.loc 3) (.loc 4) (s : Scr))⟩, ⟨.loc 1, true, .arr pairE (s.grid.cells)⟩], 5⟩) := by
  obtain ⟨h1, h2, h3, h4, h5, h6, h7, h8, h9, h10, h11, _⟩ := h
  obtain ⟨y, hy⟩ := Int.eq_ofNat_of_zero_le (show 0 ≤ s.y by omega)
  obtain ⟨x, hx⟩ := Int.eq_ofNat_of_zero_le (show 0 ≤ s.x by omega)
  have e1 : s.y.toNat = y := by omega
  have e2 : s.x.toNat = x := by omega
  have e3 : s.grid.width.toNat = w := by omega
  have hrw : r * w ≤ 6 * 12 := Nat.mul_le_mul h1.2 h2.2
  have hi : s.y * s.grid.width = ((y * w : Nat) : Int) := by rw [hy, h4]; exact (Int.natCast_mul _ _).symm
  rw [e1, e2] at hf ht
  refine .ofC hS _ _ _ Tryz.func312 ?_
  conv => whnf
  repeat' (first|refine Seal.mk ?_|(refine wS ?_;(conv=>whnf);fail_if_success show False)|((first|refine opsA_step ?_|refine drawS_go ?_|refine wD (id:=0) (.quick 0 (.quick 1 (.quick 2 (.quick 4 (.quick 5 (.quick 6 (.quick 7 (.quick 10 (.quick 11 (.quick 12 (.read 3 (.read 8 (.quick 9 (.read 13 (.quick 14 (.quick 15 .done)))))))))))))))) [] (by kernel_rfl) rfl ?_);conv=>whnf)|(intro _;first|omega|conv=>whnf)|(apply And.intro<;>intro _<;>first|omega|conv=>whnf)|((first|refine aLQ ?_|refine oLQ ?_|refine ⟨_,rfl,?_⟩|refine ⟨_,⟨rfl,rfl⟩,?_⟩|refine ⟨_,⟨rfl,rfl,leafQ⟩,?_⟩);conv=>whnf)|with_reducible assumption|exact lfQ|fail)
  all_goals (first | contradiction | (exfalso; omega) | (refine ⟨(),⟨⟩,?_⟩;exact fzQ))
theorem l5Wipe (s : Scr) (r w : Nat) (h : OkS s r w) (way : Int) (f t : Nat) (hf : f ≤ s.y.toNat * w + s.x.toNat) (ht : s.y.toNat * w + s.x.toNat < t) (htl : t ≤ r * w)  : CallA S 312 [.ptr (.loc 0) 20 none 0, .int .i64 way, .int .i64 f, .int .i64 t] ⟨[⟨.loc 0, true, .raw (scrC (.loc 1) (.loc 2) (.loc 3) (.loc 4) s)⟩, ⟨.loc 1, true, .arr pairE s.grid.cells⟩], 5⟩ (Ret1 (.tup []) ⟨[⟨.loc 0, true, .raw (scrC (.loc 1) (.loc 2) (.loc 3) (.loc 4) (wipeM s way f t))⟩, ⟨.loc 1, true, .arr pairE (wipeM s way f t).grid.cells⟩], 5⟩) := by
  by_cases c0 : way = 0
  · have e : wipeM s way f t = { s with grid := { s.grid with cells := erC s.grid.cells (s.y.toNat * s.grid.width.toNat + s.x.toNat) t s.attr } } := by unfold wipeM; rw [if_pos c0]
    rw [e]; exact l5Wipe0 s r w h way f t hf ht htl c0
  by_cases c1 : way = 1
  · have e : wipeM s way f t = { s with grid := { s.grid with cells := erC s.grid.cells f ((s.y.toNat * s.grid.width.toNat + s.x.toNat) + 1) s.attr } } := by unfold wipeM; rw [if_neg c0, if_pos c1]
    rw [e]; exact l5Wipe1 s r w h way f t hf ht htl c1
  by_cases c2 : way = 2
  · have e : wipeM s way f t = { s with grid := { s.grid with cells := erC s.grid.cells f t s.attr } } := by unfold wipeM; rw [if_neg c0, if_neg c1, if_pos c2]
    rw [e]; exact l5Wipe2 s r w h way f t hf ht htl c2
  have e : wipeM s way f t = s := by unfold wipeM; rw [if_neg c0, if_neg c1, if_neg c2]
  rw [e]; exact l5Wipe9 s r w h way f t hf ht htl ⟨c0, c1, c2⟩
end Go.Mu
